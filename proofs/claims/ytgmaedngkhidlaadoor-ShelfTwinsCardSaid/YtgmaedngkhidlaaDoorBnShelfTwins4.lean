/- Texts that the row of LawShelfTwins rests on, part 4 of 12: contracts of the functions, their walks, plain laws. -/
import Derived.Test.YtgmaedngkhidlaaDoorBnShelfTwins3
import Derived.Test.YtgmaedngkhidlaaDoorProg
import Derived.DeepKeys4
import Derived.Lib.BytesEntry
import Derived.Laws.CopyRow
import Derived.Lib.Bytes
import Derived.Lib.Bytealg
set_option linter.unusedSimpArgs false
-- SfK
namespace Go.Proofs.YtgmaedngkhidlaaDoor.Sf
open Go Go.RowKit Go.ChangeMaps Go.MapKept Go.Proofs.YtgmaedngkhidlaaDoorW.PrintWords Go.Proofs.YtgmaedngkhidlaaDoorW.PrintLast Go.Proofs.YtgmaedngkhidlaaDoorW.PrintMore
open Go.Maps (Keyed)
set_option linter.unusedVariables false
theorem mapM_some {α β : Type} {f : α → Option β} : ∀ {l : List α}, (∀ a ∈ l, ∃ b, f a = some b) → ∃ bs, l.mapM f = some bs
  | [], _ => ⟨[], rfl⟩
  | a :: l, h => by
    obtain ⟨b, hb⟩ := h a (List.mem_cons_self ..)
    obtain ⟨bs, hbs⟩ := mapM_some fun x hx => h x (List.mem_cons_of_mem _ hx)
    exact ⟨b :: bs, by simp [List.mapM_cons, hb, hbs]⟩
theorem keyOf_arr {P : Program} {k e : TypeId} {q : IntKind} {n : Nat} (hk : P.underlying k = some (.array n e)) (he : P.underlying e = some (.int q)) (hce : P.cellsOf e = 1) (hck : P.cellsOf k = n) (hkt : P.keyType k = true) (hsz : ∃ m, P.types.size = m + 1)
    {xs : List Int} (hl : xs.length = n) (hw : ∀ x ∈ xs, (Lit.int q x).wf = true) : ∃ l, keyOf P k (.agg (xs.map (Value.int q)).toArray) = some l := by
  obtain ⟨m, hm⟩ := hsz
  have hf : (Value.agg (xs.map (Value.int q)).toArray).formed P k = true := by simp [Value.formed, hk, hck, hl]
  unfold keyOf
  rw [hk]
  simp only [hkt, hf, Bool.and_self, if_true, Value.cells]
  rw [hm]
  unfold Program.keyLits
  rw [hk]
  simp only [List.length_map, hl, hck, if_true, hce]
  obtain ⟨bs, hbs⟩ := mapM_some (f := fun i => P.keyLits (m + 1) e (((xs.map (Value.int q)).drop (i * 1)).take 1)) (l := List.range n) (fun i hi => by
    have hi' : i < xs.length := by rw [hl]; exact List.mem_range.1 hi
    have e1 : ((xs.map (Value.int q)).drop (i * 1)).take 1 = [.int q xs[i]] := by
      rw [Nat.mul_one, List.drop_eq_getElem_cons (by simpa using hi')]
      simp
    rw [e1]
    unfold Program.keyLits
    rw [he]
    exact ⟨[.int q xs[i]], by simp [hw _ (List.getElem_mem hi')]⟩)
  rw [hbs]
  exact ⟨_, rfl⟩
theorem laidOutK : laidOutB Tryd.prog = true := by kernel_rfl
theorem keyedK : Keyed Tryd.prog 28 := Keyed.of_law (deep_law_laid laidOutK (m := 9) (by decide) (of_decide_eq_true (by kernel_rfl)) (by kernel_rfl) (by kernel_rfl))
theorem keyedI : Keyed Tryd.prog 3 := Maps.int_keyed Tryd.underlying3
theorem mapC : Tryd.prog.underlying 81 = some (.map 28 45) := by kernel_rfl
theorem mapD : Tryd.prog.underlying 82 = some (.map 3 58) := by kernel_rfl
theorem zeroC (w : World) : (zeroValue 45).run Tryd.prog w = .ok (.agg #[.int .u8 0, .int .u8 0, .int .u8 0, .int .u8 0, .int .u8 0, .int .u8 0, .int .u8 0, .int .u8 0, .int .i64 0, .string ⟨#[]⟩]) w := by kernel_rfl
theorem zeroD (w : World) : (zeroValue 58).run Tryd.prog w = .ok (.agg #[.int .i64 0, .int .i64 0, .int .i64 0]) w := by kernel_rfl
theorem aggK : AggT Tryd.prog 28 8 := ⟨⟨_, Tryd.underlying28, rfl⟩, by kernel_rfl⟩
theorem aggC : AggT Tryd.prog 45 10 := ⟨⟨_, Tryd.underlying45, rfl⟩, by kernel_rfl⟩
theorem aggD : AggT Tryd.prog 58 3 := ⟨⟨_, Tryd.underlying58, rfl⟩, by kernel_rfl⟩
theorem aggR : AggT Tryd.prog 32 14 := ⟨⟨_, Tryd.underlying32, rfl⟩, by kernel_rfl⟩
theorem aggQ : AggT Tryd.prog 30 2 := ⟨⟨_, Tryd.underlying30, rfl⟩, by kernel_rfl⟩
theorem aggS : AggT Tryd.prog 84 2 := ⟨⟨_, Tryd.underlying84, rfl⟩, by kernel_rfl⟩
def encK (k : List Int) : List Value := k.map (Value.int .u8)
def encC (c : Cel) : List Value := encK c.key ++ [.int .i64 c.ver, .string c.val]
def encD (d : Don) : List Value := [.int .i64 d.client, .int .i64 d.seq, .int .i64 d.ver]
def encR (x : Rc) : List Value := [.int .i64 x.idx, .int .i64 x.epoch] ++ encK x.key ++ [.int .i64 x.ver, .string x.val, .int .i64 x.client, .int .i64 x.seq]
abbrev vK (k : List Int) : Value := .agg (encK k).toArray
abbrev vC (c : Cel) : Value := .agg (encC c).toArray
abbrev vD (d : Don) : Value := .agg (encD d).toArray
abbrev vR (x : Rc) : Value := .agg (encR x).toArray
structure KeyL (k : List Int) : Prop where
  len : k.length = 8
  byte : ∀ x ∈ k, 0 ≤ x ∧ x < 256
theorem keyL_zero : KeyL zK := ⟨rfl, by decide⟩
theorem encK_len {k : List Int} (h : k.length = 8) : (encK k).length = 8 := by unfold encK; rw [List.length_map, h]
theorem encC_len {c : Cel} (h : c.key.length = 8) : (encC c).length = 10 := by unfold encC; rw [List.length_append, encK_len h]; rfl
theorem encR_len {x : Rc} (h : x.key.length = 8) : (encR x).length = 14 := by unfold encR; rw [List.length_append, List.length_append, encK_len h]; rfl
theorem encK_one (k : List Int) : ∀ v ∈ encK k, v.oneCell' = true := by
  intro v hv
  obtain ⟨x, _, rfl⟩ := List.mem_map.1 hv
  rfl
theorem encC_one (c : Cel) : ∀ v ∈ encC c, v.oneCell' = true := by
  intro v hv
  rcases List.mem_append.1 hv with hv | hv
  · exact encK_one _ v hv
  · simp only [List.mem_cons, List.mem_nil_iff, or_false] at hv
    rcases hv with rfl | rfl <;> rfl
theorem encD_one (d : Don) : ∀ v ∈ encD d, v.oneCell' = true := by
  intro v hv
  simp only [encD, List.mem_cons, List.mem_nil_iff, or_false] at hv
  rcases hv with rfl | rfl | rfl <;> rfl
theorem encR_one (x : Rc) : ∀ v ∈ encR x, v.oneCell' = true := by
  intro v hv
  rcases List.mem_append.1 hv with hv | hv
  · rcases List.mem_append.1 hv with hv | hv
    · simp only [List.mem_cons, List.mem_nil_iff, or_false] at hv
      rcases hv with rfl | rfl <;> rfl
    · exact encK_one _ v hv
  · simp only [List.mem_cons, List.mem_nil_iff, or_false] at hv
    rcases hv with rfl | rfl | rfl | rfl <;> rfl
theorem encK_inj {a b : List Int} (h : encK a = encK b) : a = b := by
  unfold encK at h
  exact (List.map_inj_right (fun x y e => by injection e)).1 h
theorem vK_inj {a b : List Int} (h : vK a = vK b) : a = b := by
  injection h with h
  exact encK_inj (List.toArray_inj h)
theorem byte_wf {x : Int} (h : 0 ≤ x ∧ x < 256) : (Lit.int .u8 x).wf = true := by
  simp only [Lit.wf, decide_eq_true_eq, IntKind.min, IntKind.max]
  simp [IntKind.signed, IntKind.bits]
  omega
theorem key_some {k : List Int} (h : KeyL k) : ∃ q, keyOf Tryd.prog 28 (vK k) = some q :=
  keyOf_arr (P := Tryd.prog) (e := 5) (q := .u8) (n := 8) (by kernel_rfl) Tryd.underlying5 (by kernel_rfl) (by kernel_rfl) (by kernel_rfl) ⟨Tryd.prog.types.size - 1, by kernel_rfl⟩ h.len (fun x hx => byte_wf (h.byte x hx))
end Go.Proofs.YtgmaedngkhidlaaDoor.Sf
-- SfS
namespace Go.Proofs.YtgmaedngkhidlaaDoor.Sf
open Go Go.RowKit Go.ChangeMaps Go.MapKept Go.Proofs.YtgmaedngkhidlaaDoorW.PrintWords Go.Proofs.YtgmaedngkhidlaaDoorW.PrintLast Go.Proofs.YtgmaedngkhidlaaDoorW.PrintMore
open Go.Maps (Keyed)
set_option linter.unusedVariables false
def flat {α : Type} (enc : α → List Value) (n : Nat) (h1 : ∀ x, ∀ v ∈ enc x, v.oneCell' = true) : Kd α where
  sz := n
  E := []
  K := fun _ x cs => cs = enc x ∧ cs.length = n
  M := fun _ _ _ x cs => cs = enc x ∧ cs.length = n
  K_len := fun h => h.2
  K_one := fun h u hu => h1 _ u (h.1 ▸ hu)
  K_below := fun _ h => h
  K_of_M := fun h => h
  M_mono := fun _ h => h
  M_bound := fun h => h
  M_move := fun _ h => h
  M_lower := fun _ h => h
theorem flat_heap {α : Type} (enc : α → List Value) (n : Nat) (h1 : ∀ x, ∀ v ∈ enc x, v.oneCell' = true) : Kd.Heap (flat enc n h1) := ⟨fun _ h => h⟩
abbrev kR : Kd Rc := flat encR 14 encR_one
abbrev kC : Kd Cel := flat encC 10 encC_one
abbrev kD : Kd Don := flat encD 3 encD_one
theorem int_of {k : IntKind} {a b : Int} (h : Value.int k a = .int k b) : a = b := (Value.int.inj h).2
def kvC (c : Cel) : Value × Value := (vK c.key, vC c)
def kvD (d : Don) : Value × Value := (.int .i64 d.client, vD d)
def IsCs (w : World) (b : Nat) (m : List Cel) : Prop := IsMap Tryd.prog 28 w b (m.map kvC)
def IsDs (w : World) (b : Nat) (m : List Don) : Prop := IsMap Tryd.prog 3 w b (m.map kvD)
theorem permC_one {m : List Cel} (hu : UpC m) {c : Cel} (hc : c ∈ m) : m.Perm (c :: m.filter fun x => decide (x.key ≠ c.key)) := by
  induction m with
  | nil => cases hc
  | cons d r ih =>
    obtain ⟨h1, h2⟩ := List.pairwise_cons.1 hu
    rcases List.mem_cons.1 hc with rfl | hc
    · have hf : r.filter (fun x => decide (x.key ≠ c.key)) = r := List.filter_eq_self.2 fun x hx => by
        have := cmpL_ne (h1 x hx)
        simpa using fun e : x.key = c.key => this e.symm
      rw [List.filter_cons_of_neg (by simp), hf]
    · have hd := cmpL_ne (h1 c hc)
      rw [List.filter_cons_of_pos (by simpa using hd)]
      exact ((ih h2 hc).cons d).trans (List.Perm.swap ..)
theorem permD_one {m : List Don} (hu : UpD m) {c : Don} (hc : c ∈ m) : m.Perm (c :: m.filter fun x => decide (x.client ≠ c.client)) := by
  induction m with
  | nil => cases hc
  | cons d r ih =>
    obtain ⟨h1, h2⟩ := List.pairwise_cons.1 hu
    rcases List.mem_cons.1 hc with rfl | hc
    · have hf : r.filter (fun x => decide (x.client ≠ c.client)) = r := List.filter_eq_self.2 fun x hx => by
        have := h1 x hx
        simp; omega
      rw [List.filter_cons_of_neg (by simp), hf]
    · have hd := h1 c hc
      rw [List.filter_cons_of_pos (by simp; omega)]
      exact ((ih h2 hc).cons d).trans (List.Perm.swap ..)
theorem IsCs.look {w : World} {b : Nat} {m : List Cel} (h : IsCs w b m) (hu : UpC m) {k : List Int} (hk : KeyL k) (ok : Bool) :
    (Instr.lookup 81 (.map (some b)) (vK k) ok).run Tryd.prog w = .ok (if ok then .tuple #[vC (lookC m k), .bool (getC m k).isSome] else vC (lookC m k)) w := by
  obtain ⟨q, hq⟩ := key_some hk
  rcases IsMap.look h keyedK mapC (zeroC w) hq ok with ⟨v, hv, hrun⟩ | ⟨hne, hrun⟩
  · obtain ⟨c, hc, e⟩ := List.mem_map.1 hv
    have e2 : vC c = v := congrArg Prod.snd e
    have e3 : c.key = k := vK_inj (congrArg Prod.fst e)
    have hg : getC m k = some c := e3 ▸ getC_mem hu hc
    refine hrun.trans ?_
    unfold lookC
    rw [hg, ← e2]
    rfl
  · have hg : getC m k = none := List.find?_eq_none.2 fun c hc => by
      have := hne _ (List.mem_map_of_mem (f := kvC) hc)
      simpa using fun e => this (by rw [← e]; rfl)
    refine hrun.trans ?_
    unfold lookC
    rw [hg]
    rfl
theorem IsDs.look {w : World} {b : Nat} {m : List Don} (h : IsDs w b m) (hu : UpD m) {k : Int} (hk : (Lit.int .i64 k).wf = true) (ok : Bool) :
    (Instr.lookup 82 (.map (some b)) (.int .i64 k) ok).run Tryd.prog w = .ok (if ok then .tuple #[vD (lookD m k), .bool (getD m k).isSome] else vD (lookD m k)) w := by
  rcases IsMap.look h keyedI mapD (zeroD w) (Maps.keyOf_int_mk Tryd.underlying3 hk) ok with ⟨v, hv, hrun⟩ | ⟨hne, hrun⟩
  · obtain ⟨c, hc, e⟩ := List.mem_map.1 hv
    have e2 : vD c = v := congrArg Prod.snd e
    have e1 : Value.int .i64 c.client = .int .i64 k := congrArg Prod.fst e
    have e3 := int_of e1
    have hg : getD m k = some c := e3 ▸ getD_mem hu hc
    refine hrun.trans ?_
    unfold lookD
    rw [hg, ← e2]
    rfl
  · have hg : getD m k = none := List.find?_eq_none.2 fun c hc => by
      have := hne _ (List.mem_map_of_mem (f := kvD) hc)
      simpa using fun e => this (by rw [← e]; rfl)
    refine hrun.trans ?_
    unfold lookD
    rw [hg]
    rfl
theorem IsCs.put {w : World} {b : Nat} {m : List Cel} {x : Cel} (hu : UpC m)
    (h : (∃ u l', (m.map kvC).Perm ((vK x.key, u) :: l') ∧ IsMap Tryd.prog 28 w b ((vK x.key, vC x) :: l')) ∨ ((∀ p ∈ m.map kvC, p.1 ≠ vK x.key) ∧ IsMap Tryd.prog 28 w b ((vK x.key, vC x) :: m.map kvC))) : IsCs w b (insC x m) := by
  have hp := (insC_perm (x := x) hu).map kvC
  rw [List.map_cons] at hp
  unfold IsCs
  rcases h with ⟨u, l', h1, h2⟩ | ⟨h1, h2⟩
  · obtain ⟨c, hc, e⟩ := List.mem_map.1 (h1.mem_iff.2 (List.mem_cons_self ..))
    have e3 : c.key = x.key := vK_inj (congrArg Prod.fst e)
    have h3 := (permC_one hu hc).map kvC
    rw [List.map_cons, e, e3] at h3
    have h4 := (h1.symm.trans h3).cons_inv
    exact IsMap.perm h2 ((h4.cons _).trans hp.symm)
  · have h3 : m.filter (fun c => decide (c.key ≠ x.key)) = m := List.filter_eq_self.2 fun c hc => decide_eq_true fun e => h1 _ (List.mem_map_of_mem (f := kvC) hc) (by show vK c.key = _; rw [e])
    rw [h3] at hp
    exact IsMap.perm h2 hp.symm
theorem IsDs.put {w : World} {b : Nat} {m : List Don} {x : Don} (hu : UpD m)
    (h : (∃ u l', (m.map kvD).Perm ((.int .i64 x.client, u) :: l') ∧ IsMap Tryd.prog 3 w b ((.int .i64 x.client, vD x) :: l')) ∨ ((∀ p ∈ m.map kvD, p.1 ≠ .int .i64 x.client) ∧ IsMap Tryd.prog 3 w b ((.int .i64 x.client, vD x) :: m.map kvD))) : IsDs w b (insD x m) := by
  have hp := (insD_perm (x := x) hu).map kvD
  rw [List.map_cons] at hp
  unfold IsDs
  rcases h with ⟨u, l', h1, h2⟩ | ⟨h1, h2⟩
  · obtain ⟨c, hc, e⟩ := List.mem_map.1 (h1.mem_iff.2 (List.mem_cons_self ..))
    have e1 : Value.int .i64 c.client = .int .i64 x.client := congrArg Prod.fst e
    have e3 := int_of e1
    have h3 := (permD_one hu hc).map kvD
    rw [List.map_cons, e, e3] at h3
    have h4 := (h1.symm.trans h3).cons_inv
    exact IsMap.perm h2 ((h4.cons _).trans hp.symm)
  · have h3 : m.filter (fun c => decide (c.client ≠ x.client)) = m := List.filter_eq_self.2 fun c hc => decide_eq_true fun e => h1 _ (List.mem_map_of_mem (f := kvD) hc) (by show Value.int .i64 c.client = _; rw [e])
    rw [h3] at hp
    exact IsMap.perm h2 hp.symm
structure Ws (P : Nat → Prop) (w w' : World) : Prop where
  os : w'.os = w.os
  tape : w'.tape = w.tape
  output : w'.output = w.output
  size : w.heap.size ≤ w'.heap.size
  block : ∀ i, i < w.heap.size → ¬ P i → w'.heap[i]? = w.heap[i]?
section
variable {P P' : Nat → Prop} {w0 w w1 w2 : World}
theorem Ws.refl (P : Nat → Prop) (w : World) : Ws P w w := ⟨rfl, rfl, rfl, Nat.le_refl _, fun _ _ _ => rfl⟩
theorem Ws.trans (h : Ws P w w1) (k : Ws P w1 w2) : Ws P w w2 :=
  ⟨k.os.trans h.os, k.tape.trans h.tape, k.output.trans h.output, Nat.le_trans h.size k.size, fun i hi hne => (k.block i (Nat.lt_of_lt_of_le hi h.size) hne).trans (h.block i hi hne)⟩
theorem Ws.mono (h : Ws P w w1) (hp : ∀ b, b < w.heap.size → P b → P' b) : Ws P' w w1 := ⟨h.os, h.tape, h.output, h.size, fun i hi hn => h.block i hi (fun hP => hn (hp i hi hP))⟩
theorem Ws.then_ (h : Ws P w w1) (k : Ws P' w1 w2) (hp : ∀ b, P' b → P b ∨ w.heap.size ≤ b) : Ws P w w2 :=
  ⟨k.os.trans h.os, k.tape.trans h.tape, k.output.trans h.output, Nat.le_trans h.size k.size, fun i hi hne => (k.block i (Nat.lt_of_lt_of_le hi h.size) (fun e => (hp i e).elim hne (fun e => by omega))).trans (h.block i hi hne)⟩
theorem Ws.of_below (h : Below w.heap.size w w1) : Ws P w w1 := ⟨h.os, h.tape, h.output, h.size, fun i hi _ => h.block i hi⟩
theorem Ws.of_grown {b : Nat} (h : w.grownBy w1 (some b)) (hb : P b) : Ws P w w1 := ⟨h.os, h.tape, h.output, h.size, fun i hi hn => h.block i hi (fun e => hn (by injection e with e; exact e ▸ hb))⟩
theorem Ws.of_set (w : World) {b : Nat} (hb : P b) (j : Nat) (u : Value) : Ws P w (w.setCell ⟨b, j, none⟩ u) := by
  have hB : Below 0 w (w.setCell ⟨b, j, none⟩ u) := (Below.refl 0 w).setCell (p := ⟨b, j, none⟩) (Nat.zero_le _) u
  exact ⟨hB.os, hB.tape, hB.output, by simp, fun i _ hn => Below.heap_setCell w ⟨b, j, none⟩ u i (fun e => hn (e ▸ hb))⟩
theorem Ws.below (h : Ws P w w1) (hb : Below w0.heap.size w0 w) (hP : ∀ b, P b → w0.heap.size ≤ b) : Below w0.heap.size w0 w1 :=
  ⟨h.os.trans hb.os, h.tape.trans hb.tape, h.output.trans hb.output, Nat.le_trans hb.size h.size, fun i hi => (h.block i (Nat.lt_of_lt_of_le hi hb.size) (fun hp => by have := hP i hp; omega)).trans (hb.block i hi)⟩
end
def RV (G : Nat → Prop) (w : World) (v : Value) (R : List Rc) : Prop := Kd.V kR 0 w 0 (fun b => ¬ G b) v R
theorem RV.ws {G P : Nat → Prop} {w w1 : World} {v : Value} {R : List Rc} (h : RV G w v R) (hw : Ws P w w1) (hg : ∀ b, P b → G b) : RV G w1 v R := Kd.V_step h (fun b hb hlt => hw.block b hlt (fun e => hb (hg b e)))
theorem RV.below {G : Nat → Prop} {w w1 : World} {v : Value} {R : List Rc} (h : RV G w v R) (hb : Below w.heap.size w w1) : RV G w1 v R := Kd.V_below h hb
theorem RV.grow {G G' : Nat → Prop} {w : World} {v : Value} {R : List Rc} (h : RV G w v R) (hg : ∀ b, b < w.heap.size → G' b → G b) : RV G' w v R := Kd.V_mono (Kd.V_bound h) (fun b hb hG => hb.1 (hg b hb.2 hG))
abbrev shCells (b1 b2 b3 b4 : Nat) (low era : Int) (rv : Value) (C : Int) : Array Value := #[.map (some b1), .map (some b2), .map (some b3), .map (some b4), .int .i64 low, .int .i64 era, rv, .int .i64 C, .bool true]
structure St2 (w : World) (b1 b2 : Nat) (t : Tab) : Prop where
  c : IsCs w b1 t.cells
  d : IsDs w b2 t.done
structure IsS (F G : Nat → Prop) (w : World) (p : Nat) (s : Sh) : Prop where
  lt : ∀ k, F k → k < w.heap.size
  fg : ∀ k, F k → G k
  fp : F p
  ex : ∃ b1 b2 b3 b4 rv, w.heap[p]? = some (.cells (shCells b1 b2 b3 b4 s.T.idx s.T.epoch rv s.C) 86 (0, 0)) ∧ (F b1 ∧ F b2 ∧ F b3 ∧ F b4) ∧ [b1, b2, b3, b4].Nodup ∧ St2 w b1 b2 s.T ∧ St2 w b3 b4 (lastT s) ∧ RV G w rv s.R
section
variable {F G P : Nat → Prop} {w w1 : World} {p b1 b2 : Nat} {t : Tab} {s : Sh}
theorem St2.same (h : St2 w b1 b2 t) (h1 : w1.heap[b1]? = w.heap[b1]?) (h2 : w1.heap[b2]? = w.heap[b2]?) : St2 w1 b1 b2 t := ⟨IsMap.same h.c h1, IsMap.same h.d h2⟩
theorem St2.lt (h : St2 w b1 b2 t) : b1 < w.heap.size ∧ b2 < w.heap.size := ⟨IsMap.lt h.c, IsMap.lt h.d⟩
theorem St2.ws (h : St2 w b1 b2 t) (hw : Ws P w w1) (h1 : ¬ P b1) (h2 : ¬ P b2) : St2 w1 b1 b2 t := h.same (hw.block b1 h.lt.1 h1) (hw.block b2 h.lt.2 h2)
theorem St2.below (h : St2 w b1 b2 t) (hb : Below w.heap.size w w1) : St2 w1 b1 b2 t := h.same (hb.block b1 h.lt.1) (hb.block b2 h.lt.2)
theorem IsS.other (h : IsS F G w p s) (hw : Ws P w w1) (hne : ∀ k, F k → ¬ P k) (hP : ∀ k, P k → G k) : IsS F G w1 p s := by
  obtain ⟨b1, b2, b3, b4, rv, hp, hf, hn, h1, h2, hr⟩ := h.ex
  exact ⟨fun k hk => Nat.lt_of_lt_of_le (h.lt k hk) hw.size, h.fg, h.fp, b1, b2, b3, b4, rv, (hw.block p (h.lt p h.fp) (hne p h.fp)).trans hp, hf, hn, h1.ws hw (hne b1 hf.1) (hne b2 hf.2.1), h2.ws hw (hne b3 hf.2.2.1) (hne b4 hf.2.2.2), hr.ws hw hP⟩
theorem IsS.below (h : IsS F G w p s) (hb : Below w.heap.size w w1) : IsS F G w1 p s := h.other (P := fun _ => False) (Ws.of_below hb) (fun _ _ h => h) (fun _ h => h.elim)
theorem IsS.grow {G' : Nat → Prop} (h : IsS F G w p s) (h1 : ∀ k, F k → G' k) (h2 : ∀ b, b < w.heap.size → G' b → G b) : IsS F G' w p s := by
  obtain ⟨b1, b2, b3, b4, rv, hp, hf, hn, h3, h4, hr⟩ := h.ex
  exact ⟨h.lt, h1, h.fp, b1, b2, b3, b4, rv, hp, hf, hn, h3, h4, hr.grow h2⟩
end
end Go.Proofs.YtgmaedngkhidlaaDoor.Sf
-- SfT
namespace Go.Proofs.YtgmaedngkhidlaaDoor.Sf
open Go Go.RowKit Go.ChangeMaps Go.MapKept Go.Proofs.YtgmaedngkhidlaaDoorW.PrintWords Go.Proofs.YtgmaedngkhidlaaDoorW.PrintLast Go.Proofs.YtgmaedngkhidlaaDoorW.PrintMore
open Go.Maps (Keyed)
set_option linter.unusedVariables false
set_option linter.unusedSimpArgs false
section
variable {F G : Nat → Prop} {w : World} {p : Nat} {s : Sh}
theorem RV.slice {G : Nat → Prop} {w : World} {v : Value} {R : List Rc} (h : RV G w v R) : ∃ A c, v = .slice A R.length c ∧ R.length ≤ c ∧ kR.C w A R.length R := by
  obtain ⟨A, c, rfl⟩ := Kd.V_slice h
  exact ⟨A, c, rfl, (Kd.V_reads' h).2.1, (Kd.V_reads' h).2.2⟩
theorem dead_calls (h : IsS F G w p s) : Calls Tryd.prog 51 #[.pointer (some ⟨p, 0, none⟩)] w fun e w' => e = .returned (.bool false) ∧ w = w' := by
  obtain ⟨b1, b2, b3, b4, rv, hp, _⟩ := h.ex
  have h8 := (blk_cell hp 8).trans (show _ = some (Value.bool true) from rfl)
  clear hp h
  go_enter Tryd.func51, Tryd.ntmps51
  go_wp2
  go_ret
  exact ⟨rfl, rfl⟩
theorem end_calls (h : IsS F G w p s) (hw : Wf s) : Calls Tryd.prog 52 #[.pointer (some ⟨p, 0, none⟩)] w fun e w' => e = .returned (.int .i64 (endI s)) ∧ Drawn0 w w' := by
  obtain ⟨b1, b2, b3, b4, rv, hp, hf, hn, h1, h2, hr⟩ := h.ex
  obtain ⟨A, c, rfl, _, _⟩ := hr.slice
  have h2' := (blk_cell hp 2).trans (show _ = some (Value.map (some b3)) from rfl)
  have h4 := (blk_cell hp 4).trans (show _ = some (Value.int .i64 s.T.idx) from rfl)
  have h6 := (blk_cell hp 6).trans (show _ = some (Value.slice A s.R.length c) from rfl)
  have hl := hw.len
  have hi := hw.tab.idx
  have hs : IntKind.i64.wrap (s.T.idx + (s.R.length : Int)) = endI s := IntWalk.i64_in _ (by omega)
  clear hp h hr h1 h2 hf hn hl hi
  go_enter Tryd.func52, Tryd.ntmps52
  go_wp2
  go_quiet (fail)
  go_wp2
  go_ret
  exact ⟨rfl, ⟨_, rfl⟩⟩
theorem R_at {A : Option Addr} {n : Nat} {R : List Rc} (h : kR.C w A n R) (i : Nat) (hi : i < R.length) : ∃ ad, A = some ad ∧ (R[i]).key.length = 8 ∧ ∀ j v, (encR R[i])[j]? = some v → w.cell? ((ad.add (i * 14)).add j) = some v := by
  obtain ⟨hn, _, hc0⟩ := h
  obtain ⟨ad, rfl, hc1⟩ := hc0 (by omega)
  obtain ⟨cs, hl, ⟨he, hl2⟩, hcc⟩ := hc1 i R[i] (List.getElem?_eq_getElem hi)
  refine ⟨ad, rfl, ?_, fun j v hj => ?_⟩
  · have hq : (encR R[i]).length = 14 := by rw [← he]; exact hl2
    unfold encR encK at hq
    simp at hq
    omega
  · rw [add_add]
    exact hcc j v (by rw [he]; exact hj)
theorem add_pos (ad : Addr) (m j : Nat) (hj : 0 < j) : (ad.add m).add j = ⟨(ad.add m).block, (ad.add m).off + j, none⟩ := by rw [add_add]; exact add_field ad m j hj
theorem lastT_nil (h : s.R = []) : lastT s = s.T := by unfold lastT; rw [h]; rfl
theorem lastT_last {m : Nat} (h : m + 1 = s.R.length) : (lastT s).epoch = (s.R[m]).epoch := by
  have e : s.R = s.R.take m ++ [s.R[m]] := by rw [← List.take_succ_eq_append_getElem (by omega), h, List.take_length]
  have e2 : lastT s = putT (upT s.T (s.R.take m)) s.R[m] := by
    rw [← upT_snoc, ← e]; rfl
  rw [e2]; rfl
theorem era_calls (h : IsS F G w p s) (hw : Wf s) : Calls Tryd.prog 69 #[.pointer (some ⟨p, 0, none⟩)] w fun e w' => e = .returned (.int .i64 (lastT s).epoch) ∧ Drawn0 w w' := by
  obtain ⟨b1, b2, b3, b4, rv, hp, hf, hn, h1, h2, hr⟩ := h.ex
  obtain ⟨A, c, rfl, _, hC⟩ := hr.slice
  have h5 := (blk_cell hp 5).trans (show _ = some (Value.int .i64 s.T.epoch) from rfl)
  have h6 := (blk_cell hp 6).trans (show _ = some (Value.slice A s.R.length c) from rfl)
  have hl := hw.len
  by_cases h0 : s.R = []
  · have he := congrArg Tab.epoch (lastT_nil h0)
    rw [he]
    rw [h0] at h6
    clear hp h hr h1 h2 hf hn hl hC he h0
    go_enter Tryd.func69, Tryd.ntmps69
    go_wp2
    go_ret
    exact ⟨rfl, ⟨0, rfl⟩⟩
  · obtain ⟨m, hm⟩ : ∃ m, m + 1 = s.R.length := ⟨s.R.length - 1, by have := List.length_pos_iff.2 h0; omega⟩
    obtain ⟨ad, rfl, _, hcc⟩ := R_at hC m (by omega)
    have h7 := hcc 1 (.int .i64 (s.R[m]).epoch) rfl
    rw [add_pos _ _ _ (by omega)] at h7
    rw [lastT_last hm]
    clear hp h hr h1 h2 hf hn hC hcc h0
    obtain ⟨E, hE⟩ : ∃ E, (s.R[m]).epoch = E := ⟨_, rfl⟩
    rw [hE] at h7 ⊢
    clear hE
    obtain ⟨n, hnn⟩ : ∃ n, s.R.length = n := ⟨_, rfl⟩
    rw [hnn] at h6 hl hm
    clear hnn
    have hm0 : (0 : Int) ≤ (m : Int) := by omega
    have hm1 : (m : Int) < (n : Int) := by omega
    have hm2 : IntKind.i64.wrap ((n : Int) - 1) = (m : Int) := (IntWalk.i64_in _ (by omega)).trans (by omega)
    have hz : ((n : Int) == 0) = false := by simp; omega
    have hz2 : decide ((n : Int) = 0) = false := decide_eq_false (by omega)
    clear hm hl
    go_enter Tryd.func69, Tryd.ntmps69
    go_wp2
    go_quiet (fail)
    go_wp2
    go_ret
    exact ⟨rfl, ⟨_, rfl⟩⟩
theorem Low_calls (h : IsS F G w p s) : Calls Tryd.prog 20 #[.pointer (some ⟨p, 0, none⟩)] w fun e w' => e = .returned (.int .i64 s.T.idx) ∧ w = w' := by
  obtain ⟨b1, b2, b3, b4, rv, hp, _⟩ := h.ex
  have h4 := (blk_cell hp 4).trans (show _ = some (Value.int .i64 s.T.idx) from rfl)
  have H := Aside0.mk (dead_calls h)
  clear hp h
  go_enter Tryd.func20, Tryd.ntmps20
  go_wp2_with (go_at_call 51; refine H.out.mono ?_; rintro e w' ⟨rfl, rfl⟩)
  go_ret
  exact ⟨rfl, rfl⟩
theorem Commit_calls (h : IsS F G w p s) : Calls Tryd.prog 30 #[.pointer (some ⟨p, 0, none⟩)] w fun e w' => e = .returned (.int .i64 s.C) ∧ w = w' := by
  obtain ⟨b1, b2, b3, b4, rv, hp, _⟩ := h.ex
  have h7 := (blk_cell hp 7).trans (show _ = some (Value.int .i64 s.C) from rfl)
  have H := Aside0.mk (dead_calls h)
  clear hp h
  go_enter Tryd.func30, Tryd.ntmps30
  go_wp2_with (go_at_call 51; refine H.out.mono ?_; rintro e w' ⟨rfl, rfl⟩)
  go_ret
  exact ⟨rfl, rfl⟩
theorem IsS.drew (h : IsS F G w p s) (n : Nat) : IsS F G (w.drewN n) p s := h.below (pw_below_drewN (Below.refl _ _) n)
theorem Last_calls (h : IsS F G w p s) (hw : Wf s) : Calls Tryd.prog 35 #[.pointer (some ⟨p, 0, none⟩)] w fun e w' => e = .returned (.tuple #[.int .i64 (endI s), .int .i64 (lastT s).epoch]) ∧ Drawn0 w w' := by
  have H := Aside0.mk h
  have HW := Aside0.mk hw
  clear h hw
  go_enter Tryd.func35, Tryd.ntmps35
  go_wp2_with (fail)
  refine (dead_calls H.out).mono ?_
  rintro e w' ⟨rfl, rfl⟩
  go_wp2_with (fail)
  refine (end_calls H.out HW.out).mono ?_
  rintro e w1 ⟨rfl, ⟨n1, rfl⟩⟩
  go_wp2_with (fail)
  refine (era_calls (H.out.drew n1) HW.out).mono ?_
  rintro e w2 ⟨rfl, ⟨n2, rfl⟩⟩
  go_wp2_with (fail)
  go_ret2
  exact ⟨rfl, ⟨n1 + n2, rfl⟩⟩
theorem Dirty_calls (h : IsS F G w p s) (hw : Wf s) : Calls Tryd.prog 36 #[.pointer (some ⟨p, 0, none⟩)] w fun e w' => e = .returned (.int .i64 (endI s - s.C)) ∧ Drawn0 w w' := by
  obtain ⟨b1, b2, b3, b4, rv, hp, _⟩ := h.ex
  have h7 : ∀ n, (w.drewN n).cell? ⟨p, 7, none⟩ = some (.int .i64 s.C) := fun n => (blk_cell (blk_drewN hp n) 7).trans (show _ = some (Value.int .i64 s.C) from rfl)
  have hD := dead_calls h
  have hE : ∀ n, Calls Tryd.prog 52 #[.pointer (some ⟨p, 0, none⟩)] (w.drewN n) fun e w' => e = .returned (.int .i64 (endI s)) ∧ Drawn0 (w.drewN n) w' := fun n => end_calls (h.drew n) hw
  have hl := hw.len
  have hi := hw.tab.idx
  have h1 := hw.lo
  have h2 := hw.hi
  have hs : IntKind.i64.wrap (endI s - s.C) = endI s - s.C := IntWalk.i64_in _ (by unfold endI at *; omega)
  have HE := Aside0.mk hE
  have HD := Aside0.mk hD
  clear hp h hl hi h1 h2 hE hD
  go_enter Tryd.func36, Tryd.ntmps36
  go_wp2_with (go_at_call 51; refine HD.out.mono ?_; rintro e w' ⟨rfl, rfl⟩)
  go_quiet ((go_at_call 52; exact Calls.quiet_of ((HE.out _).mono (fun _ _ h_ => ⟨h_.1, h_.2.out⟩))))
  go_wp2
  go_ret
  exact ⟨rfl, ⟨_, rfl⟩⟩
end
end Go.Proofs.YtgmaedngkhidlaaDoor.Sf
-- SfU
namespace Go.Proofs.YtgmaedngkhidlaaDoor.Sf
open Go Go.RowKit Go.ChangeMaps Go.MapKept Go.Proofs.YtgmaedngkhidlaaDoorW.PrintWords Go.Proofs.YtgmaedngkhidlaaDoorW.PrintLast Go.Proofs.YtgmaedngkhidlaaDoorW.PrintMore
open Go.Maps (Keyed)
set_option linter.unusedVariables false
set_option linter.unusedSimpArgs false
theorem strB_eq (xs : List Int) : (strOfNums xs).data.toList = Lib.bytesOf xs := by rw [← Lib.toList_data]; exact Lib.strOfNums_toList xs
theorem run_bytesOf_slice {P : Program} {w : World} {ad : Addr} {n c : Nat} {xs : List Int} (hx : xs.length = n) (hc : ∀ j x, xs[j]? = some x → w.cell? (ad.add j) = some (.int .u8 x)) :
    (Extern.Bytes.bytesOf (.slice (some ad) n c)).run P w = .ok ⟨(Lib.bytesOf xs).toArray⟩ w := by
  have hl := Lib.run_loadBytesX (P := P) w xs ad .empty hc
  rw [hx] at hl
  have he : (⟨ByteArray.empty.data ++ (Lib.bytesOf xs).toArray⟩ : ByteArray) = ⟨(Lib.bytesOf xs).toArray⟩ := by
    apply ByteArray.ext
    show (#[] : Array UInt8) ++ (Lib.bytesOf xs).toArray = (Lib.bytesOf xs).toArray
    simp
  rw [he] at hl
  exact hl
theorem byte_lt {a b : Int} (ha : 0 ≤ a ∧ a < 256) (hb : 0 ≤ b ∧ b < 256) : (UInt8.ofNat a.toNat < UInt8.ofNat b.toNat) ↔ a < b := by
  rw [UInt8.lt_iff_toNat_lt]
  simp only [UInt8.toNat_ofNat']
  rw [Nat.mod_eq_of_lt (by omega), Nat.mod_eq_of_lt (by omega)]
  omega
theorem compare_bytes : ∀ {a b : List Int}, (∀ x ∈ a, 0 ≤ x ∧ x < 256) → (∀ x ∈ b, 0 ≤ x ∧ x < 256) → Lib.compareBytes (Lib.bytesOf a) (Lib.bytesOf b) = cmpL a b
  | [], [], _, _ => rfl
  | [], _ :: _, _, _ => rfl
  | _ :: _, [], _, _ => rfl
  | x :: xs, y :: ys, ha, hb => by
    have hx := ha x (List.mem_cons_self ..)
    have hy := hb y (List.mem_cons_self ..)
    have ih := compare_bytes (fun z hz => ha z (List.mem_cons_of_mem _ hz)) (fun z hz => hb z (List.mem_cons_of_mem _ hz))
    show (if UInt8.ofNat x.toNat < UInt8.ofNat y.toNat then (-1 : Int) else if UInt8.ofNat y.toNat < UInt8.ofNat x.toNat then 1 else Lib.compareBytes (Lib.bytesOf xs) (Lib.bytesOf ys)) = _
    rw [ih]
    show _ = if x < y then (-1 : Int) else if y < x then 1 else cmpL xs ys
    by_cases h1 : x < y
    · rw [if_pos h1, if_pos ((byte_lt hx hy).2 h1)]
    · rw [if_neg h1, if_neg (fun e => h1 ((byte_lt hx hy).1 e))]
      by_cases h2 : y < x
      · rw [if_pos h2, if_pos ((byte_lt hy hx).2 h2)]
      · rw [if_neg h2, if_neg (fun e => h2 ((byte_lt hy hx).1 e))]
theorem indexByte_neg : ∀ {l : List UInt8} {c : UInt8}, c ∉ l → Lib.indexByte l c = -1
  | [], _, _ => rfl
  | b :: l, c, h => by
    have h1 : (b == c) = false := by simpa using fun e : b = c => h (by rw [e]; exact List.mem_cons_self ..)
    unfold Lib.indexByte
    rw [h1, indexByte_neg fun e => h (List.mem_cons_of_mem _ e)]
    rfl
theorem indexByte_pos : ∀ {l : List UInt8} {c : UInt8}, c ∈ l → 0 ≤ Lib.indexByte l c
  | b :: l, c, h => by
    unfold Lib.indexByte
    split
    · omega
    · rename_i hb
      have hc : c ∈ l := (List.mem_cons.1 h).resolve_left fun e => hb (by simp [e])
      have := indexByte_pos hc
      split
      · rename_i e
        have : Lib.indexByte l c = -1 := by simpa using e
        omega
      · omega
set_option maxHeartbeats 1000000 in
set_option maxRecDepth 100000 in
theorem Compare_calls (p q : Addr) (c d : Nat) (a b : List Int) (w : World) (ha : ∀ x ∈ a, 0 ≤ x ∧ x < 256) (hb : ∀ x ∈ b, 0 ≤ x ∧ x < 256) (h1 : ∀ j x, a[j]? = some x → w.cell? (p.add j) = some (.int .u8 x)) (h2 : ∀ j x, b[j]? = some x → w.cell? (q.add j) = some (.int .u8 x)) :
    Calls Tryd.prog 46 #[.slice (some p) a.length c, .slice (some q) b.length d] w fun e w' => e = .returned (.int .i64 (cmpL a b)) ∧ w = w' := by
  have hrun : (Extern.BytealgCompare.compare #[.slice (some p) a.length c, .slice (some q) b.length d]).run Tryd.prog w = .ok (.int .i64 (cmpL a b)) w := by
    change Sem.run Tryd.prog (do pure (goInt (Extern.BytealgCompare.cmp (← Extern.Bytes.bytesOf (.slice (some p) a.length c)) (← Extern.Bytes.bytesOf (.slice (some q) b.length d))))) w = _
    simp only [Sem.run_bind, run_bytesOf_slice rfl h1, run_bytesOf_slice rfl h2, Result.andThen, Sem.run_pure]
    rw [Lib.cmp_eq]
    show Result.ok (Value.int .i64 (Lib.compareBytes (Lib.bytesOf a) (Lib.bytesOf b))) w = _
    rw [compare_bytes ha hb]
  clear ha hb h1 h2
  generalize cmpL a b = C at *
  go_enter Tryd.func46, Tryd.ntmps46
  go_wp2
  rw [run_callFunc_extern Tryd.func73 (by kernel_rfl) (by kernel_rfl) (by kernel_rfl) (e := Extern.BytealgCompare.compare) (by kernel_rfl), hrun]
  simp only [Result.andThen]
  rw [Oper.upon_value]
  go_wp2
  go_ret
  exact ⟨rfl, rfl⟩
set_option maxHeartbeats 1000000 in
set_option maxRecDepth 100000 in
theorem IndexByte_calls (b o n c : Nat) (xs : List Int) (w : World) (hx : xs.length = n) (hc : ∀ i, i < n → w.cell? ⟨b, o + i, none⟩ = some (.int .u8 (xs.getD i 0))) :
    Calls Tryd.prog 84 #[.slice (some ⟨b, o, none⟩) n c, .int .u8 0] w fun e w' => e = .returned (.int .i64 (Lib.indexByte (Lib.bytesOf xs) 0)) ∧ w = w' := by
  have hrun := Lib.run_indexByteSlice (P := Tryd.prog) w b o n c xs hx hc 0
  have h0 : ((0 : Int).toNat.toUInt8) = 0 := rfl
  rw [h0] at hrun
  clear hc hx
  generalize Lib.indexByte (Lib.bytesOf xs) 0 = C at *
  go_enter Tryd.func84, Tryd.ntmps84
  go_wp2
  rw [run_callFunc_extern Tryd.func89 (by kernel_rfl) (by kernel_rfl) (by kernel_rfl) (e := Extern.BytealgIndexByte.indexByte) (by kernel_rfl), hrun]
  simp only [Result.andThen]
  rw [Oper.upon_value]
  go_wp2
  go_ret
  exact ⟨rfl, rfl⟩
theorem nameLen_of : ∀ {k : List Int} {j : Nat}, j ≤ k.length → (∀ i, j ≤ i → i < k.length → k.getD i 0 = 0) → (j = 0 ∨ k.getD (j - 1) 0 ≠ 0) → nameLen k = j
  | [], j, hj, _, _ => by simp at hj; subst hj; rfl
  | x :: xs, 0, _, h, _ => by
    have h1 := nameLen_of (k := xs) (j := 0) (Nat.zero_le _) (fun i _ hi => by have := h (i + 1) (by omega) (by simpa using hi); simpa using this) (.inl rfl)
    have h2 : x = 0 := by have := h 0 (Nat.le_refl _) (by simp); simpa using this
    unfold nameLen
    rw [h1, if_pos rfl, if_pos h2]
  | x :: xs, j + 1, hj, h, hn => by
    have hz : ∀ i, j ≤ i → i < xs.length → xs.getD i 0 = 0 := fun i hi hl => by have := h (i + 1) (by omega) (by simpa using hl); simpa using this
    by_cases e : j = 0
    · subst e
      have h1 := nameLen_of (k := xs) (j := 0) (Nat.zero_le _) hz (.inl rfl)
      have h2 : x ≠ 0 := by rcases hn with h | h
                            · cases h
                            · simpa using h
      unfold nameLen
      rw [h1, if_pos rfl, if_neg h2]
    · have h1 := nameLen_of (k := xs) (j := j) (by simpa using hj) hz (.inr (by
        rcases hn with h | h
        · cases h
        · obtain ⟨i, rfl⟩ : ∃ i, j = i + 1 := ⟨j - 1, by omega⟩
          simpa using h))
      unfold nameLen
      rw [h1, if_neg e]
theorem key_cells {k : List Int} {w : World} {g : Nat} {t : TypeId} (hb : w.heap[g]? = some (.cells (encK k).toArray t (0, 0))) (i : Nat) (hi : i < k.length) : w.cell? ⟨g, i, none⟩ = some (.int .u8 (k.getD i 0)) := by
  rw [blk_cell hb, List.getElem?_toArray]
  unfold encK
  rw [List.getElem?_map, List.getElem?_eq_getElem hi, List.getD_eq_getElem?_getD, List.getElem?_eq_getElem hi]
  rfl
theorem slice_arr (w : World) (g m : Nat) (hm : m ≤ 8) : (Instr.sliceAt 28 (.pointer (some ⟨g, 0, none⟩)) none (some (.int .i64 (m : Int))) none).run Tryd.prog w = .ok (.slice (some ⟨g, 0, none⟩) m 8) w := by
  have hal : Tryd.prog.arrayLen 28 = 8 := by kernel_rfl
  rw [run_sliceAt_array_h w 28 ⟨g, 0, none⟩ (by kernel_rfl) .i64 (m : Int) (by omega) (by rw [hal]; omega), hal]
  have hs : (sizeOf (Tryd.prog.elem 28)).run Tryd.prog w = .ok 1 w := by kernel_rfl
  rw [hs]
  simp only [Result.andThen, slicedAt, Int.toNat_natCast, Nat.sub_zero]
  simp [Addr.add]
theorem key_take {k : List Int} {w : World} {g : Nat} {t : TypeId} (hb : w.heap[g]? = some (.cells (encK k).toArray t (0, 0))) (j : Nat) (hj : j ≤ k.length) (hm : k.length ≤ 8) : (Kd.int .u8).C w (some ⟨g, 0, none⟩) (k.take j).length (k.take j) := by
  refine ⟨rfl, by rw [List.length_take]; omega, fun _ => ⟨_, rfl, fun i p hp => ⟨[.int .u8 p], rfl, rfl, fun q v hv => ?_⟩⟩⟩
  have hq : q = 0 := by have := (List.getElem?_eq_some_iff.1 hv).1; simp at this; omega
  subst hq
  simp at hv
  subst hv
  rw [add_off]
  have hi : i < k.length := by have := (List.getElem?_eq_some_iff.1 hp).1; rw [List.length_take] at this; omega
  have := key_cells hb i hi
  rw [List.getElem?_take] at hp
  split at hp
  · rw [List.getD_eq_getElem?_getD, hp] at this
    rw [show 0 + (i * (Kd.int IntKind.u8).sz + 0) = i by show 0 + (i * 1 + 0) = i; omega]
    exact this
  · cases hp
set_option maxHeartbeats 4000000 in
set_option maxRecDepth 100000 in
theorem Name_calls (k : List Int) (w : World) (hk : KeyL k) :
    Calls Tryd.prog 71 #[vK k] w fun e w' => e = .returned (.string (strOfNums (k.take (nameLen k)))) ∧ Below w.heap.size w w' := by
  have hlen := hk.len
  have hblk := blk_new w (.cells (encK k).toArray 28)
  have hbel := below_alloc (Below.refl w.heap.size w) (.cells (encK k).toArray 28)
  have HB0 := Aside0.mk hblk
  have HB1 := Aside0.mk hbel
  have HL := Aside0.mk hlen
  clear hblk hbel hlen hk
  go_enter Tryd.func71, Tryd.ntmps71
  go_upto_region 1 with (fail)
  obtain ⟨g, hg⟩ : ∃ g, w.heap.size = g := ⟨_, rfl⟩
  rw [hg] at HB0
  have HB2 : Aside0 (Below w.heap.size w (w.alloc (.cells (encK k).toArray 28))) := HB1
  rw [hg]
  obtain ⟨w1, hw1⟩ : ∃ w1, w.alloc (.cells (encK k).toArray 28) = w1 := ⟨_, rfl⟩
  rw [hw1] at HB0 HB2 ⊢
  rw [hg] at HB2
  clear HB1
  go_wp2_with (fail)
  go_loop [3] (fun v => ∃ j : Nat, v = .int .i64 (j : Int) ∧ Aside0 (j ≤ 8 ∧ ∀ i, j ≤ i → i < 8 → k.getD i 0 = 0)) (fun v => (intOf v).toNat)
  case atStart => exact ⟨8, rfl, ⟨Nat.le_refl _, fun i h1 h2 => by omega⟩⟩
  case round =>
    obtain ⟨j, rfl, HJ⟩ := hrel
    by_cases hj : j = 0
    · subst hj
      have HN := Aside0.mk (nameLen_of (k := k) (j := 0) (Nat.zero_le _) (fun i h1 h2 => HJ.out.2 i h1 (by rw [← HL.out]; exact h2)) (.inl rfl))
      have hC : (convert 96 9 (.slice (some ⟨g, 0, none⟩) 0 8)).run Tryd.prog w1 = .ok (.string (strOfNums (k.take 0))) w1 := Kd.C_string (P := Tryd.prog) (src := 96) (dst := 9) (c := 8) Tryd.underlying96 Tryd.underlying5 Tryd.underlying9 (key_take HB0.out 0 (Nat.zero_le _) (by rw [HL.out]; decide))
      obtain ⟨X, hX⟩ : ∃ X, strOfNums (k.take 0) = X := ⟨_, rfl⟩
      rw [hX] at hC
      have HX := Aside0.mk hX
      clear hX
      go_wp2
      go_ret
      exact ⟨by rw [HN.out, HX.out]; rfl, HB2.out⟩
    · obtain ⟨m, hm⟩ : ∃ m : Nat, m = j := ⟨_, rfl⟩
      subst hm
      have hi : m - 1 < k.length := by have := HJ.out.1; have := HL.out; omega
      have hc := key_cells HB0.out (m - 1) hi
      have hm1 : 0 < m := by omega
      have h1 : m ≤ 8 := HJ.out.1
      have hw : wrap64 ((m : Int) - 1) = (m : Int) - 1 := by unfold wrap64; omega
      have d1 : decide ((m : Int) > 0) = true := decide_eq_true (by omega)
      have d2 : decide ((0 : Int) < (m : Int)) = true := decide_eq_true (by omega)
      obtain ⟨x, hx⟩ : ∃ x, k.getD (m - 1) 0 = x := ⟨_, rfl⟩
      rw [hx] at hc
      have HX := Aside0.mk hx
      clear hx hj hi
      by_cases hz : x = 0
      · subst hz
        go_wp2
        go_round
        case rel => exact ⟨m - 1, by go_num, ⟨by omega, fun q q1 q2 => by
          by_cases e : q = m - 1
          · rw [e]; exact HX.out
          · exact HJ.out.2 q (by omega) q2⟩⟩
        case measure => simp [intOf]; omega
      · have d3 : (x == (0 : Int)) = false := by simpa using hz
        have d4 : decide (x = (0 : Int)) = false := decide_eq_false hz
        have HN := Aside0.mk (nameLen_of (k := k) (j := m) (by have := HL.out; omega) (fun i h1 h2 => HJ.out.2 i h1 (by rw [← HL.out]; exact h2)) (.inr (by rw [HX.out]; exact hz)))
        have hC0 := Kd.C_string (P := Tryd.prog) (src := 96) (dst := 9) (c := 8) Tryd.underlying96 Tryd.underlying5 Tryd.underlying9 (key_take HB0.out m (by have := HL.out; omega) (by rw [HL.out]; decide))
        rw [List.length_take, HL.out, Nat.min_eq_left h1] at hC0
        obtain ⟨X, hX⟩ : ∃ X, strOfNums (k.take m) = X := ⟨_, rfl⟩
        rw [hX] at hC0
        have HXS := Aside0.mk hX
        clear hX hz
        go_wp2_with (rw [slice_arr w1 g m HJ.out.1])
        go_ret
        exact ⟨by rw [HN.out, HXS.out]; rfl, HB2.out⟩
def keyP (s : ByteArray) : List Int × Int := if s.size < 1 ∨ 8 < s.size ∨ 0 ∈ bytesOf s then (zK, 91) else (bytesOf s ++ List.replicate (8 - s.size) 0, 0)
theorem bytes_range (s : ByteArray) : ∀ x ∈ bytesOf s, 0 ≤ x ∧ x < 256 := by
  intro x hx
  obtain ⟨b, _, rfl⟩ := List.mem_map.1 hx
  have := b.toNat_lt
  omega
theorem keyP_L (s : ByteArray) : KeyL (keyP s).1 := by
  unfold keyP
  split
  · exact keyL_zero
  · rename_i h
    have hl := bytesOf_length s
    refine ⟨?_, ?_⟩
    · show (bytesOf s ++ List.replicate (8 - s.size) 0).length = 8
      rw [List.length_append, List.length_replicate, hl]; omega
    · intro x hx
      rcases List.mem_append.1 hx with hx | hx
      · exact bytes_range s x hx
      · rw [List.eq_of_mem_replicate hx]; omega
set_option maxHeartbeats 4000000 in
set_option maxRecDepth 100000 in
theorem Key_calls (s : ByteArray) (w : World) : Calls Tryd.prog 70 #[.string s] w fun e w' => e = .returned (.tuple #[vK (keyP s).1, .int .i64 (keyP s).2]) ∧ Below w.heap.size w w' := by
  by_cases c1 : s.size < 1
  · have hk : keyP s = (zK, 91) := by unfold keyP; rw [if_pos (.inl c1)]
    rw [hk]
    have d1 : decide ((s.size : Int) < 1) = true := decide_eq_true (by omega)
    clear hk
    go_enter Tryd.func70, Tryd.ntmps70
    go_wp2_with (fail)
    refine bodyPost_ret (results_ct rfl _ _ w.heap.size 28 #[.int .u8 0, .int .u8 0, .int .u8 0, .int .u8 0, .int .u8 0, .int .u8 0, .int .u8 0, .int .u8 0] (0, 0) _ (by rfl) (heap_alloc2_old w _ _) Tryd.underlying28 rfl (by kernel_rfl)) rfl ?_
    exact ⟨rfl, below_alloc (below_alloc (Below.refl _ _) _) _⟩
  by_cases c2 : 8 < s.size
  · have hk : keyP s = (zK, 91) := by unfold keyP; rw [if_pos (.inr (.inl c2))]
    rw [hk]
    have d1 : decide ((s.size : Int) < 1) = false := decide_eq_false (by omega)
    have d2 : decide ((s.size : Int) > 8) = true := decide_eq_true (by omega)
    have d3 : decide ((8 : Int) < (s.size : Int)) = true := decide_eq_true (by omega)
    clear hk
    go_enter Tryd.func70, Tryd.ntmps70
    go_wp2_with (fail)
    refine bodyPost_ret (results_ct rfl _ _ w.heap.size 28 #[.int .u8 0, .int .u8 0, .int .u8 0, .int .u8 0, .int .u8 0, .int .u8 0, .int .u8 0, .int .u8 0] (0, 0) _ (by rfl) (heap_alloc2_old w _ _) Tryd.underlying28 rfl (by kernel_rfl)) rfl ?_
    exact ⟨rfl, below_alloc (below_alloc (Below.refl _ _) _) _⟩
  have d1 : decide ((s.size : Int) < 1) = false := decide_eq_false (by omega)
  have d2 : decide ((s.size : Int) > 8) = false := decide_eq_false (by omega)
  have d3 : decide ((8 : Int) < (s.size : Int)) = false := decide_eq_false (by omega)
  have HL := Aside0.mk (show 1 ≤ s.size ∧ s.size ≤ 8 by omega)
  clear c1 c2
  obtain ⟨q, hq⟩ : ∃ q, keyP s = q := ⟨_, rfl⟩
  rw [hq]
  have HQ := Aside0.mk hq
  clear hq
  go_enter Tryd.func70, Tryd.ntmps70
  go_upto_region 2 with (fail)
  obtain ⟨g, hg⟩ : ∃ g, w.heap.size = g := ⟨_, rfl⟩
  have HG := Aside0.mk hg
  have HG2 := Aside0.mk (heap_alloc2_old w (.cells #[.int .u8 0, .int .u8 0, .int .u8 0, .int .u8 0, .int .u8 0, .int .u8 0, .int .u8 0, .int .u8 0] 28) (.cells #[.int .u8 0, .int .u8 0, .int .u8 0, .int .u8 0, .int .u8 0, .int .u8 0, .int .u8 0, .int .u8 0] 28))
  have HG4 := Aside0.mk (heap_alloc2_new w (.cells #[.int .u8 0, .int .u8 0, .int .u8 0, .int .u8 0, .int .u8 0, .int .u8 0, .int .u8 0, .int .u8 0] 28) (.cells #[.int .u8 0, .int .u8 0, .int .u8 0, .int .u8 0, .int .u8 0, .int .u8 0, .int .u8 0, .int .u8 0] 28))
  have HB2 := Aside0.mk (below_alloc (below_alloc (Below.refl w.heap.size w) (.cells #[.int .u8 0, .int .u8 0, .int .u8 0, .int .u8 0, .int .u8 0, .int .u8 0, .int .u8 0, .int .u8 0] 28)) (.cells #[.int .u8 0, .int .u8 0, .int .u8 0, .int .u8 0, .int .u8 0, .int .u8 0, .int .u8 0, .int .u8 0] 28))
  rw [hg] at HG2 HG4 HB2 ⊢
  obtain ⟨w2, hw2⟩ : ∃ w2, (w.alloc (.cells #[.int .u8 0, .int .u8 0, .int .u8 0, .int .u8 0, .int .u8 0, .int .u8 0, .int .u8 0, .int .u8 0] 28)).alloc (.cells #[.int .u8 0, .int .u8 0, .int .u8 0, .int .u8 0, .int .u8 0, .int .u8 0, .int .u8 0, .int .u8 0] 28) = w2 := ⟨_, rfl⟩
  rw [hw2] at HG2 HG4 HB2 ⊢
  clear hw2
  have HI := Aside0.mk (fun c => IndexByte_calls w2.heap.size 0 s.size c (bytesOf s) (Lib.bytesWorld w2 5 s) (bytesOf_length s) (fun i hi => by
    obtain ⟨ad, e, hc⟩ := (bytes_reads w2 5 s (by have := HL.out; omega)).2.2 (by omega)
    injection e with e
    subst e
    have := hc i (by omega)
    rw [add_off] at this
    exact this))
  have HG2' := Aside0.mk (blk_below HG2.out (bytes_below (Below.refl w2.heap.size w2) (Nat.le_refl _) 5 s))
  have HG4' := Aside0.mk (blk_below HG4.out (bytes_below (Below.refl w2.heap.size w2) (Nat.le_refl _) 5 s))
  have HB2' := Aside0.mk (below_then HB2.out (by have := HB2.out.size; omega) (bytes_below (Below.refl w2.heap.size w2) (Nat.le_refl _) 5 s))
  have kb := print_bytes (P := Tryd.prog) 9 96 5 Tryd.underlying9 Tryd.underlying96 Tryd.underlying5 s w2
  obtain ⟨w3, hw3⟩ : ∃ w3, Lib.bytesWorld w2 5 s = w3 := ⟨_, rfl⟩
  rw [hw3] at HI HG2' HG4' HB2' kb
  clear HG2 HG4 HB2 hw3
  obtain ⟨X, hX⟩ : ∃ X, Lib.indexByte (Lib.bytesOf (bytesOf s)) 0 = X := ⟨_, rfl⟩
  rw [hX] at HI
  by_cases c3 : 0 ∈ bytesOf s
  · have hk : keyP s = (zK, 91) := by unfold keyP; rw [if_pos (.inr (.inr c3))]
    have HK := Aside0.mk (HQ.out.symm.trans hk)
    have hx : 0 ≤ X := hX ▸ indexByte_pos (List.mem_map.2 ⟨0, c3, rfl⟩)
    have d4 : decide (X ≥ 0) = true := decide_eq_true hx
    have d5 : decide ((0 : Int) ≤ X) = true := decide_eq_true hx
    clear hk hX c3
    go_upto_if 18 with (go_at_call 84; refine (HI.out _).mono ?_; rintro e w' ⟨rfl, rfl⟩)
    go_wp2_with (first
      | ((with_reducible refine gate_dst (N := 19) rfl ?_); refine wpList_seg (P := Tryd.prog) rfl 28 (.tmp 4) rfl (g + 1) 0 rfl (encK zK) aggK (SegAt.blk (t := 28) (fr := (0, 0)) HG4'.out) ?_)
      | ((with_reducible refine gate_ (.store 28 (.tmp 2) (.tmp 19)) rfl ?_); refine wpList_row (P := Tryd.prog) rfl 28 (.tmp 2) (.tmp 19) rfl g _ 28 HG2'.out (encK zK) rfl rfl aggK rfl (encK_one zK) ?_; intro w4 r1 r2 r3))
    refine bodyPost_ret (results_ct rfl _ _ g 28 (encK zK).toArray (0, 0) _ (by rfl) r3 Tryd.underlying28 rfl (by kernel_rfl)) rfl ?_
    rw [HK.out]
    exact ⟨rfl, HG.out ▸ pw_below_grown (HG.out.symm ▸ HB2'.out) _ (HB2'.out.size) r1 (fun k e => by injection e with e; omega)⟩
  · have hk : keyP s = (bytesOf s ++ List.replicate (8 - s.size) 0, 0) := by
      unfold keyP
      rw [if_neg]
      have := HL.out
      rintro (h | h | h)
      · omega
      · omega
      · exact c3 h
    have HK := Aside0.mk (HQ.out.symm.trans hk)
    have hx : X = -1 := hX ▸ indexByte_neg (fun h => c3 (by
      obtain ⟨y, h1, h2⟩ := List.mem_map.1 h
      have hy := bytes_range s y h1
      have : y = 0 := by
        have h3 := congrArg UInt8.toNat h2
        simp only [UInt8.toNat_ofNat'] at h3
        have h4 : (0 : UInt8).toNat = 0 := rfl
        omega
      exact this ▸ h1))
    subst hx
    clear hk hX c3
    go_upto_if 18 with (go_at_call 84; refine (HI.out _).mono ?_; rintro e w' ⟨rfl, rfl⟩)
    have HS8 : s.size ≤ 8 := HL.out.2
    have hL1 : ((bytesOf s).map (Value.int .u8) ++ (encK zK).toArray.toList.drop s.size) = encK (bytesOf s ++ List.replicate (8 - s.size) 0) := by
      show _ ++ (List.replicate 8 (Value.int .u8 0)).drop s.size = _
      unfold encK
      rw [List.map_append, List.map_replicate, List.drop_replicate]
    have HZ8 : (encK (bytesOf s ++ List.replicate (8 - s.size) 0)).length = 8 := encK_len (by rw [List.length_append, List.length_replicate, bytesOf_length]; omega)
    have HO := encK_one (bytesOf s ++ List.replicate (8 - s.size) 0)
    obtain ⟨Z, hZ⟩ : ∃ Z, encK (bytesOf s ++ List.replicate (8 - s.size) 0) = Z := ⟨_, rfl⟩
    rw [hZ] at hL1 HZ8 HO
    have HZ := Aside0.mk hZ
    have HL1 := Aside0.mk hL1
    have HZ8 := Aside0.mk HZ8
    have HO := Aside0.mk HO
    have HW3 := Aside0.mk (show g < w3.heap.size from (Array.getElem?_eq_some_iff.1 HG2'.out).1)
    have HB3 := Aside0.mk (show Below w.heap.size w w3 from HG.out ▸ HB2'.out)
    clear hZ hL1
    go_wp2_with (first
      | rw [slice_all w3 (g + 1)]
      | ((with_reducible refine gate_dst (N := 22) rfl ?_); refine wpList_copyStr (P := Tryd.prog) rfl (.tmp 20) (.tmp 21) 96 9 rfl 5 Tryd.underlying96 (by kernel_rfl) (g + 1) (encK zK).toArray 28 HG4'.out 8 8 rfl s rfl HS8 rfl ?_; rw [HL1.out]; intro w4 q1 q2 q3)
      | ((with_reducible refine gate_dst (N := 23) rfl ?_); refine wpList_seg (P := Tryd.prog) rfl 28 (.tmp 4) rfl (g + 1) 0 rfl Z (by rw [HZ8.out]; exact aggK) (SegAt.blk (t := 28) (fr := (0, 0)) q3) ?_)
      | ((with_reducible refine gate_ (.store 28 (.tmp 2) (.tmp 23)) rfl ?_); refine wpList_row (P := Tryd.prog) rfl 28 (.tmp 2) (.tmp 23) rfl g (encK zK).toArray 28 ((q1.block g HW3.out (fun e => by injection e with e; omega)).trans HG2'.out) Z rfl rfl (by rw [HZ8.out]; exact aggK) (by rw [HZ8.out]; rfl) HO.out ?_; intro w5 r1 r2 r3))
    refine bodyPost_ret (results_ct rfl _ _ g 28 Z.toArray (0, 0) _ (by rfl) r3 Tryd.underlying28 rfl (by rw [List.size_toArray, HZ8.out]; kernel_rfl)) rfl ?_
    rw [HK.out]
    have hg := HG.out
    have hb4 : Below w.heap.size w w4 := pw_below_grown HB3.out _ HB3.out.size q1 (fun k e => by injection e with e; omega)
    have hb5 := pw_below_grown hb4 _ hb4.size r1 (fun k e => by injection e with e; omega)
    rw [hg] at hb5
    have hz : (encK (bytesOf s ++ List.replicate (8 - s.size) 0)).toArray = Z.toArray := by rw [HZ.out]
    dsimp only [vK]
    rw [hz]
    exact ⟨rfl, hb5⟩
end Go.Proofs.YtgmaedngkhidlaaDoor.Sf
-- WGuard
namespace Go.Proofs.YtgmaedngkhidlaaDoorW.PrintWords
open Go.RowKit
section
variable {P : Program} {ops : Array Oper} {rest : List Oper} {o : Oper} {a : Act} {Q : Exit → Act → World → Prop} {W : World}
theorem gate_guard (hw : Region.wanted o (yielded ops a.tmps) = true) (h : wpList P ops Q ({ o with guard := none } :: rest) a W) : wpList P ops Q (o :: rest) a W := by
  have h1 : Region.wanted { o with guard := none } (yielded ops a.tmps) = true := rfl
  unfold wpList at h ⊢
  rw [if_pos h1] at h
  rw [if_pos hw]
  exact h
end
end Go.Proofs.YtgmaedngkhidlaaDoorW.PrintWords
