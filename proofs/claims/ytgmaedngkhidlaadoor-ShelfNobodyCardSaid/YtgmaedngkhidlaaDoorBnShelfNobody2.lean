/- Texts that the row of LawShelfNobody rests on, part 2 of 6: contracts of the functions, their walks, plain laws. -/
import Derived.Test.YtgmaedngkhidlaaDoorBnShelfNobody1
import Derived.Laws.CopyRow
import Derived.Lib.ValidU
import Derived.Test.YtgmaedngkhidlaaDoorProg
import Derived.DeepKeys4
set_option linter.unusedSimpArgs false
-- SfL
namespace Go.Proofs.YtgmaedngkhidlaaDoor.Sf
open Go Go.RowKit Go.ChangeMaps Go.MapKept Go.Proofs.YtgmaedngkhidlaaDoorW.PrintWords Go.Proofs.YtgmaedngkhidlaaDoorW.PrintLast Go.Proofs.YtgmaedngkhidlaaDoorW.PrintMore
open Go.Maps (Keyed)
set_option linter.unusedVariables false
set_option linter.unusedSimpArgs false
section
variable {P : Program}
abbrev rowB : TypeDesc → Bool
  | .struct _ | .array _ _ => true
  | _ => false
structure AggT (P : Program) (t : TypeId) (n : Nat) : Prop where
  row : ∃ d, P.underlying t = some d ∧ rowB d = true
  size : (P.info? t).map (·.size) = some n
theorem load_agg {w : World} {p : Addr} {ty : TypeId} {cs : List Value} (hA : AggT P ty cs.length) (hc : ∀ j v, cs[j]? = some v → w.cell? (p.add j) = some v) :
    (loadVar ty p).run P w = .ok (.agg cs.toArray) w := by
  obtain ⟨⟨d, hu, hd⟩, hi⟩ := hA
  have hl : (loadCells p cs.length).run P w = .ok cs.toArray w := run_loadCells_list (P := P) w p cs hc
  cases hq : P.info? ty with
  | none => simp [hq] at hi
  | some i =>
    have hs : i.size = cs.length := by simpa [hq] using hi
    have hagg : (isAgg ty).run P w = .ok true w := by
      unfold isAgg
      rw [Sem.run_bind, run_underlying hu w]
      cases d <;> simp_all
    simp [loadVar, Sem.run_bind, hagg, sizeOf, typeInfo, hq, hs, hl]
theorem loadAt_agg {w : World} {p : Addr} {ty : TypeId} {cs : List Value} (hA : AggT P ty cs.length) (hc : ∀ j v, cs[j]? = some v → w.cell? (p.add j) = some v) :
    (Instr.loadAt ty (.pointer (some p))).run P w = .ok (.agg cs.toArray) w := by
  simp only [Instr.loadAt, Instr.sureAddr, Sem.run_bind, Sem.run_pure, Result.andThen_ok, load_agg hA hc]
def SegAt (w : World) (g o : Nat) (cs : List Value) : Prop := ∀ j v, cs[j]? = some v → w.cell? ⟨g, o + j, none⟩ = some v
theorem add_off (b o j : Nat) : (⟨b, o, none⟩ : Addr).add j = ⟨b, o + j, none⟩ := by unfold Addr.add; split <;> simp_all
theorem SegAt.blk {w : World} {g : Nat} {t : TypeId} {fr : Nat × Nat} {cs : List Value} (h : w.heap[g]? = some (.cells cs.toArray t fr)) : SegAt w g 0 cs := by
  intro j v hj
  rw [cell_of_row w g _ _ t fr h, List.getElem?_toArray, Nat.zero_add]
  exact hj
theorem wpList_seg {ops : Array Oper} {rest : List Oper} {o : Oper} {a : Act} {w : World} {Q : Exit → Act → World → Prop} (hgd : o.guard = none) (ty : TypeId) (x : Operand) (ho : o.op = .load ty x)
    (g f : Nat) (hx : a.eval x = .pointer (some ⟨g, f, none⟩)) (cs : List Value) (hA : AggT P ty cs.length) (hc : SegAt w g f cs)
    (h : wpList P ops Q rest (a.put o.dst (.agg cs.toArray)) w) : wpList P ops Q (o :: rest) a w :=
  wpList_plain hgd fun K hK => by
    unfold Oper.wp execOp
    simp only [ho, hx, loadAt_agg hA (fun j v hj => by rw [add_off]; exact hc j v hj), Sem.run_bind, Sem.run_pure, Result.andThen_ok]
    exact hK _ _ h
theorem wpList_at {ops : Array Oper} {rest : List Oper} {o : Oper} {a : Act} {w : World} {Q : Exit → Act → World → Prop} (hgd : o.guard = none) (ty : TypeId) (x : Operand) (ho : o.op = .load ty x)
    (p : Addr) (hx : a.eval x = .pointer (some p)) (cs : List Value) (hA : AggT P ty cs.length) (hc : ∀ j v, cs[j]? = some v → w.cell? (p.add j) = some v)
    (h : wpList P ops Q rest (a.put o.dst (.agg cs.toArray)) w) : wpList P ops Q (o :: rest) a w :=
  wpList_plain hgd fun K hK => by
    unfold Oper.wp execOp
    simp only [ho, hx, loadAt_agg hA hc, Sem.run_bind, Sem.run_pure, Result.andThen_ok]
    exact hK _ _ h
theorem setCells_new (w : World) (t : TypeId) : ∀ (vs : List Value) (o : Nat) (cs : Array Value), cs.size = o + vs.length →
    (w.alloc (.cells cs t)).setCells w.heap.size o vs = w.alloc (.cells (cs.toList.take o ++ vs).toArray t)
  | [], o, cs, h => by
    simp only [World.setCells]
    rw [List.append_nil, List.take_of_length_le (by simp at h ⊢; omega), Array.toArray_toList]
  | v :: vs, o, cs, h => by
    simp only [World.setCells]
    rw [World.setCell_alloc_at _ _ _ _ _ rfl, setCells_new w t vs (o + 1) _ (by simp at h ⊢; omega)]
    congr 2
    apply congrArg
    have ho : o < cs.toList.length := by simp at h ⊢; omega
    rw [Array.toList_setIfInBounds, List.take_set, List.take_succ_eq_append_getElem ho, List.set_append_right _ _ (by simp; omega)]
    rw [List.length_take, Nat.min_eq_left (by omega), Nat.sub_self, List.set_cons_zero, List.append_assoc]
    rfl
theorem there_new (w : World) (t : TypeId) (cs : Array Value) : (w.alloc (.cells cs t)).there w.heap.size 0 cs.size := by
  intro j hj
  have hb := blk_new w (.cells cs t)
  refine ⟨?_, ?_⟩
  · rw [Nat.zero_add, cell_of_row _ _ _ _ _ _ hb, Array.getElem?_eq_getElem hj]; rfl
  · rw [Nat.zero_add]; exact frozen_of_row _ _ _ _ _ hb
theorem wpList_fill {ops : Array Oper} {rest : List Oper} {o : Oper} {a : Act} {w : World} {Q : Exit → Act → World → Prop} (hgd : o.guard = none) (ty : TypeId) (x y : Operand) (ho : o.op = .store ty x y)
    (cs : List Value) (zs : Array Value) (hx : a.eval x = .pointer (some ⟨w.heap.size, 0, none⟩)) (hy : a.eval y = .agg cs.toArray) (hA : AggT P ty cs.length) (hz : zs.size = cs.length) (h1 : ∀ v ∈ cs, v.oneCell' = true)
    (h : wpList P ops Q rest (a.put o.dst undef) (w.alloc (.cells cs.toArray ty))) : wpList P ops Q (o :: rest) a (w.alloc (.cells zs ty)) := by
  refine wpList_store_mid hgd ty x y ho w.heap.size 0 cs.toArray hx hy (by rw [show cs.toArray.size = zs.size by simp [hz]]; exact there_new w ty zs) (by rw [hA.size]; simp) (all_oneCell_toArray h1) ?_
  rw [setCells_new w ty cs 0 zs (by omega), List.take_zero, List.nil_append]
  exact h
theorem wpList_row {ops : Array Oper} {rest : List Oper} {o : Oper} {a : Act} {w : World} {Q : Exit → Act → World → Prop} (hgd : o.guard = none) (ty : TypeId) (x y : Operand) (ho : o.op = .store ty x y)
    (g : Nat) (zs : Array Value) (t : TypeId) (hb : w.heap[g]? = some (.cells zs t (0, 0))) (cs : List Value) (hx : a.eval x = .pointer (some ⟨g, 0, none⟩)) (hy : a.eval y = .agg cs.toArray) (hA : AggT P ty cs.length) (hz : zs.size = cs.length) (h1 : ∀ v ∈ cs, v.oneCell' = true)
    (h : ∀ w', w.grownBy w' (some g) → w'.heap.size = w.heap.size → w'.heap[g]? = some (.cells cs.toArray t (0, 0)) → wpList P ops Q rest (a.put o.dst undef) w') : wpList P ops Q (o :: rest) a w := by
  have hst := run_storeCells_at P g 0 t cs 0 zs w hb (by omega) h1
  have he : (zs.toList.take (0 + 0) ++ cs ++ zs.toList.drop (0 + 0 + cs.length)).toArray = cs.toArray := by
    rw [List.drop_of_length_le (by simp; omega)]
    simp
  rw [he] at hst
  refine wpList_plain hgd fun K hK => ?_
  have hrun : (Instr.storeAt ty (.pointer (some ⟨g, 0, none⟩)) (.agg cs.toArray)).run P w = .ok () (w.setRow g cs.toArray) := by
    have hi := hA.size
    cases hq : P.info? ty with
    | none => simp [hq] at hi
    | some i =>
      have hs : cs.length = i.size := by simp [hq] at hi; omega
      simp [Instr.storeAt, Instr.sureAddr, storeVar, sizeOf, typeInfo, hq, Value.cells, ← hs, hst]
  unfold Oper.wp execOp
  simp only [ho, hx, hy, Sem.run_bind, Sem.run_pure, Result.andThen_ok, hrun]
  exact hK _ _ (h _ ⟨rfl, rfl, rfl, by simp, fun i _ hi => setRow_other w g i _ (fun e => hi (by rw [e]))⟩ (by simp) (setRow_heap w g zs cs.toArray t (0, 0) hb))
theorem wpList_copyStr {ops : Array Oper} {rest : List Oper} {o : Oper} {a : Act} {w : World} {Q : Exit → Act → World → Prop} (hgd : o.guard = none) (d s : Operand) (dT sT : TypeId)
    (ho : o.op = .call { callee := .builtin .copy, args := #[d, s], argTypes := #[dT, sT] }) (e : TypeId) (hu : P.underlying dT = some (.slice e)) (hs : (P.info? e).map (·.size) = some 1)
    (g : Nat) (zs : Array Value) (t : TypeId) (hb : w.heap[g]? = some (.cells zs t (0, 0))) (n c : Nat) (hd : a.eval d = .slice (some ⟨g, 0, none⟩) n c) (v : ByteArray) (hv : a.eval s = .string v) (hl : v.size ≤ n) (hz : zs.size = n)
    (h : ∀ w', w.grownBy w' (some g) → w'.heap.size = w.heap.size → w'.heap[g]? = some (.cells ((bytesOf v).map (Value.int .u8) ++ zs.toList.drop v.size).toArray t (0, 0)) → wpList P ops Q rest (a.put o.dst (.int .i64 (v.size : Int))) w') : wpList P ops Q (o :: rest) a w := by
  have hbl : (bytesOf v).length = v.size := bytesOf_length v
  have hst := run_storeCells_at P g 0 t ((bytesOf v).map (Value.int .u8)) 0 zs w hb (by simp [hbl]; omega) (fun u hu => by obtain ⟨x, _, rfl⟩ := List.mem_map.1 hu; rfl)
  have he : (zs.toList.take (0 + 0) ++ (bytesOf v).map (Value.int .u8) ++ zs.toList.drop (0 + 0 + ((bytesOf v).map (Value.int .u8)).length)).toArray = ((bytesOf v).map (Value.int .u8) ++ zs.toList.drop v.size).toArray := by
    simp [hbl]
  rw [he] at hst
  refine wpList_plain hgd fun K hK => ?_
  have hm : v.data.toList.map (fun b => Value.int .u8 (b.toNat : Int)) = (bytesOf v).map (Value.int .u8) := by
    unfold bytesOf
    rw [List.map_map]
    rfl
  have hrun : (Builtin.copy_ #[dT, sT] o.type #[.slice (some ⟨g, 0, none⟩) n c, .string v]).run P w = .ok (.int .i64 (v.size : Int)) (w.setRow g ((bytesOf v).map (Value.int .u8) ++ zs.toList.drop v.size).toArray) := by
    cases hq : P.info? e with
    | none => simp [hq] at hs
    | some i =>
      have hmin : Nat.min v.size n = v.size := Nat.min_eq_left hl
      simp only [Builtin.copy_, Sem.run_bind, Sem.run_pure, run_underlying hu, Builtin.lenOf, Builtin.firstCells, sizeOf, typeInfo, hq, Result.andThen_ok, hmin, List.getElem?_toArray, List.getElem?_cons_zero, List.getElem?_cons_succ]
      simp [goInt, Result.andThen, hq]
      rw [hm, hst]
  unfold Oper.wp execOp
  simp only [ho, resolve, invoke, builtin, Sem.run_bind, Sem.run_pure, Result.andThen_ok, List.map_toArray, List.map_cons, List.map_nil, hd, hv, hrun]
  exact hK _ _ (h _ ⟨rfl, rfl, rfl, by simp, fun i _ hi => setRow_other w g i _ (fun e => hi (by rw [e]))⟩ (by simp) (setRow_heap w g zs _ t (0, 0) hb))
theorem wpList_mapPut {ops : Array Oper} {rest : List Oper} {o : Oper} {a : Act} {w : World} {Q : Exit → Act → World → Prop} (hgd : o.guard = none) (m x v : Operand) (t : TypeId) (hop : o.op = Op.mapUpdate t m x v)
    (k e : TypeId) (K : Keyed P k) (ht : P.underlying t = some (.map k e)) (b : Nat) (l : List (Value × Value)) (hm : a.eval m = .map (some b)) (hM : IsMap P k w b l) (key val : Value) (q : Lit) (hx : a.eval x = key) (hv : a.eval v = val) (hk : keyOf P k key = some q)
    (h : ∀ w', w.grownBy w' (some b) → w'.heap.size = w.heap.size → ((∃ u l', l.Perm ((key, u) :: l') ∧ IsMap P k w' b ((key, val) :: l')) ∨ ((∀ p ∈ l, p.1 ≠ key) ∧ IsMap P k w' b ((key, val) :: l))) → wpList P ops Q rest (a.put o.dst undef) w') : wpList P ops Q (o :: rest) a w := by
  refine wpList_plain hgd fun K' hK' => ?_
  obtain ⟨w', hrun, r1, r2, r3⟩ := hM.put K ht hk val
  unfold Oper.wp
  simp [execOp, hop, hm, hx, hv, hrun, Result.andThen]
  exact hK' _ _ (h w' r1 r2 r3)
end
end Go.Proofs.YtgmaedngkhidlaaDoor.Sf
-- SfA
namespace Go.Proofs.YtgmaedngkhidlaaDoor.Sf
set_option linter.unusedVariables false
def cmpL : List Int → List Int → Int
  | [], [] => 0
  | [], _ :: _ => -1
  | _ :: _, [] => 1
  | x :: xs, y :: ys => if x < y then -1 else if y < x then 1 else cmpL xs ys
theorem cmpL_three : ∀ a b, cmpL a b = -1 ∨ cmpL a b = 0 ∨ cmpL a b = 1
  | [], [] => by simp [cmpL]
  | [], _ :: _ => by simp [cmpL]
  | _ :: _, [] => by simp [cmpL]
  | x :: xs, y :: ys => by
    unfold cmpL
    split
    · exact .inl rfl
    · split
      · exact .inr (.inr rfl)
      · exact cmpL_three xs ys
theorem cmpL_self : ∀ a, cmpL a a = 0
  | [] => rfl
  | x :: xs => by unfold cmpL; rw [if_neg (by omega), if_neg (by omega)]; exact cmpL_self xs
theorem cmpL_eq : ∀ {a b}, cmpL a b = 0 → a = b
  | [], [], _ => rfl
  | [], _ :: _, h => by simp [cmpL] at h
  | _ :: _, [], h => by simp [cmpL] at h
  | x :: xs, y :: ys, h => by
    unfold cmpL at h
    split at h
    · cases h
    · split at h
      · cases h
      · rw [cmpL_eq h, show x = y by omega]
theorem cmpL_swap : ∀ a b, cmpL b a = - cmpL a b
  | [], [] => rfl
  | [], _ :: _ => rfl
  | _ :: _, [] => rfl
  | x :: xs, y :: ys => by
    unfold cmpL
    by_cases h1 : x < y
    · rw [if_neg (by omega), if_pos h1, if_pos h1]; rfl
    · by_cases h2 : y < x
      · rw [if_pos h2, if_neg h1, if_pos h2]
      · rw [if_neg h2, if_neg h1, if_neg h1, if_neg h2]; exact cmpL_swap xs ys
theorem cmpL_trans : ∀ {a b c}, cmpL a b < 0 → cmpL b c < 0 → cmpL a c < 0
  | [], [], _, h, _ => by simp [cmpL] at h
  | [], _ :: _, [], _, h => by simp [cmpL] at h
  | [], _ :: _, _ :: _, _, _ => by simp [cmpL]
  | _ :: _, [], _, h, _ => by simp [cmpL] at h
  | _ :: _, _ :: _, [], _, h => by simp [cmpL] at h
  | x :: xs, y :: ys, z :: zs, h, k => by
    unfold cmpL at h k ⊢
    by_cases h1 : x < y
    · by_cases k1 : y < z
      · rw [if_pos (by omega)]; decide
      · rw [if_neg k1] at k
        by_cases k2 : z < y
        · rw [if_pos k2] at k; exact absurd k (by decide)
        · rw [if_pos (by omega)]; decide
    · rw [if_neg h1] at h
      by_cases h2 : y < x
      · rw [if_pos h2] at h; exact absurd h (by decide)
      · rw [if_neg h2] at h
        have e : x = y := by omega
        subst e
        by_cases k1 : x < z
        · rw [if_pos k1]; decide
        · rw [if_neg k1] at k ⊢
          by_cases k2 : z < x
          · rw [if_pos k2] at k; exact absurd k (by decide)
          · rw [if_neg k2] at k ⊢; exact cmpL_trans h k
theorem cmpL_ne {a b : List Int} (h : cmpL a b < 0) : a ≠ b := fun e => by rw [e, cmpL_self] at h; exact absurd h (by decide)
theorem cmpL_else {a b : List Int} (h : ¬ cmpL a b < 0) (hne : a ≠ b) : cmpL b a < 0 := by
  rw [cmpL_swap]
  rcases cmpL_three a b with e | e | e
  · rw [e] at h; exact absurd (by decide) h
  · exact absurd (cmpL_eq e) hne
  · rw [e]; decide
def nameLen : List Int → Nat
  | [] => 0
  | x :: xs => if nameLen xs = 0 then (if x = 0 then 0 else 1) else nameLen xs + 1
theorem nameLen_le : ∀ k, nameLen k ≤ k.length
  | [] => Nat.le_refl _
  | x :: xs => by
    have := nameLen_le xs
    unfold nameLen
    rw [List.length_cons]
    split
    · split <;> omega
    · omega
def keyB (k : List Int) : Bool := decide (1 ≤ nameLen k) && (k.take (nameLen k)).all fun x => decide (x ≠ 0)
structure Cel where
  key : List Int
  ver : Int
  val : ByteArray
structure Don where
  client : Int
  seq : Int
  ver : Int
structure Rc where
  idx : Int
  epoch : Int
  key : List Int
  ver : Int
  val : ByteArray
  client : Int
  seq : Int
structure Tab where
  idx : Int
  epoch : Int
  cells : List Cel
  done : List Don
structure Sh where
  T : Tab
  R : List Rc
  C : Int
def insC (x : Cel) : List Cel → List Cel
  | [] => [x]
  | c :: r => if cmpL c.key x.key < 0 then c :: insC x r else if c.key = x.key then x :: r else x :: c :: r
def insD (x : Don) : List Don → List Don
  | [] => [x]
  | d :: r => if d.client < x.client then d :: insD x r else if d.client = x.client then x :: r else x :: d :: r
def zK : List Int := [0, 0, 0, 0, 0, 0, 0, 0]
def zC : Cel := ⟨zK, 0, ⟨#[]⟩⟩
def zD : Don := ⟨0, 0, 0⟩
def zR : Rc := ⟨0, 0, zK, 0, ⟨#[]⟩, 0, 0⟩
def getC (l : List Cel) (k : List Int) : Option Cel := l.find? fun c => decide (c.key = k)
def getD (l : List Don) (n : Int) : Option Don := l.find? fun d => decide (d.client = n)
def lookC (l : List Cel) (k : List Int) : Cel := (getC l k).getD zC
def lookD (l : List Don) (n : Int) : Don := (getD l n).getD zD
def Rc.cel (x : Rc) : Cel := ⟨x.key, x.ver, x.val⟩
def Rc.don (x : Rc) : Don := ⟨x.client, x.seq, x.ver⟩
def putT (t : Tab) (x : Rc) : Tab := ⟨x.idx, x.epoch, insC x.cel t.cells, insD x.don t.done⟩
def upT (t : Tab) (l : List Rc) : Tab := l.foldl putT t
theorem upT_append (t : Tab) (l m : List Rc) : upT t (l ++ m) = upT (upT t l) m := by unfold upT; rw [List.foldl_append]
theorem upT_snoc (t : Tab) (l : List Rc) (x : Rc) : upT t (l ++ [x]) = putT (upT t l) x := by rw [upT_append]; rfl
def UpC (l : List Cel) : Prop := l.Pairwise fun a b => cmpL a.key b.key < 0
def UpD (l : List Don) : Prop := l.Pairwise fun a b => a.client < b.client
theorem mem_insC {x c : Cel} : ∀ {l : List Cel}, c ∈ insC x l → c = x ∨ c ∈ l
  | [], h => by simp [insC] at h; exact .inl h
  | d :: r, h => by
    unfold insC at h
    split at h
    · rcases List.mem_cons.1 h with h | h
      · exact .inr (by rw [h]; exact List.mem_cons_self ..)
      · rcases mem_insC h with h | h
        · exact .inl h
        · exact .inr (List.mem_cons_of_mem _ h)
    · split at h
      · rcases List.mem_cons.1 h with h | h
        · exact .inl h
        · exact .inr (List.mem_cons_of_mem _ h)
      · rcases List.mem_cons.1 h with h | h
        · exact .inl h
        · exact .inr h
theorem insC_up {x : Cel} : ∀ {l : List Cel}, UpC l → UpC (insC x l)
  | [], _ => by simp [insC, UpC]
  | d :: r, h => by
    obtain ⟨h1, h2⟩ := List.pairwise_cons.1 h
    unfold insC
    split
    · rename_i hlt
      refine List.pairwise_cons.2 ⟨fun c hc => ?_, insC_up h2⟩
      rcases mem_insC hc with rfl | hc
      · exact hlt
      · exact h1 c hc
    · rename_i hge
      split
      · rename_i he
        exact List.pairwise_cons.2 ⟨fun c hc => by rw [← he]; exact h1 c hc, h2⟩
      · rename_i hne
        have hlt := cmpL_else hge hne
        refine List.pairwise_cons.2 ⟨fun c hc => ?_, h⟩
        rcases List.mem_cons.1 hc with rfl | hc
        · exact hlt
        · exact cmpL_trans hlt (h1 c hc)
theorem insC_perm {x : Cel} : ∀ {l : List Cel}, UpC l → (insC x l).Perm (x :: l.filter fun c => decide (c.key ≠ x.key))
  | [], _ => by simp [insC]
  | d :: r, h => by
    obtain ⟨h1, h2⟩ := List.pairwise_cons.1 h
    unfold insC
    split
    · rename_i hlt
      rw [List.filter_cons_of_pos (by simpa using cmpL_ne hlt)]
      exact ((insC_perm h2).cons d).trans (List.Perm.swap ..)
    · rename_i hge
      have hall : ∀ q, (∀ c ∈ r, cmpL q c.key < 0) → (cmpL q x.key < 0 → False) → r.filter (fun c => decide (c.key ≠ x.key)) = r := by
        intro q hq hqx
        refine List.filter_eq_self.2 fun c hc => ?_
        have h3 := hq c hc
        exact decide_eq_true fun e => hqx (by rw [← e]; exact h3)
      split
      · rename_i he
        rw [List.filter_cons_of_neg (by simpa using he), hall d.key h1 hge]
      · rename_i hne
        rw [List.filter_cons_of_pos (by simpa using hne), hall d.key h1 hge]
theorem getC_some {l : List Cel} {k : List Int} {c : Cel} (h : getC l k = some c) : c ∈ l ∧ c.key = k := by
  have := List.find?_some h
  exact ⟨List.mem_of_find?_eq_some h, by simpa using this⟩
theorem getC_mem {l : List Cel} (hu : UpC l) {c : Cel} (hc : c ∈ l) : getC l c.key = some c := by
  induction l with
  | nil => cases hc
  | cons d r ih =>
    obtain ⟨h1, h2⟩ := List.pairwise_cons.1 hu
    unfold getC
    rcases List.mem_cons.1 hc with rfl | hc
    · rw [List.find?_cons_of_pos (by simp)]
    · rw [List.find?_cons_of_neg (by simpa using cmpL_ne (h1 c hc))]
      exact ih h2 hc
theorem insC_len {x : Cel} {l : List Cel} (hu : UpC l) : (insC x l).length = if (getC l x.key).isSome then l.length else l.length + 1 := by
  induction l with
  | nil => simp [insC, getC]
  | cons d r ih =>
    obtain ⟨h1, h2⟩ := List.pairwise_cons.1 hu
    unfold insC
    split
    · rename_i hlt
      rw [List.length_cons, ih h2]
      unfold getC
      rw [List.find?_cons_of_neg (by simpa using cmpL_ne hlt), List.length_cons]
      split <;> rfl
    · rename_i hge
      split
      · rename_i he
        unfold getC
        rw [List.find?_cons_of_pos (by simpa using he)]
        simp
      · rename_i hne
        have : getC (d :: r) x.key = none := by
          refine List.find?_eq_none.2 fun c hc => ?_
          rcases List.mem_cons.1 hc with rfl | hc
          · simpa using hne
          · have h3 := h1 c hc
            simpa using fun e => hge (by rw [← e]; exact h3)
        rw [this]
        simp
theorem mem_insD {x c : Don} : ∀ {l : List Don}, c ∈ insD x l → c = x ∨ c ∈ l
  | [], h => by simp [insD] at h; exact .inl h
  | d :: r, h => by
    unfold insD at h
    split at h
    · rcases List.mem_cons.1 h with h | h
      · exact .inr (by rw [h]; exact List.mem_cons_self ..)
      · rcases mem_insD h with h | h
        · exact .inl h
        · exact .inr (List.mem_cons_of_mem _ h)
    · split at h
      · rcases List.mem_cons.1 h with h | h
        · exact .inl h
        · exact .inr (List.mem_cons_of_mem _ h)
      · rcases List.mem_cons.1 h with h | h
        · exact .inl h
        · exact .inr h
theorem insD_up {x : Don} : ∀ {l : List Don}, UpD l → UpD (insD x l)
  | [], _ => by simp [insD, UpD]
  | d :: r, h => by
    obtain ⟨h1, h2⟩ := List.pairwise_cons.1 h
    unfold insD
    split
    · rename_i hlt
      refine List.pairwise_cons.2 ⟨fun c hc => ?_, insD_up h2⟩
      rcases mem_insD hc with rfl | hc
      · exact hlt
      · exact h1 c hc
    · split
      · rename_i he
        exact List.pairwise_cons.2 ⟨fun c hc => by rw [← he]; exact h1 c hc, h2⟩
      · refine List.pairwise_cons.2 ⟨fun c hc => ?_, h⟩
        rcases List.mem_cons.1 hc with rfl | hc
        · omega
        · have := h1 c hc; omega
theorem insD_perm {x : Don} : ∀ {l : List Don}, UpD l → (insD x l).Perm (x :: l.filter fun c => decide (c.client ≠ x.client))
  | [], _ => by simp [insD]
  | d :: r, h => by
    obtain ⟨h1, h2⟩ := List.pairwise_cons.1 h
    unfold insD
    split
    · rename_i hlt
      rw [List.filter_cons_of_pos (by simp; omega)]
      exact ((insD_perm h2).cons d).trans (List.Perm.swap ..)
    · rename_i hge
      have hall : r.filter (fun c => decide (c.client ≠ x.client)) = r :=
        List.filter_eq_self.2 fun c hc => decide_eq_true (by have := h1 c hc; omega)
      split
      · rename_i he
        rw [List.filter_cons_of_neg (by simpa using he), hall]
      · rename_i hne
        rw [List.filter_cons_of_pos (by simpa using hne), hall]
theorem getD_some {l : List Don} {k : Int} {c : Don} (h : getD l k = some c) : c ∈ l ∧ c.client = k := by
  have := List.find?_some h
  exact ⟨List.mem_of_find?_eq_some h, by simpa using this⟩
theorem getD_none {l : List Don} {k : Int} (h : getD l k = none) : ∀ c ∈ l, c.client ≠ k := by
  intro c hc e
  have := List.find?_eq_none.1 h c hc
  simp [e] at this
theorem getD_mem {l : List Don} (hu : UpD l) {c : Don} (hc : c ∈ l) : getD l c.client = some c := by
  induction l with
  | nil => cases hc
  | cons d r ih =>
    obtain ⟨h1, h2⟩ := List.pairwise_cons.1 hu
    unfold getD
    rcases List.mem_cons.1 hc with rfl | hc
    · rw [List.find?_cons_of_pos (by simp)]
    · rw [List.find?_cons_of_neg (by have := h1 c hc; simp; omega)]
      exact ih h2 hc
end Go.Proofs.YtgmaedngkhidlaaDoor.Sf
-- SfB
namespace Go.Proofs.YtgmaedngkhidlaaDoor.Sf
set_option linter.unusedVariables false
def u8ok (v : ByteArray) : Bool := Go.Lib.validD v.data.toList
def rightB (k : List Int) (v : ByteArray) : Bool := keyB k && (decide (1 ≤ v.size) && (decide (v.size ≤ 24) && u8ok v))
def reqB (client seq : Int) : Bool := decide (0 ≤ client) && (decide (client < 4) && (decide (1 ≤ seq) && decide (seq ≤ 1099511627776)))
theorem reqB_iff {c s : Int} : reqB c s = true ↔ 0 ≤ c ∧ c < 4 ∧ 1 ≤ s ∧ s ≤ 1099511627776 := by simp [reqB]
def sumV (l : List Cel) : Int := (l.map fun c => c.ver).sum
def celB (idx : Int) (l : List Cel) (i : Nat) : Bool :=
  let c := l.getD i zC
  rightB c.key c.val && (decide (1 ≤ c.ver) && (decide (c.ver ≤ idx) && (decide (i = 0) || decide (cmpL (l.getD (i - 1) zC).key c.key < 0))))
def donB (idx : Int) (l : List Don) (i : Nat) : Bool :=
  let d := l.getD i zD
  reqB d.client d.seq && (decide (1 ≤ d.ver) && (decide (d.ver ≤ idx) && (decide (i = 0) || decide ((l.getD (i - 1) zD).client < d.client))))
def headB (t : Tab) : Bool := decide (0 ≤ t.idx ∧ t.idx ≤ 1099511627776 ∧ 0 ≤ t.epoch ∧ t.epoch ≤ 1099511627776 ∧ (t.idx = 0 ↔ t.epoch = 0) ∧ t.cells.length ≤ 12 ∧ t.done.length ≤ 4)
def checkB (t : Tab) : Bool := headB t && ((List.range t.cells.length).all (celB t.idx t.cells) && ((List.range t.done.length).all (donB t.idx t.done) && (decide (sumV t.cells = t.idx) && (decide (t.idx ≤ 0) || decide (t.done ≠ [])))))
def checkP (t : Tab) : Int := if checkB t = true then 0 else 140
structure TabOk (t : Tab) : Prop where
  idx : 0 ≤ t.idx ∧ t.idx ≤ 1099511627776
  epoch : 0 ≤ t.epoch ∧ t.epoch ≤ 1099511627776
  both : t.idx = 0 ↔ t.epoch = 0
  many : t.cells.length ≤ 12
  four : t.done.length ≤ 4
  cell : ∀ c ∈ t.cells, rightB c.key c.val = true ∧ 1 ≤ c.ver ∧ c.ver ≤ t.idx
  up : UpC t.cells
  don : ∀ d ∈ t.done, reqB d.client d.seq = true ∧ 1 ≤ d.ver ∧ d.ver ≤ t.idx
  upd : UpD t.done
  sum : sumV t.cells = t.idx
  some : 0 < t.idx → t.done ≠ []
theorem up_of {α : Type} (z : α) (lt : α → α → Prop) (tr : ∀ {a b c}, lt a b → lt b c → lt a c) : ∀ {l : List α}, (∀ i, i + 1 < l.length → lt (l.getD i z) (l.getD (i + 1) z)) → l.Pairwise lt
  | [], _ => List.Pairwise.nil
  | [a], _ => by simp
  | a :: b :: r, h => by
    have hr : (b :: r).Pairwise lt := up_of z lt tr fun i hi => by
      have := h (i + 1) (by simp at hi ⊢; omega)
      simpa using this
    have hab : lt a b := by have := h 0 (by simp); simpa using this
    refine List.pairwise_cons.2 ⟨fun c hc => ?_, hr⟩
    rcases List.mem_cons.1 hc with rfl | hc
    · exact hab
    · exact tr hab ((List.pairwise_cons.1 hr).1 c hc)
theorem up_at {α : Type} (z : α) {lt : α → α → Prop} {l : List α} (h : l.Pairwise lt) {i j : Nat} (hij : i < j) (hj : j < l.length) : lt (l.getD i z) (l.getD j z) := by
  rw [List.getD_eq_getElem?_getD, List.getD_eq_getElem?_getD, List.getElem?_eq_getElem (by omega), List.getElem?_eq_getElem hj]
  exact List.pairwise_iff_getElem.1 h i j (by omega) hj hij
theorem getD_memL {α : Type} (z : α) {l : List α} {i : Nat} (h : i < l.length) : l.getD i z ∈ l := by
  rw [List.getD_eq_getElem?_getD, List.getElem?_eq_getElem h]; exact List.getElem_mem h
theorem check_iff {t : Tab} : checkB t = true ↔ TabOk t := by
  unfold checkB headB
  simp only [Bool.and_eq_true, decide_eq_true_eq, Bool.or_eq_true, List.all_eq_true, List.mem_range]
  constructor
  · rintro ⟨⟨h1, h2, h3, h4, h5, h6, h7⟩, hc, hd, hs, hn⟩
    have hc' : ∀ i, i < t.cells.length → rightB (t.cells.getD i zC).key (t.cells.getD i zC).val = true ∧ 1 ≤ (t.cells.getD i zC).ver ∧ (t.cells.getD i zC).ver ≤ t.idx ∧ (i = 0 ∨ cmpL (t.cells.getD (i - 1) zC).key (t.cells.getD i zC).key < 0) := fun i hi => by
      have := hc i hi
      unfold celB at this
      simpa only [Bool.and_eq_true, decide_eq_true_eq, Bool.or_eq_true] using this
    have hd' : ∀ i, i < t.done.length → reqB (t.done.getD i zD).client (t.done.getD i zD).seq = true ∧ 1 ≤ (t.done.getD i zD).ver ∧ (t.done.getD i zD).ver ≤ t.idx ∧ (i = 0 ∨ (t.done.getD (i - 1) zD).client < (t.done.getD i zD).client) := fun i hi => by
      have := hd i hi
      unfold donB at this
      simpa only [Bool.and_eq_true, decide_eq_true_eq, Bool.or_eq_true] using this
    refine ⟨⟨h1, h2⟩, ⟨h3, h4⟩, h5, h6, h7, fun c hm => ?_, ?_, fun d hm => ?_, ?_, hs, fun h => hn.resolve_left (by omega)⟩
    · obtain ⟨i, hi, rfl⟩ := List.mem_iff_getElem.1 hm
      have := hc' i hi
      rw [List.getD_eq_getElem?_getD, List.getElem?_eq_getElem hi] at this
      exact ⟨this.1, this.2.1, this.2.2.1⟩
    · refine up_of zC (fun a b => cmpL a.key b.key < 0) (fun h k => cmpL_trans h k) fun i hi => ?_
      rcases (hc' (i + 1) hi).2.2.2 with h | h
      · omega
      · simpa using h
    · obtain ⟨i, hi, rfl⟩ := List.mem_iff_getElem.1 hm
      have := hd' i hi
      rw [List.getD_eq_getElem?_getD, List.getElem?_eq_getElem hi] at this
      exact ⟨this.1, this.2.1, this.2.2.1⟩
    · refine up_of zD (fun a b => a.client < b.client) (fun h k => by omega) fun i hi => ?_
      rcases (hd' (i + 1) hi).2.2.2 with h | h
      · omega
      · simpa using h
  · intro h
    refine ⟨⟨h.idx.1, h.idx.2, h.epoch.1, h.epoch.2, h.both, h.many, h.four⟩, fun i hi => ?_, fun i hi => ?_, h.sum, ?_⟩
    · unfold celB
      simp only [Bool.and_eq_true, decide_eq_true_eq, Bool.or_eq_true]
      have := h.cell _ (getD_memL zC hi)
      refine ⟨this.1, this.2.1, this.2.2, ?_⟩
      rcases Nat.eq_zero_or_pos i with e | e
      · exact .inl e
      · exact .inr (up_at zC h.up (by omega) hi)
    · unfold donB
      simp only [Bool.and_eq_true, decide_eq_true_eq, Bool.or_eq_true]
      have := h.don _ (getD_memL zD hi)
      refine ⟨this.1, this.2.1, this.2.2, ?_⟩
      rcases Nat.eq_zero_or_pos i with e | e
      · exact .inl e
      · exact .inr (up_at zD h.upd (by omega) hi)
    · by_cases hz : t.idx ≤ 0
      · exact .inl hz
      · exact .inr (h.some (by omega))
theorem check_ok {t : Tab} : checkP t = 0 ↔ TabOk t := by
  unfold checkP
  rw [← check_iff]
  split
  · rename_i h; simp [h]
  · rename_i h; simp [h]
def mayP (t : Tab) (x : Rc) : Int :=
  if x.idx ≠ t.idx + 1 ∨ 1099511627776 < x.idx then 90
  else if x.epoch < 1 ∨ 1099511627776 < x.epoch ∨ x.epoch < t.epoch then 150
  else if rightB x.key x.val = false then 91
  else if reqB x.client x.seq = false then 1
  else if x.seq ≤ (lookD t.done x.client).seq then 153
  else if x.ver ≠ (lookC t.cells x.key).ver + 1 then 90
  else if (getC t.cells x.key).isSome = false ∧ 12 ≤ t.cells.length then 7
  else 0
structure May (t : Tab) (x : Rc) : Prop where
  idx : x.idx = t.idx + 1
  far : x.idx ≤ 1099511627776
  epoch : 1 ≤ x.epoch ∧ x.epoch ≤ 1099511627776 ∧ t.epoch ≤ x.epoch
  right : rightB x.key x.val = true
  req : reqB x.client x.seq = true
  seq : (lookD t.done x.client).seq < x.seq
  ver : x.ver = (lookC t.cells x.key).ver + 1
  room : (getC t.cells x.key).isSome = true ∨ t.cells.length < 12
theorem may_ok {t : Tab} {x : Rc} : mayP t x = 0 ↔ May t x := by
  unfold mayP
  constructor
  · intro h
    split at h
    · cases h
    · rename_i h1
      split at h
      · cases h
      · rename_i h2
        split at h
        · cases h
        · rename_i h3
          split at h
          · cases h
          · rename_i h4
            split at h
            · cases h
            · rename_i h5
              split at h
              · cases h
              · rename_i h6
                split at h
                · cases h
                · rename_i h7
                  refine ⟨by omega, by omega, by omega, by simpa using h3, by simpa using h4, by omega, by omega, ?_⟩
                  by_cases e : (getC t.cells x.key).isSome = true
                  · exact .inl e
                  · exact .inr (by
                      have : ¬ 12 ≤ t.cells.length := fun k => h7 ⟨by simpa using e, k⟩
                      omega)
  · intro h
    have h1 := h.idx; have h2 := h.far; have h3 := h.epoch; have h5 := h.seq; have h6 := h.ver
    rw [if_neg (by omega), if_neg (by omega), if_neg (by rw [h.right]; decide), if_neg (by rw [h.req]; decide), if_neg (by omega), if_neg (by omega), if_neg]
    rintro ⟨k1, k2⟩
    rcases h.room with e | e
    · rw [e] at k1; cases k1
    · omega
theorem sumV_ins {x : Cel} : ∀ {l : List Cel}, UpC l → x.ver = (lookC l x.key).ver + 1 → sumV (insC x l) = sumV l + 1
  | [], _, hv => by
    have : (lookC [] x.key).ver = 0 := rfl
    rw [this] at hv
    simp [insC, sumV, hv]
  | d :: r, hu, hv => by
    obtain ⟨h1, h2⟩ := List.pairwise_cons.1 hu
    unfold insC
    split
    · rename_i hlt
      have e : lookC (d :: r) x.key = lookC r x.key := by
        unfold lookC getC
        rw [List.find?_cons_of_neg (by simpa using cmpL_ne hlt)]
      rw [e] at hv
      have := sumV_ins h2 hv
      unfold sumV at this ⊢
      rw [List.map_cons, List.map_cons, List.sum_cons, List.sum_cons, this]
      omega
    · rename_i hge
      split
      · rename_i he
        have e : lookC (d :: r) x.key = d := by
          unfold lookC getC
          rw [List.find?_cons_of_pos (by simpa using he)]
          rfl
        rw [e] at hv
        unfold sumV
        rw [List.map_cons, List.map_cons, List.sum_cons, List.sum_cons]
        omega
      · rename_i hne
        have e : getC (d :: r) x.key = none := by
          refine List.find?_eq_none.2 fun c hc => ?_
          rcases List.mem_cons.1 hc with rfl | hc
          · simpa using hne
          · simpa using fun e => hge (by rw [← e]; exact h1 c hc)
        have : (lookC (d :: r) x.key).ver = 0 := by unfold lookC; rw [e]; rfl
        rw [this] at hv
        unfold sumV
        rw [List.map_cons, List.sum_cons]
        omega
theorem four_len : ∀ {l : List Don} {a : Int}, UpD l → (∀ d ∈ l, a ≤ d.client ∧ d.client < 4) → a ≤ 4 → (l.length : Int) ≤ 4 - a
  | [], a, _, _, ha => by simp; omega
  | d :: r, a, hu, h, ha => by
    obtain ⟨h1, h2⟩ := List.pairwise_cons.1 hu
    have hd := h d (List.mem_cons_self ..)
    have := four_len (a := d.client + 1) h2 (fun x hx => ⟨by have := h1 x hx; omega, (h x (List.mem_cons_of_mem _ hx)).2⟩) (by omega)
    rw [List.length_cons]
    omega
theorem TabOk.put {t : Tab} {x : Rc} (h : TabOk t) (m : May t x) : TabOk (putT t x) := by
  have hi := h.idx; have he := h.epoch; have h1 := m.idx; have h2 := m.far; have h3 := m.epoch
  have hupd : UpD (insD x.don t.done) := insD_up h.upd
  have hdon : ∀ d ∈ insD x.don t.done, reqB d.client d.seq = true ∧ 1 ≤ d.ver ∧ d.ver ≤ t.idx + 1 := by
    intro d hd
    rcases mem_insD hd with rfl | hd
    · refine ⟨m.req, ?_, ?_⟩
      · show 1 ≤ x.ver
        have := m.ver
        unfold lookC at this
        cases hg : getC t.cells x.key with
        | none => rw [hg] at this; have e : (zC.ver : Int) = 0 := rfl; simp only [Option.getD_none] at this; omega
        | some c => rw [hg] at this; have := (h.cell c (getC_some hg).1).2.1; simp only [Option.getD_some] at *; omega
      · show x.ver ≤ t.idx + 1
        have := m.ver
        unfold lookC at this
        cases hg : getC t.cells x.key with
        | none => rw [hg] at this; have e : (zC.ver : Int) = 0 := rfl; simp only [Option.getD_none] at this; omega
        | some c => rw [hg] at this; have := (h.cell c (getC_some hg).1).2.2; simp only [Option.getD_some] at *; omega
    · have := h.don d hd
      exact ⟨this.1, this.2.1, by omega⟩
  refine ⟨?_, ?_, ?_, ?_, ?_, ?_, insC_up h.up, ?_, hupd, ?_, ?_⟩
  · show 0 ≤ x.idx ∧ x.idx ≤ 1099511627776; omega
  · show 0 ≤ x.epoch ∧ x.epoch ≤ 1099511627776; omega
  · show x.idx = 0 ↔ x.epoch = 0; omega
  · show (insC x.cel t.cells).length ≤ 12
    rw [insC_len h.up]
    have := h.many
    split
    · exact this
    · rename_i e
      rcases m.room with r | r
      · exact absurd r e
      · omega
  · show (insD x.don t.done).length ≤ 4
    have := four_len (a := 0) hupd (fun d hd => by have := reqB_iff.1 (hdon d hd).1; omega) (by omega)
    omega
  · intro c hc
    show _ ∧ _ ∧ c.ver ≤ x.idx
    rcases mem_insC hc with rfl | hc
    · have := hdon x.don (by
        have : (insD x.don t.done).Perm _ := insD_perm h.upd
        exact this.mem_iff.2 (List.mem_cons_self ..))
      exact ⟨m.right, this.2.1, by rw [h1]; exact this.2.2⟩
    · have := h.cell c hc
      exact ⟨this.1, this.2.1, by omega⟩
  · intro d hd
    have := hdon d hd
    exact ⟨this.1, this.2.1, by show d.ver ≤ x.idx; omega⟩
  · show sumV (insC x.cel t.cells) = x.idx
    rw [sumV_ins h.up m.ver, h.sum]; omega
  · intro _ e
    have : (insD x.don t.done).Perm _ := insD_perm h.upd
    have e' : insD x.don t.done = [] := e
    rw [e'] at this
    exact absurd this.length_eq (by simp)
def lastT (s : Sh) : Tab := upT s.T s.R
def endI (s : Sh) : Int := s.T.idx + s.R.length
structure Wf (s : Sh) : Prop where
  tab : TabOk s.T
  chain : ∀ i, (h : i < s.R.length) → May (upT s.T (s.R.take i)) s.R[i]
  lo : s.T.idx ≤ s.C
  hi : s.C ≤ endI s
  len : s.R.length ≤ 24
theorem Wf.at {s : Sh} (h : Wf s) : ∀ i, i ≤ s.R.length → TabOk (upT s.T (s.R.take i)) ∧ (upT s.T (s.R.take i)).idx = s.T.idx + i
  | 0, _ => ⟨by simpa [upT] using h.tab, by simp [upT]⟩
  | i + 1, hi => by
    obtain ⟨h1, h2⟩ := h.at i (by omega)
    have hm := h.chain i (by omega)
    rw [List.take_succ_eq_append_getElem (by omega), upT_snoc]
    refine ⟨h1.put hm, ?_⟩
    show (s.R[i]).idx = _
    rw [hm.idx, h2]; omega
theorem Wf.last {s : Sh} (h : Wf s) : TabOk (lastT s) ∧ (lastT s).idx = endI s := by
  have := h.at s.R.length (Nat.le_refl _)
  rw [List.take_length] at this
  exact this
theorem Wf.new {t : Tab} (h : TabOk t) : Wf ⟨t, [], t.idx⟩ := ⟨h, fun i hi => absurd hi (by simp), by simp, by simp [endI], by simp⟩
def addP (s : Sh) (x : Rc) : Sh × Int := if mayP (lastT s) x ≠ 0 then (s, mayP (lastT s) x) else if 24 ≤ s.R.length then (s, 7) else (⟨s.T, s.R ++ [x], s.C⟩, 0)
def nextR (s : Sh) (epoch : Int) (k : List Int) (v : ByteArray) (client seq : Int) : Rc := ⟨endI s + 1, epoch, k, (lookC (lastT s).cells k).ver + 1, v, client, seq⟩
def nextP (s : Sh) (epoch : Int) (k : List Int) (v : ByteArray) (client seq : Int) : Rc × Int :=
  if mayP (lastT s) (nextR s epoch k v client seq) ≠ 0 then (zR, mayP (lastT s) (nextR s epoch k v client seq)) else if 8 ≤ endI s - s.C then (zR, 7) else (nextR s epoch k v client seq, 0)
def settleP (s : Sh) (i : Int) : Sh × Int := if i < s.C ∨ endI s < i then (s, 90) else (⟨s.T, s.R, i⟩, 0)
theorem Wf.add {s : Sh} (h : Wf s) (x : Rc) : Wf (addP s x).1 := by
  unfold addP
  split
  · exact h
  · rename_i hm
    split
    · exact h
    · rename_i hl
      have hm' : May (lastT s) x := may_ok.1 (by simpa using hm)
      refine ⟨h.tab, fun i hi => ?_, h.lo, ?_, ?_⟩
      · have hi' : i < (s.R ++ [x]).length := hi
        rw [List.length_append, List.length_singleton] at hi'
        show May (upT s.T ((s.R ++ [x]).take i)) (s.R ++ [x])[i]
        rcases Nat.lt_or_ge i s.R.length with hlt | hge
        · rw [List.take_append_of_le_length (by omega), List.getElem_append_left hlt]
          exact h.chain i hlt
        · obtain rfl : i = s.R.length := by omega
          rw [List.take_left, List.getElem_append_right (by omega)]
          simp only [Nat.sub_self, List.getElem_cons_zero]
          exact hm'
      · have := h.hi
        unfold endI at this ⊢
        show s.C ≤ s.T.idx + ((s.R ++ [x]).length : Int)
        rw [List.length_append, List.length_singleton]; omega
      · show (s.R ++ [x]).length ≤ 24
        rw [List.length_append, List.length_singleton]; omega
theorem Wf.settle {s : Sh} (h : Wf s) (i : Int) : Wf (settleP s i).1 := by
  unfold settleP
  split
  · exact h
  · rename_i hc
    have h1 := h.lo; have h2 := h.hi
    exact ⟨h.tab, h.chain, by show s.T.idx ≤ i; omega, by show i ≤ endI s; omega, h.len⟩
structure Dq where
  op : Int
  epoch : Int
  i : Int
  near : Bool
  key : List Int
  val : ByteArray
  client : Int
  seq : Int
  x : Rc
def placeP (k : Dq) (O commit last : Int) : Int := if k.near = false then k.i else if O = 4 then last - k.i % 4 else commit + (k.i % 18446744073709551616) % 5 - 1
end Go.Proofs.YtgmaedngkhidlaaDoor.Sf
-- SfK
namespace Go.Proofs.YtgmaedngkhidlaaDoor.Sf
open Go Go.RowKit Go.ChangeMaps Go.MapKept Go.Proofs.YtgmaedngkhidlaaDoorW.PrintWords Go.Proofs.YtgmaedngkhidlaaDoorW.PrintLast Go.Proofs.YtgmaedngkhidlaaDoorW.PrintMore
open Go.Maps (Keyed)
set_option linter.unusedVariables false
theorem mapM_some {α β : Type} {f : α → Option β} : ∀ {l : List α}, (∀ a ∈ l, ∃ b, f a = some b) → ∃ bs, l.mapM f = some bs
  | [], _ => ⟨[], rfl⟩
  | a :: l, h => by
    obtain ⟨b, hb⟩ := h a (List.mem_cons_self ..)
    obtain ⟨bs, hbs⟩ := mapM_some fun x hx => h x (List.mem_cons_of_mem _ hx)
    exact ⟨b :: bs, by simp [List.mapM_cons, hb, hbs]⟩
theorem keyOf_arr {P : Program} {k e : TypeId} {q : IntKind} {n : Nat} (hk : P.underlying k = some (.array n e)) (he : P.underlying e = some (.int q)) (hce : P.cellsOf e = 1) (hck : P.cellsOf k = n) (hkt : P.keyType k = true) (hsz : ∃ m, P.types.size = m + 1)
    {xs : List Int} (hl : xs.length = n) (hw : ∀ x ∈ xs, (Lit.int q x).wf = true) : ∃ l, keyOf P k (.agg (xs.map (Value.int q)).toArray) = some l := by
  obtain ⟨m, hm⟩ := hsz
  have hf : (Value.agg (xs.map (Value.int q)).toArray).formed P k = true := by simp [Value.formed, hk, hck, hl]
  unfold keyOf
  rw [hk]
  simp only [hkt, hf, Bool.and_self, if_true, Value.cells]
  rw [hm]
  unfold Program.keyLits
  rw [hk]
  simp only [List.length_map, hl, hck, if_true, hce]
  obtain ⟨bs, hbs⟩ := mapM_some (f := fun i => P.keyLits (m + 1) e (((xs.map (Value.int q)).drop (i * 1)).take 1)) (l := List.range n) (fun i hi => by
    have hi' : i < xs.length := by rw [hl]; exact List.mem_range.1 hi
    have e1 : ((xs.map (Value.int q)).drop (i * 1)).take 1 = [.int q xs[i]] := by
      rw [Nat.mul_one, List.drop_eq_getElem_cons (by simpa using hi')]
      simp
    rw [e1]
    unfold Program.keyLits
    rw [he]
    exact ⟨[.int q xs[i]], by simp [hw _ (List.getElem_mem hi')]⟩)
  rw [hbs]
  exact ⟨_, rfl⟩
theorem laidOutK : laidOutB Tryd.prog = true := by kernel_rfl
theorem keyedK : Keyed Tryd.prog 28 := Keyed.of_law (deep_law_laid laidOutK (m := 9) (by decide) (of_decide_eq_true (by kernel_rfl)) (by kernel_rfl) (by kernel_rfl))
theorem keyedI : Keyed Tryd.prog 3 := Maps.int_keyed Tryd.underlying3
theorem mapC : Tryd.prog.underlying 81 = some (.map 28 45) := by kernel_rfl
theorem mapD : Tryd.prog.underlying 82 = some (.map 3 58) := by kernel_rfl
theorem zeroC (w : World) : (zeroValue 45).run Tryd.prog w = .ok (.agg #[.int .u8 0, .int .u8 0, .int .u8 0, .int .u8 0, .int .u8 0, .int .u8 0, .int .u8 0, .int .u8 0, .int .i64 0, .string ⟨#[]⟩]) w := by kernel_rfl
theorem zeroD (w : World) : (zeroValue 58).run Tryd.prog w = .ok (.agg #[.int .i64 0, .int .i64 0, .int .i64 0]) w := by kernel_rfl
theorem aggK : AggT Tryd.prog 28 8 := ⟨⟨_, Tryd.underlying28, rfl⟩, by kernel_rfl⟩
theorem aggC : AggT Tryd.prog 45 10 := ⟨⟨_, Tryd.underlying45, rfl⟩, by kernel_rfl⟩
theorem aggD : AggT Tryd.prog 58 3 := ⟨⟨_, Tryd.underlying58, rfl⟩, by kernel_rfl⟩
theorem aggR : AggT Tryd.prog 32 14 := ⟨⟨_, Tryd.underlying32, rfl⟩, by kernel_rfl⟩
theorem aggQ : AggT Tryd.prog 30 2 := ⟨⟨_, Tryd.underlying30, rfl⟩, by kernel_rfl⟩
theorem aggS : AggT Tryd.prog 84 2 := ⟨⟨_, Tryd.underlying84, rfl⟩, by kernel_rfl⟩
def encK (k : List Int) : List Value := k.map (Value.int .u8)
def encC (c : Cel) : List Value := encK c.key ++ [.int .i64 c.ver, .string c.val]
def encD (d : Don) : List Value := [.int .i64 d.client, .int .i64 d.seq, .int .i64 d.ver]
def encR (x : Rc) : List Value := [.int .i64 x.idx, .int .i64 x.epoch] ++ encK x.key ++ [.int .i64 x.ver, .string x.val, .int .i64 x.client, .int .i64 x.seq]
abbrev vK (k : List Int) : Value := .agg (encK k).toArray
abbrev vC (c : Cel) : Value := .agg (encC c).toArray
abbrev vD (d : Don) : Value := .agg (encD d).toArray
abbrev vR (x : Rc) : Value := .agg (encR x).toArray
structure KeyL (k : List Int) : Prop where
  len : k.length = 8
  byte : ∀ x ∈ k, 0 ≤ x ∧ x < 256
theorem keyL_zero : KeyL zK := ⟨rfl, by decide⟩
theorem encK_len {k : List Int} (h : k.length = 8) : (encK k).length = 8 := by unfold encK; rw [List.length_map, h]
theorem encC_len {c : Cel} (h : c.key.length = 8) : (encC c).length = 10 := by unfold encC; rw [List.length_append, encK_len h]; rfl
theorem encR_len {x : Rc} (h : x.key.length = 8) : (encR x).length = 14 := by unfold encR; rw [List.length_append, List.length_append, encK_len h]; rfl
theorem encK_one (k : List Int) : ∀ v ∈ encK k, v.oneCell' = true := by
  intro v hv
  obtain ⟨x, _, rfl⟩ := List.mem_map.1 hv
  rfl
theorem encC_one (c : Cel) : ∀ v ∈ encC c, v.oneCell' = true := by
  intro v hv
  rcases List.mem_append.1 hv with hv | hv
  · exact encK_one _ v hv
  · simp only [List.mem_cons, List.mem_nil_iff, or_false] at hv
    rcases hv with rfl | rfl <;> rfl
theorem encD_one (d : Don) : ∀ v ∈ encD d, v.oneCell' = true := by
  intro v hv
  simp only [encD, List.mem_cons, List.mem_nil_iff, or_false] at hv
  rcases hv with rfl | rfl | rfl <;> rfl
theorem encR_one (x : Rc) : ∀ v ∈ encR x, v.oneCell' = true := by
  intro v hv
  rcases List.mem_append.1 hv with hv | hv
  · rcases List.mem_append.1 hv with hv | hv
    · simp only [List.mem_cons, List.mem_nil_iff, or_false] at hv
      rcases hv with rfl | rfl <;> rfl
    · exact encK_one _ v hv
  · simp only [List.mem_cons, List.mem_nil_iff, or_false] at hv
    rcases hv with rfl | rfl | rfl | rfl <;> rfl
theorem encK_inj {a b : List Int} (h : encK a = encK b) : a = b := by
  unfold encK at h
  exact (List.map_inj_right (fun x y e => by injection e)).1 h
theorem vK_inj {a b : List Int} (h : vK a = vK b) : a = b := by
  injection h with h
  exact encK_inj (List.toArray_inj h)
theorem byte_wf {x : Int} (h : 0 ≤ x ∧ x < 256) : (Lit.int .u8 x).wf = true := by
  simp only [Lit.wf, decide_eq_true_eq, IntKind.min, IntKind.max]
  simp [IntKind.signed, IntKind.bits]
  omega
theorem key_some {k : List Int} (h : KeyL k) : ∃ q, keyOf Tryd.prog 28 (vK k) = some q :=
  keyOf_arr (P := Tryd.prog) (e := 5) (q := .u8) (n := 8) (by kernel_rfl) Tryd.underlying5 (by kernel_rfl) (by kernel_rfl) (by kernel_rfl) ⟨Tryd.prog.types.size - 1, by kernel_rfl⟩ h.len (fun x hx => byte_wf (h.byte x hx))
end Go.Proofs.YtgmaedngkhidlaaDoor.Sf
-- SfS
namespace Go.Proofs.YtgmaedngkhidlaaDoor.Sf
open Go Go.RowKit Go.ChangeMaps Go.MapKept Go.Proofs.YtgmaedngkhidlaaDoorW.PrintWords Go.Proofs.YtgmaedngkhidlaaDoorW.PrintLast Go.Proofs.YtgmaedngkhidlaaDoorW.PrintMore
open Go.Maps (Keyed)
set_option linter.unusedVariables false
def flat {α : Type} (enc : α → List Value) (n : Nat) (h1 : ∀ x, ∀ v ∈ enc x, v.oneCell' = true) : Kd α where
  sz := n
  E := []
  K := fun _ x cs => cs = enc x ∧ cs.length = n
  M := fun _ _ _ x cs => cs = enc x ∧ cs.length = n
  K_len := fun h => h.2
  K_one := fun h u hu => h1 _ u (h.1 ▸ hu)
  K_below := fun _ h => h
  K_of_M := fun h => h
  M_mono := fun _ h => h
  M_bound := fun h => h
  M_move := fun _ h => h
  M_lower := fun _ h => h
abbrev kR : Kd Rc := flat encR 14 encR_one
abbrev kC : Kd Cel := flat encC 10 encC_one
abbrev kD : Kd Don := flat encD 3 encD_one
theorem int_of {k : IntKind} {a b : Int} (h : Value.int k a = .int k b) : a = b := (Value.int.inj h).2
def kvC (c : Cel) : Value × Value := (vK c.key, vC c)
def kvD (d : Don) : Value × Value := (.int .i64 d.client, vD d)
def IsCs (w : World) (b : Nat) (m : List Cel) : Prop := IsMap Tryd.prog 28 w b (m.map kvC)
def IsDs (w : World) (b : Nat) (m : List Don) : Prop := IsMap Tryd.prog 3 w b (m.map kvD)
theorem permC_one {m : List Cel} (hu : UpC m) {c : Cel} (hc : c ∈ m) : m.Perm (c :: m.filter fun x => decide (x.key ≠ c.key)) := by
  induction m with
  | nil => cases hc
  | cons d r ih =>
    obtain ⟨h1, h2⟩ := List.pairwise_cons.1 hu
    rcases List.mem_cons.1 hc with rfl | hc
    · have hf : r.filter (fun x => decide (x.key ≠ c.key)) = r := List.filter_eq_self.2 fun x hx => by
        have := cmpL_ne (h1 x hx)
        simpa using fun e : x.key = c.key => this e.symm
      rw [List.filter_cons_of_neg (by simp), hf]
    · have hd := cmpL_ne (h1 c hc)
      rw [List.filter_cons_of_pos (by simpa using hd)]
      exact ((ih h2 hc).cons d).trans (List.Perm.swap ..)
theorem permD_one {m : List Don} (hu : UpD m) {c : Don} (hc : c ∈ m) : m.Perm (c :: m.filter fun x => decide (x.client ≠ c.client)) := by
  induction m with
  | nil => cases hc
  | cons d r ih =>
    obtain ⟨h1, h2⟩ := List.pairwise_cons.1 hu
    rcases List.mem_cons.1 hc with rfl | hc
    · have hf : r.filter (fun x => decide (x.client ≠ c.client)) = r := List.filter_eq_self.2 fun x hx => by
        have := h1 x hx
        simp; omega
      rw [List.filter_cons_of_neg (by simp), hf]
    · have hd := h1 c hc
      rw [List.filter_cons_of_pos (by simp; omega)]
      exact ((ih h2 hc).cons d).trans (List.Perm.swap ..)
theorem IsCs.look {w : World} {b : Nat} {m : List Cel} (h : IsCs w b m) (hu : UpC m) {k : List Int} (hk : KeyL k) (ok : Bool) :
    (Instr.lookup 81 (.map (some b)) (vK k) ok).run Tryd.prog w = .ok (if ok then .tuple #[vC (lookC m k), .bool (getC m k).isSome] else vC (lookC m k)) w := by
  obtain ⟨q, hq⟩ := key_some hk
  rcases IsMap.look h keyedK mapC (zeroC w) hq ok with ⟨v, hv, hrun⟩ | ⟨hne, hrun⟩
  · obtain ⟨c, hc, e⟩ := List.mem_map.1 hv
    have e2 : vC c = v := congrArg Prod.snd e
    have e3 : c.key = k := vK_inj (congrArg Prod.fst e)
    have hg : getC m k = some c := e3 ▸ getC_mem hu hc
    refine hrun.trans ?_
    unfold lookC
    rw [hg, ← e2]
    rfl
  · have hg : getC m k = none := List.find?_eq_none.2 fun c hc => by
      have := hne _ (List.mem_map_of_mem (f := kvC) hc)
      simpa using fun e => this (by rw [← e]; rfl)
    refine hrun.trans ?_
    unfold lookC
    rw [hg]
    rfl
theorem IsDs.look {w : World} {b : Nat} {m : List Don} (h : IsDs w b m) (hu : UpD m) {k : Int} (hk : (Lit.int .i64 k).wf = true) (ok : Bool) :
    (Instr.lookup 82 (.map (some b)) (.int .i64 k) ok).run Tryd.prog w = .ok (if ok then .tuple #[vD (lookD m k), .bool (getD m k).isSome] else vD (lookD m k)) w := by
  rcases IsMap.look h keyedI mapD (zeroD w) (Maps.keyOf_int_mk Tryd.underlying3 hk) ok with ⟨v, hv, hrun⟩ | ⟨hne, hrun⟩
  · obtain ⟨c, hc, e⟩ := List.mem_map.1 hv
    have e2 : vD c = v := congrArg Prod.snd e
    have e1 : Value.int .i64 c.client = .int .i64 k := congrArg Prod.fst e
    have e3 := int_of e1
    have hg : getD m k = some c := e3 ▸ getD_mem hu hc
    refine hrun.trans ?_
    unfold lookD
    rw [hg, ← e2]
    rfl
  · have hg : getD m k = none := List.find?_eq_none.2 fun c hc => by
      have := hne _ (List.mem_map_of_mem (f := kvD) hc)
      simpa using fun e => this (by rw [← e]; rfl)
    refine hrun.trans ?_
    unfold lookD
    rw [hg]
    rfl
theorem IsCs.put {w : World} {b : Nat} {m : List Cel} {x : Cel} (hu : UpC m)
    (h : (∃ u l', (m.map kvC).Perm ((vK x.key, u) :: l') ∧ IsMap Tryd.prog 28 w b ((vK x.key, vC x) :: l')) ∨ ((∀ p ∈ m.map kvC, p.1 ≠ vK x.key) ∧ IsMap Tryd.prog 28 w b ((vK x.key, vC x) :: m.map kvC))) : IsCs w b (insC x m) := by
  have hp := (insC_perm (x := x) hu).map kvC
  rw [List.map_cons] at hp
  unfold IsCs
  rcases h with ⟨u, l', h1, h2⟩ | ⟨h1, h2⟩
  · obtain ⟨c, hc, e⟩ := List.mem_map.1 (h1.mem_iff.2 (List.mem_cons_self ..))
    have e3 : c.key = x.key := vK_inj (congrArg Prod.fst e)
    have h3 := (permC_one hu hc).map kvC
    rw [List.map_cons, e, e3] at h3
    have h4 := (h1.symm.trans h3).cons_inv
    exact IsMap.perm h2 ((h4.cons _).trans hp.symm)
  · have h3 : m.filter (fun c => decide (c.key ≠ x.key)) = m := List.filter_eq_self.2 fun c hc => decide_eq_true fun e => h1 _ (List.mem_map_of_mem (f := kvC) hc) (by show vK c.key = _; rw [e])
    rw [h3] at hp
    exact IsMap.perm h2 hp.symm
theorem IsDs.put {w : World} {b : Nat} {m : List Don} {x : Don} (hu : UpD m)
    (h : (∃ u l', (m.map kvD).Perm ((.int .i64 x.client, u) :: l') ∧ IsMap Tryd.prog 3 w b ((.int .i64 x.client, vD x) :: l')) ∨ ((∀ p ∈ m.map kvD, p.1 ≠ .int .i64 x.client) ∧ IsMap Tryd.prog 3 w b ((.int .i64 x.client, vD x) :: m.map kvD))) : IsDs w b (insD x m) := by
  have hp := (insD_perm (x := x) hu).map kvD
  rw [List.map_cons] at hp
  unfold IsDs
  rcases h with ⟨u, l', h1, h2⟩ | ⟨h1, h2⟩
  · obtain ⟨c, hc, e⟩ := List.mem_map.1 (h1.mem_iff.2 (List.mem_cons_self ..))
    have e1 : Value.int .i64 c.client = .int .i64 x.client := congrArg Prod.fst e
    have e3 := int_of e1
    have h3 := (permD_one hu hc).map kvD
    rw [List.map_cons, e, e3] at h3
    have h4 := (h1.symm.trans h3).cons_inv
    exact IsMap.perm h2 ((h4.cons _).trans hp.symm)
  · have h3 : m.filter (fun c => decide (c.client ≠ x.client)) = m := List.filter_eq_self.2 fun c hc => decide_eq_true fun e => h1 _ (List.mem_map_of_mem (f := kvD) hc) (by show Value.int .i64 c.client = _; rw [e])
    rw [h3] at hp
    exact IsMap.perm h2 hp.symm
structure Ws (P : Nat → Prop) (w w' : World) : Prop where
  os : w'.os = w.os
  tape : w'.tape = w.tape
  output : w'.output = w.output
  size : w.heap.size ≤ w'.heap.size
  block : ∀ i, i < w.heap.size → ¬ P i → w'.heap[i]? = w.heap[i]?
section
variable {P P' : Nat → Prop} {w0 w w1 w2 : World}
theorem Ws.refl (P : Nat → Prop) (w : World) : Ws P w w := ⟨rfl, rfl, rfl, Nat.le_refl _, fun _ _ _ => rfl⟩
theorem Ws.trans (h : Ws P w w1) (k : Ws P w1 w2) : Ws P w w2 :=
  ⟨k.os.trans h.os, k.tape.trans h.tape, k.output.trans h.output, Nat.le_trans h.size k.size, fun i hi hne => (k.block i (Nat.lt_of_lt_of_le hi h.size) hne).trans (h.block i hi hne)⟩
theorem Ws.mono (h : Ws P w w1) (hp : ∀ b, b < w.heap.size → P b → P' b) : Ws P' w w1 := ⟨h.os, h.tape, h.output, h.size, fun i hi hn => h.block i hi (fun hP => hn (hp i hi hP))⟩
theorem Ws.of_below (h : Below w.heap.size w w1) : Ws P w w1 := ⟨h.os, h.tape, h.output, h.size, fun i hi _ => h.block i hi⟩
theorem Ws.of_grown {b : Nat} (h : w.grownBy w1 (some b)) (hb : P b) : Ws P w w1 := ⟨h.os, h.tape, h.output, h.size, fun i hi hn => h.block i hi (fun e => hn (by injection e with e; exact e ▸ hb))⟩
theorem Ws.of_set (w : World) {b : Nat} (hb : P b) (j : Nat) (u : Value) : Ws P w (w.setCell ⟨b, j, none⟩ u) := by
  have hB : Below 0 w (w.setCell ⟨b, j, none⟩ u) := (Below.refl 0 w).setCell (p := ⟨b, j, none⟩) (Nat.zero_le _) u
  exact ⟨hB.os, hB.tape, hB.output, by simp, fun i _ hn => Below.heap_setCell w ⟨b, j, none⟩ u i (fun e => hn (e ▸ hb))⟩
theorem Ws.below (h : Ws P w w1) (hb : Below w0.heap.size w0 w) (hP : ∀ b, P b → w0.heap.size ≤ b) : Below w0.heap.size w0 w1 :=
  ⟨h.os.trans hb.os, h.tape.trans hb.tape, h.output.trans hb.output, Nat.le_trans hb.size h.size, fun i hi => (h.block i (Nat.lt_of_lt_of_le hi hb.size) (fun hp => by have := hP i hp; omega)).trans (hb.block i hi)⟩
end
def RV (G : Nat → Prop) (w : World) (v : Value) (R : List Rc) : Prop := Kd.V kR 0 w 0 (fun b => ¬ G b) v R
theorem RV.ws {G P : Nat → Prop} {w w1 : World} {v : Value} {R : List Rc} (h : RV G w v R) (hw : Ws P w w1) (hg : ∀ b, P b → G b) : RV G w1 v R := Kd.V_step h (fun b hb hlt => hw.block b hlt (fun e => hb (hg b e)))
theorem RV.below {G : Nat → Prop} {w w1 : World} {v : Value} {R : List Rc} (h : RV G w v R) (hb : Below w.heap.size w w1) : RV G w1 v R := Kd.V_below h hb
theorem RV.grow {G G' : Nat → Prop} {w : World} {v : Value} {R : List Rc} (h : RV G w v R) (hg : ∀ b, b < w.heap.size → G' b → G b) : RV G' w v R := Kd.V_mono (Kd.V_bound h) (fun b hb hG => hb.1 (hg b hb.2 hG))
abbrev shCells (b1 b2 b3 b4 : Nat) (low era : Int) (rv : Value) (C : Int) : Array Value := #[.map (some b1), .map (some b2), .map (some b3), .map (some b4), .int .i64 low, .int .i64 era, rv, .int .i64 C, .bool true]
structure St2 (w : World) (b1 b2 : Nat) (t : Tab) : Prop where
  c : IsCs w b1 t.cells
  d : IsDs w b2 t.done
structure IsS (F G : Nat → Prop) (w : World) (p : Nat) (s : Sh) : Prop where
  lt : ∀ k, F k → k < w.heap.size
  fg : ∀ k, F k → G k
  fp : F p
  ex : ∃ b1 b2 b3 b4 rv, w.heap[p]? = some (.cells (shCells b1 b2 b3 b4 s.T.idx s.T.epoch rv s.C) 86 (0, 0)) ∧ (F b1 ∧ F b2 ∧ F b3 ∧ F b4) ∧ [b1, b2, b3, b4].Nodup ∧ St2 w b1 b2 s.T ∧ St2 w b3 b4 (lastT s) ∧ RV G w rv s.R
section
variable {F G P : Nat → Prop} {w w1 : World} {p b1 b2 : Nat} {t : Tab} {s : Sh}
theorem St2.same (h : St2 w b1 b2 t) (h1 : w1.heap[b1]? = w.heap[b1]?) (h2 : w1.heap[b2]? = w.heap[b2]?) : St2 w1 b1 b2 t := ⟨IsMap.same h.c h1, IsMap.same h.d h2⟩
theorem St2.lt (h : St2 w b1 b2 t) : b1 < w.heap.size ∧ b2 < w.heap.size := ⟨IsMap.lt h.c, IsMap.lt h.d⟩
theorem St2.ws (h : St2 w b1 b2 t) (hw : Ws P w w1) (h1 : ¬ P b1) (h2 : ¬ P b2) : St2 w1 b1 b2 t := h.same (hw.block b1 h.lt.1 h1) (hw.block b2 h.lt.2 h2)
theorem St2.below (h : St2 w b1 b2 t) (hb : Below w.heap.size w w1) : St2 w1 b1 b2 t := h.same (hb.block b1 h.lt.1) (hb.block b2 h.lt.2)
theorem IsS.other (h : IsS F G w p s) (hw : Ws P w w1) (hne : ∀ k, F k → ¬ P k) (hP : ∀ k, P k → G k) : IsS F G w1 p s := by
  obtain ⟨b1, b2, b3, b4, rv, hp, hf, hn, h1, h2, hr⟩ := h.ex
  exact ⟨fun k hk => Nat.lt_of_lt_of_le (h.lt k hk) hw.size, h.fg, h.fp, b1, b2, b3, b4, rv, (hw.block p (h.lt p h.fp) (hne p h.fp)).trans hp, hf, hn, h1.ws hw (hne b1 hf.1) (hne b2 hf.2.1), h2.ws hw (hne b3 hf.2.2.1) (hne b4 hf.2.2.2), hr.ws hw hP⟩
theorem IsS.below (h : IsS F G w p s) (hb : Below w.heap.size w w1) : IsS F G w1 p s := h.other (P := fun _ => False) (Ws.of_below hb) (fun _ _ h => h) (fun _ h => h.elim)
end
end Go.Proofs.YtgmaedngkhidlaaDoor.Sf
-- SfT
namespace Go.Proofs.YtgmaedngkhidlaaDoor.Sf
open Go Go.RowKit Go.ChangeMaps Go.MapKept Go.Proofs.YtgmaedngkhidlaaDoorW.PrintWords Go.Proofs.YtgmaedngkhidlaaDoorW.PrintLast Go.Proofs.YtgmaedngkhidlaaDoorW.PrintMore
open Go.Maps (Keyed)
set_option linter.unusedVariables false
set_option linter.unusedSimpArgs false
section
variable {F G : Nat → Prop} {w : World} {p : Nat} {s : Sh}
theorem RV.slice {G : Nat → Prop} {w : World} {v : Value} {R : List Rc} (h : RV G w v R) : ∃ A c, v = .slice A R.length c ∧ R.length ≤ c ∧ kR.C w A R.length R := by
  obtain ⟨A, c, rfl⟩ := Kd.V_slice h
  exact ⟨A, c, rfl, (Kd.V_reads' h).2.1, (Kd.V_reads' h).2.2⟩
theorem dead_calls (h : IsS F G w p s) : Calls Tryd.prog 51 #[.pointer (some ⟨p, 0, none⟩)] w fun e w' => e = .returned (.bool false) ∧ w = w' := by
  obtain ⟨b1, b2, b3, b4, rv, hp, _⟩ := h.ex
  have h8 := (blk_cell hp 8).trans (show _ = some (Value.bool true) from rfl)
  clear hp h
  go_enter Tryd.func51, Tryd.ntmps51
  go_wp2
  go_ret
  exact ⟨rfl, rfl⟩
theorem dead_nil (w : World) : Calls Tryd.prog 51 #[.pointer none] w fun e w' => e = .returned (.bool true) ∧ w = w' := by
  go_enter Tryd.func51, Tryd.ntmps51
  go_wp2
  go_ret
  exact ⟨rfl, rfl⟩
theorem end_calls (h : IsS F G w p s) (hw : Wf s) : Calls Tryd.prog 52 #[.pointer (some ⟨p, 0, none⟩)] w fun e w' => e = .returned (.int .i64 (endI s)) ∧ Drawn0 w w' := by
  obtain ⟨b1, b2, b3, b4, rv, hp, hf, hn, h1, h2, hr⟩ := h.ex
  obtain ⟨A, c, rfl, _, _⟩ := hr.slice
  have h2' := (blk_cell hp 2).trans (show _ = some (Value.map (some b3)) from rfl)
  have h4 := (blk_cell hp 4).trans (show _ = some (Value.int .i64 s.T.idx) from rfl)
  have h6 := (blk_cell hp 6).trans (show _ = some (Value.slice A s.R.length c) from rfl)
  have hl := hw.len
  have hi := hw.tab.idx
  have hs : IntKind.i64.wrap (s.T.idx + (s.R.length : Int)) = endI s := IntWalk.i64_in _ (by omega)
  clear hp h hr h1 h2 hf hn hl hi
  go_enter Tryd.func52, Tryd.ntmps52
  go_wp2
  go_quiet (fail)
  go_wp2
  go_ret
  exact ⟨rfl, ⟨_, rfl⟩⟩
theorem R_at {A : Option Addr} {n : Nat} {R : List Rc} (h : kR.C w A n R) (i : Nat) (hi : i < R.length) : ∃ ad, A = some ad ∧ (R[i]).key.length = 8 ∧ ∀ j v, (encR R[i])[j]? = some v → w.cell? ((ad.add (i * 14)).add j) = some v := by
  obtain ⟨hn, _, hc0⟩ := h
  obtain ⟨ad, rfl, hc1⟩ := hc0 (by omega)
  obtain ⟨cs, hl, ⟨he, hl2⟩, hcc⟩ := hc1 i R[i] (List.getElem?_eq_getElem hi)
  refine ⟨ad, rfl, ?_, fun j v hj => ?_⟩
  · have hq : (encR R[i]).length = 14 := by rw [← he]; exact hl2
    unfold encR encK at hq
    simp at hq
    omega
  · rw [add_add]
    exact hcc j v (by rw [he]; exact hj)
theorem add_pos (ad : Addr) (m j : Nat) (hj : 0 < j) : (ad.add m).add j = ⟨(ad.add m).block, (ad.add m).off + j, none⟩ := by rw [add_add]; exact add_field ad m j hj
theorem lastT_nil (h : s.R = []) : lastT s = s.T := by unfold lastT; rw [h]; rfl
theorem lastT_last {m : Nat} (h : m + 1 = s.R.length) : (lastT s).epoch = (s.R[m]).epoch := by
  have e : s.R = s.R.take m ++ [s.R[m]] := by rw [← List.take_succ_eq_append_getElem (by omega), h, List.take_length]
  have e2 : lastT s = putT (upT s.T (s.R.take m)) s.R[m] := by
    rw [← upT_snoc, ← e]; rfl
  rw [e2]; rfl
theorem era_calls (h : IsS F G w p s) (hw : Wf s) : Calls Tryd.prog 69 #[.pointer (some ⟨p, 0, none⟩)] w fun e w' => e = .returned (.int .i64 (lastT s).epoch) ∧ Drawn0 w w' := by
  obtain ⟨b1, b2, b3, b4, rv, hp, hf, hn, h1, h2, hr⟩ := h.ex
  obtain ⟨A, c, rfl, _, hC⟩ := hr.slice
  have h5 := (blk_cell hp 5).trans (show _ = some (Value.int .i64 s.T.epoch) from rfl)
  have h6 := (blk_cell hp 6).trans (show _ = some (Value.slice A s.R.length c) from rfl)
  have hl := hw.len
  by_cases h0 : s.R = []
  · have he := congrArg Tab.epoch (lastT_nil h0)
    rw [he]
    rw [h0] at h6
    clear hp h hr h1 h2 hf hn hl hC he h0
    go_enter Tryd.func69, Tryd.ntmps69
    go_wp2
    go_ret
    exact ⟨rfl, ⟨0, rfl⟩⟩
  · obtain ⟨m, hm⟩ : ∃ m, m + 1 = s.R.length := ⟨s.R.length - 1, by have := List.length_pos_iff.2 h0; omega⟩
    obtain ⟨ad, rfl, _, hcc⟩ := R_at hC m (by omega)
    have h7 := hcc 1 (.int .i64 (s.R[m]).epoch) rfl
    rw [add_pos _ _ _ (by omega)] at h7
    rw [lastT_last hm]
    clear hp h hr h1 h2 hf hn hC hcc h0
    obtain ⟨E, hE⟩ : ∃ E, (s.R[m]).epoch = E := ⟨_, rfl⟩
    rw [hE] at h7 ⊢
    clear hE
    obtain ⟨n, hnn⟩ : ∃ n, s.R.length = n := ⟨_, rfl⟩
    rw [hnn] at h6 hl hm
    clear hnn
    have hm0 : (0 : Int) ≤ (m : Int) := by omega
    have hm1 : (m : Int) < (n : Int) := by omega
    have hm2 : IntKind.i64.wrap ((n : Int) - 1) = (m : Int) := (IntWalk.i64_in _ (by omega)).trans (by omega)
    have hz : ((n : Int) == 0) = false := by simp; omega
    have hz2 : decide ((n : Int) = 0) = false := decide_eq_false (by omega)
    clear hm hl
    go_enter Tryd.func69, Tryd.ntmps69
    go_wp2
    go_quiet (fail)
    go_wp2
    go_ret
    exact ⟨rfl, ⟨_, rfl⟩⟩
theorem IsS.drew (h : IsS F G w p s) (n : Nat) : IsS F G (w.drewN n) p s := h.below (pw_below_drewN (Below.refl _ _) n)
theorem Dirty_calls (h : IsS F G w p s) (hw : Wf s) : Calls Tryd.prog 36 #[.pointer (some ⟨p, 0, none⟩)] w fun e w' => e = .returned (.int .i64 (endI s - s.C)) ∧ Drawn0 w w' := by
  obtain ⟨b1, b2, b3, b4, rv, hp, _⟩ := h.ex
  have h7 : ∀ n, (w.drewN n).cell? ⟨p, 7, none⟩ = some (.int .i64 s.C) := fun n => (blk_cell (blk_drewN hp n) 7).trans (show _ = some (Value.int .i64 s.C) from rfl)
  have hD := dead_calls h
  have hE : ∀ n, Calls Tryd.prog 52 #[.pointer (some ⟨p, 0, none⟩)] (w.drewN n) fun e w' => e = .returned (.int .i64 (endI s)) ∧ Drawn0 (w.drewN n) w' := fun n => end_calls (h.drew n) hw
  have hl := hw.len
  have hi := hw.tab.idx
  have h1 := hw.lo
  have h2 := hw.hi
  have hs : IntKind.i64.wrap (endI s - s.C) = endI s - s.C := IntWalk.i64_in _ (by unfold endI at *; omega)
  have HE := Aside0.mk hE
  have HD := Aside0.mk hD
  clear hp h hl hi h1 h2 hE hD
  go_enter Tryd.func36, Tryd.ntmps36
  go_wp2_with (go_at_call 51; refine HD.out.mono ?_; rintro e w' ⟨rfl, rfl⟩)
  go_quiet ((go_at_call 52; exact Calls.quiet_of ((HE.out _).mono (fun _ _ h_ => ⟨h_.1, h_.2.out⟩))))
  go_wp2
  go_ret
  exact ⟨rfl, ⟨_, rfl⟩⟩
end
end Go.Proofs.YtgmaedngkhidlaaDoor.Sf
