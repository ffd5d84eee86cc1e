/- Texts that the row of LawShelfTwins rests on, part 3 of 12: contracts of the functions, their walks, plain laws. -/
import Derived.Test.YtgmaedngkhidlaaDoorBnShelfTwins2
import Derived.Laws.CopyRow
import Derived.Lib.ValidU
set_option linter.unusedSimpArgs false
-- SfL
namespace Go.Proofs.YtgmaedngkhidlaaDoor.Sf
open Go Go.RowKit Go.ChangeMaps Go.MapKept Go.Proofs.YtgmaedngkhidlaaDoorW.PrintWords Go.Proofs.YtgmaedngkhidlaaDoorW.PrintLast Go.Proofs.YtgmaedngkhidlaaDoorW.PrintMore
open Go.Maps (Keyed)
set_option linter.unusedVariables false
set_option linter.unusedSimpArgs false
section
variable {P : Program}
abbrev rowB : TypeDesc → Bool
  | .struct _ | .array _ _ => true
  | _ => false
structure AggT (P : Program) (t : TypeId) (n : Nat) : Prop where
  row : ∃ d, P.underlying t = some d ∧ rowB d = true
  size : (P.info? t).map (·.size) = some n
theorem load_agg {w : World} {p : Addr} {ty : TypeId} {cs : List Value} (hA : AggT P ty cs.length) (hc : ∀ j v, cs[j]? = some v → w.cell? (p.add j) = some v) :
    (loadVar ty p).run P w = .ok (.agg cs.toArray) w := by
  obtain ⟨⟨d, hu, hd⟩, hi⟩ := hA
  have hl : (loadCells p cs.length).run P w = .ok cs.toArray w := run_loadCells_list (P := P) w p cs hc
  cases hq : P.info? ty with
  | none => simp [hq] at hi
  | some i =>
    have hs : i.size = cs.length := by simpa [hq] using hi
    have hagg : (isAgg ty).run P w = .ok true w := by
      unfold isAgg
      rw [Sem.run_bind, run_underlying hu w]
      cases d <;> simp_all
    simp [loadVar, Sem.run_bind, hagg, sizeOf, typeInfo, hq, hs, hl]
theorem loadAt_agg {w : World} {p : Addr} {ty : TypeId} {cs : List Value} (hA : AggT P ty cs.length) (hc : ∀ j v, cs[j]? = some v → w.cell? (p.add j) = some v) :
    (Instr.loadAt ty (.pointer (some p))).run P w = .ok (.agg cs.toArray) w := by
  simp only [Instr.loadAt, Instr.sureAddr, Sem.run_bind, Sem.run_pure, Result.andThen_ok, load_agg hA hc]
def SegAt (w : World) (g o : Nat) (cs : List Value) : Prop := ∀ j v, cs[j]? = some v → w.cell? ⟨g, o + j, none⟩ = some v
theorem add_off (b o j : Nat) : (⟨b, o, none⟩ : Addr).add j = ⟨b, o + j, none⟩ := by unfold Addr.add; split <;> simp_all
theorem SegAt.blk {w : World} {g : Nat} {t : TypeId} {fr : Nat × Nat} {cs : List Value} (h : w.heap[g]? = some (.cells cs.toArray t fr)) : SegAt w g 0 cs := by
  intro j v hj
  rw [cell_of_row w g _ _ t fr h, List.getElem?_toArray, Nat.zero_add]
  exact hj
theorem wpList_seg {ops : Array Oper} {rest : List Oper} {o : Oper} {a : Act} {w : World} {Q : Exit → Act → World → Prop} (hgd : o.guard = none) (ty : TypeId) (x : Operand) (ho : o.op = .load ty x)
    (g f : Nat) (hx : a.eval x = .pointer (some ⟨g, f, none⟩)) (cs : List Value) (hA : AggT P ty cs.length) (hc : SegAt w g f cs)
    (h : wpList P ops Q rest (a.put o.dst (.agg cs.toArray)) w) : wpList P ops Q (o :: rest) a w :=
  wpList_plain hgd fun K hK => by
    unfold Oper.wp execOp
    simp only [ho, hx, loadAt_agg hA (fun j v hj => by rw [add_off]; exact hc j v hj), Sem.run_bind, Sem.run_pure, Result.andThen_ok]
    exact hK _ _ h
theorem wpList_at {ops : Array Oper} {rest : List Oper} {o : Oper} {a : Act} {w : World} {Q : Exit → Act → World → Prop} (hgd : o.guard = none) (ty : TypeId) (x : Operand) (ho : o.op = .load ty x)
    (p : Addr) (hx : a.eval x = .pointer (some p)) (cs : List Value) (hA : AggT P ty cs.length) (hc : ∀ j v, cs[j]? = some v → w.cell? (p.add j) = some v)
    (h : wpList P ops Q rest (a.put o.dst (.agg cs.toArray)) w) : wpList P ops Q (o :: rest) a w :=
  wpList_plain hgd fun K hK => by
    unfold Oper.wp execOp
    simp only [ho, hx, loadAt_agg hA hc, Sem.run_bind, Sem.run_pure, Result.andThen_ok]
    exact hK _ _ h
theorem setCells_new (w : World) (t : TypeId) : ∀ (vs : List Value) (o : Nat) (cs : Array Value), cs.size = o + vs.length →
    (w.alloc (.cells cs t)).setCells w.heap.size o vs = w.alloc (.cells (cs.toList.take o ++ vs).toArray t)
  | [], o, cs, h => by
    simp only [World.setCells]
    rw [List.append_nil, List.take_of_length_le (by simp at h ⊢; omega), Array.toArray_toList]
  | v :: vs, o, cs, h => by
    simp only [World.setCells]
    rw [World.setCell_alloc_at _ _ _ _ _ rfl, setCells_new w t vs (o + 1) _ (by simp at h ⊢; omega)]
    congr 2
    apply congrArg
    have ho : o < cs.toList.length := by simp at h ⊢; omega
    rw [Array.toList_setIfInBounds, List.take_set, List.take_succ_eq_append_getElem ho, List.set_append_right _ _ (by simp; omega)]
    rw [List.length_take, Nat.min_eq_left (by omega), Nat.sub_self, List.set_cons_zero, List.append_assoc]
    rfl
theorem there_new (w : World) (t : TypeId) (cs : Array Value) : (w.alloc (.cells cs t)).there w.heap.size 0 cs.size := by
  intro j hj
  have hb := blk_new w (.cells cs t)
  refine ⟨?_, ?_⟩
  · rw [Nat.zero_add, cell_of_row _ _ _ _ _ _ hb, Array.getElem?_eq_getElem hj]; rfl
  · rw [Nat.zero_add]; exact frozen_of_row _ _ _ _ _ hb
theorem wpList_fill {ops : Array Oper} {rest : List Oper} {o : Oper} {a : Act} {w : World} {Q : Exit → Act → World → Prop} (hgd : o.guard = none) (ty : TypeId) (x y : Operand) (ho : o.op = .store ty x y)
    (cs : List Value) (zs : Array Value) (hx : a.eval x = .pointer (some ⟨w.heap.size, 0, none⟩)) (hy : a.eval y = .agg cs.toArray) (hA : AggT P ty cs.length) (hz : zs.size = cs.length) (h1 : ∀ v ∈ cs, v.oneCell' = true)
    (h : wpList P ops Q rest (a.put o.dst undef) (w.alloc (.cells cs.toArray ty))) : wpList P ops Q (o :: rest) a (w.alloc (.cells zs ty)) := by
  refine wpList_store_mid hgd ty x y ho w.heap.size 0 cs.toArray hx hy (by rw [show cs.toArray.size = zs.size by simp [hz]]; exact there_new w ty zs) (by rw [hA.size]; simp) (all_oneCell_toArray h1) ?_
  rw [setCells_new w ty cs 0 zs (by omega), List.take_zero, List.nil_append]
  exact h
theorem setCells_under (o' : Obj) (g : Nat) : ∀ (vs : List Value) (o : Nat) (w' : World), g < w'.heap.size → (w'.alloc o').setCells g o vs = (w'.setCells g o vs).alloc o'
  | [], _, _, _ => rfl
  | v :: vs, o, w', h => by
    simp only [World.setCells]
    rw [World.setCell_alloc_past _ _ _ _ h]
    exact setCells_under o' g vs (o + 1) _ (by simpa using h)
theorem wpList_fill2 {ops : Array Oper} {rest : List Oper} {o : Oper} {a : Act} {w : World} {Q : Exit → Act → World → Prop} (hgd : o.guard = none) (ty : TypeId) (x y : Operand) (ho : o.op = .store ty x y)
    (cs : List Value) (zs : Array Value) (o' : Obj) (hx : a.eval x = .pointer (some ⟨w.heap.size, 0, none⟩)) (hy : a.eval y = .agg cs.toArray) (hA : AggT P ty cs.length) (hz : zs.size = cs.length) (h1 : ∀ v ∈ cs, v.oneCell' = true)
    (h : wpList P ops Q rest (a.put o.dst undef) ((w.alloc (.cells cs.toArray ty)).alloc o')) : wpList P ops Q (o :: rest) a ((w.alloc (.cells zs ty)).alloc o') := by
  have hsz : (w.alloc (.cells zs ty)).heap.size = w.heap.size + 1 := by simp
  have hth : ((w.alloc (.cells zs ty)).alloc o').there w.heap.size 0 cs.toArray.size := by
    rw [show cs.toArray.size = zs.size by simp [hz]]
    exact World.there_alloc (there_new w ty zs) o'
  refine wpList_store_mid hgd ty x y ho w.heap.size 0 cs.toArray hx hy hth (by rw [hA.size]; simp) (all_oneCell_toArray h1) ?_
  rw [setCells_under o' w.heap.size cs 0 _ (by omega), setCells_new w ty cs 0 zs (by omega), List.take_zero, List.nil_append]
  exact h
theorem wpList_row {ops : Array Oper} {rest : List Oper} {o : Oper} {a : Act} {w : World} {Q : Exit → Act → World → Prop} (hgd : o.guard = none) (ty : TypeId) (x y : Operand) (ho : o.op = .store ty x y)
    (g : Nat) (zs : Array Value) (t : TypeId) (hb : w.heap[g]? = some (.cells zs t (0, 0))) (cs : List Value) (hx : a.eval x = .pointer (some ⟨g, 0, none⟩)) (hy : a.eval y = .agg cs.toArray) (hA : AggT P ty cs.length) (hz : zs.size = cs.length) (h1 : ∀ v ∈ cs, v.oneCell' = true)
    (h : ∀ w', w.grownBy w' (some g) → w'.heap.size = w.heap.size → w'.heap[g]? = some (.cells cs.toArray t (0, 0)) → wpList P ops Q rest (a.put o.dst undef) w') : wpList P ops Q (o :: rest) a w := by
  have hst := run_storeCells_at P g 0 t cs 0 zs w hb (by omega) h1
  have he : (zs.toList.take (0 + 0) ++ cs ++ zs.toList.drop (0 + 0 + cs.length)).toArray = cs.toArray := by
    rw [List.drop_of_length_le (by simp; omega)]
    simp
  rw [he] at hst
  refine wpList_plain hgd fun K hK => ?_
  have hrun : (Instr.storeAt ty (.pointer (some ⟨g, 0, none⟩)) (.agg cs.toArray)).run P w = .ok () (w.setRow g cs.toArray) := by
    have hi := hA.size
    cases hq : P.info? ty with
    | none => simp [hq] at hi
    | some i =>
      have hs : cs.length = i.size := by simp [hq] at hi; omega
      simp [Instr.storeAt, Instr.sureAddr, storeVar, sizeOf, typeInfo, hq, Value.cells, ← hs, hst]
  unfold Oper.wp execOp
  simp only [ho, hx, hy, Sem.run_bind, Sem.run_pure, Result.andThen_ok, hrun]
  exact hK _ _ (h _ ⟨rfl, rfl, rfl, by simp, fun i _ hi => setRow_other w g i _ (fun e => hi (by rw [e]))⟩ (by simp) (setRow_heap w g zs cs.toArray t (0, 0) hb))
theorem wpList_copyStr {ops : Array Oper} {rest : List Oper} {o : Oper} {a : Act} {w : World} {Q : Exit → Act → World → Prop} (hgd : o.guard = none) (d s : Operand) (dT sT : TypeId)
    (ho : o.op = .call { callee := .builtin .copy, args := #[d, s], argTypes := #[dT, sT] }) (e : TypeId) (hu : P.underlying dT = some (.slice e)) (hs : (P.info? e).map (·.size) = some 1)
    (g : Nat) (zs : Array Value) (t : TypeId) (hb : w.heap[g]? = some (.cells zs t (0, 0))) (n c : Nat) (hd : a.eval d = .slice (some ⟨g, 0, none⟩) n c) (v : ByteArray) (hv : a.eval s = .string v) (hl : v.size ≤ n) (hz : zs.size = n)
    (h : ∀ w', w.grownBy w' (some g) → w'.heap.size = w.heap.size → w'.heap[g]? = some (.cells ((bytesOf v).map (Value.int .u8) ++ zs.toList.drop v.size).toArray t (0, 0)) → wpList P ops Q rest (a.put o.dst (.int .i64 (v.size : Int))) w') : wpList P ops Q (o :: rest) a w := by
  have hbl : (bytesOf v).length = v.size := bytesOf_length v
  have hst := run_storeCells_at P g 0 t ((bytesOf v).map (Value.int .u8)) 0 zs w hb (by simp [hbl]; omega) (fun u hu => by obtain ⟨x, _, rfl⟩ := List.mem_map.1 hu; rfl)
  have he : (zs.toList.take (0 + 0) ++ (bytesOf v).map (Value.int .u8) ++ zs.toList.drop (0 + 0 + ((bytesOf v).map (Value.int .u8)).length)).toArray = ((bytesOf v).map (Value.int .u8) ++ zs.toList.drop v.size).toArray := by
    simp [hbl]
  rw [he] at hst
  refine wpList_plain hgd fun K hK => ?_
  have hm : v.data.toList.map (fun b => Value.int .u8 (b.toNat : Int)) = (bytesOf v).map (Value.int .u8) := by
    unfold bytesOf
    rw [List.map_map]
    rfl
  have hrun : (Builtin.copy_ #[dT, sT] o.type #[.slice (some ⟨g, 0, none⟩) n c, .string v]).run P w = .ok (.int .i64 (v.size : Int)) (w.setRow g ((bytesOf v).map (Value.int .u8) ++ zs.toList.drop v.size).toArray) := by
    cases hq : P.info? e with
    | none => simp [hq] at hs
    | some i =>
      have hmin : Nat.min v.size n = v.size := Nat.min_eq_left hl
      simp only [Builtin.copy_, Sem.run_bind, Sem.run_pure, run_underlying hu, Builtin.lenOf, Builtin.firstCells, sizeOf, typeInfo, hq, Result.andThen_ok, hmin, List.getElem?_toArray, List.getElem?_cons_zero, List.getElem?_cons_succ]
      simp [goInt, Result.andThen, hq]
      rw [hm, hst]
  unfold Oper.wp execOp
  simp only [ho, resolve, invoke, builtin, Sem.run_bind, Sem.run_pure, Result.andThen_ok, List.map_toArray, List.map_cons, List.map_nil, hd, hv, hrun]
  exact hK _ _ (h _ ⟨rfl, rfl, rfl, by simp, fun i _ hi => setRow_other w g i _ (fun e => hi (by rw [e]))⟩ (by simp) (setRow_heap w g zs _ t (0, 0) hb))
theorem wpList_mapPut {ops : Array Oper} {rest : List Oper} {o : Oper} {a : Act} {w : World} {Q : Exit → Act → World → Prop} (hgd : o.guard = none) (m x v : Operand) (t : TypeId) (hop : o.op = Op.mapUpdate t m x v)
    (k e : TypeId) (K : Keyed P k) (ht : P.underlying t = some (.map k e)) (b : Nat) (l : List (Value × Value)) (hm : a.eval m = .map (some b)) (hM : IsMap P k w b l) (key val : Value) (q : Lit) (hx : a.eval x = key) (hv : a.eval v = val) (hk : keyOf P k key = some q)
    (h : ∀ w', w.grownBy w' (some b) → w'.heap.size = w.heap.size → ((∃ u l', l.Perm ((key, u) :: l') ∧ IsMap P k w' b ((key, val) :: l')) ∨ ((∀ p ∈ l, p.1 ≠ key) ∧ IsMap P k w' b ((key, val) :: l))) → wpList P ops Q rest (a.put o.dst undef) w') : wpList P ops Q (o :: rest) a w := by
  refine wpList_plain hgd fun K' hK' => ?_
  obtain ⟨w', hrun, r1, r2, r3⟩ := hM.put K ht hk val
  unfold Oper.wp
  simp [execOp, hop, hm, hx, hv, hrun, Result.andThen]
  exact hK' _ _ (h w' r1 r2 r3)
theorem wpList_over {ops : Array Oper} {rest : List Oper} {o : Oper} {a : Act} {w : World} {Q : Exit → Act → World → Prop} (hgd : o.guard = none) (m : Operand) (t : TypeId) (hop : o.op = Op.range t m)
    (k e : TypeId) (ht : P.underlying t = some (.map k e)) (b : Nat) (l : List (Value × Value)) (hm : a.eval m = .map (some b)) (hM : IsMap P k w b l)
    (h : ∀ w', Below w.heap.size w w' → w.heap.size < w'.heap.size → IsIter P k w' w.heap.size b l l → wpList P ops Q rest (a.put o.dst (.pointer (some ⟨w.heap.size, 0, none⟩))) w') : wpList P ops Q (o :: rest) a w := by
  refine wpList_plain hgd fun K' hK' => ?_
  obtain ⟨w', hrun, r1, r2⟩ := hM.range ht
  unfold Oper.wp
  simp [execOp, hop, hm, hrun, Result.andThen]
  exact hK' _ _ (h w' r1 r2.lt r2)
theorem wpList_step {ops : Array Oper} {rest : List Oper} {o : Oper} {a : Act} {w : World} {Q : Exit → Act → World → Prop} (hgd : o.guard = none) (it : Operand) (hop : o.op = Op.next it false)
    (k : TypeId) (r b : Nat) (l left : List (Value × Value)) (hit : a.eval it = .pointer (some ⟨r, 0, none⟩)) (hI : IsIter P k w r b l left)
    (hDone : left = [] → wpList P ops Q rest (a.put o.dst (.tuple #[.bool false])) w)
    (hMore : ∀ p left' w', left.Perm (p :: left') → IsIter P k w' r b l left' → w.grownBy w' (some r) → w'.heap.size = w.heap.size → (Instr.entry (.pointer (some ⟨r, 0, none⟩))).run P w' = .ok (.tuple #[p.1, p.2]) w' →
      wpList P ops Q rest (a.put o.dst (.tuple #[.bool true, p.1, p.2])) w') : wpList P ops Q (o :: rest) a w := by
  refine wpList_plain hgd fun K' hK' => ?_
  unfold Oper.wp
  rcases hI.next o.type with ⟨h0, hrun⟩ | ⟨p, left', w', hp, hrun, hI', hg, hs, hen⟩
  · simp [execOp, hop, hit, hrun, Result.andThen]
    exact hK' _ _ (hDone h0)
  · simp [execOp, hop, hit, hrun, Result.andThen]
    exact hK' _ _ (hMore p left' w' hp hI' hg hs hen)
end
end Go.Proofs.YtgmaedngkhidlaaDoor.Sf
-- SfA
namespace Go.Proofs.YtgmaedngkhidlaaDoor.Sf
set_option linter.unusedVariables false
def cmpL : List Int → List Int → Int
  | [], [] => 0
  | [], _ :: _ => -1
  | _ :: _, [] => 1
  | x :: xs, y :: ys => if x < y then -1 else if y < x then 1 else cmpL xs ys
theorem cmpL_three : ∀ a b, cmpL a b = -1 ∨ cmpL a b = 0 ∨ cmpL a b = 1
  | [], [] => by simp [cmpL]
  | [], _ :: _ => by simp [cmpL]
  | _ :: _, [] => by simp [cmpL]
  | x :: xs, y :: ys => by
    unfold cmpL
    split
    · exact .inl rfl
    · split
      · exact .inr (.inr rfl)
      · exact cmpL_three xs ys
theorem cmpL_self : ∀ a, cmpL a a = 0
  | [] => rfl
  | x :: xs => by unfold cmpL; rw [if_neg (by omega), if_neg (by omega)]; exact cmpL_self xs
theorem cmpL_eq : ∀ {a b}, cmpL a b = 0 → a = b
  | [], [], _ => rfl
  | [], _ :: _, h => by simp [cmpL] at h
  | _ :: _, [], h => by simp [cmpL] at h
  | x :: xs, y :: ys, h => by
    unfold cmpL at h
    split at h
    · cases h
    · split at h
      · cases h
      · rw [cmpL_eq h, show x = y by omega]
theorem cmpL_swap : ∀ a b, cmpL b a = - cmpL a b
  | [], [] => rfl
  | [], _ :: _ => rfl
  | _ :: _, [] => rfl
  | x :: xs, y :: ys => by
    unfold cmpL
    by_cases h1 : x < y
    · rw [if_neg (by omega), if_pos h1, if_pos h1]; rfl
    · by_cases h2 : y < x
      · rw [if_pos h2, if_neg h1, if_pos h2]
      · rw [if_neg h2, if_neg h1, if_neg h1, if_neg h2]; exact cmpL_swap xs ys
theorem cmpL_trans : ∀ {a b c}, cmpL a b < 0 → cmpL b c < 0 → cmpL a c < 0
  | [], [], _, h, _ => by simp [cmpL] at h
  | [], _ :: _, [], _, h => by simp [cmpL] at h
  | [], _ :: _, _ :: _, _, _ => by simp [cmpL]
  | _ :: _, [], _, h, _ => by simp [cmpL] at h
  | _ :: _, _ :: _, [], _, h => by simp [cmpL] at h
  | x :: xs, y :: ys, z :: zs, h, k => by
    unfold cmpL at h k ⊢
    by_cases h1 : x < y
    · by_cases k1 : y < z
      · rw [if_pos (by omega)]; decide
      · rw [if_neg k1] at k
        by_cases k2 : z < y
        · rw [if_pos k2] at k; exact absurd k (by decide)
        · rw [if_pos (by omega)]; decide
    · rw [if_neg h1] at h
      by_cases h2 : y < x
      · rw [if_pos h2] at h; exact absurd h (by decide)
      · rw [if_neg h2] at h
        have e : x = y := by omega
        subst e
        by_cases k1 : x < z
        · rw [if_pos k1]; decide
        · rw [if_neg k1] at k ⊢
          by_cases k2 : z < x
          · rw [if_pos k2] at k; exact absurd k (by decide)
          · rw [if_neg k2] at k ⊢; exact cmpL_trans h k
theorem cmpL_ne {a b : List Int} (h : cmpL a b < 0) : a ≠ b := fun e => by rw [e, cmpL_self] at h; exact absurd h (by decide)
theorem cmpL_else {a b : List Int} (h : ¬ cmpL a b < 0) (hne : a ≠ b) : cmpL b a < 0 := by
  rw [cmpL_swap]
  rcases cmpL_three a b with e | e | e
  · rw [e] at h; exact absurd (by decide) h
  · exact absurd (cmpL_eq e) hne
  · rw [e]; decide
theorem cmpL_not {a b : List Int} (h : cmpL a b < 0) : ¬ cmpL b a < 0 := by rw [cmpL_swap]; omega
def nameLen : List Int → Nat
  | [] => 0
  | x :: xs => if nameLen xs = 0 then (if x = 0 then 0 else 1) else nameLen xs + 1
theorem nameLen_le : ∀ k, nameLen k ≤ k.length
  | [] => Nat.le_refl _
  | x :: xs => by
    have := nameLen_le xs
    unfold nameLen
    rw [List.length_cons]
    split
    · split <;> omega
    · omega
def keyB (k : List Int) : Bool := decide (1 ≤ nameLen k) && (k.take (nameLen k)).all fun x => decide (x ≠ 0)
structure Cel where
  key : List Int
  ver : Int
  val : ByteArray
structure Don where
  client : Int
  seq : Int
  ver : Int
structure Rc where
  idx : Int
  epoch : Int
  key : List Int
  ver : Int
  val : ByteArray
  client : Int
  seq : Int
structure Tab where
  idx : Int
  epoch : Int
  cells : List Cel
  done : List Don
structure Sh where
  T : Tab
  R : List Rc
  C : Int
def insC (x : Cel) : List Cel → List Cel
  | [] => [x]
  | c :: r => if cmpL c.key x.key < 0 then c :: insC x r else if c.key = x.key then x :: r else x :: c :: r
def insD (x : Don) : List Don → List Don
  | [] => [x]
  | d :: r => if d.client < x.client then d :: insD x r else if d.client = x.client then x :: r else x :: d :: r
def zK : List Int := [0, 0, 0, 0, 0, 0, 0, 0]
def zC : Cel := ⟨zK, 0, ⟨#[]⟩⟩
def zD : Don := ⟨0, 0, 0⟩
def zR : Rc := ⟨0, 0, zK, 0, ⟨#[]⟩, 0, 0⟩
def getC (l : List Cel) (k : List Int) : Option Cel := l.find? fun c => decide (c.key = k)
def getD (l : List Don) (n : Int) : Option Don := l.find? fun d => decide (d.client = n)
def lookC (l : List Cel) (k : List Int) : Cel := (getC l k).getD zC
def lookD (l : List Don) (n : Int) : Don := (getD l n).getD zD
def Rc.cel (x : Rc) : Cel := ⟨x.key, x.ver, x.val⟩
def Rc.don (x : Rc) : Don := ⟨x.client, x.seq, x.ver⟩
def putT (t : Tab) (x : Rc) : Tab := ⟨x.idx, x.epoch, insC x.cel t.cells, insD x.don t.done⟩
def upT (t : Tab) (l : List Rc) : Tab := l.foldl putT t
theorem upT_append (t : Tab) (l m : List Rc) : upT t (l ++ m) = upT (upT t l) m := by unfold upT; rw [List.foldl_append]
theorem upT_snoc (t : Tab) (l : List Rc) (x : Rc) : upT t (l ++ [x]) = putT (upT t l) x := by rw [upT_append]; rfl
def UpC (l : List Cel) : Prop := l.Pairwise fun a b => cmpL a.key b.key < 0
def UpD (l : List Don) : Prop := l.Pairwise fun a b => a.client < b.client
theorem mem_insC {x c : Cel} : ∀ {l : List Cel}, c ∈ insC x l → c = x ∨ c ∈ l
  | [], h => by simp [insC] at h; exact .inl h
  | d :: r, h => by
    unfold insC at h
    split at h
    · rcases List.mem_cons.1 h with h | h
      · exact .inr (by rw [h]; exact List.mem_cons_self ..)
      · rcases mem_insC h with h | h
        · exact .inl h
        · exact .inr (List.mem_cons_of_mem _ h)
    · split at h
      · rcases List.mem_cons.1 h with h | h
        · exact .inl h
        · exact .inr (List.mem_cons_of_mem _ h)
      · rcases List.mem_cons.1 h with h | h
        · exact .inl h
        · exact .inr h
theorem insC_up {x : Cel} : ∀ {l : List Cel}, UpC l → UpC (insC x l)
  | [], _ => by simp [insC, UpC]
  | d :: r, h => by
    obtain ⟨h1, h2⟩ := List.pairwise_cons.1 h
    unfold insC
    split
    · rename_i hlt
      refine List.pairwise_cons.2 ⟨fun c hc => ?_, insC_up h2⟩
      rcases mem_insC hc with rfl | hc
      · exact hlt
      · exact h1 c hc
    · rename_i hge
      split
      · rename_i he
        exact List.pairwise_cons.2 ⟨fun c hc => by rw [← he]; exact h1 c hc, h2⟩
      · rename_i hne
        have hlt := cmpL_else hge hne
        refine List.pairwise_cons.2 ⟨fun c hc => ?_, h⟩
        rcases List.mem_cons.1 hc with rfl | hc
        · exact hlt
        · exact cmpL_trans hlt (h1 c hc)
theorem insC_perm {x : Cel} : ∀ {l : List Cel}, UpC l → (insC x l).Perm (x :: l.filter fun c => decide (c.key ≠ x.key))
  | [], _ => by simp [insC]
  | d :: r, h => by
    obtain ⟨h1, h2⟩ := List.pairwise_cons.1 h
    unfold insC
    split
    · rename_i hlt
      rw [List.filter_cons_of_pos (by simpa using cmpL_ne hlt)]
      exact ((insC_perm h2).cons d).trans (List.Perm.swap ..)
    · rename_i hge
      have hall : ∀ q, (∀ c ∈ r, cmpL q c.key < 0) → (cmpL q x.key < 0 → False) → r.filter (fun c => decide (c.key ≠ x.key)) = r := by
        intro q hq hqx
        refine List.filter_eq_self.2 fun c hc => ?_
        have h3 := hq c hc
        exact decide_eq_true fun e => hqx (by rw [← e]; exact h3)
      split
      · rename_i he
        rw [List.filter_cons_of_neg (by simpa using he), hall d.key h1 hge]
      · rename_i hne
        rw [List.filter_cons_of_pos (by simpa using hne), hall d.key h1 hge]
theorem getC_some {l : List Cel} {k : List Int} {c : Cel} (h : getC l k = some c) : c ∈ l ∧ c.key = k := by
  have := List.find?_some h
  exact ⟨List.mem_of_find?_eq_some h, by simpa using this⟩
theorem getC_mem {l : List Cel} (hu : UpC l) {c : Cel} (hc : c ∈ l) : getC l c.key = some c := by
  induction l with
  | nil => cases hc
  | cons d r ih =>
    obtain ⟨h1, h2⟩ := List.pairwise_cons.1 hu
    unfold getC
    rcases List.mem_cons.1 hc with rfl | hc
    · rw [List.find?_cons_of_pos (by simp)]
    · rw [List.find?_cons_of_neg (by simpa using cmpL_ne (h1 c hc))]
      exact ih h2 hc
theorem insC_len {x : Cel} {l : List Cel} (hu : UpC l) : (insC x l).length = if (getC l x.key).isSome then l.length else l.length + 1 := by
  induction l with
  | nil => simp [insC, getC]
  | cons d r ih =>
    obtain ⟨h1, h2⟩ := List.pairwise_cons.1 hu
    unfold insC
    split
    · rename_i hlt
      rw [List.length_cons, ih h2]
      unfold getC
      rw [List.find?_cons_of_neg (by simpa using cmpL_ne hlt), List.length_cons]
      split <;> rfl
    · rename_i hge
      split
      · rename_i he
        unfold getC
        rw [List.find?_cons_of_pos (by simpa using he)]
        simp
      · rename_i hne
        have : getC (d :: r) x.key = none := by
          refine List.find?_eq_none.2 fun c hc => ?_
          rcases List.mem_cons.1 hc with rfl | hc
          · simpa using hne
          · have h3 := h1 c hc
            simpa using fun e => hge (by rw [← e]; exact h3)
        rw [this]
        simp
theorem mem_insD {x c : Don} : ∀ {l : List Don}, c ∈ insD x l → c = x ∨ c ∈ l
  | [], h => by simp [insD] at h; exact .inl h
  | d :: r, h => by
    unfold insD at h
    split at h
    · rcases List.mem_cons.1 h with h | h
      · exact .inr (by rw [h]; exact List.mem_cons_self ..)
      · rcases mem_insD h with h | h
        · exact .inl h
        · exact .inr (List.mem_cons_of_mem _ h)
    · split at h
      · rcases List.mem_cons.1 h with h | h
        · exact .inl h
        · exact .inr (List.mem_cons_of_mem _ h)
      · rcases List.mem_cons.1 h with h | h
        · exact .inl h
        · exact .inr h
theorem insD_up {x : Don} : ∀ {l : List Don}, UpD l → UpD (insD x l)
  | [], _ => by simp [insD, UpD]
  | d :: r, h => by
    obtain ⟨h1, h2⟩ := List.pairwise_cons.1 h
    unfold insD
    split
    · rename_i hlt
      refine List.pairwise_cons.2 ⟨fun c hc => ?_, insD_up h2⟩
      rcases mem_insD hc with rfl | hc
      · exact hlt
      · exact h1 c hc
    · split
      · rename_i he
        exact List.pairwise_cons.2 ⟨fun c hc => by rw [← he]; exact h1 c hc, h2⟩
      · refine List.pairwise_cons.2 ⟨fun c hc => ?_, h⟩
        rcases List.mem_cons.1 hc with rfl | hc
        · omega
        · have := h1 c hc; omega
theorem insD_perm {x : Don} : ∀ {l : List Don}, UpD l → (insD x l).Perm (x :: l.filter fun c => decide (c.client ≠ x.client))
  | [], _ => by simp [insD]
  | d :: r, h => by
    obtain ⟨h1, h2⟩ := List.pairwise_cons.1 h
    unfold insD
    split
    · rename_i hlt
      rw [List.filter_cons_of_pos (by simp; omega)]
      exact ((insD_perm h2).cons d).trans (List.Perm.swap ..)
    · rename_i hge
      have hall : r.filter (fun c => decide (c.client ≠ x.client)) = r :=
        List.filter_eq_self.2 fun c hc => decide_eq_true (by have := h1 c hc; omega)
      split
      · rename_i he
        rw [List.filter_cons_of_neg (by simpa using he), hall]
      · rename_i hne
        rw [List.filter_cons_of_pos (by simpa using hne), hall]
theorem getD_some {l : List Don} {k : Int} {c : Don} (h : getD l k = some c) : c ∈ l ∧ c.client = k := by
  have := List.find?_some h
  exact ⟨List.mem_of_find?_eq_some h, by simpa using this⟩
theorem getD_none {l : List Don} {k : Int} (h : getD l k = none) : ∀ c ∈ l, c.client ≠ k := by
  intro c hc e
  have := List.find?_eq_none.1 h c hc
  simp [e] at this
theorem getD_mem {l : List Don} (hu : UpD l) {c : Don} (hc : c ∈ l) : getD l c.client = some c := by
  induction l with
  | nil => cases hc
  | cons d r ih =>
    obtain ⟨h1, h2⟩ := List.pairwise_cons.1 hu
    unfold getD
    rcases List.mem_cons.1 hc with rfl | hc
    · rw [List.find?_cons_of_pos (by simp)]
    · rw [List.find?_cons_of_neg (by have := h1 c hc; simp; omega)]
      exact ih h2 hc
end Go.Proofs.YtgmaedngkhidlaaDoor.Sf
-- SfB
namespace Go.Proofs.YtgmaedngkhidlaaDoor.Sf
set_option linter.unusedVariables false
def u8ok (v : ByteArray) : Bool := Go.Lib.validD v.data.toList
def rightB (k : List Int) (v : ByteArray) : Bool := keyB k && (decide (1 ≤ v.size) && (decide (v.size ≤ 24) && u8ok v))
def reqB (client seq : Int) : Bool := decide (0 ≤ client) && (decide (client < 4) && (decide (1 ≤ seq) && decide (seq ≤ 1099511627776)))
theorem reqB_iff {c s : Int} : reqB c s = true ↔ 0 ≤ c ∧ c < 4 ∧ 1 ≤ s ∧ s ≤ 1099511627776 := by simp [reqB]
def sumV (l : List Cel) : Int := (l.map fun c => c.ver).sum
def celB (idx : Int) (l : List Cel) (i : Nat) : Bool :=
  let c := l.getD i zC
  rightB c.key c.val && (decide (1 ≤ c.ver) && (decide (c.ver ≤ idx) && (decide (i = 0) || decide (cmpL (l.getD (i - 1) zC).key c.key < 0))))
def donB (idx : Int) (l : List Don) (i : Nat) : Bool :=
  let d := l.getD i zD
  reqB d.client d.seq && (decide (1 ≤ d.ver) && (decide (d.ver ≤ idx) && (decide (i = 0) || decide ((l.getD (i - 1) zD).client < d.client))))
def headB (t : Tab) : Bool := decide (0 ≤ t.idx ∧ t.idx ≤ 1099511627776 ∧ 0 ≤ t.epoch ∧ t.epoch ≤ 1099511627776 ∧ (t.idx = 0 ↔ t.epoch = 0) ∧ t.cells.length ≤ 12 ∧ t.done.length ≤ 4)
def checkB (t : Tab) : Bool := headB t && ((List.range t.cells.length).all (celB t.idx t.cells) && ((List.range t.done.length).all (donB t.idx t.done) && (decide (sumV t.cells = t.idx) && (decide (t.idx ≤ 0) || decide (t.done ≠ [])))))
def checkP (t : Tab) : Int := if checkB t = true then 0 else 140
structure TabOk (t : Tab) : Prop where
  idx : 0 ≤ t.idx ∧ t.idx ≤ 1099511627776
  epoch : 0 ≤ t.epoch ∧ t.epoch ≤ 1099511627776
  both : t.idx = 0 ↔ t.epoch = 0
  many : t.cells.length ≤ 12
  four : t.done.length ≤ 4
  cell : ∀ c ∈ t.cells, rightB c.key c.val = true ∧ 1 ≤ c.ver ∧ c.ver ≤ t.idx
  up : UpC t.cells
  don : ∀ d ∈ t.done, reqB d.client d.seq = true ∧ 1 ≤ d.ver ∧ d.ver ≤ t.idx
  upd : UpD t.done
  sum : sumV t.cells = t.idx
  some : 0 < t.idx → t.done ≠ []
theorem up_of {α : Type} (z : α) (lt : α → α → Prop) (tr : ∀ {a b c}, lt a b → lt b c → lt a c) : ∀ {l : List α}, (∀ i, i + 1 < l.length → lt (l.getD i z) (l.getD (i + 1) z)) → l.Pairwise lt
  | [], _ => List.Pairwise.nil
  | [a], _ => by simp
  | a :: b :: r, h => by
    have hr : (b :: r).Pairwise lt := up_of z lt tr fun i hi => by
      have := h (i + 1) (by simp at hi ⊢; omega)
      simpa using this
    have hab : lt a b := by have := h 0 (by simp); simpa using this
    refine List.pairwise_cons.2 ⟨fun c hc => ?_, hr⟩
    rcases List.mem_cons.1 hc with rfl | hc
    · exact hab
    · exact tr hab ((List.pairwise_cons.1 hr).1 c hc)
theorem up_at {α : Type} (z : α) {lt : α → α → Prop} {l : List α} (h : l.Pairwise lt) {i j : Nat} (hij : i < j) (hj : j < l.length) : lt (l.getD i z) (l.getD j z) := by
  rw [List.getD_eq_getElem?_getD, List.getD_eq_getElem?_getD, List.getElem?_eq_getElem (by omega), List.getElem?_eq_getElem hj]
  exact List.pairwise_iff_getElem.1 h i j (by omega) hj hij
theorem getD_memL {α : Type} (z : α) {l : List α} {i : Nat} (h : i < l.length) : l.getD i z ∈ l := by
  rw [List.getD_eq_getElem?_getD, List.getElem?_eq_getElem h]; exact List.getElem_mem h
theorem check_iff {t : Tab} : checkB t = true ↔ TabOk t := by
  unfold checkB headB
  simp only [Bool.and_eq_true, decide_eq_true_eq, Bool.or_eq_true, List.all_eq_true, List.mem_range]
  constructor
  · rintro ⟨⟨h1, h2, h3, h4, h5, h6, h7⟩, hc, hd, hs, hn⟩
    have hc' : ∀ i, i < t.cells.length → rightB (t.cells.getD i zC).key (t.cells.getD i zC).val = true ∧ 1 ≤ (t.cells.getD i zC).ver ∧ (t.cells.getD i zC).ver ≤ t.idx ∧ (i = 0 ∨ cmpL (t.cells.getD (i - 1) zC).key (t.cells.getD i zC).key < 0) := fun i hi => by
      have := hc i hi
      unfold celB at this
      simpa only [Bool.and_eq_true, decide_eq_true_eq, Bool.or_eq_true] using this
    have hd' : ∀ i, i < t.done.length → reqB (t.done.getD i zD).client (t.done.getD i zD).seq = true ∧ 1 ≤ (t.done.getD i zD).ver ∧ (t.done.getD i zD).ver ≤ t.idx ∧ (i = 0 ∨ (t.done.getD (i - 1) zD).client < (t.done.getD i zD).client) := fun i hi => by
      have := hd i hi
      unfold donB at this
      simpa only [Bool.and_eq_true, decide_eq_true_eq, Bool.or_eq_true] using this
    refine ⟨⟨h1, h2⟩, ⟨h3, h4⟩, h5, h6, h7, fun c hm => ?_, ?_, fun d hm => ?_, ?_, hs, fun h => hn.resolve_left (by omega)⟩
    · obtain ⟨i, hi, rfl⟩ := List.mem_iff_getElem.1 hm
      have := hc' i hi
      rw [List.getD_eq_getElem?_getD, List.getElem?_eq_getElem hi] at this
      exact ⟨this.1, this.2.1, this.2.2.1⟩
    · refine up_of zC (fun a b => cmpL a.key b.key < 0) (fun h k => cmpL_trans h k) fun i hi => ?_
      rcases (hc' (i + 1) hi).2.2.2 with h | h
      · omega
      · simpa using h
    · obtain ⟨i, hi, rfl⟩ := List.mem_iff_getElem.1 hm
      have := hd' i hi
      rw [List.getD_eq_getElem?_getD, List.getElem?_eq_getElem hi] at this
      exact ⟨this.1, this.2.1, this.2.2.1⟩
    · refine up_of zD (fun a b => a.client < b.client) (fun h k => by omega) fun i hi => ?_
      rcases (hd' (i + 1) hi).2.2.2 with h | h
      · omega
      · simpa using h
  · intro h
    refine ⟨⟨h.idx.1, h.idx.2, h.epoch.1, h.epoch.2, h.both, h.many, h.four⟩, fun i hi => ?_, fun i hi => ?_, h.sum, ?_⟩
    · unfold celB
      simp only [Bool.and_eq_true, decide_eq_true_eq, Bool.or_eq_true]
      have := h.cell _ (getD_memL zC hi)
      refine ⟨this.1, this.2.1, this.2.2, ?_⟩
      rcases Nat.eq_zero_or_pos i with e | e
      · exact .inl e
      · exact .inr (up_at zC h.up (by omega) hi)
    · unfold donB
      simp only [Bool.and_eq_true, decide_eq_true_eq, Bool.or_eq_true]
      have := h.don _ (getD_memL zD hi)
      refine ⟨this.1, this.2.1, this.2.2, ?_⟩
      rcases Nat.eq_zero_or_pos i with e | e
      · exact .inl e
      · exact .inr (up_at zD h.upd (by omega) hi)
    · by_cases hz : t.idx ≤ 0
      · exact .inl hz
      · exact .inr (h.some (by omega))
theorem check_ok {t : Tab} : checkP t = 0 ↔ TabOk t := by
  unfold checkP
  rw [← check_iff]
  split
  · rename_i h; simp [h]
  · rename_i h; simp [h]
def mayP (t : Tab) (x : Rc) : Int :=
  if x.idx ≠ t.idx + 1 ∨ 1099511627776 < x.idx then 90
  else if x.epoch < 1 ∨ 1099511627776 < x.epoch ∨ x.epoch < t.epoch then 150
  else if rightB x.key x.val = false then 91
  else if reqB x.client x.seq = false then 1
  else if x.seq ≤ (lookD t.done x.client).seq then 153
  else if x.ver ≠ (lookC t.cells x.key).ver + 1 then 90
  else if (getC t.cells x.key).isSome = false ∧ 12 ≤ t.cells.length then 7
  else 0
structure May (t : Tab) (x : Rc) : Prop where
  idx : x.idx = t.idx + 1
  far : x.idx ≤ 1099511627776
  epoch : 1 ≤ x.epoch ∧ x.epoch ≤ 1099511627776 ∧ t.epoch ≤ x.epoch
  right : rightB x.key x.val = true
  req : reqB x.client x.seq = true
  seq : (lookD t.done x.client).seq < x.seq
  ver : x.ver = (lookC t.cells x.key).ver + 1
  room : (getC t.cells x.key).isSome = true ∨ t.cells.length < 12
theorem may_ok {t : Tab} {x : Rc} : mayP t x = 0 ↔ May t x := by
  unfold mayP
  constructor
  · intro h
    split at h
    · cases h
    · rename_i h1
      split at h
      · cases h
      · rename_i h2
        split at h
        · cases h
        · rename_i h3
          split at h
          · cases h
          · rename_i h4
            split at h
            · cases h
            · rename_i h5
              split at h
              · cases h
              · rename_i h6
                split at h
                · cases h
                · rename_i h7
                  refine ⟨by omega, by omega, by omega, by simpa using h3, by simpa using h4, by omega, by omega, ?_⟩
                  by_cases e : (getC t.cells x.key).isSome = true
                  · exact .inl e
                  · exact .inr (by
                      have : ¬ 12 ≤ t.cells.length := fun k => h7 ⟨by simpa using e, k⟩
                      omega)
  · intro h
    have h1 := h.idx; have h2 := h.far; have h3 := h.epoch; have h5 := h.seq; have h6 := h.ver
    rw [if_neg (by omega), if_neg (by omega), if_neg (by rw [h.right]; decide), if_neg (by rw [h.req]; decide), if_neg (by omega), if_neg (by omega), if_neg]
    rintro ⟨k1, k2⟩
    rcases h.room with e | e
    · rw [e] at k1; cases k1
    · omega
theorem sumV_ins {x : Cel} : ∀ {l : List Cel}, UpC l → x.ver = (lookC l x.key).ver + 1 → sumV (insC x l) = sumV l + 1
  | [], _, hv => by
    have : (lookC [] x.key).ver = 0 := rfl
    rw [this] at hv
    simp [insC, sumV, hv]
  | d :: r, hu, hv => by
    obtain ⟨h1, h2⟩ := List.pairwise_cons.1 hu
    unfold insC
    split
    · rename_i hlt
      have e : lookC (d :: r) x.key = lookC r x.key := by
        unfold lookC getC
        rw [List.find?_cons_of_neg (by simpa using cmpL_ne hlt)]
      rw [e] at hv
      have := sumV_ins h2 hv
      unfold sumV at this ⊢
      rw [List.map_cons, List.map_cons, List.sum_cons, List.sum_cons, this]
      omega
    · rename_i hge
      split
      · rename_i he
        have e : lookC (d :: r) x.key = d := by
          unfold lookC getC
          rw [List.find?_cons_of_pos (by simpa using he)]
          rfl
        rw [e] at hv
        unfold sumV
        rw [List.map_cons, List.map_cons, List.sum_cons, List.sum_cons]
        omega
      · rename_i hne
        have e : getC (d :: r) x.key = none := by
          refine List.find?_eq_none.2 fun c hc => ?_
          rcases List.mem_cons.1 hc with rfl | hc
          · simpa using hne
          · simpa using fun e => hge (by rw [← e]; exact h1 c hc)
        have : (lookC (d :: r) x.key).ver = 0 := by unfold lookC; rw [e]; rfl
        rw [this] at hv
        unfold sumV
        rw [List.map_cons, List.sum_cons]
        omega
theorem four_len : ∀ {l : List Don} {a : Int}, UpD l → (∀ d ∈ l, a ≤ d.client ∧ d.client < 4) → a ≤ 4 → (l.length : Int) ≤ 4 - a
  | [], a, _, _, ha => by simp; omega
  | d :: r, a, hu, h, ha => by
    obtain ⟨h1, h2⟩ := List.pairwise_cons.1 hu
    have hd := h d (List.mem_cons_self ..)
    have := four_len (a := d.client + 1) h2 (fun x hx => ⟨by have := h1 x hx; omega, (h x (List.mem_cons_of_mem _ hx)).2⟩) (by omega)
    rw [List.length_cons]
    omega
theorem TabOk.put {t : Tab} {x : Rc} (h : TabOk t) (m : May t x) : TabOk (putT t x) := by
  have hi := h.idx; have he := h.epoch; have h1 := m.idx; have h2 := m.far; have h3 := m.epoch
  have hupd : UpD (insD x.don t.done) := insD_up h.upd
  have hdon : ∀ d ∈ insD x.don t.done, reqB d.client d.seq = true ∧ 1 ≤ d.ver ∧ d.ver ≤ t.idx + 1 := by
    intro d hd
    rcases mem_insD hd with rfl | hd
    · refine ⟨m.req, ?_, ?_⟩
      · show 1 ≤ x.ver
        have := m.ver
        unfold lookC at this
        cases hg : getC t.cells x.key with
        | none => rw [hg] at this; have e : (zC.ver : Int) = 0 := rfl; simp only [Option.getD_none] at this; omega
        | some c => rw [hg] at this; have := (h.cell c (getC_some hg).1).2.1; simp only [Option.getD_some] at *; omega
      · show x.ver ≤ t.idx + 1
        have := m.ver
        unfold lookC at this
        cases hg : getC t.cells x.key with
        | none => rw [hg] at this; have e : (zC.ver : Int) = 0 := rfl; simp only [Option.getD_none] at this; omega
        | some c => rw [hg] at this; have := (h.cell c (getC_some hg).1).2.2; simp only [Option.getD_some] at *; omega
    · have := h.don d hd
      exact ⟨this.1, this.2.1, by omega⟩
  refine ⟨?_, ?_, ?_, ?_, ?_, ?_, insC_up h.up, ?_, hupd, ?_, ?_⟩
  · show 0 ≤ x.idx ∧ x.idx ≤ 1099511627776; omega
  · show 0 ≤ x.epoch ∧ x.epoch ≤ 1099511627776; omega
  · show x.idx = 0 ↔ x.epoch = 0; omega
  · show (insC x.cel t.cells).length ≤ 12
    rw [insC_len h.up]
    have := h.many
    split
    · exact this
    · rename_i e
      rcases m.room with r | r
      · exact absurd r e
      · omega
  · show (insD x.don t.done).length ≤ 4
    have := four_len (a := 0) hupd (fun d hd => by have := reqB_iff.1 (hdon d hd).1; omega) (by omega)
    omega
  · intro c hc
    show _ ∧ _ ∧ c.ver ≤ x.idx
    rcases mem_insC hc with rfl | hc
    · have := hdon x.don (by
        have : (insD x.don t.done).Perm _ := insD_perm h.upd
        exact this.mem_iff.2 (List.mem_cons_self ..))
      exact ⟨m.right, this.2.1, by rw [h1]; exact this.2.2⟩
    · have := h.cell c hc
      exact ⟨this.1, this.2.1, by omega⟩
  · intro d hd
    have := hdon d hd
    exact ⟨this.1, this.2.1, by show d.ver ≤ x.idx; omega⟩
  · show sumV (insC x.cel t.cells) = x.idx
    rw [sumV_ins h.up m.ver, h.sum]; omega
  · intro _ e
    have : (insD x.don t.done).Perm _ := insD_perm h.upd
    have e' : insD x.don t.done = [] := e
    rw [e'] at this
    exact absurd this.length_eq (by simp)
def lastT (s : Sh) : Tab := upT s.T s.R
def endI (s : Sh) : Int := s.T.idx + s.R.length
structure Wf (s : Sh) : Prop where
  tab : TabOk s.T
  chain : ∀ i, (h : i < s.R.length) → May (upT s.T (s.R.take i)) s.R[i]
  lo : s.T.idx ≤ s.C
  hi : s.C ≤ endI s
  len : s.R.length ≤ 24
theorem Wf.at {s : Sh} (h : Wf s) : ∀ i, i ≤ s.R.length → TabOk (upT s.T (s.R.take i)) ∧ (upT s.T (s.R.take i)).idx = s.T.idx + i
  | 0, _ => ⟨by simpa [upT] using h.tab, by simp [upT]⟩
  | i + 1, hi => by
    obtain ⟨h1, h2⟩ := h.at i (by omega)
    have hm := h.chain i (by omega)
    rw [List.take_succ_eq_append_getElem (by omega), upT_snoc]
    refine ⟨h1.put hm, ?_⟩
    show (s.R[i]).idx = _
    rw [hm.idx, h2]; omega
theorem Wf.last {s : Sh} (h : Wf s) : TabOk (lastT s) ∧ (lastT s).idx = endI s := by
  have := h.at s.R.length (Nat.le_refl _)
  rw [List.take_length] at this
  exact this
theorem Wf.new {t : Tab} (h : TabOk t) : Wf ⟨t, [], t.idx⟩ := ⟨h, fun i hi => absurd hi (by simp), by simp, by simp [endI], by simp⟩
def addP (s : Sh) (x : Rc) : Sh × Int := if mayP (lastT s) x ≠ 0 then (s, mayP (lastT s) x) else if 24 ≤ s.R.length then (s, 7) else (⟨s.T, s.R ++ [x], s.C⟩, 0)
def nextR (s : Sh) (epoch : Int) (k : List Int) (v : ByteArray) (client seq : Int) : Rc := ⟨endI s + 1, epoch, k, (lookC (lastT s).cells k).ver + 1, v, client, seq⟩
def nextP (s : Sh) (epoch : Int) (k : List Int) (v : ByteArray) (client seq : Int) : Rc × Int :=
  if mayP (lastT s) (nextR s epoch k v client seq) ≠ 0 then (zR, mayP (lastT s) (nextR s epoch k v client seq)) else if 8 ≤ endI s - s.C then (zR, 7) else (nextR s epoch k v client seq, 0)
def cutP (s : Sh) (i : Int) : Sh × Int := if i < s.C ∨ endI s < i then (s, 90) else (⟨s.T, s.R.take (i - s.T.idx).toNat, s.C⟩, 0)
def settleP (s : Sh) (i : Int) : Sh × Int := if i < s.C ∨ endI s < i then (s, 90) else (⟨s.T, s.R, i⟩, 0)
def foldP (s : Sh) (i : Int) : Sh × Int := if i < s.T.idx ∨ s.C < i then (s, 90) else (⟨upT s.T (s.R.take (i - s.T.idx).toNat), s.R.drop (i - s.T.idx).toNat, s.C⟩, 0)
def behindP (s : Sh) (i most : Int) : List Rc × Bool := if i < s.T.idx ∨ endI s < i then ([], false) else ((s.R.drop (i - s.T.idx).toNat).take most.toNat, true)
def comT (s : Sh) : Tab := upT s.T (s.R.take (s.C - s.T.idx).toNat)
theorem Wf.add {s : Sh} (h : Wf s) (x : Rc) : Wf (addP s x).1 := by
  unfold addP
  split
  · exact h
  · rename_i hm
    split
    · exact h
    · rename_i hl
      have hm' : May (lastT s) x := may_ok.1 (by simpa using hm)
      refine ⟨h.tab, fun i hi => ?_, h.lo, ?_, ?_⟩
      · have hi' : i < (s.R ++ [x]).length := hi
        rw [List.length_append, List.length_singleton] at hi'
        show May (upT s.T ((s.R ++ [x]).take i)) (s.R ++ [x])[i]
        rcases Nat.lt_or_ge i s.R.length with hlt | hge
        · rw [List.take_append_of_le_length (by omega), List.getElem_append_left hlt]
          exact h.chain i hlt
        · obtain rfl : i = s.R.length := by omega
          rw [List.take_left, List.getElem_append_right (by omega)]
          simp only [Nat.sub_self, List.getElem_cons_zero]
          exact hm'
      · have := h.hi
        unfold endI at this ⊢
        show s.C ≤ s.T.idx + ((s.R ++ [x]).length : Int)
        rw [List.length_append, List.length_singleton]; omega
      · show (s.R ++ [x]).length ≤ 24
        rw [List.length_append, List.length_singleton]; omega
theorem Wf.cut {s : Sh} (h : Wf s) (i : Int) : Wf (cutP s i).1 := by
  unfold cutP
  split
  · exact h
  · rename_i hc
    have h1 := h.lo; have h2 := h.hi
    have hn : (i - s.T.idx).toNat ≤ s.R.length := by unfold endI at *; omega
    refine ⟨h.tab, fun j hj => ?_, h.lo, ?_, ?_⟩
    · have hj' : j < (s.R.take (i - s.T.idx).toNat).length := hj
      rw [List.length_take] at hj'
      show May (upT s.T ((s.R.take (i - s.T.idx).toNat).take j)) (s.R.take (i - s.T.idx).toNat)[j]
      rw [List.take_take, Nat.min_eq_left (by omega), List.getElem_take]
      exact h.chain j (by omega)
    · unfold endI
      show s.C ≤ s.T.idx + ((s.R.take (i - s.T.idx).toNat).length : Int)
      rw [List.length_take]; omega
    · show (s.R.take (i - s.T.idx).toNat).length ≤ 24
      have := h.len
      rw [List.length_take]; omega
theorem Wf.settle {s : Sh} (h : Wf s) (i : Int) : Wf (settleP s i).1 := by
  unfold settleP
  split
  · exact h
  · rename_i hc
    have h1 := h.lo; have h2 := h.hi
    exact ⟨h.tab, h.chain, by show s.T.idx ≤ i; omega, by show i ≤ endI s; omega, h.len⟩
theorem Wf.fold {s : Sh} (h : Wf s) (i : Int) : Wf (foldP s i).1 := by
  unfold foldP
  split
  · exact h
  · rename_i hc
    have h1 := h.lo; have h2 := h.hi
    have hn : (i - s.T.idx).toNat ≤ s.R.length := by unfold endI at *; omega
    have ha := h.at _ hn
    refine ⟨ha.1, fun j hj => ?_, ?_, ?_, ?_⟩
    · have hj' : j < (s.R.drop (i - s.T.idx).toNat).length := hj
      rw [List.length_drop] at hj'
      show May (upT (upT s.T (s.R.take (i - s.T.idx).toNat)) ((s.R.drop (i - s.T.idx).toNat).take j)) (s.R.drop (i - s.T.idx).toNat)[j]
      rw [← upT_append, ← List.take_add, List.getElem_drop]
      exact h.chain _ (by omega)
    · show (upT s.T (s.R.take (i - s.T.idx).toNat)).idx ≤ s.C
      rw [ha.2]; omega
    · unfold endI at *
      show s.C ≤ (upT s.T (s.R.take (i - s.T.idx).toNat)).idx + ((s.R.drop (i - s.T.idx).toNat).length : Int)
      rw [ha.2, List.length_drop]; omega
    · show (s.R.drop (i - s.T.idx).toNat).length ≤ 24
      have := h.len
      rw [List.length_drop]; omega
structure Dq where
  op : Int
  epoch : Int
  i : Int
  near : Bool
  key : List Int
  val : ByteArray
  client : Int
  seq : Int
  x : Rc
def placeP (k : Dq) (O commit last : Int) : Int := if k.near = false then k.i else if O = 4 then last - k.i % 4 else commit + (k.i % 18446744073709551616) % 5 - 1
def doesP (O : Int) (s : Sh) (k : Dq) : Sh × Rc × Int :=
  if O = 3 then ((addP s k.x).1, zR, (addP s k.x).2)
  else if O = 4 then ((cutP s (placeP k O s.C (endI s))).1, zR, (cutP s (placeP k O s.C (endI s))).2)
  else if O = 5 ∨ O = 6 then ((settleP s (placeP k O s.C (endI s))).1, zR, (settleP s (placeP k O s.C (endI s))).2)
  else if O = 7 then ((foldP s (placeP k O s.C (endI s))).1, zR, (foldP s (placeP k O s.C (endI s))).2)
  else if (nextP s k.epoch k.key k.val k.client k.seq).2 ≠ 0 then (s, nextP s k.epoch k.key k.val k.client k.seq)
  else ((addP s (nextP s k.epoch k.key k.val k.client k.seq).1).1, (nextP s k.epoch k.key k.val k.client k.seq).1, (addP s (nextP s k.epoch k.key k.val k.client k.seq).1).2)
theorem Wf.does {s : Sh} (h : Wf s) (O : Int) (k : Dq) : Wf (doesP O s k).1 := by
  unfold doesP
  split
  · exact h.add _
  split
  · exact h.cut _
  split
  · exact h.settle _
  split
  · exact h.fold _
  split
  · exact h
  · exact h.add _
end Go.Proofs.YtgmaedngkhidlaaDoor.Sf
