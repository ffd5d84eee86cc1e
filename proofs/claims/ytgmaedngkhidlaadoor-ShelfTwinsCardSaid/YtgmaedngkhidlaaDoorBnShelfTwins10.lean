/- Texts that the row of LawShelfTwins rests on, part 10 of 12: contracts of the functions, their walks, plain laws. -/
import Derived.Test.YtgmaedngkhidlaaDoorBnShelfTwins9
import Derived.Shelf.SlSortCmp.NoneTotal
import Derived.Shelf.SlicesQ.Reverse
import Derived.Deep.LoopGhost
set_option linter.unusedSimpArgs false
-- ShC
namespace Go.Proofs.YtgmaedngkhidlaaDoor.Sf
open Go Go.RowKit Go.ChangeMaps Go.MapKept Go.Sort Go.Proofs.YtgmaedngkhidlaaDoorW.PrintWords Go.Proofs.YtgmaedngkhidlaaDoorW.PrintLast Go.Proofs.YtgmaedngkhidlaaDoorW.PrintMore
open Go.Maps (Keyed)
set_option linter.unusedVariables false
set_option linter.unusedSimpArgs false
set_option maxRecDepth 100000
def renC : Go.Shelf.Ren := ⟨fun x => if x = 6 then 78 else if x = 15 then 87 else if x = 14 then 86 else if x = 28 then 98 else if x = 29 then 99 else if x = 20 then 90 else if x = 21 then 91 else if x = 22 then 92 else if x = 23 then 93 else if x = 24 then 94 else if x = 25 then 95 else if x = 26 then 96 else if x = 27 then 97 else if x = 46 then 108 else if x = 47 then 109 else if x = 48 then 110 else if x = 49 then 111 else if x = 50 then 112 else if x = 57 then 116 else x, fun x => if x = 22 then 22 else if x = 24 then 45 else if x = 25 then 116 else if x = 3 then 3 else if x = 39 then 78 else if x = 0 then 0 else if x = 53 then 138 else if x = 55 then 129 else if x = 4 then 4 else if x = 46 then 132 else if x = 45 then 131 else if x = 50 then 52 else if x = 5 then 5 else if x = 9 then 9 else if x = 66 then 145 else if x = 70 then 149 else if x = 76 then 153 else if x = 77 then 71 else x, fun x => x⟩
def renD : Go.Shelf.Ren := ⟨fun x => if x = 6 then 80 else if x = 15 then 87 else if x = 14 then 88 else if x = 28 then 98 else if x = 29 then 99 else if x = 20 then 100 else if x = 21 then 101 else if x = 22 then 102 else if x = 23 then 103 else if x = 24 then 104 else if x = 25 then 105 else if x = 26 then 106 else if x = 27 then 107 else if x = 46 then 113 else if x = 47 then 109 else if x = 48 then 110 else if x = 49 then 114 else if x = 50 then 115 else if x = 57 then 117 else x, fun x => if x = 22 then 23 else if x = 24 then 58 else if x = 25 then 118 else if x = 3 then 3 else if x = 39 then 78 else if x = 0 then 0 else if x = 53 then 138 else if x = 55 then 129 else if x = 4 then 4 else if x = 46 then 132 else if x = 45 then 131 else if x = 50 then 52 else if x = 5 then 5 else if x = 9 then 9 else if x = 66 then 145 else if x = 70 then 149 else if x = 76 then 153 else if x = 77 then 71 else x, fun x => x⟩
theorem bears_of {P : Program} {f : FuncId} {B : Func} (F : Func) (hF : P.funcs[f]? = some F) (hn : (F.name == "runtime.NumGoroutine") = false) (hB : F = { B with name := F.name }) : Bears P f B := ⟨F.name, hn, hF.trans (congrArg some hB)⟩
theorem sortC_lays : SlLaysF0.n6 Tryd.prog renC := by
  constructor <;> first
    | kernel_rfl
    | (intro w; kernel_rfl)
    | exact bears_of _ Tryd.func78 (by kernel_rfl) (by kernel_rfl)
    | exact bears_of _ Tryd.func87 (by kernel_rfl) (by kernel_rfl)
    | exact bears_of _ Tryd.func86 (by kernel_rfl) (by kernel_rfl)
    | exact bears_of _ Tryd.func98 (by kernel_rfl) (by kernel_rfl)
    | exact bears_of _ Tryd.func99 (by kernel_rfl) (by kernel_rfl)
    | exact bears_of _ Tryd.func90 (by kernel_rfl) (by kernel_rfl)
    | exact bears_of _ Tryd.func91 (by kernel_rfl) (by kernel_rfl)
    | exact bears_of _ Tryd.func92 (by kernel_rfl) (by kernel_rfl)
    | exact bears_of _ Tryd.func93 (by kernel_rfl) (by kernel_rfl)
    | exact bears_of _ Tryd.func94 (by kernel_rfl) (by kernel_rfl)
    | exact bears_of _ Tryd.func95 (by kernel_rfl) (by kernel_rfl)
    | exact bears_of _ Tryd.func96 (by kernel_rfl) (by kernel_rfl)
    | exact bears_of _ Tryd.func97 (by kernel_rfl) (by kernel_rfl)
    | exact bears_of _ Tryd.func108 (by kernel_rfl) (by kernel_rfl)
    | exact bears_of _ Tryd.func109 (by kernel_rfl) (by kernel_rfl)
    | exact bears_of _ Tryd.func110 (by kernel_rfl) (by kernel_rfl)
    | exact bears_of _ Tryd.func111 (by kernel_rfl) (by kernel_rfl)
    | exact bears_of _ Tryd.func112 (by kernel_rfl) (by kernel_rfl)
    | exact bears_of _ Tryd.func116 (by kernel_rfl) (by kernel_rfl)
theorem sortD_lays : SlLaysF0.n6 Tryd.prog renD := by
  constructor <;> first
    | kernel_rfl
    | (intro w; kernel_rfl)
    | exact bears_of _ Tryd.func80 (by kernel_rfl) (by kernel_rfl)
    | exact bears_of _ Tryd.func87 (by kernel_rfl) (by kernel_rfl)
    | exact bears_of _ Tryd.func88 (by kernel_rfl) (by kernel_rfl)
    | exact bears_of _ Tryd.func98 (by kernel_rfl) (by kernel_rfl)
    | exact bears_of _ Tryd.func99 (by kernel_rfl) (by kernel_rfl)
    | exact bears_of _ Tryd.func100 (by kernel_rfl) (by kernel_rfl)
    | exact bears_of _ Tryd.func101 (by kernel_rfl) (by kernel_rfl)
    | exact bears_of _ Tryd.func102 (by kernel_rfl) (by kernel_rfl)
    | exact bears_of _ Tryd.func103 (by kernel_rfl) (by kernel_rfl)
    | exact bears_of _ Tryd.func104 (by kernel_rfl) (by kernel_rfl)
    | exact bears_of _ Tryd.func105 (by kernel_rfl) (by kernel_rfl)
    | exact bears_of _ Tryd.func106 (by kernel_rfl) (by kernel_rfl)
    | exact bears_of _ Tryd.func107 (by kernel_rfl) (by kernel_rfl)
    | exact bears_of _ Tryd.func113 (by kernel_rfl) (by kernel_rfl)
    | exact bears_of _ Tryd.func109 (by kernel_rfl) (by kernel_rfl)
    | exact bears_of _ Tryd.func110 (by kernel_rfl) (by kernel_rfl)
    | exact bears_of _ Tryd.func114 (by kernel_rfl) (by kernel_rfl)
    | exact bears_of _ Tryd.func115 (by kernel_rfl) (by kernel_rfl)
    | exact bears_of _ Tryd.func117 (by kernel_rfl) (by kernel_rfl)
end Go.Proofs.YtgmaedngkhidlaaDoor.Sf
-- ShD
namespace Go.Proofs.YtgmaedngkhidlaaDoor.Sf
open Go Go.RowKit Go.ChangeMaps Go.MapKept Go.Proofs.YtgmaedngkhidlaaDoorW.PrintWords Go.Proofs.YtgmaedngkhidlaaDoorW.PrintLast Go.Proofs.YtgmaedngkhidlaaDoorW.PrintMore
open Go.Maps (Keyed)
set_option linter.unusedVariables false
set_option linter.unusedSimpArgs false
set_option maxRecDepth 100000
theorem two_grow (W : World) (a b : Obj) (n : Nat) : ∃ q os', (((W.alloc a).alloc b).drewN n) = Go.Sort.grow (W.drewN q) os' := ⟨n, #[a, b], by
  rw [Go.Sort.alloc_eq_grow, Go.Sort.alloc_eq_grow, Go.Sort.grow_grow]; rfl⟩
set_option maxHeartbeats 4000000 in
theorem closeC (x y : Cel) (hx : KeyL x.key) (hy : KeyL y.key) (W : World) : Calls Tryd.prog 79 #[.agg (encC x).toArray, .agg (encC y).toArray] W fun e w' => e = .returned (.int .i64 (cmpL x.key y.key)) ∧ ∃ q os', w' = Go.Sort.grow (W.drewN q) os' := by
  obtain ⟨cm, hcm⟩ : ∃ cm, cmpL x.key y.key = cm := ⟨_, rfl⟩
  obtain ⟨xs, hxs⟩ : ∃ xs, encC x = xs := ⟨_, rfl⟩
  obtain ⟨ys, hys⟩ : ∃ ys, encC y = ys := ⟨_, rfl⟩
  obtain ⟨g, hg⟩ : ∃ g, W.heap.size = g := ⟨_, rfl⟩
  obtain ⟨w1, hw1⟩ : ∃ w1, W.alloc (.cells xs.toArray 45) = w1 := ⟨_, rfl⟩
  have hs1 : w1.heap.size = g + 1 := by rw [← hw1, ← hg]; simp
  obtain ⟨w2, hw2⟩ : ∃ w2, w1.alloc (.cells ys.toArray 45) = w2 := ⟨_, rfl⟩
  have hX1 : w1.heap[g]? = some (.cells xs.toArray 45) := hg ▸ hw1 ▸ at_alloc W _
  have HX2 := Aside0.mk (show w2.heap[g]? = some (.cells xs.toArray 45) from hw2 ▸ under_alloc hX1 _)
  have HY2 := Aside0.mk (show w2.heap[g + 1]? = some (.cells ys.toArray 45) from hs1 ▸ hw2 ▸ at_alloc w1 _)
  have HEND : Aside0 (∃ q os', w2.drew = Go.Sort.grow (W.drewN q) os') := ⟨by
    have := two_grow W (.cells xs.toArray 45) (.cells ys.toArray 45) 1
    rw [hw1, hw2] at this
    exact this⟩
  have HCMP : Aside0 (∀ w' : World, w'.heap[g]? = some (.cells xs.toArray 45 (0, 0)) → w'.heap[g + 1]? = some (.cells ys.toArray 45 (0, 0)) → Calls Tryd.prog 46 #[.slice (some ⟨g, 0, none⟩) 8 8, .slice (some ⟨g + 1, 0, none⟩) 8 8] w' fun e w'' => e = .returned (.int .i64 cm) ∧ w' = w'') := ⟨fun w' h1 h2 => by
    have kx := celAt (f := fun j => w'.cell? ⟨g, j, none⟩) hx.len (hxs ▸ blk_get h1)
    have ky := celAt (f := fun j => w'.cell? ⟨g + 1, j, none⟩) hy.len (hys ▸ blk_get h2)
    have := Compare_calls ⟨g, 0, none⟩ ⟨g + 1, 0, none⟩ 8 8 x.key y.key w' hx.byte hy.byte (fun q z hz => by
      have := kx.key q (.int .u8 z) (by unfold encK; rw [List.getElem?_map, hz]; rfl)
      rw [add_off, Nat.zero_add]
      exact this) (fun q z hz => by
      have := ky.key q (.int .u8 z) (by unfold encK; rw [List.getElem?_map, hz]; rfl)
      rw [add_off, Nat.zero_add]
      exact this)
    rw [hx.len, hy.len, hcm] at this
    exact this⟩
  have HW := Aside0.mk (And.intro hw1 hw2)
  rw [hxs, hys, hcm]
  clear hw1 hs1 hw2 hX1 hcm hxs hys
  go_enter Tryd.func79, Tryd.ntmps79
  go_upto_region 1 with (fail)
  rw [HW.out.1, HW.out.2]
  refine start_ (n := 6) (S := fun w' => w'.heap[g]? = some (.cells xs.toArray 45 (0, 0)) ∧ w'.heap[g + 1]? = some (.cells ys.toArray 45 (0, 0))) (ds := []) #[false, false, false, false, false, false] (by kernel_rfl) rfl rfl ⟨blk_below HX2.out (below_drew1 (Below.refl _ _)), blk_below HY2.out (below_drew1 (Below.refl _ _))⟩ (fun hHeld => ?_)
  refine pure_ (i := 0) (N := some 5) (v := ?_) (a' := ?_) #[true, false, false, false, false, false] rfl rfl (by kernel_rfl) (fun _ _ _ h => h) (Or.inl ⟨by rfl, ?_⟩) ?_ ?_
  rotate_left
  · intro w'
    go_simp
    with_reducible rfl
  rotate_left
  · simp only [Act.put, List.setIfInBounds_toArray, List.set_cons_zero, List.set_cons_succ, i64_w, i32_w]
    rfl
  refine pure_ (i := 1) (N := some 6) (v := ?_) (a' := ?_) #[true, true, false, false, false, false] rfl rfl (by kernel_rfl) (fun _ _ _ h => h) (Or.inl ⟨by rfl, ?_⟩) ?_ ?_
  rotate_left
  · intro w'
    refine Eq.trans (exec_key (.tmp 5) rfl ⟨g, 0, none⟩ rfl) ?_
    with_reducible rfl
  rotate_left
  · simp only [Act.put, List.setIfInBounds_toArray, List.set_cons_zero, List.set_cons_succ, i64_w, i32_w]
    rfl
  refine pure_ (i := 2) (N := some 7) (v := ?_) (a' := ?_) #[true, true, true, false, false, false] rfl rfl (by kernel_rfl) (fun _ _ _ h => h) (Or.inl ⟨by rfl, ?_⟩) ?_ ?_
  rotate_left
  · intro w'
    go_simp
    with_reducible rfl
  rotate_left
  · simp only [Act.put, List.setIfInBounds_toArray, List.set_cons_zero, List.set_cons_succ, i64_w, i32_w]
    rfl
  refine pure_ (i := 3) (N := some 8) (v := ?_) (a' := ?_) #[true, true, true, true, false, false] rfl rfl (by kernel_rfl) (fun _ _ _ h => h) (Or.inl ⟨by rfl, ?_⟩) ?_ ?_
  rotate_left
  · intro w'
    refine Eq.trans (exec_key (.tmp 7) rfl ⟨g + 1, 0, none⟩ rfl) ?_
    with_reducible rfl
  rotate_left
  · simp only [Act.put, List.setIfInBounds_toArray, List.set_cons_zero, List.set_cons_succ, i64_w, i32_w]
    rfl
  refine one_ (i := 4) (N := some 9) #[true, true, true, true, true, false] rfl rfl (by kernel_rfl) (by decide) (fun K hK => ?_)
  refine goes_ Tryd.func46 (by kernel_rfl) rfl #[.slice (some ⟨g, 0, none⟩) 8 8, .slice (some ⟨g + 1, 0, none⟩) 8 8] (by rfl) rfl rfl (by first | rfl | (simp; done) | (simp only [List.map_toArray, List.map_cons, List.map_nil]; rfl)) ?_
  with_reducible refine (HCMP.out _ hHeld.1 hHeld.2).mono ?_
  rintro e w4 ⟨rfl, rfl⟩
  refine ⟨_, rfl, ?_⟩
  refine hK.out _ _ ⟨hHeld.1, hHeld.2⟩ (fun hHeld => ?_)
  clear hK K
  refine norm_ (a' := ?_) ?_ ?_
  rotate_left
  · show Act.put _ (some 9) _ = _
    simp only [Act.put, List.setIfInBounds_toArray, List.set_cons_zero, List.set_cons_succ, i64_w, i32_w]
    rfl
  refine pure_ (i := 5) (N := some 4) (v := ?_) (a' := ?_) #[true, true, true, true, true, true] rfl rfl (by kernel_rfl) (fun _ _ _ h => h) (Or.inl ⟨by rfl, ?_⟩) ?_ ?_
  rotate_left
  · intro w'
    go_simp
    with_reducible rfl
  rotate_left
  · simp only [Act.put, List.setIfInBounds_toArray, List.set_cons_zero, List.set_cons_succ, i64_w, i32_w]
    rfl
  refine done_ (by kernel_rfl) ?_
  go_wp2_with (fail)
  go_ret
  exact ⟨rfl, HEND.out⟩
set_option maxHeartbeats 4000000 in
theorem closeD (x y : Don) (hx : 0 ≤ x.client ∧ x.client < 4) (hy : 0 ≤ y.client ∧ y.client < 4) (W : World) : Calls Tryd.prog 81 #[.agg (encD x).toArray, .agg (encD y).toArray] W fun e w' => e = .returned (.int .i64 (x.client - y.client)) ∧ ∃ q os', w' = Go.Sort.grow (W.drewN q) os' := by
  obtain ⟨xc, xq, xv⟩ := x
  obtain ⟨yc, yq, yv⟩ := y
  have hwr : wrap64 (xc - yc) = xc - yc := by dsimp only at hx hy; unfold wrap64; omega
  have hwr' : IntKind.i64.wrap (xc - yc) = xc - yc := IntWalk.i64_in _ (by dsimp only at hx hy; omega)
  clear hx hy
  change Calls _ _ #[.agg #[.int .i64 xc, .int .i64 xq, .int .i64 xv], .agg #[.int .i64 yc, .int .i64 yq, .int .i64 yv]] _ fun e w' => e = .returned (.int .i64 (xc - yc)) ∧ _
  go_enter Tryd.func81, Tryd.ntmps81
  go_wp2_with (fail)
  go_ret
  refine ⟨?_, two_grow W _ _ 0⟩
  first | rfl | (rw [hwr])
end Go.Proofs.YtgmaedngkhidlaaDoor.Sf
-- ShE
namespace Go.Proofs.YtgmaedngkhidlaaDoor.Sf
open Go Go.RowKit Go.ChangeMaps Go.MapKept Go.Proofs.YtgmaedngkhidlaaDoorW.PrintWords Go.Proofs.YtgmaedngkhidlaaDoorW.PrintLast Go.Proofs.YtgmaedngkhidlaaDoorW.PrintMore
open Go.Maps (Keyed)
set_option linter.unusedVariables false
set_option linter.unusedSimpArgs false
set_option maxRecDepth 100000
theorem pair_mem {β : Type} {lt : β → β → Prop} {r : List β} (hr : r.Pairwise lt) {a b : β} (ha : a ∈ r) (hb : b ∈ r) : a = b ∨ lt a b ∨ lt b a := by
  obtain ⟨i, hi, rfl⟩ := List.mem_iff_getElem.1 ha
  obtain ⟨j, hj, rfl⟩ := List.mem_iff_getElem.1 hb
  rcases Nat.lt_trichotomy i j with h | h | h
  · exact .inr (.inl (List.pairwise_iff_getElem.1 hr i j hi hj h))
  · subst h; exact .inl rfl
  · exact .inr (.inr (List.pairwise_iff_getElem.1 hr j i hj hi h))
theorem sort_unique {β : Type} {lt : β → β → Prop} : ∀ {r s : List β}, s.Perm r → r.Pairwise lt → s.Pairwise (fun a b => ¬ lt b a) → (∀ a b, lt a b → ¬ lt b a) → s = r := by
  intro r s hp hr hs asym
  have hr' : r.Pairwise (fun a b => ¬ lt b a) := hr.imp (fun h => asym _ _ h)
  refine List.Perm.eq_of_pairwise (le := fun a b => ¬ lt b a) (fun a b ha hb h1 h2 => ?_) hs hr' hp
  rcases pair_mem hr (hp.mem_iff.1 ha) hb with h | h | h
  · exact h
  · exact absurd h h2
  · exact absurd h h1
def toS {β : Type} {p : β → Prop} : (l : List β) → (∀ x ∈ l, p x) → List {x : β // p x}
  | [], _ => []
  | x :: r, h => ⟨x, h x (List.mem_cons_self ..)⟩ :: toS r (fun y hy => h y (List.mem_cons_of_mem _ hy))
theorem toS_map {β : Type} {p : β → Prop} : ∀ (l : List β) (h : ∀ x ∈ l, p x), (toS l h).map (fun x => x.1) = l
  | [], _ => rfl
  | x :: r, h => by unfold toS; rw [List.map_cons, toS_map r]
section
variable {β : Type} {p : β → Prop} [Inhabited {x : β // p x}] {enc : β → List Value} {k : Nat} {w : World} {blk : Nat}
theorem holds_row {ty : TypeId} {cells : Array Value} (hk : 0 < k) (hlen : ∀ x, p x → (enc x).length = k) (l : List β) (hl : ∀ x ∈ l, p x) (hb : w.heap[blk]? = some (.cells cells ty (0, 0)))
    (hc : ∀ i x, l[i]? = some x → ∀ j v, (enc x)[j]? = some v → cells[i * k + j]? = some v) : Go.Sort.HoldsK (fun x : {x : β // p x} => enc x.1) k w blk 0 (toS l hl).toArray := by
  have hm := toS_map l hl
  intro t ht
  rw [Go.Sort.size_flatK] at ht
  rw [Nat.zero_add]
  refine ⟨?_, blk_frozen hb t⟩
  rw [blk_cell hb t, Go.Sort.get_flatK _ _ _ t ht]
  have hq : t / k < (toS l hl).toArray.size := by
    rw [Nat.div_lt_iff_lt_mul hk]; exact ht
  rw [getElem!_pos (toS l hl).toArray (t / k) hq]
  have hq' : t / k < (toS l hl).length := by simpa using hq
  have hx : l[t / k]? = some ((toS l hl)[t / k]).1 := by
    conv => lhs; rw [← hm]
    rw [List.getElem?_map, List.getElem?_eq_getElem hq']
    rfl
  have hel := hlen _ ((toS l hl)[t / k]).2
  have hr : t % k < (enc ((toS l hl)[t / k]).1).length := by rw [hel]; exact Nat.mod_lt _ hk
  have := hc _ _ hx (t % k) _ (List.getElem?_eq_getElem hr)
  rw [Nat.div_add_mod' t k] at this
  rw [this]
  simp only [List.getElem_toArray, id]
  rw [getElem!_pos (enc ((toS l hl)[t / k]).1) (t % k) hr]
theorem sort_ws (enc' : {x : β // p x} → List Value) (n : Nat) (d : Array {x : β // p x}) (os : Array Obj) : Ws (fun b => b = blk) w (sortWorldK enc' k w blk 0 n d os) := by
  refine ⟨rfl, rfl, rfl, ?_, fun i hi hne => ?_⟩
  · unfold sortWorldK Go.Sort.putRowK Go.Sort.putRow Go.Sort.mapBlock Go.Sort.grow Go.Sort.ahead
    simp
  · unfold sortWorldK Go.Sort.putRowK Go.Sort.putRow Go.Sort.mapBlock Go.Sort.grow Go.Sort.ahead
    show ((w.heap.modify blk _) ++ os)[i]? = _
    rw [Array.getElem?_append_left (by simpa using hi), Array.getElem?_modify, if_neg (fun e => hne e.symm)]
end
theorem perm_sorted {β : Type} {p : β → Prop} [Inhabited {x : β // p x}] {lt : β → β → Prop} {cf : {x : β // p x} → {x : β // p x} → Int} (hcf : ∀ x y, Go.Proofs.ltOf cf x y = false → ¬ lt x.1 y.1) (asym : ∀ a b, lt a b → ¬ lt b a) {l r : List β} (hl : ∀ x ∈ l, p x) (hp : l.Perm r) (hr : r.Pairwise lt) {d' : Array {x : β // p x}}
    (h1 : Go.Sort.PermIn 0 (toS l hl).toArray.size (toS l hl).toArray d') (h2 : Go.Sort.SortedIn (Go.Proofs.ltOf cf) 0 (toS l hl).toArray.size d') : d'.toList.map (fun x => x.1) = r ∧ d'.size = (toS l hl).toArray.size := by
  obtain ⟨hs, _, hpm⟩ := h1
  refine ⟨?_, hs⟩
  rw [← hs] at h2
  have hp2 : d'.toList.Perm (toS l hl) := by
    have e1 : (d'.extract 0 (toS l hl).toArray.size).toList = d'.toList := by rw [← hs]; simp
    have e2 : ((toS l hl).toArray.extract 0 (toS l hl).toArray.size).toList = toS l hl := by simp
    rw [e1, e2] at hpm
    exact hpm
  have hp3 : (d'.toList.map (fun x => x.1)).Perm r := by
    have := hp2.map (fun x => x.1)
    rw [toS_map] at this
    exact this.trans hp
  refine sort_unique hp3 hr ?_ asym
  rw [List.pairwise_map]
  refine List.pairwise_iff_getElem.2 fun i j hi hj hij => ?_
  have hi' : i < d'.size := by simpa using hi
  have hj' : j < d'.size := by simpa using hj
  have := h2 i j (Nat.zero_le _) hij hj'
  rw [getElem!_pos d' i hi', getElem!_pos d' j hj'] at this
  have := hcf _ _ this
  simpa using this
theorem ltC_swo : Go.Sort.SWO (Go.Proofs.ltOf fun x y : {c : Cel // KeyL c.key} => cmpL x.1.key y.1.key) where
  irrefl x := by show decide (cmpL x.1.key x.1.key < 0) = false; rw [cmpL_self]; rfl
  trans x y z h1 h2 := by
    unfold Go.Proofs.ltOf at *
    exact decide_eq_true (cmpL_trans (of_decide_eq_true h1) (of_decide_eq_true h2))
  ntrans x y z h1 h2 := by
    refine decide_eq_false fun h => ?_
    have h1 : ¬ cmpL x.1.key y.1.key < 0 := of_decide_eq_false h1
    have h2 : ¬ cmpL y.1.key z.1.key < 0 := of_decide_eq_false h2
    have h : cmpL x.1.key z.1.key < 0 := h
    by_cases e : x.1.key = y.1.key
    · rw [e] at h; exact h2 h
    · have := cmpL_trans (cmpL_else h1 e) h
      exact h2 this
theorem ltD_swo : Go.Sort.SWO (Go.Proofs.ltOf fun x y : {d : Don // 0 ≤ d.client ∧ d.client < 4} => x.1.client - y.1.client) where
  irrefl x := by unfold Go.Proofs.ltOf; simp
  trans x y z h1 h2 := by unfold Go.Proofs.ltOf at *; simp at *; omega
  ntrans x y z h1 h2 := by unfold Go.Proofs.ltOf at *; simp at *; omega
instance : Inhabited {c : Cel // KeyL c.key} := ⟨⟨zC, keyL_zero⟩⟩
instance : Inhabited {d : Don // 0 ≤ d.client ∧ d.client < 4} := ⟨⟨zD, by decide⟩⟩
theorem SortC_calls (blk cap : Nat) (l r : List Cel) (w : World) (cells : Array Value) (hb : w.heap[blk]? = some (.cells cells 45 (0, 0))) (hc : ∀ i x, l[i]? = some x → ∀ j v, (encC x)[j]? = some v → cells[i * 10 + j]? = some v) (hk : ∀ x ∈ l, KeyL x.key) (hp : l.Perm r) (hr : UpC r) (hl : l.length ≤ 12) :
    Calls Tryd.prog 78 #[.slice (some ⟨blk, 0, none⟩) l.length cap, .func (.func 79) #[] #[]] w fun e w' => e = .returned (.tuple #[]) ∧ Ws (fun b => b = blk) w w' ∧ kC.C w' (some ⟨blk, 0, none⟩) r.length r := by
  have hH := holds_row (p := fun c : Cel => KeyL c.key) (enc := encC) (k := 10) (by decide) (fun x hx => encC_len hx.len) l hk hb hc
  have hsz : (toS l hk).toArray.size = l.length := by
    have := congrArg List.length (toS_map l hk)
    simpa using this
  have eg : ∀ args w, (callFunc 79 args).run Tryd.prog w = .ok (.enter 79 args) w := enters_of Tryd.func79 (by kernel_rfl) rfl
  have h := AnyQ.slices_SortFunc sortC_lays 10 (fun w => by kernel_rfl) (fun w => by kernel_rfl) (fun x : {c : Cel // KeyL c.key} => encC x.1) (fun x => encC_len x.2.len) (fun x => encC_one x.1) (fun x y => cmpL x.1.key y.1.key) ltC_swo 79 #[] blk 0 cap (toS l hk).toArray w eg (fun _ _ _ _ x y => closeC x.1 y.1 x.2 y.2 _) hH (blk_lt hb) (by rw [hsz]; omega)
  rw [hsz] at h
  refine h.mono ?_
  rintro e w' ⟨rfl, d', n, os, h1, h2, rfl⟩
  rw [← hsz] at h1 h2
  obtain ⟨hm, hs⟩ := perm_sorted (lt := fun a b : Cel => cmpL a.key b.key < 0) (fun x y h => of_decide_eq_false h) (fun a b h => cmpL_not h) hk hp hr h1 h2
  have hsw : SWK (fun x : {c : Cel // KeyL c.key} => encC x.1) 10 w blk 0 d' (sortWorldK (fun x : {c : Cel // KeyL c.key} => encC x.1) 10 w blk 0 n d' os) := ⟨n, os, rfl⟩
  have hh := hsw.holds (blk_lt hb) hH hs
  have hrl : r.length = d'.size := by rw [← hm]; simp
  refine ⟨rfl, sort_ws _ n d' os, rfl, by rw [hrl, hs, hsz]; omega, fun _ => ⟨⟨blk, 0, none⟩, rfl, fun i y hi => ?_⟩⟩
  have hil : i < d'.size := by rw [← hrl]; exact (List.getElem?_eq_some_iff.1 hi).1
  have hy : y = (d'[i]!).1 := by
    rw [← hm, List.getElem?_map, List.getElem?_eq_getElem (by simpa using hil)] at hi
    rw [getElem!_pos d' i hil]
    simpa using hi.symm
  have hyk : KeyL y.key := hy ▸ (d'[i]!).2
  refine ⟨encC y, encC_len hyk.len, ⟨rfl, encC_len hyk.len⟩, fun j v hj => ?_⟩
  have := HoldsK.cells hh (fun x => encC_len x.2.len) hil j v (hy ▸ hj)
  rw [Nat.zero_add, add_off] at this
  rw [add_off, Nat.zero_add]
  exact this
theorem SortD_calls (blk cap : Nat) (l r : List Don) (w : World) (cells : Array Value) (hb : w.heap[blk]? = some (.cells cells 58 (0, 0))) (hc : ∀ i x, l[i]? = some x → ∀ j v, (encD x)[j]? = some v → cells[i * 3 + j]? = some v) (hk : ∀ x ∈ l, 0 ≤ x.client ∧ x.client < 4) (hp : l.Perm r) (hr : UpD r) (hl : l.length ≤ 12) :
    Calls Tryd.prog 80 #[.slice (some ⟨blk, 0, none⟩) l.length cap, .func (.func 81) #[] #[]] w fun e w' => e = .returned (.tuple #[]) ∧ Ws (fun b => b = blk) w w' ∧ kD.C w' (some ⟨blk, 0, none⟩) r.length r := by
  have hH := holds_row (p := fun c : Don => 0 ≤ c.client ∧ c.client < 4) (enc := encD) (k := 3) (by decide) (fun x hx => rfl) l hk hb hc
  have hsz : (toS l hk).toArray.size = l.length := by
    have := congrArg List.length (toS_map l hk)
    simpa using this
  have eg : ∀ args w, (callFunc 81 args).run Tryd.prog w = .ok (.enter 81 args) w := enters_of Tryd.func81 (by kernel_rfl) rfl
  have h := AnyQ.slices_SortFunc sortD_lays 3 (fun w => by kernel_rfl) (fun w => by kernel_rfl) (fun x : {d : Don // 0 ≤ d.client ∧ d.client < 4} => encD x.1) (fun x => rfl) (fun x => encD_one x.1) (fun x y => x.1.client - y.1.client) ltD_swo 81 #[] blk 0 cap (toS l hk).toArray w eg (fun _ _ _ _ x y => closeD x.1 y.1 x.2 y.2 _) hH (blk_lt hb) (by rw [hsz]; omega)
  rw [hsz] at h
  refine h.mono ?_
  rintro e w' ⟨rfl, d', n, os, h1, h2, rfl⟩
  rw [← hsz] at h1 h2
  obtain ⟨hm, hs⟩ := perm_sorted (lt := fun a b : Don => a.client < b.client) (fun x y h => by have : ¬ x.1.client - y.1.client < 0 := of_decide_eq_false h; omega) (fun a b h => by omega) hk hp hr h1 h2
  have hsw : SWK (fun x : {d : Don // 0 ≤ d.client ∧ d.client < 4} => encD x.1) 3 w blk 0 d' (sortWorldK (fun x : {d : Don // 0 ≤ d.client ∧ d.client < 4} => encD x.1) 3 w blk 0 n d' os) := ⟨n, os, rfl⟩
  have hh := hsw.holds (blk_lt hb) hH hs
  have hrl : r.length = d'.size := by rw [← hm]; simp
  refine ⟨rfl, sort_ws _ n d' os, rfl, by rw [hrl, hs, hsz]; omega, fun _ => ⟨⟨blk, 0, none⟩, rfl, fun i y hi => ?_⟩⟩
  have hil : i < d'.size := by rw [← hrl]; exact (List.getElem?_eq_some_iff.1 hi).1
  have hy : y = (d'[i]!).1 := by
    rw [← hm, List.getElem?_map, List.getElem?_eq_getElem (by simpa using hil)] at hi
    rw [getElem!_pos d' i hil]
    simpa using hi.symm
  refine ⟨encD y, rfl, ⟨rfl, rfl⟩, fun j v hj => ?_⟩
  have := HoldsK.cells hh (fun x => rfl) hil j v (hy ▸ hj)
  rw [Nat.zero_add, add_off] at this
  rw [add_off, Nat.zero_add]
  exact this
theorem SortC_none (A : Option Addr) (cap : Nat) (w : World) : Calls Tryd.prog 78 #[.slice A 0 cap, .func (.func 79) #[] #[]] w fun e w' => e = .returned (.tuple #[]) ∧ w' = w := AnyF.slices_SortFunc_none sortC_lays A cap _ w
theorem SortD_none (A : Option Addr) (cap : Nat) (w : World) : Calls Tryd.prog 80 #[.slice A 0 cap, .func (.func 81) #[] #[]] w fun e w' => e = .returned (.tuple #[]) ∧ w' = w := AnyF.slices_SortFunc_none sortD_lays A cap _ w
end Go.Proofs.YtgmaedngkhidlaaDoor.Sf
-- ShF
namespace Go.Proofs.YtgmaedngkhidlaaDoor.Sf
open Go Go.RowKit Go.ChangeMaps Go.MapKept Go.Proofs.YtgmaedngkhidlaaDoorW.PrintWords Go.Proofs.YtgmaedngkhidlaaDoorW.PrintLast Go.Proofs.YtgmaedngkhidlaaDoorW.PrintMore
open Go.Maps (Keyed)
set_option linter.unusedVariables false
set_option linter.unusedSimpArgs false
theorem stepC {left lf : List (Value × Value)} {leftC : List Cel} {p : Value × Value} (h1 : left.Perm (leftC.map kvC)) (h2 : left.Perm (p :: lf)) : ∃ (c : Cel) (rest : List Cel) (ks vs : List Value), p = (.agg ks.toArray, .agg vs.toArray) ∧ encC c = vs ∧ leftC.Perm (c :: rest) ∧ lf.Perm (rest.map kvC) := by
  have h3 : (leftC.map kvC).Perm (p :: lf) := h1.symm.trans h2
  obtain ⟨c, hc, rfl⟩ := List.mem_map.1 (h3.mem_iff.2 (List.mem_cons_self ..))
  obtain ⟨s, t, rfl⟩ := List.append_of_mem hc
  have h4 : (s ++ c :: t).Perm (c :: (s ++ t)) := List.perm_middle
  refine ⟨c, s ++ t, encK c.key, encC c, rfl, rfl, h4, ?_⟩
  have h5 := (h4.map kvC).symm.trans h3
  rw [List.map_cons] at h5
  exact h5.cons_inv.symm
theorem stepD {left lf : List (Value × Value)} {leftC : List Don} {p : Value × Value} (h1 : left.Perm (leftC.map kvD)) (h2 : left.Perm (p :: lf)) : ∃ (c : Don) (rest : List Don) (n : Int) (vs : List Value), p = (.int .i64 n, .agg vs.toArray) ∧ encD c = vs ∧ leftC.Perm (c :: rest) ∧ lf.Perm (rest.map kvD) := by
  have h3 : (leftC.map kvD).Perm (p :: lf) := h1.symm.trans h2
  obtain ⟨c, hc, rfl⟩ := List.mem_map.1 (h3.mem_iff.2 (List.mem_cons_self ..))
  obtain ⟨s, t, rfl⟩ := List.append_of_mem hc
  have h4 : (s ++ c :: t).Perm (c :: (s ++ t)) := List.perm_middle
  refine ⟨c, s ++ t, c.client, encD c, rfl, rfl, h4, ?_⟩
  have h5 := (h4.map kvD).symm.trans h3
  rw [List.map_cons] at h5
  exact h5.cons_inv.symm
theorem len10 : ∀ {k : List Value}, k.length = 10 → ∃ a0 a1 a2 a3 a4 a5 a6 a7 a8 a9, k = [a0, a1, a2, a3, a4, a5, a6, a7, a8, a9]
  | [a0, a1, a2, a3, a4, a5, a6, a7, a8, a9], _ => ⟨a0, a1, a2, a3, a4, a5, a6, a7, a8, a9, rfl⟩
theorem lit_cel (w : World) {xs : List Value} (hx : xs.length = 10) : (Instr.buildSlice 22 1 #[(0, .agg xs.toArray)]).run Tryd.prog w = .ok (.slice (some ⟨w.heap.size, 0, none⟩) 1 1) (w.alloc (.cells xs.toArray 45 (0, 0))) := by
  obtain ⟨a0, a1, a2, a3, a4, a5, a6, a7, a8, a9, rfl⟩ := len10 hx
  kernel_rfl
theorem lit_don (w : World) (a b c : Value) : (Instr.buildSlice 23 1 #[(0, .agg #[a, b, c])]).run Tryd.prog w = .ok (.slice (some ⟨w.heap.size, 0, none⟩) 1 1) (w.alloc (.cells #[a, b, c] 58 (0, 0))) := by kernel_rfl
theorem Ws.of_low {b : Nat} {w w' : World} (h : Below b w w') : Ws (fun k => b ≤ k) w w' := ⟨h.os, h.tape, h.output, h.size, fun i _ hn => h.block i (by omega)⟩
theorem infoC : (Tryd.prog.info? 45).map (fun i => (i.zero, i.size, i.bytes)) = some (some (.agg zCel.toArray), 10, 32) := by kernel_rfl
theorem infoD : (Tryd.prog.info? 58).map (fun i => (i.zero, i.size, i.bytes)) = some (some (.agg #[.int .i64 0, .int .i64 0, .int .i64 0]), 3, 24) := by kernel_rfl
theorem C_same {α : Type} {enc : α → List Value} {k : Nat} {h1 : ∀ x, ∀ v ∈ enc x, v.oneCell' = true} {q n : Nat} {R : List α} {w w2 : World} (h : (flat enc k h1).C w (some ⟨q, 0, none⟩) n R) (hs : w2.heap[q]? = w.heap[q]?) : (flat enc k h1).C w2 (some ⟨q, 0, none⟩) n R := by
  obtain ⟨hn, hmx, hc0⟩ := h
  refine ⟨hn, hmx, fun hp => ?_⟩
  obtain ⟨ad, e, hc1⟩ := hc0 hp
  injection e with e
  subst e
  refine ⟨⟨q, 0, none⟩, rfl, fun i p hi => ?_⟩
  obtain ⟨cs, hl, hk, hcc⟩ := hc1 i p hi
  refine ⟨cs, hl, hk, fun j u hj => ?_⟩
  have := hcc j u hj
  rw [add_off] at this ⊢
  exact (World.cell?_of_block (a := ⟨q, _, none⟩) hs).trans this
theorem C_nilF {α : Type} {enc : α → List Value} {k : Nat} {h1 : ∀ x, ∀ v ∈ enc x, v.oneCell' = true} (A : Option Addr) (w : World) : (flat enc k h1).C w A ([] : List α).length ([] : List α) := ⟨rfl, by simp, fun h => by simp at h⟩
theorem sortC_at {lo hi c : Nat} {A : Option Addr} {l r : List Cel} {w : World} (hR : Kd.R kC 45 w lo (fun k => lo ≤ k ∧ k < hi) (.slice A l.length c) l) (hp : r.Perm l) (hr : UpC r) (hk : ∀ x ∈ r, KeyL x.key) (hl : r.length ≤ 12) :
    Calls Tryd.prog 78 #[.slice A l.length c, .func (.func 79) #[] #[]] w fun e w' => e = .returned (.tuple #[]) ∧ Ws (fun b => lo ≤ b ∧ b < hi) w w' ∧ ∀ w2 : World, (∀ b, lo ≤ b → b < hi → b < w'.heap.size → w2.heap[b]? = w'.heap[b]?) → kC.C w2 A r.length r := by
  have hlen := hp.length_eq
  cases l with
  | nil =>
    obtain rfl : r = [] := by simpa using hlen
    refine (SortC_none A c w).mono ?_
    rintro e w' ⟨rfl, rfl⟩
    exact ⟨rfl, Ws.refl _ _, fun w2 _ => C_nilF A w2⟩
  | cons x0 xr =>
    obtain ⟨q, cap, he, hbq, hql, cells, hcells⟩ := Kd.R_form hR (by simp)
    injection he with e1 e2 e3
    subst e1
    obtain ⟨_, _, hC⟩ := Kd.R_reads' hR
    obtain ⟨_, _, hc0⟩ := hC
    obtain ⟨ad, ea, hc1⟩ := hc0 (by simp)
    injection ea with ea
    subst ea
    have hok := hR.1 q rfl
    refine (SortC_calls q c (x0 :: xr) r w cells hcells (fun i x hi j v hj => ?_) (fun x hx => hk x (hp.mem_iff.2 hx)) hp.symm hr (by omega)).mono ?_
    · obtain ⟨cs, hl, ⟨hk1, _⟩, hcc⟩ := hc1 i x hi
      have := hcc j v (by rw [hk1]; exact hj)
      rw [add_off, Nat.zero_add, blk_cell hcells] at this
      exact this
    · rintro e w' ⟨rfl, hws, hC'⟩
      exact ⟨rfl, hws.mono (fun b _ h => h ▸ hok), fun w2 h2 => C_same hC' (h2 q hok.1 hok.2 (Nat.lt_of_lt_of_le hql hws.size))⟩
theorem sortD_at {lo c : Nat} {A : Option Addr} {l r : List Don} {w : World} (hR : Kd.R kD 58 w lo (fun k => lo ≤ k) (.slice A l.length c) l) (hp : r.Perm l) (hr : UpD r) (hk : ∀ x ∈ r, 0 ≤ x.client ∧ x.client < 4) (hl : r.length ≤ 4) :
    Calls Tryd.prog 80 #[.slice A l.length c, .func (.func 81) #[] #[]] w fun e w' => e = .returned (.tuple #[]) ∧ Ws (fun b => lo ≤ b) w w' ∧ ∀ w2 : World, (∀ b, lo ≤ b → b < w'.heap.size → w2.heap[b]? = w'.heap[b]?) → kD.C w2 A r.length r := by
  have hlen := hp.length_eq
  cases l with
  | nil =>
    obtain rfl : r = [] := by simpa using hlen
    refine (SortD_none A c w).mono ?_
    rintro e w' ⟨rfl, rfl⟩
    exact ⟨rfl, Ws.refl _ _, fun w2 _ => C_nilF A w2⟩
  | cons x0 xr =>
    obtain ⟨q, cap, he, hbq, hql, cells, hcells⟩ := Kd.R_form hR (by simp)
    injection he with e1 e2 e3
    subst e1
    obtain ⟨_, _, hC⟩ := Kd.R_reads' hR
    obtain ⟨_, _, hc0⟩ := hC
    obtain ⟨ad, ea, hc1⟩ := hc0 (by simp)
    injection ea with ea
    subst ea
    have hok := hR.1 q rfl
    refine (SortD_calls q c (x0 :: xr) r w cells hcells (fun i x hi j v hj => ?_) (fun x hx => hk x (hp.mem_iff.2 hx)) hp.symm hr (by omega)).mono ?_
    · obtain ⟨cs, hl, ⟨hk1, _⟩, hcc⟩ := hc1 i x hi
      have := hcc j v (by rw [hk1]; exact hj)
      rw [add_off, Nat.zero_add, blk_cell hcells] at this
      exact this
    · rintro e w' ⟨rfl, hws, hC'⟩
      exact ⟨rfl, hws.mono (fun b _ h => h ▸ hok), fun w2 h2 => C_same hC' (h2 q hok (Nat.lt_of_lt_of_le hql hws.size))⟩
set_option maxHeartbeats 16000000 in
set_option maxRecDepth 100000 in
theorem table_calls (b1 b2 : Nat) (t : Tab) (lo ep : Int) (w : World) (hS : St2 w b1 b2 t) (hk : ∀ c ∈ t.cells, KeyL c.key) (hd : ∀ d ∈ t.done, 0 ≤ d.client ∧ d.client < 4) (huC : UpC t.cells) (huD : UpD t.done) (hlc : t.cells.length ≤ 12) (hld : t.done.length ≤ 4) :
    Calls Tryd.prog 60 #[vS b1 b2, .int .i64 lo, .int .i64 ep] w fun e w' => ∃ A ca B cb, e = .returned (vT lo ep A t.cells.length ca B t.done.length cb) ∧ Below w.heap.size w w' ∧ ∀ w2 : World, (∀ b, w.heap.size ≤ b → b < w'.heap.size → w2.heap[b]? = w'.heap[b]?) → kC.C w2 A t.cells.length t.cells ∧ kD.C w2 B t.done.length t.done := by
  obtain ⟨g, hg⟩ : ∃ g, w.heap.size = g := ⟨_, rfl⟩
  obtain ⟨w1, hw1⟩ : ∃ w1, w.alloc (.cells #[.map (some b1), .map (some b2)] 84) = w1 := ⟨_, rfl⟩
  have hs1 : w1.heap.size = g + 1 := by rw [← hw1, ← hg]; simp
  obtain ⟨w2, hw2⟩ : ∃ w2, w1.alloc (.cells #[.int .i64 0, .int .i64 0, .slice none 0 0, .slice none 0 0] 25) = w2 := ⟨_, rfl⟩
  have hs2 : w2.heap.size = g + 2 := by rw [← hw2]; simp [hs1]
  have hb1 : Below w.heap.size w w1 := hw1 ▸ below_alloc (Below.refl _ _) _
  have hb2 : Below w.heap.size w w2 := below_then hb1 hb1.size (hw2 ▸ below_alloc (Below.refl _ _) _)
  have hG1 : w1.heap[g]? = some (.cells #[.map (some b1), .map (some b2)] 84) := hg ▸ hw1 ▸ at_alloc w _
  have HG2 := Aside0.mk (show w2.heap[g]? = some (.cells [.map (some b1), .map (some b2)].toArray 84) from hw2 ▸ under_alloc hG1 _)
  have HZ2 := Aside0.mk (show w2.heap[g + 1]? = some (.cells #[.int .i64 0, .int .i64 0, .slice none 0 0, .slice none 0 0] 25) from hs1 ▸ hw2 ▸ at_alloc w1 _)
  have HS2 := Aside0.mk (hS.below hb2)
  have HB2 := Aside0.mk hb2
  have HW := Aside0.mk (And.intro hw1 hw2)
  have HSZ : Aside0 (w.heap.size = g ∧ w2.heap.size = g + 2 ∧ b1 < g ∧ b2 < g) := ⟨hg, hs2, hg ▸ hS.lt.1, hg ▸ hS.lt.2⟩
  have HK := Aside0.mk hk
  have HDC := Aside0.mk hd
  have HU := Aside0.mk (And.intro huC huD)
  have HL := Aside0.mk (And.intro hlc hld)
  have HBU : Aside0 (Tryd.prog.built 25 [(0, .int .i64 lo), (1, .int .i64 ep)] = some #[.int .i64 lo, .int .i64 ep, .slice none 0 0, .slice none 0 0]) := ⟨by kernel_rfl⟩
  have H1T : Aside0 (∀ v ∈ ([.int .i64 lo, .int .i64 ep, .slice none 0 0, .slice none 0 0] : List Value), v.oneCell' = true) := ⟨by simp [Value.oneCell']⟩
  clear hw1 hs1 hw2 hs2 hb1 hb2 hG1 hS hk hd huC huD hlc hld
  go_enter Tryd.func60, Tryd.ntmps60
  go_upto_region 1 with (fail)
  rw [HW.out.1, HW.out.2]
  go_upto_region 2 with (first
    | ((with_reducible refine gate_dst (N := 14) rfl ?_); go_must (refine wpList_built (P := Tryd.prog) rfl 25 _ rfl [(0, .int .i64 lo), (1, .int .i64 ep)] (by simp only [List.map_toArray, List.map_cons, List.map_nil]; rfl) _ HBU.out ?_))
    | ((with_reducible refine gate_ (.store 25 (.tmp 7) (.tmp 14)) rfl ?_); go_must (refine wpList_fill (P := Tryd.prog) rfl 25 (.tmp 7) (.tmp 14) rfl [.int .i64 lo, .int .i64 ep, .slice none 0 0, .slice none 0 0] _ rfl rfl aggTb rfl H1T.out ?_)))
  obtain ⟨w3, hw3⟩ : ∃ w3, w2.alloc (.cells [.int .i64 lo, .int .i64 ep, .slice none 0 0, .slice none 0 0].toArray 25) = w3 := ⟨_, rfl⟩
  have hb3 : Below w2.heap.size w2 w3 := hw3 ▸ below_alloc (Below.refl _ _) _
  have HT3 := Aside0.mk (show w3.heap[g + 2]? = some (.cells #[.int .i64 lo, .int .i64 ep, .slice none 0 0, .slice none 0 0] 25) from HSZ.out.2.1 ▸ hw3 ▸ at_alloc w2 _)
  have HG3 := Aside0.mk (blk_below HG2.out hb3)
  have HZ3 := Aside0.mk (blk_below HZ2.out hb3)
  have HS3 := Aside0.mk (HS2.out.below hb3)
  have HB3 := Aside0.mk (below_then HB2.out HB2.out.size hb3)
  have HB32 := Aside0.mk hb3
  obtain ⟨h, hh⟩ : ∃ h, w3.heap.size = h := ⟨_, rfl⟩
  have HH : Aside0 (w3.heap.size = h ∧ h = g + 3) := ⟨hh, by rw [← hh, ← hw3]; simp [HSZ.out.2.1]⟩
  have c0 : w3.cell? ⟨g, 0, none⟩ = some (.map (some b1)) := blk_get HG3.out 0 _ rfl
  try rw [HSZ.out.2.1]
  rw [hw3]
  clear hb3 hw3 HG2 HZ2 HS2 HW
  go_upto_region 3 with ((with_reducible refine gate_dst (N := 17) rfl ?_); go_must (refine wpList_over (P := Tryd.prog) rfl (.tmp 16) 81 rfl 28 45 mapC b1 _ rfl HS3.out.c ?_); intro w4 k1 k2 k3)
  rw [hh] at k2 k3 ⊢
  have hlt : h < w4.heap.size := k2
  have HI4 := Aside0.mk k3
  have HW4 : Aside0 (Ws (fun b => b = g + 2 ∨ h ≤ b) w3 w4) := ⟨Ws.of_below k1⟩
  have HT4 := Aside0.mk (blk_below HT3.out k1)
  have HH4 := Aside0.mk hlt
  clear k1 k2 k3 c0 hlt
  simp only [Act.put, List.setIfInBounds_toArray, List.set_cons_zero, List.set_cons_succ]
  go_loopg [18] (t.cells.length + 1) (fun gk v18 wr => ∃ (dn leftC : List Cel) (left : List (Value × Value)) (v : Value), leftC.length < gk ∧ Aside0 (left.Perm (leftC.map kvC)) ∧ Aside0 (t.cells.Perm (dn ++ leftC)) ∧ Aside0 (IsIter Tryd.prog 28 wr h b1 (t.cells.map kvC) left) ∧ Aside0 (wr.heap[g + 2]? = some (.cells #[.int .i64 lo, .int .i64 ep, v, .slice none 0 0] 25 (0, 0))) ∧ Aside0 (Kd.R kC 45 wr (h + 1) (fun k => h + 1 ≤ k) v dn) ∧ Aside0 (Ws (fun b => b = g + 2 ∨ h ≤ b) w3 wr))
  case atStart => exact ⟨[], t.cells, t.cells.map kvC, .slice none 0 0, Nat.lt_succ_self _, ⟨List.Perm.refl _⟩, ⟨List.Perm.refl _⟩, HI4, HT4, ⟨Kd.R_nil _ _ _ _ _⟩, HW4⟩
  case round =>
    clear HI4 HT4 HW4
    obtain ⟨dn, leftC, left, v, hlen, HPL, HP, HI, HTr, HR, HWs⟩ := hrel
    cases leftC with
    | nil =>
      obtain rfl : left = [] := by
        have := HPL.out.length_eq
        simpa using this
      have HPC : Aside0 (t.cells.Perm dn) := ⟨by have := HP.out; rwa [List.append_nil] at this⟩
      have hhg := HH.out
      have hss := HSZ.out
      have hGr := (HWs.out.block g (blk_lt HG3.out) (by omega)).trans HG3.out
      have HGr := Aside0.mk hGr
      have HZr := Aside0.mk ((HWs.out.block (g + 1) (blk_lt HZ3.out) (by omega)).trans HZ3.out)
      have HDb : Aside0 (IsDs wr b2 t.done) := ⟨IsMap.same HS3.out.d (HWs.out.block b2 HS3.out.lt.2 (by omega))⟩
      have c1 : wr.cell? ⟨g, 1, none⟩ = some (.map (some b2)) := blk_get hGr 1 _ rfl
      have HBr : Aside0 (Below w2.heap.size w2 wr) := ⟨HWs.out.below HB32.out (fun b hb => by omega)⟩
      clear hhg hss hGr HPL HP hlen
      go_upto_region 7 with (first
        | ((with_reducible refine gate_dst (N := 18) rfl ?_); go_must (refine wpList_step (P := Tryd.prog) rfl (.tmp 17) rfl 28 h b1 _ _ rfl HI.out (fun _ => ?_) (fun p lf w6 m1 _ _ _ _ => absurd m1.length_eq (by simp))))
        | ((with_reducible refine gate_dst (N := 30) rfl ?_); go_must (refine wpList_over (P := Tryd.prog) rfl (.tmp 29) 82 rfl 3 58 mapD b2 _ rfl HDb.out ?_); intro w5 k1 k2 k3))
      obtain ⟨r, hr⟩ : ∃ r, wr.heap.size = r := ⟨_, rfl⟩
      have hlr : h + 1 ≤ r := by rw [← hr]; exact IsIter.lt HI.out
      rw [hr] at k2 k3 ⊢
      have HRR : Aside0 (h + 1 ≤ r ∧ r < w5.heap.size ∧ h = g + 3) := ⟨hlr, k2, HH.out.2⟩
      have HK3 := Aside0.mk k3
      have HT5 := Aside0.mk (blk_below HTr.out k1)
      have HG5 := Aside0.mk (blk_below HGr.out k1)
      have HZ5 := Aside0.mk (blk_below HZr.out k1)
      have HB5 := Aside0.mk (below_step HBr.out k1)
      have HR5 : Aside0 (Kd.R kC 45 w5 (h + 1) (fun k => h + 1 ≤ k ∧ k < r) v dn) := ⟨Kd.R_below (Kd.R_mono (Kd.R_bound HR.out) (fun k hk => ⟨hk.1, hr ▸ hk.2.2.1⟩)) k1⟩
      clear k1 k2 k3 hr hlr c1 HDb HI HTr HGr HZr HBr HR HWs
      try simp only [Act.put, List.setIfInBounds_toArray, List.set_cons_zero, List.set_cons_succ]
      go_loopg [31] (t.done.length + 1) (fun gk v31 wr => ∃ (dm leftD : List Don) (left : List (Value × Value)) (u : Value), leftD.length < gk ∧ Aside0 (left.Perm (leftD.map kvD)) ∧ Aside0 (t.done.Perm (dm ++ leftD)) ∧ Aside0 (IsIter Tryd.prog 3 wr r b2 (t.done.map kvD) left) ∧ Aside0 (wr.heap[g + 2]? = some (.cells #[.int .i64 lo, .int .i64 ep, v, u] 25 (0, 0))) ∧ Aside0 (Kd.R kD 58 wr (r + 1) (fun k => r + 1 ≤ k) u dm) ∧ Aside0 (Kd.R kC 45 wr (h + 1) (fun k => h + 1 ≤ k ∧ k < r) v dn) ∧ Aside0 (Ws (fun b => b = g + 2 ∨ r ≤ b) w5 wr))
      case atStart => exact ⟨[], t.done, t.done.map kvD, .slice none 0 0, Nat.lt_succ_self _, ⟨List.Perm.refl _⟩, ⟨List.Perm.refl _⟩, HK3, HT5, ⟨Kd.R_nil _ _ _ _ _⟩, HR5, ⟨Ws.refl _ _⟩⟩
      case round =>
        clear HK3 HT5 HR5
        obtain ⟨dm, leftD, left, u, hlen, HPL, HP, HI, HTr, HR, HRC, HWs⟩ := hrel
        cases leftD with
        | nil =>
          obtain rfl : left = [] := by
            have := HPL.out.length_eq
            simpa using this
          have hPD : t.done.Perm dm := by have := HP.out; rwa [List.append_nil] at this
          obtain ⟨A1, k1, rfl⟩ := Kd.R_slice HRC.out
          obtain ⟨A2, k2, rfl⟩ := Kd.R_slice HR.out
          have hrr := HRR.out
          have hss := HSZ.out
          have hlC := HPC.out.length_eq
          have hlD := hPD.length_eq
          have HSC := Aside0.mk (sortC_at (lo := h + 1) (hi := r) HRC.out HPC.out HU.out.1 HK.out HL.out.1)
          have HSD := Aside0.mk (fun w8 (hw8 : Ws (fun b => h + 1 ≤ b ∧ b < r) wr w8) => sortD_at (lo := r + 1) (Kd.R_step (w1 := w8) HR.out (fun k hk hlt => hw8.block k hlt (by omega))) hPD HU.out.2 HDC.out HL.out.2)
          have HGW : Aside0 (wr.heap[g + 1]? = some (.cells #[.int .i64 0, .int .i64 0, .slice none 0 0, .slice none 0 0] 25 (0, 0))) := ⟨(HWs.out.block (g + 1) (blk_lt HZ5.out) (by omega)).trans HZ5.out⟩
          have HBW : Aside0 (Below w2.heap.size w2 wr) := ⟨HWs.out.below HB5.out (fun b hb => by omega)⟩
          rw [← hlC] at HSC HTr
          have c2 : wr.cell? ⟨g + 2, 2, none⟩ = some (.slice A1 t.cells.length k1) := (blk_cell HTr.out 2).trans rfl
          rw [← hlD] at HTr HSD
          obtain ⟨n, hn⟩ : ∃ n, t.cells.length = n := ⟨_, rfl⟩
          obtain ⟨m, hm⟩ : ∃ m, t.done.length = m := ⟨_, rfl⟩
          rw [hn] at HSC HTr c2
          rw [hm] at HSD HTr
          have HNM := Aside0.mk (And.intro hn hm)
          clear hrr hss hlC hlD hPD HPL HP HRC HR HWs hlen hn hm HPC HG5 HZ5 HB5
          go_upto_region 11 with (first
            | ((with_reducible refine gate_dst (N := 31) rfl ?_); go_must (refine wpList_step (P := Tryd.prog) rfl (.tmp 30) rfl 3 r b2 _ _ rfl HI.out (fun _ => ?_) (fun p lf w6 m1 _ _ _ _ => absurd m1.length_eq (by simp))))
            | (go_at_call 78; refine HSC.out.mono ?_; rintro e w8 ⟨rfl, H8⟩; have H8 := Aside0.mk H8))
          have HT8 := Aside0.mk ((H8.out.1.block (g + 2) (blk_lt HTr.out) (by have := HRR.out; omega)).trans HTr.out)
          have c3 : w8.cell? ⟨g + 2, 3, none⟩ = some (.slice A2 m k2) := (blk_cell HT8.out 3).trans rfl
          have HSD8 := Aside0.mk (HSD.out w8 H8.out.1)
          clear c2 HSC HSD
          go_upto_region 12 with (go_at_call 80; refine HSD8.out.mono ?_; rintro e w9 ⟨rfl, H9⟩; have H9 := Aside0.mk H9)
          have HT9 := Aside0.mk ((H9.out.1.block (g + 2) (blk_lt HT8.out) (by have := HRR.out; omega)).trans HT8.out)
          have HG8 := Aside0.mk ((H8.out.1.block (g + 1) (blk_lt HGW.out) (by have := HRR.out; omega)).trans HGW.out)
          have HG9 := Aside0.mk ((H9.out.1.block (g + 1) (blk_lt HG8.out) (by have := HRR.out; omega)).trans HG8.out)
          clear c3
          go_wp2_with (first
            | ((with_reducible refine gate_dst (N := 47) rfl ?_); go_must (refine wpList_seg (P := Tryd.prog) rfl 25 (.tmp 7) rfl (g + 2) 0 rfl [.int .i64 lo, .int .i64 ep, .slice A1 n k1, .slice A2 m k2] aggTb (SegAt.blk (t := 25) (fr := (0, 0)) HT9.out) ?_))
            | ((with_reducible refine gate_ (.store 25 (.tmp 6) (.tmp 47)) rfl ?_); go_must (refine wpList_row (P := Tryd.prog) rfl 25 (.tmp 6) (.tmp 47) rfl (g + 1) _ 25 HG9.out [.int .i64 lo, .int .i64 ep, .slice A1 n k1, .slice A2 m k2] rfl rfl aggTb rfl (by simp [Value.oneCell']) ?_); intro w10 q1 q2 q3))
          refine bodyPost_ret (results_c rfl _ _ (g + 1) 25 #[.int .i64 lo, .int .i64 ep, .slice A1 n k1, .slice A2 m k2] (0, 0) _ (by rfl) q3 Tryd.underlying25 rfl (by kernel_rfl)) rfl ?_
          have hrr := HRR.out
          have hss := HSZ.out
          have hb9 := H9.out.1.below (H8.out.1.below HBW.out (fun b hb => by omega)) (fun b hb => by omega)
          have hb9' := below_then HB2.out HB2.out.size hb9
          have hb10 := pw_below_grown hb9' _ hb9'.size q1 (fun k e => by injection e with e; omega)
          refine ⟨A1, k1, A2, k2, by rw [HNM.out.1, HNM.out.2], by first | exact hb10 | exact hg ▸ hb10, fun w2 hw2 => ⟨?_, ?_⟩⟩
          · rw [HNM.out.1]
            refine H8.out.2 w2 (fun b h1 h2 h3 => ?_)
            have h9 := H9.out.1.size
            have hq := q1.size
            exact (hw2 b (by omega) (by omega)).trans ((q1.block b (by omega) (fun e => by injection e with e; omega)).trans (H9.out.1.block b (by omega) (by omega)))
          · rw [HNM.out.2]
            refine H9.out.2 w2 (fun b h1 h3 => ?_)
            have hq := q1.size
            exact (hw2 b (by omega) (by omega)).trans (q1.block b (by omega) (fun e => by injection e with e; omega))
        | cons e0 er =>
          go_upto_region 9 with (first
            | ((with_reducible refine gate_dst (N := 31) rfl ?_); go_must (refine wpList_step (P := Tryd.prog) rfl (.tmp 30) rfl 3 r b2 _ _ rfl HI.out (fun e => by have := HPL.out.length_eq; rw [e] at this; simp at this) ?_); intro p lf w6 m1 m2 m3 m4 m5
               obtain ⟨c, rest, nn, vs, rfl, e1, e2, e3⟩ := stepD HPL.out m1
               obtain ⟨x0, x1, x2⟩ := c
               subst e1
               have HE := Aside0.mk m5; have M2 := Aside0.mk m2; have M3 := Aside0.mk m3; have M4 := Aside0.mk m4; have E2 := Aside0.mk e2; have E3 := Aside0.mk e3
               have HV1 : Aside0 (∀ v ∈ encD ⟨x0, x1, x2⟩, v.oneCell' = true) := ⟨encD_one _⟩
               clear m1 m2 m3 m4 m5 e2 e3)
            | (rw [HE.out]; simp only [Result.andThen]; rw [Oper.upon_value])
            | ((with_reducible refine gate_ (.store 58 (.tmp 11) (.tmp 34)) rfl ?_); go_must (refine wpList_fill (P := Tryd.prog) rfl 58 (.tmp 11) (.tmp 34) rfl (encD ⟨x0, x1, x2⟩) _ rfl rfl aggD rfl HV1.out ?_)))
          obtain ⟨w7, hw7⟩ : ∃ w7, w6.alloc (.cells (encD ⟨x0, x1, x2⟩).toArray 58) = w7 := ⟨_, rfl⟩
          have hb7 : Below w6.heap.size w6 w7 := hw7 ▸ below_alloc (Below.refl _ _) _
          have HA := Aside0.mk (show w7.heap[w6.heap.size]? = some (.cells (encD ⟨x0, x1, x2⟩).toArray 58) from hw7 ▸ at_alloc _ _)
          rw [hw7]
          have hrr := HRR.out
          have hT6 := (M3.out.block (g + 2) (blk_lt HTr.out) (fun e => by injection e with e; omega)).trans HTr.out
          have HT7 := Aside0.mk (blk_below hT6 hb7)
          have HR7 := Aside0.mk (Kd.R_below (Kd.R_grown HR.out M3.out (fun k hk e => by injection e with e; omega)) hb7)
          have HRC7 := Aside0.mk (Kd.R_below (Kd.R_grown HRC.out M3.out (fun k hk e => by injection e with e; omega)) hb7)
          have HI7 := Aside0.mk (IsIter.below M2.out hb7)
          have HW7 : Aside0 (Ws (fun b => b = g + 2 ∨ r ≤ b) w5 w7) := ⟨(HWs.out.trans (Ws.of_grown (P := fun b => b = g + 2 ∨ r ≤ b) M3.out (.inr (Nat.le_refl r)))).trans (Ws.of_below hb7)⟩
          have HZ7 : Aside0 (r + 1 ≤ w7.heap.size) := ⟨Nat.lt_of_lt_of_le (IsIter.lt M2.out) hb7.size⟩
          have cv : w7.cell? ⟨g + 2, 3, none⟩ = some u := (blk_cell HT7.out 3).trans rfl
          have HDL : Aside0 (dm.length ≤ 4) := ⟨by
            have h1 := HP.out.length_eq
            rw [List.length_append] at h1
            have := HL.out.2
            omega⟩
          obtain ⟨a, ha⟩ : ∃ a, w6.heap.size = a := ⟨_, rfl⟩
          rw [ha] at HA ⊢
          clear hw7 hb7 hT6 ha HE M2 M3 M4 HI HTr HR HRC HWs hrr
          go_wp2_with (first
            | ((with_reducible refine gate_dst (N := 37) rfl ?_); go_must (refine wpList_seg (P := Tryd.prog) rfl 58 (.tmp 11) rfl a 0 rfl (encD ⟨x0, x1, x2⟩) aggD (SegAt.blk (t := 58) (fr := (0, 0)) HA.out) ?_))
            | ((with_reducible refine gate_dst (N := 38) rfl ?_); go_must (refine Kd.event_run rfl (exec_lit1 (P := Tryd.prog) 23 (.tmp 37) rfl rfl (lit_don w7 _ _ _)) ?_))
            | ((with_reducible refine gate_dst (N := 39) rfl ?_); go_must (refine Kd.R_append (P := Tryd.prog) kD (w0 := w7) (r + 1) rfl (.tmp 36) (.tmp 38) 23 58 (.agg #[.int .i64 0, .int .i64 0, .int .i64 0]) 24 rfl Tryd.underlying23 infoD rfl (by decide) (by decide) u dm ⟨x0, x1, x2⟩ (encD ⟨x0, x1, x2⟩) _ (fun _ => False) rfl rfl ⟨rfl, rfl⟩ (fun _ h => h.elim) (fun k hk => Nat.le_trans HZ7.out hk) HR7.out (Below.refl _ _) HZ7.out (by have := HDL.out; omega) ?_); intro v1 w9 a1 a2 a3 a4
               obtain ⟨A1, k1, rfl⟩ := Kd.R_slice a1
               have T9 := (a2.block (g + 2) (by have := HRR.out; omega)).trans HT7.out
               have q2 : w9.cell? ⟨g + 2, 3, none⟩ = some u := (blk_cell T9 3).trans rfl
               have q2f := blk_frozen T9 3
               have HT9 := Aside0.mk T9
               have HR9 := Aside0.mk a1
               have HB9 := Aside0.mk a2
               clear a1 a2 a3 a4 T9))
          go_roundg (gk - 1)
          case measure => omega
          case rel =>
            have hE2 := E2.out.length_eq
            have hss := HSZ.out
            have hrr := HRR.out
            have hr9 := HR9.out
            rw [List.length_append, List.length_singleton] at hr9
            have hI9 : IsIter Tryd.prog 3 w9 r b2 (t.done.map kvD) lf := IsIter.same HI7.out (HB9.out.block b2 (by omega)) (HB9.out.block r (by omega))
            have hRC9 : Kd.R kC 45 w9 (h + 1) (fun k => h + 1 ≤ k ∧ k < r) v dn := Kd.R_step HRC7.out (fun k hk _ => HB9.out.block k (by omega))
            refine ⟨dm ++ [⟨x0, x1, x2⟩], rest, lf, _, by simp at hE2 hlen; omega, E3, ⟨HP.out.trans ((E2.out.append_left dm).trans (by simp))⟩, ⟨IsIter.same hI9 (Below.heap_setCell _ ⟨g + 2, 3, none⟩ _ b2 (show b2 ≠ g + 2 by omega)) (Below.heap_setCell _ ⟨g + 2, 3, none⟩ _ r (show r ≠ g + 2 by omega))⟩, ⟨blk_set HT9.out 3 _⟩, ⟨Kd.R_set hr9 HT9.out (fun q hq => by simp [flat] at hq; omega) 3 _⟩, ⟨Kd.R_far hRC9 (fun k hk => by show k ≠ g + 2; omega) _⟩, ⟨(HW7.out.trans ((Ws.of_low HB9.out).mono (fun b _ hb => .inr (by omega)))).trans (Ws.of_set (P := fun b => b = g + 2 ∨ r ≤ b) w9 (.inl rfl) 3 _)⟩⟩
    | cons e0 er =>
      go_upto_region 5 with (first
        | ((with_reducible refine gate_dst (N := 18) rfl ?_); go_must (refine wpList_step (P := Tryd.prog) rfl (.tmp 17) rfl 28 h b1 _ _ rfl HI.out (fun e => by have := HPL.out.length_eq; rw [e] at this; simp at this) ?_); intro p lf w6 m1 m2 m3 m4 m5
           obtain ⟨c, rest, ks, vs, rfl, e1, e2, e3⟩ := stepC HPL.out m1
           have HE := Aside0.mk m5; have M2 := Aside0.mk m2; have M3 := Aside0.mk m3; have M4 := Aside0.mk m4; have E1 := Aside0.mk e1; have E2 := Aside0.mk e2; have E3 := Aside0.mk e3
           have HVL : Aside0 (vs.length = 10 ∧ (∀ v ∈ vs, v.oneCell' = true)) := ⟨⟨e1 ▸ encC_len (HK.out c (HP.out.mem_iff.2 (List.mem_append_right _ (e2.mem_iff.2 (List.mem_cons_self ..))))).len, e1 ▸ encC_one c⟩⟩
           clear m1 m2 m3 m4 m5 e1 e2 e3)
        | (rw [HE.out]; simp only [Result.andThen]; rw [Oper.upon_value])
        | ((with_reducible refine gate_ (.store 45 (.tmp 9) (.tmp 21)) rfl ?_); go_must (refine wpList_fill (P := Tryd.prog) rfl 45 (.tmp 9) (.tmp 21) rfl vs _ rfl rfl (by rw [HVL.out.1]; exact aggC) (by rw [HVL.out.1]; rfl) HVL.out.2 ?_)))
      obtain ⟨w7, hw7⟩ : ∃ w7, w6.alloc (.cells vs.toArray 45) = w7 := ⟨_, rfl⟩
      have hb7 : Below w6.heap.size w6 w7 := hw7 ▸ below_alloc (Below.refl _ _) _
      have HA := Aside0.mk (show w7.heap[w6.heap.size]? = some (.cells vs.toArray 45) from hw7 ▸ at_alloc _ _)
      rw [hw7]
      have hhg := HH.out.2
      have hT6 := (M3.out.block (g + 2) (blk_lt HTr.out) (fun e => by injection e with e; omega)).trans HTr.out
      have HT7 := Aside0.mk (blk_below hT6 hb7)
      have HR7 := Aside0.mk (Kd.R_below (Kd.R_grown HR.out M3.out (fun k hk e => by injection e with e; omega)) hb7)
      have HI7 := Aside0.mk (IsIter.below M2.out hb7)
      have HW7 : Aside0 (Ws (fun b => b = g + 2 ∨ h ≤ b) w3 w7) := ⟨(HWs.out.trans (Ws.of_grown (P := fun b => b = g + 2 ∨ h ≤ b) M3.out (.inr (Nat.le_refl h)))).trans (Ws.of_below hb7)⟩
      have HZ7 : Aside0 (h + 1 ≤ w7.heap.size) := ⟨Nat.lt_of_lt_of_le (IsIter.lt M2.out) hb7.size⟩
      have cv : w7.cell? ⟨g + 2, 2, none⟩ = some v := (blk_cell HT7.out 2).trans rfl
      have hdl : dn.length ≤ 12 := by
        have h1 := HP.out.length_eq
        rw [List.length_append] at h1
        have := HL.out.1
        omega
      have HDL := Aside0.mk hdl
      obtain ⟨a, ha⟩ : ∃ a, w6.heap.size = a := ⟨_, rfl⟩
      rw [ha] at HA ⊢
      clear hw7 hb7 hT6 ha HE M2 M3 M4 HI HTr HR HWs hdl hhg
      go_wp2_with (first
        | ((with_reducible refine gate_dst (N := 24) rfl ?_); go_must (refine wpList_seg (P := Tryd.prog) rfl 45 (.tmp 9) rfl a 0 rfl vs (by rw [HVL.out.1]; exact aggC) (SegAt.blk (t := 45) (fr := (0, 0)) HA.out) ?_))
        | ((with_reducible refine gate_dst (N := 25) rfl ?_); go_must (refine Kd.event_run rfl (exec_lit1 (P := Tryd.prog) 22 (.tmp 24) rfl rfl (lit_cel w7 HVL.out.1)) ?_))
        | ((with_reducible refine gate_dst (N := 26) rfl ?_); go_must (refine Kd.R_append (P := Tryd.prog) kC (w0 := w7) (h + 1) rfl (.tmp 23) (.tmp 25) 22 45 (.agg zCel.toArray) 32 rfl Tryd.underlying22 infoC rfl (by decide) (by decide) v dn c vs _ (fun _ => False) rfl rfl ⟨E1.out.symm, HVL.out.1⟩ (fun _ h => h.elim) (fun k hk => Nat.le_trans HZ7.out hk) HR7.out (Below.refl _ _) HZ7.out (by have := HDL.out; omega) ?_); intro v1 w9 a1 a2 a3 a4
           obtain ⟨A1, k1, rfl⟩ := Kd.R_slice a1
           have T9 := (a2.block (g + 2) (by have := HH.out.2; omega)).trans HT7.out
           have q2 : w9.cell? ⟨g + 2, 2, none⟩ = some v := (blk_cell T9 2).trans rfl
           have q2f := blk_frozen T9 2
           have HT9 := Aside0.mk T9
           have HR9 := Aside0.mk a1
           have HB9 := Aside0.mk a2
           clear a1 a2 a3 a4 T9))
      go_roundg (gk - 1)
      case measure => omega
      case rel =>
        have hE2 := E2.out.length_eq
        have hss := HSZ.out
        have hhg := HH.out.2
        have hr9 := HR9.out
        rw [List.length_append, List.length_singleton] at hr9
        have hI9 : IsIter Tryd.prog 28 w9 h b1 (t.cells.map kvC) lf := IsIter.same HI7.out (HB9.out.block b1 (by omega)) (HB9.out.block h (by omega))
        refine ⟨dn ++ [c], rest, lf, _, by simp at hE2 hlen; omega, E3, ⟨HP.out.trans ((E2.out.append_left dn).trans (by simp))⟩, ⟨IsIter.same hI9 (Below.heap_setCell _ ⟨g + 2, 2, none⟩ _ b1 (show b1 ≠ g + 2 by omega)) (Below.heap_setCell _ ⟨g + 2, 2, none⟩ _ h (show h ≠ g + 2 by omega))⟩, ⟨blk_set HT9.out 2 _⟩, ⟨Kd.R_set hr9 HT9.out (fun q hq => by simp [flat] at hq; omega) 2 _⟩, ⟨(HW7.out.trans ((Ws.of_low HB9.out).mono (fun b _ hb => .inr (by omega)))).trans (Ws.of_set (P := fun b => b = g + 2 ∨ h ≤ b) w9 (.inl rfl) 2 _)⟩⟩
end Go.Proofs.YtgmaedngkhidlaaDoor.Sf
-- ShG
namespace Go.Proofs.YtgmaedngkhidlaaDoor.Sf
open Go Go.RowKit Go.ChangeMaps Go.MapKept Go.Proofs.YtgmaedngkhidlaaDoorW.PrintWords Go.Proofs.YtgmaedngkhidlaaDoorW.PrintLast Go.Proofs.YtgmaedngkhidlaaDoorW.PrintMore
open Go.Maps (Keyed)
set_option linter.unusedVariables false
set_option linter.unusedSimpArgs false
theorem TabOk.four' {t : Tab} (h : TabOk t) : ∀ d ∈ t.done, 0 ≤ d.client ∧ d.client < 4 := fun d hd => by
  have := reqB_iff.1 (h.don d hd).1
  exact ⟨this.1, this.2.1⟩
section
variable {F G : Nat → Prop} {p : Nat} {s : Sh}
end
end Go.Proofs.YtgmaedngkhidlaaDoor.Sf
-- ShH
namespace Go.Proofs.YtgmaedngkhidlaaDoor.Sf
open Go Go.RowKit Go.ChangeMaps Go.MapKept Go.Proofs.YtgmaedngkhidlaaDoorW.PrintWords Go.Proofs.YtgmaedngkhidlaaDoorW.PrintLast Go.Proofs.YtgmaedngkhidlaaDoorW.PrintMore
open Go.Maps (Keyed)
set_option linter.unusedVariables false
set_option linter.unusedSimpArgs false
section
variable {F G : Nat → Prop} {p : Nat} {s : Sh}
set_option maxHeartbeats 16000000 in
set_option maxRecDepth 100000 in
theorem Whole_calls (w : World) (h : IsS F G w p s) (hw : Wf s) (hy : Ky s) :
    Calls Tryd.prog 29 #[.pointer (some ⟨p, 0, none⟩)] w fun e w' => ∃ A ca B cb, e = .returned (vT (comT s).idx (comT s).epoch A (comT s).cells.length ca B (comT s).done.length cb) ∧ Below w.heap.size w w' ∧ kC.C w' A (comT s).cells.length (comT s).cells ∧ kD.C w' B (comT s).done.length (comT s).done := by
  obtain ⟨g, hg⟩ : ∃ g, w.heap.size = g := ⟨_, rfl⟩
  obtain ⟨w1, hw1⟩ : ∃ w1, w.alloc (.cells #[.int .i64 0, .int .i64 0, .slice none 0 0, .slice none 0 0] 25) = w1 := ⟨_, rfl⟩
  have hb1 : Below w.heap.size w w1 := hw1 ▸ below_alloc (Below.refl _ _) _
  have HZ1 := Aside0.mk (show w1.heap[g]? = some (.cells #[.int .i64 0, .int .i64 0, .slice none 0 0, .slice none 0 0] 25) from hg ▸ hw1 ▸ at_alloc w _)
  have h1 := h.below hb1
  obtain ⟨b1, b2, b3, b4, rv, hp0, hf0, hn0, hs1, hs2, hrv⟩ := h1.ex
  obtain ⟨Ar, cr, rfl, hcr, hCr⟩ := hrv.slice
  obtain ⟨n, hn⟩ : ∃ n, s.R.length = n := ⟨_, rfl⟩
  obtain ⟨lo, hlo⟩ : ∃ lo, s.T.idx = lo := ⟨_, rfl⟩
  obtain ⟨ep, hep⟩ : ∃ ep, s.T.epoch = ep := ⟨_, rfl⟩
  obtain ⟨cm, hcm⟩ : ∃ cm, s.C = cm := ⟨_, rfl⟩
  have hti := hw.tab.idx
  have hl := hw.lo
  have hh := hw.hi
  have hlen := hw.len
  unfold endI at hh
  rw [hlo, hcm, hn] at hh
  rw [hlo, hcm] at hl
  rw [hlo] at hti
  rw [hn] at hlen hcr hCr
  rw [hlo, hep, hcm, hn] at hp0
  obtain ⟨m, hm⟩ : ∃ m, (cm - lo).toNat = m := ⟨_, rfl⟩
  have hwr : IntKind.i64.wrap (cm - lo) = (m : Int) := by rw [IntWalk.i64_in _ (by omega)]; omega
  have HM : Aside0 (m ≤ n ∧ m ≤ 24 ∧ m ≤ cr ∧ cm = lo + (m : Int)) := ⟨by omega⟩
  obtain ⟨R', hR'⟩ : ∃ R', s.R.take m = R' := ⟨_, rfl⟩
  have hct : comT s = upT s.T R' := by unfold comT; rw [hcm, hlo, hm, hR']
  have hRl : R'.length = m := by rw [← hR', List.length_take, hn]; omega
  have hci : (upT s.T R').idx = cm := by
    have := (hw.at m (by rw [hn]; omega)).2
    rw [hR', hlo] at this
    rw [this]; omega
  have hcok : TabOk (upT s.T R') := by
    have := (hw.at m (by rw [hn]; omega)).1
    rw [hR'] at this
    exact this
  rw [hct]
  obtain ⟨ct, hctt⟩ : ∃ ct, upT s.T R' = ct := ⟨_, rfl⟩
  rw [hctt] at hci hcok ⊢
  have hkc : ∀ c ∈ ct.cells, KeyL c.key := hctt ▸ up_keys _ _ hy.cell (fun x hx => hy.rc x (List.mem_of_mem_take (hR' ▸ hx : x ∈ s.R.take m)))
  have HCT : Aside0 (upT s.T R' = ct) := ⟨hctt⟩
  obtain ⟨ce, hce⟩ : ∃ ce, ct.epoch = ce := ⟨_, rfl⟩
  have HCE := Aside0.mk hce
  obtain ⟨nc, hnc⟩ : ∃ nc, ct.cells.length = nc := ⟨_, rfl⟩
  obtain ⟨nd, hnd⟩ : ∃ nd, ct.done.length = nd := ⟨_, rfl⟩
  have HTB : Aside0 (∀ (w' : World) (c1 c2 : Nat), St2 w' c1 c2 ct → Calls Tryd.prog 60 #[vS c1 c2, .int .i64 cm, .int .i64 ce] w' fun e w'' => ∃ A ca B cb, e = .returned (.agg #[.int .i64 cm, .int .i64 ce, .slice A nc ca, .slice B nd cb]) ∧ Below w'.heap.size w' w'' ∧ ∀ w2 : World, (∀ b, w'.heap.size ≤ b → b < w''.heap.size → w2.heap[b]? = w''.heap[b]?) → kC.C w2 A nc ct.cells ∧ kD.C w2 B nd ct.done) := ⟨fun w' c1 c2 hs => by
    have := table_calls c1 c2 ct cm ce w' hs hkc hcok.four' hcok.up hcok.upd hcok.many hcok.four
    rw [hnc, hnd] at this
    exact this⟩
  have HCOP := Aside0.mk (copied_calls b1 b2 s.T w1 hs1 hy.cell hw.tab.wf)
  have HRV1 : Aside0 (RV (fun b => G b ∨ w1.heap.size ≤ b) w1 (.slice Ar n cr) s.R) := ⟨hn ▸ hrv.grow (fun b hb hg => hg.elim id (fun e => by omega))⟩
  rw [hci, hce, hnc, hnd]
  have HP1 := Aside0.mk hp0
  have HD := Aside0.mk (dead_calls h1)
  have HB := Aside0.mk hb1
  have HW := Aside0.mk hw1
  have HN := Aside0.mk hn
  have HR' := Aside0.mk hR'
  have HRL := Aside0.mk hRl
  have HWf := Aside0.mk hw
  have HKy := Aside0.mk hy
  have HEP := Aside0.mk hep
  have HMC : Aside0 (m ≤ cr) := ⟨HM.out.2.2.1⟩
  have HSZ : Aside0 (g < w1.heap.size ∧ p < w1.heap.size ∧ w.heap.size = g ∧ p ≠ g) := ⟨blk_lt HZ1.out, blk_lt hp0, hg, fun e => by have := h.lt p h.fp; omega⟩
  have r0 : w1.cell? ⟨p, 0, none⟩ = some (.map (some b1)) := (blk_cell hp0 0).trans rfl
  have r1 : w1.cell? ⟨p, 1, none⟩ = some (.map (some b2)) := (blk_cell hp0 1).trans rfl
  clear hw1 hb1 h1 hp0 hf0 hn0 hs1 hs2 hrv hcr hCr hn hlo hep hcm h hw hy hti hl hh hlen hm hR' hct hRl hci hcok hctt hkc hce hnc hnd
  go_enter Tryd.func29, Tryd.ntmps29
  go_upto_region 1 with (fail)
  rw [HW.out]
  go_upto_region 4 with (first
    | (go_at_call 51; refine HD.out.mono ?_; rintro e w' ⟨rfl, rfl⟩)
    | ((with_reducible refine gate_dst (N := 13) rfl ?_); go_must (refine wpList_seg (P := Tryd.prog) rfl 84 (.tmp 12) rfl p 0 rfl [.map (some b1), .map (some b2)] aggS (seg_two r0 r1) ?_))
    | (go_at_call 56; refine HCOP.out.mono ?_; rintro e w9 ⟨c1, c2, rfl, H9⟩; have H9 := Aside0.mk H9)
    | ((with_reducible refine gate_ (.store 84 (.tmp 3) (.tmp 14)) rfl ?_); go_must (refine wpList_fill (P := Tryd.prog) rfl 84 (.tmp 3) (.tmp 14) rfl [.map (some c1), .map (some c2)] _ rfl rfl aggS rfl (by simp [Value.oneCell']) ?_)))
  obtain ⟨w10, hw10⟩ : ∃ w10, w9.alloc (.cells [.map (some c1), .map (some c2)].toArray 84) = w10 := ⟨_, rfl⟩
  obtain ⟨hb9, hge, hcc, hst9⟩ := H9.out
  have hb910 : Below w9.heap.size w9 w10 := hw10 ▸ below_alloc (Below.refl _ _) _
  have HQ10 := Aside0.mk (show w10.heap[w9.heap.size]? = some (.cells [.map (some c1), .map (some c2)].toArray 84) from hw10 ▸ at_alloc w9 _)
  have HB10 := Aside0.mk (below_step hb9 hb910)
  have HST10 := Aside0.mk (hst9.below hb910)
  have HP10 := Aside0.mk (blk_below HP1.out HB10.out)
  have HZ10 := Aside0.mk (blk_below HZ1.out HB10.out)
  have HRV10 := Aside0.mk (HRV1.out.below HB10.out)
  have hl9 := hst9.lt
  have hs9 := hb9.size
  rw [hw10]
  obtain ⟨q, hq⟩ : ∃ q, w9.heap.size = q := ⟨_, rfl⟩
  rw [hq] at HQ10 hl9 hs9 ⊢
  have HO : Aside0 (w1.heap.size ≤ c1 ∧ c1 < c2 ∧ c2 < q ∧ w1.heap.size ≤ q) := ⟨by omega⟩
  have r5 : w10.cell? ⟨p, 5, none⟩ = some (.int .i64 ep) := (blk_cell HP10.out 5).trans rfl
  clear hw10 hb9 hge hcc hst9 hb910 hl9 hs9 hq r0 r1 H9 HCOP
  go_upto_region 5 with (fail)
  refine start_ (n := 16) (S := fun w' => w'.heap[p]? = some (.cells (shCells b1 b2 b3 b4 lo ep (.slice Ar n cr) cm) 86 (0, 0))) (ds := []) #[false, false, false, false, false, false, false, false, false, false, false, false, false, false, false, false] (by kernel_rfl) rfl rfl (blk_below HP10.out (below_drew1 (Below.refl _ _))) (fun hHeld => ?_)
  refine pure_ (i := 0) (N := some 19) (v := ?_) (a' := ?_) #[true, false, false, false, false, false, false, false, false, false, false, false, false, false, false, false] rfl rfl (by kernel_rfl) (fun _ _ _ h => h) (Or.inl ⟨by rfl, ?_⟩) ?_ ?_
  rotate_left
  · intro w'
    go_simp
    with_reducible rfl
  rotate_left
  · simp only [Act.put, List.setIfInBounds_toArray, List.set_cons_zero, List.set_cons_succ, i64_w, i32_w]
    rfl
  refine pure_ (i := 1) (N := some 20) (v := ?_) (a' := ?_) #[true, true, false, false, false, false, false, false, false, false, false, false, false, false, false, false] rfl rfl (by kernel_rfl) (fun _ _ _ h => h) (Or.inl ⟨by rfl, ?_⟩) ?_ ?_
  rotate_left
  · intro w'
    go_simp
    with_reducible rfl
  rotate_left
  · simp only [Act.put, List.setIfInBounds_toArray, List.set_cons_zero, List.set_cons_succ, i64_w, i32_w]
    rfl
  refine pure_ (i := 2) (N := some 21) (v := ?_) (a' := ?_) #[true, true, true, false, false, false, false, false, false, false, false, false, false, false, false, false] rfl rfl (by kernel_rfl) (fun _ _ _ h => h) (Or.inl ⟨by rfl, ?_⟩) ?_ ?_
  rotate_left
  · intro w'
    go_simp
    with_reducible rfl
  rotate_left
  · simp only [Act.put, List.setIfInBounds_toArray, List.set_cons_zero, List.set_cons_succ, i64_w, i32_w]
    rfl
  refine pure_ (i := 4) (N := some 23) (v := ?_) (a' := ?_) #[true, true, true, false, true, false, false, false, false, false, false, false, false, false, false, false] rfl rfl (by kernel_rfl) (fun _ _ _ h => h) (Or.inl ⟨by rfl, ?_⟩) ?_ ?_
  rotate_left
  · intro w'
    go_simp
    with_reducible rfl
  rotate_left
  · simp only [Act.put, List.setIfInBounds_toArray, List.set_cons_zero, List.set_cons_succ, i64_w, i32_w]
    rfl
  refine pure_ (i := 5) (N := some 24) (v := ?_) (a' := ?_) #[true, true, true, false, true, true, false, false, false, false, false, false, false, false, false, false] rfl rfl (by kernel_rfl) (fun _ _ _ h => h) (Or.inl ⟨by rfl, ?_⟩) ?_ ?_
  rotate_left
  · intro w'
    go_simp
    with_reducible rfl
  rotate_left
  · simp only [Act.put, List.setIfInBounds_toArray, List.set_cons_zero, List.set_cons_succ, i64_w, i32_w]
    rfl
  refine pure_ (i := 6) (N := some 25) (v := ?_) (a' := ?_) #[true, true, true, false, true, true, true, false, false, false, false, false, false, false, false, false] rfl rfl (by kernel_rfl) (fun _ _ _ h => h) (Or.inl ⟨by rfl, ?_⟩) ?_ ?_
  rotate_left
  · intro w'
    go_simp
    with_reducible rfl
  rotate_left
  · simp only [Act.put, List.setIfInBounds_toArray, List.set_cons_zero, List.set_cons_succ, i64_w, i32_w]
    rfl
  refine pure_ (i := 8) (N := some 27) (v := ?_) (a' := ?_) #[true, true, true, false, true, true, true, false, true, false, false, false, false, false, false, false] rfl rfl (by kernel_rfl) (fun _ _ _ h => h) (Or.inl ⟨by rfl, ?_⟩) ?_ ?_
  rotate_left
  · intro w'
    go_simp
    with_reducible rfl
  rotate_left
  · simp only [Act.put, List.setIfInBounds_toArray, List.set_cons_zero, List.set_cons_succ, i64_w, i32_w]
    rfl
  refine pure_ (i := 9) (N := some 28) (v := ?_) (a' := ?_) #[true, true, true, false, true, true, true, false, true, true, false, false, false, false, false, false] rfl rfl (by kernel_rfl) (fun _ _ _ h => h) (Or.inl ⟨by rfl, ?_⟩) ?_ ?_
  rotate_left
  · intro w'
    go_simp
    with_reducible rfl
  rotate_left
  · simp only [Act.put, List.setIfInBounds_toArray, List.set_cons_zero, List.set_cons_succ, i64_w, i32_w]
    rfl
  refine pure_ (i := 10) (N := some 29) (v := ?_) (a' := ?_) #[true, true, true, false, true, true, true, false, true, true, true, false, false, false, false, false] rfl rfl (by kernel_rfl) (fun _ _ _ h => h) (Or.inl ⟨by rfl, ?_⟩) ?_ ?_
  rotate_left
  · intro w'
    go_simp
    with_reducible rfl
  rotate_left
  · simp only [Act.put, List.setIfInBounds_toArray, List.set_cons_zero, List.set_cons_succ, i64_w, i32_w]
    rfl
  refine pure_ (i := 15) (N := some 34) (v := ?_) (a' := ?_) #[true, true, true, false, true, true, true, false, true, true, true, false, false, false, false, true] rfl rfl (by kernel_rfl) (fun _ _ _ h => h) (Or.inl ⟨by rfl, ?_⟩) ?_ ?_
  rotate_left
  · intro w'
    go_simp
    with_reducible rfl
  rotate_left
  · simp only [Act.put, List.setIfInBounds_toArray, List.set_cons_zero, List.set_cons_succ, i64_w, i32_w]
    rfl
  refine take_ (i := 3) (N := some 22) (v := ?_) (a' := ?_) #[true, true, true, true, true, true, true, false, true, true, true, false, false, false, false, true] rfl rfl (by kernel_rfl) (fun _ _ _ h => h) (Or.inl ⟨by rfl, ?_⟩) hHeld ?_ ?_
  rotate_left
  · intro w' s0
    have d6_ := (blk_cell s0 6).trans (show _ = some (.slice Ar n cr) from rfl)
    go_simp
    with_reducible rfl
  rotate_left
  · simp only [Act.put, List.setIfInBounds_toArray, List.set_cons_zero, List.set_cons_succ, i64_w, i32_w]
    rfl
  refine take_ (i := 7) (N := some 26) (v := ?_) (a' := ?_) #[true, true, true, true, true, true, true, true, true, true, true, false, false, false, false, true] rfl rfl (by kernel_rfl) (fun _ _ _ h => h) (Or.inl ⟨by rfl, ?_⟩) hHeld ?_ ?_
  rotate_left
  · intro w' s0
    have d7_ := (blk_cell s0 7).trans (show _ = some (.int .i64 cm) from rfl)
    go_simp
    with_reducible rfl
  rotate_left
  · simp only [Act.put, List.setIfInBounds_toArray, List.set_cons_zero, List.set_cons_succ, i64_w, i32_w]
    rfl
  refine take_ (i := 11) (N := some 30) (v := ?_) (a' := ?_) #[true, true, true, true, true, true, true, true, true, true, true, true, false, false, false, true] rfl rfl (by kernel_rfl) (fun _ _ _ h => h) (Or.inl ⟨by rfl, ?_⟩) hHeld ?_ ?_
  rotate_left
  · intro w' s0
    have d4_ := (blk_cell s0 4).trans (show _ = some (.int .i64 lo) from rfl)
    go_simp
    with_reducible rfl
  rotate_left
  · simp only [Act.put, List.setIfInBounds_toArray, List.set_cons_zero, List.set_cons_succ, i64_w, i32_w]
    rfl
  refine pure_ (i := 12) (N := some 31) (v := ?_) (a' := ?_) #[true, true, true, true, true, true, true, true, true, true, true, true, true, false, false, true] rfl rfl (by kernel_rfl) (fun _ _ _ h => h) (Or.inl ⟨by rfl, ?_⟩) ?_ ?_
  rotate_left
  · intro w'
    go_simp
    with_reducible rfl
  rotate_left
  · simp only [Act.put, List.setIfInBounds_toArray, List.set_cons_zero, List.set_cons_succ, i64_w, i32_w]
    rfl
  refine pure_ (i := 13) (N := some 32) (v := ?_) (a' := ?_) #[true, true, true, true, true, true, true, true, true, true, true, true, true, true, false, true] rfl rfl (by kernel_rfl) (fun _ _ _ h => h) (Or.inl ⟨by rfl, ?_⟩) ?_ ?_
  rotate_left
  · intro w'
    refine Eq.trans (exec_high (.tmp 22) (.tmp 31) rfl Ar n cr m HMC.out rfl rfl) ?_
    with_reducible rfl
  rotate_left
  · simp only [Act.put, List.setIfInBounds_toArray, List.set_cons_zero, List.set_cons_succ, i64_w, i32_w]
    rfl
  refine pure_ (i := 14) (N := some 33) (v := ?_) (a' := ?_) #[true, true, true, true, true, true, true, true, true, true, true, true, true, true, true, true] rfl rfl (by kernel_rfl) (fun _ _ _ h => h) (Or.inl ⟨by rfl, ?_⟩) ?_ ?_
  rotate_left
  · intro w'
    go_simp
    with_reducible rfl
  rotate_left
  · simp only [Act.put, List.setIfInBounds_toArray, List.set_cons_zero, List.set_cons_succ, i64_w, i32_w]
    rfl
  refine done_ (by kernel_rfl) ?_
  obtain ⟨w11, hw11⟩ : ∃ w11, w10.drew = w11 := ⟨_, rfl⟩
  have hd := hw11 ▸ below_drew1 (Below.refl w10.heap.size w10)
  have HQ11 := Aside0.mk (blk_below HQ10.out hd)
  have HB11 := Aside0.mk (below_step HB10.out hd)
  have HST11 := Aside0.mk (HST10.out.below hd)
  have HP11 := Aside0.mk (blk_below HP10.out hd)
  have HZ11 := Aside0.mk (blk_below HZ10.out hd)
  have HRV11 := Aside0.mk (HRV10.out.below hd)
  rw [hw11]
  clear hw11 hd hHeld r5 HQ10 HB10 HST10 HP10 HZ10 HRV10
  go_upto_region 6 with (fail)
  go_loopw [4, 34] (fun v4 v34 wr => ∃ j : Nat, j ≤ m ∧ v4 = .int .i64 (upT s.T (R'.take j)).epoch ∧ v34 = .int .i64 (j : Int) ∧ Aside0 (St2 wr c1 c2 (upT s.T (R'.take j))) ∧ Aside0 (Ws (fun b => b = c1 ∨ b = c2) w11 wr)) (fun v4 v34 _ => m - (intOf v34).toNat)
  case atStart => exact ⟨0, Nat.zero_le _, by rw [List.take_zero, ← HEP.out]; rfl, rfl, ⟨by rw [List.take_zero]; exact HST11.out⟩, ⟨Ws.refl _ _⟩⟩
  case round =>
    obtain ⟨j, hj, rfl, rfl, HSt, HWs⟩ := hrel
    have HPr := Aside0.mk ((HWs.out.block p (blk_lt HP11.out) (by have := HO.out; have := HSZ.out; omega)).trans HP11.out)
    have HZr := Aside0.mk ((HWs.out.block g (blk_lt HZ11.out) (by have := HO.out; have := HSZ.out; omega)).trans HZ11.out)
    have HQr := Aside0.mk ((HWs.out.block q (blk_lt HQ11.out) (by have := HO.out; omega)).trans HQ11.out)
    by_cases e1 : j < m
    · have e1' : decide ((j : Int) < (m : Int)) = true := decide_eq_true (by omega)
      have hjl : j < R'.length := by have := HRL.out; omega
      have hjs : j < s.R.length := by have := HM.out; have := HN.out; omega
      have HWJ : Aside0 (wrap64 ((j : Int) + 1) = (j : Int) + 1) := ⟨by have := HM.out; unfold wrap64; omega⟩
      obtain ⟨ad, hA, hkl, hcell⟩ := C_atR (HRV11.out.ws HWs.out (fun b hb => .inr (by have := HO.out; omega))).c j hjs
      subst hA
      obtain ⟨x, hx⟩ : ∃ x, s.R[j] = x := ⟨_, rfl⟩
      rw [hx] at hkl hcell
      have htk : upT s.T (R'.take (j + 1)) = putT (upT s.T (R'.take j)) x := by
        rw [List.take_succ_eq_append_getElem hjl, upT_snoc]
        congr 1
        have hr := HR'.out
        subst hr
        rw [List.getElem_take]
        exact hx
      have hRt : R'.take j = s.R.take j := by rw [← HR'.out, List.take_take, Nat.min_eq_left (by omega)]
      have hat := (HWf.out.at j (by omega)).1
      rw [← hRt] at hat
      have hmay := HWf.out.chain j hjs
      rw [hx] at hmay
      have hmem : x ∈ s.R := hx ▸ List.getElem_mem _
      obtain ⟨tj, htj⟩ : ∃ tj, upT s.T (R'.take j) = tj := ⟨_, rfl⟩
      rw [htj] at htk hat HSt ⊢
      obtain ⟨ee, hee⟩ : ∃ ee, tj.epoch = ee := ⟨_, rfl⟩
      rw [hee]
      obtain ⟨xs, hxs⟩ : ∃ xs, encR x = xs := ⟨_, rfl⟩
      have HPUT : Aside0 (∀ w' : World, St2 w' c1 c2 tj → Calls Tryd.prog 55 #[vS c1 c2, .agg xs.toArray] w' fun e w'' => e = .returned (.tuple #[]) ∧ Ws (fun b => b = c1 ∨ b = c2) w' w'' ∧ St2 w'' c1 c2 (putT tj x)) := ⟨fun w' h' => hxs ▸ put_calls c1 c2 tj x w' h' (by have := HO.out; omega) hat.up hat.upd (HKy.out.rc x hmem) hmay.wf⟩
      have HTK := Aside0.mk htk
      have HCell : Aside0 (∀ q v, xs[q]? = some v → wr.cell? ((ad.add (j * 14)).add q) = some v) := ⟨hxs ▸ hcell⟩
      have HLX : Aside0 (xs.length = 14) := ⟨hxs ▸ encR_len hkl⟩
      have HX1 : Aside0 (∀ v ∈ xs, v.oneCell' = true) := ⟨hxs ▸ encR_one x⟩
      obtain ⟨xe, hxe⟩ : ∃ xe, x.epoch = xe := ⟨_, rfl⟩
      have HEP2 : Aside0 (∀ (w' : World) (b : Nat), w'.heap[b]? = some (.cells xs.toArray 32 (0, 0)) → w'.cell? ⟨b, 1, none⟩ = some (.int .i64 xe)) := ⟨fun w' b h => hxe ▸ (recAt (f := fun i => w'.cell? ⟨b, i, none⟩) hkl (hxs ▸ blk_get h)).epoch⟩
      have HXE : Aside0 ((putT tj x).epoch = xe) := ⟨hxe⟩
      clear hx hkl hcell htk hRt hat hmay hmem htj hxs hee hxe
      go_upto_region 8 with (first
        | ((with_reducible refine gate_dst (N := 37) rfl ?_); go_must (refine wpList_at (P := Tryd.prog) rfl 32 (.tmp 36) rfl (ad.add (j * 14)) rfl xs (by rw [HLX.out]; exact aggR) HCell.out ?_))
        | ((with_reducible refine gate_ (.store 32 (.tmp 6) (.tmp 37)) rfl ?_); go_must (refine wpList_fill (P := Tryd.prog) rfl 32 (.tmp 6) (.tmp 37) rfl xs _ rfl rfl (by rw [HLX.out]; exact aggR) (by rw [HLX.out]; rfl) HX1.out ?_)))
      obtain ⟨w12, hw12⟩ : ∃ w12, wr.alloc (.cells xs.toArray 32) = w12 := ⟨_, rfl⟩
      have hb12 : Below wr.heap.size wr w12 := hw12 ▸ below_alloc (Below.refl _ _) _
      have HA12 := Aside0.mk (show w12.heap[wr.heap.size]? = some (.cells xs.toArray 32) from hw12 ▸ at_alloc wr _)
      have HQ12 := Aside0.mk (blk_below HQr.out hb12)
      have HS12 := Aside0.mk (HSt.out.below hb12)
      have HW12 := Aside0.mk (HWs.out.trans (Ws.of_below hb12))
      have hwr2 := Nat.le_trans (blk_lt HQ11.out) HWs.out.size
      rw [hw12]
      obtain ⟨b, hbb⟩ : ∃ b, wr.heap.size = b := ⟨_, rfl⟩
      rw [hbb] at HA12 hwr2 ⊢
      have HBN : Aside0 (b ≠ c1 ∧ b ≠ c2) := ⟨by have := HO.out; omega⟩
      clear hw12 hb12 hbb hwr2
      go_upto_region 9 with (first
        | ((with_reducible refine gate_dst (N := 38) rfl ?_); go_must (refine wpList_seg (P := Tryd.prog) rfl 84 (.tmp 3) rfl q 0 rfl [.map (some c1), .map (some c2)] aggS (SegAt.blk (t := 84) (fr := (0, 0)) HQ12.out) ?_))
        | ((with_reducible refine gate_dst (N := 39) rfl ?_); go_must (refine wpList_seg (P := Tryd.prog) rfl 32 (.tmp 6) rfl b 0 rfl xs (by rw [HLX.out]; exact aggR) (SegAt.blk (t := 32) (fr := (0, 0)) HA12.out) ?_))
        | (go_at_call 55; refine (HPUT.out w12 HS12.out).mono ?_; rintro e w13 ⟨rfl, H13⟩; have H13 := Aside0.mk H13))
      have q1 := HEP2.out w13 b ((H13.out.1.block b (blk_lt HA12.out) (by have := HBN.out; omega)).trans HA12.out)
      go_wp2_with (fail)
      rw [HWJ.out]
      exact ⟨⟨j + 1, by omega, by rw [HTK.out, HXE.out], by push_cast; rfl, ⟨by rw [HTK.out]; exact H13.out.2⟩, ⟨HW12.out.trans H13.out.1⟩⟩, by simp [intOf]; omega⟩
    · have e1' : decide ((j : Int) < (m : Int)) = false := decide_eq_false (by omega)
      have hst := HSt.out
      rw [List.take_of_length_le (by have := HRL.out; omega), HCT.out] at hst
      have HSt2 := Aside0.mk hst
      rw [List.take_of_length_le (by have := HRL.out; omega), HCT.out, HCE.out]
      clear hst HSt
      go_upto_region 11 with (fail)
      refine start_ (n := 8) (S := fun w' => w'.heap[p]? = some (.cells (shCells b1 b2 b3 b4 lo ep (.slice Ar n cr) cm) 86 (0, 0)) ∧ w'.heap[g]? = some (.cells #[.int .i64 0, .int .i64 0, .slice none 0 0, .slice none 0 0] 25 (0, 0)) ∧ w'.heap[q]? = some (.cells [.map (some c1), .map (some c2)].toArray 84 (0, 0)) ∧ St2 w' c1 c2 ct ∧ Below wr.heap.size wr w') (ds := [7]) #[false, false, false, false, false, false, false, false] (by kernel_rfl) rfl rfl ⟨blk_below HPr.out (below_drew1 (Below.refl _ _)), blk_below HZr.out (below_drew1 (Below.refl _ _)), blk_below HQr.out (below_drew1 (Below.refl _ _)), HSt2.out.below (below_drew1 (Below.refl _ _)), below_drew1 (Below.refl _ _)⟩ (fun hHeld => ?_)
      refine pure_ (i := 1) (N := some 45) (v := ?_) (a' := ?_) #[false, true, false, false, false, false, false, false] rfl rfl (by kernel_rfl) (fun _ _ _ h => h) (Or.inl ⟨by rfl, ?_⟩) ?_ ?_
      rotate_left
      · intro w'
        go_simp
        with_reducible rfl
      rotate_left
      · simp only [Act.put, List.setIfInBounds_toArray, List.set_cons_zero, List.set_cons_succ, i64_w, i32_w]
        rfl
      refine pure_ (i := 2) (N := some 46) (v := ?_) (a' := ?_) #[false, true, true, false, false, false, false, false] rfl rfl (by kernel_rfl) (fun _ _ _ h => h) (Or.inl ⟨by rfl, ?_⟩) ?_ ?_
      rotate_left
      · intro w'
        go_simp
        with_reducible rfl
      rotate_left
      · simp only [Act.put, List.setIfInBounds_toArray, List.set_cons_zero, List.set_cons_succ, i64_w, i32_w]
        rfl
      refine pure_ (i := 3) (N := some 47) (v := ?_) (a' := ?_) #[false, true, true, true, false, false, false, false] rfl rfl (by kernel_rfl) (fun _ _ _ h => h) (Or.inl ⟨by rfl, ?_⟩) ?_ ?_
      rotate_left
      · intro w'
        go_simp
        with_reducible rfl
      rotate_left
      · simp only [Act.put, List.setIfInBounds_toArray, List.set_cons_zero, List.set_cons_succ, i64_w, i32_w]
        rfl
      refine pure_ (i := 5) (N := some 49) (v := ?_) (a' := ?_) #[false, true, true, true, false, true, false, false] rfl rfl (by kernel_rfl) (fun _ _ _ h => h) (Or.inl ⟨by rfl, ?_⟩) ?_ ?_
      rotate_left
      · intro w'
        go_simp
        with_reducible rfl
      rotate_left
      · simp only [Act.put, List.setIfInBounds_toArray, List.set_cons_zero, List.set_cons_succ, i64_w, i32_w]
        rfl
      refine take_ (i := 0) (N := some 44) (v := ?_) (a' := ?_) #[true, true, true, true, false, true, false, false] rfl rfl (by kernel_rfl) (fun _ _ _ h => h) (Or.inl ⟨by rfl, ?_⟩) hHeld ?_ ?_
      rotate_left
      · rintro w' ⟨s0, s1, s2, s3, s4⟩
        refine Eq.trans (exec_seg (P := Tryd.prog) 84 (.tmp 3) rfl q 0 rfl [.map (some c1), .map (some c2)] aggS (SegAt.blk (t := 84) (fr := (0, 0)) s2)) ?_
        with_reducible rfl
      rotate_left
      · simp only [Act.put, List.setIfInBounds_toArray, List.set_cons_zero, List.set_cons_succ, i64_w, i32_w]
        rfl
      refine take_ (i := 4) (N := some 48) (v := ?_) (a' := ?_) #[true, true, true, true, true, true, false, false] rfl rfl (by kernel_rfl) (fun _ _ _ h => h) (Or.inl ⟨by rfl, ?_⟩) hHeld ?_ ?_
      rotate_left
      · rintro w' ⟨s0, s1, s2, s3, s4⟩
        have d7_ := (blk_cell s0 7).trans (show _ = some (.int .i64 cm) from rfl)
        go_simp
        with_reducible rfl
      rotate_left
      · simp only [Act.put, List.setIfInBounds_toArray, List.set_cons_zero, List.set_cons_succ, i64_w, i32_w]
        rfl
      refine one_ (i := 6) (N := some 50) #[true, true, true, true, true, true, true, false] rfl rfl (by kernel_rfl) (by decide) (fun K hK => ?_)
      refine goes_ Tryd.func60 (by kernel_rfl) rfl #[vS c1 c2, .int .i64 cm, .int .i64 ce] (by rfl) rfl rfl (by first | rfl | (simp; done) | (simp only [List.map_toArray, List.map_cons, List.map_nil]; rfl)) ?_
      with_reducible refine (HTB.out _ c1 c2 hHeld.2.2.2.1).mono ?_
      rintro e w14 ⟨A1, ca, B1, cb, rfl, hb14, hrw⟩
      refine ⟨_, rfl, ?_⟩
      have HRW := Aside0.mk hrw
      have HB13 := Aside0.mk hHeld.2.2.2.2
      have HB14 := Aside0.mk (below_step hHeld.2.2.2.2 hb14)
      refine hK.out _ _ ⟨blk_below hHeld.1 hb14, blk_below hHeld.2.1 hb14, blk_below hHeld.2.2.1 hb14, hHeld.2.2.2.1.below hb14, below_step hHeld.2.2.2.2 hb14⟩ (fun hHeld => ?_)
      clear hK K
      refine norm_ (a' := ?_) ?_ ?_
      rotate_left
      · show Act.put _ (some 50) _ = _
        simp only [Act.put, List.setIfInBounds_toArray, List.set_cons_zero, List.set_cons_succ, i64_w, i32_w]
        rfl
      refine last_ (i := 7) (N := none) #[true, true, true, true, true, true, true, true] rfl rfl (by kernel_rfl) (by decide) (fun K hK => ?_)
      refine skip_row (P := Tryd.prog) (by rfl) rfl 25 (.tmp 2) (.tmp 50) rfl g _ 25 hHeld.2.1 [.int .i64 cm, .int .i64 ce, .slice A1 nc ca, .slice B1 nd cb] rfl rfl aggTb rfl (by simp [Value.oneCell']) ?_
      intro w15 q1 q2 q3
      refine hK.out _ _ ?_
      clear hK K
      refine done_ (by kernel_rfl) ?_
      have HC := HRW.out w15 (fun b h1 h2 => q1.block b h2 (fun e => by injection e with e; have := HSZ.out; have := HB13.out.size; have := HWs.out.size; have := HB11.out.size; omega))
      have hb11 := below_then HB.out HB.out.size HB11.out
      have hbr := HWs.out.below hb11 (fun x hx => by have := HO.out; have := HSZ.out; omega)
      have hb14 := below_then hbr hbr.size HB14.out
      have hb15 := pw_below_grown hb14 _ hb14.size q1 (fun k e => by injection e with e; have := HSZ.out; omega)
      go_wp2_with (fail)
      refine bodyPost_ret (results_c rfl _ _ g 25 #[.int .i64 cm, .int .i64 ce, .slice A1 nc ca, .slice B1 nd cb] (0, 0) _ (by rfl) q3 Tryd.underlying25 rfl (by kernel_rfl)) rfl ?_
      exact ⟨A1, ca, B1, cb, rfl, by first | exact hb15 | exact hg ▸ hb15, HC.1, HC.2⟩
end
end Go.Proofs.YtgmaedngkhidlaaDoor.Sf
-- ShI
namespace Go.Proofs.YtgmaedngkhidlaaDoor.Sf
open Go Go.RowKit Go.ChangeMaps Go.MapKept Go.Proofs.YtgmaedngkhidlaaDoorW.PrintWords Go.Proofs.YtgmaedngkhidlaaDoorW.PrintLast Go.Proofs.YtgmaedngkhidlaaDoorW.PrintMore
open Go.Maps (Keyed)
set_option linter.unusedVariables false
set_option linter.unusedSimpArgs false
theorem com_keys {s : Sh} (hy : Ky s) : ∀ c ∈ (comT s).cells, KeyL c.key := up_keys _ _ hy.cell (fun x hx => hy.rc x (List.mem_of_mem_take hx))
theorem lit_three (w : World) (A B C : Option Addr) (n c m d e f : Nat) : ∃ b w1, (Instr.buildSlice 93 3 #[(0, .slice A n c), (1, .slice B m d), (2, .slice C e f)]).run Tryd.prog w = .ok (.slice (some ⟨b, 0, none⟩) 3 3) w1 ∧ w1.heap[b]? = some (.cells #[.slice A n c, .slice B m d, .slice C e f] 26 (0, 0)) ∧ Below w.heap.size w w1 :=
  ⟨w.heap.size, w.alloc (.cells #[.slice A n c, .slice B m d, .slice C e f] 26 (0, 0)), by kernel_rfl, at_alloc w _, below_alloc (Below.refl _ _) _⟩
theorem exec_lit3 {P : Program} {o : Oper} {a : Act} {w w1 : World} {v y1 z1 u1 : Value} (t : TypeId) (y z u : Operand) (ho : o.op = .buildSlice t 3 #[(0, y), (1, z), (2, u)]) (hy : a.eval y = y1) (hz : a.eval z = z1) (hu : a.eval u = u1) (hr : (Instr.buildSlice t 3 #[(0, y1), (1, z1), (2, u1)]).run P w = .ok v w1) : (execOp a.eval o).run P w = .ok (.value v) w1 := by
  unfold execOp
  simp only [ho, List.map_toArray, List.map_cons, List.map_nil, hy, hz, hu, hr, Sem.run_bind, Sem.run_pure, Result.andThen_ok]
end Go.Proofs.YtgmaedngkhidlaaDoor.Sf
-- ShA
namespace Go.Proofs.YtgmaedngkhidlaaDoor.Sf
open Go Go.RowKit Go.ChangeMaps Go.MapKept Go.Proofs.YtgmaedngkhidlaaDoorW.PrintWords Go.Proofs.YtgmaedngkhidlaaDoorW.PrintLast Go.Proofs.YtgmaedngkhidlaaDoorW.PrintMore
open Go.Maps (Keyed)
set_option linter.unusedVariables false
set_option linter.unusedSimpArgs false
theorem aggSh : AggT Tryd.prog 86 9 := ⟨⟨_, Tryd.underlying86, rfl⟩, by kernel_rfl⟩
abbrev shList (b1 b2 b3 b4 : Nat) (low era : Int) (rv : Value) (C : Int) : List Value := [.map (some b1), .map (some b2), .map (some b3), .map (some b4), .int .i64 low, .int .i64 era, rv, .int .i64 C, .bool true]
section
variable {F G : Nat → Prop} {p : Nat} {s : Sh}
set_option maxHeartbeats 8000000 in
set_option maxRecDepth 100000 in
theorem CloneS_calls (w : World) (h : IsS F G w p s) (hGb : ∀ k, G k → k < w.heap.size) (hw : Wf s) (hy : Ky s) :
    Calls Tryd.prog 38 #[.pointer (some ⟨p, 0, none⟩)] w fun e w' => ∃ q F' G', e = .returned (.pointer (some ⟨q, 0, none⟩)) ∧ Below w.heap.size w w' ∧ IsS F' G' w' q s ∧ IsS F G' w' p s ∧ (∀ k, F' k → w.heap.size ≤ k ∧ k < w'.heap.size) ∧ (∀ k, G k → G' k) ∧ (∀ k, G' k → k < w'.heap.size) := by
  obtain ⟨b1, b2, b3, b4, rv, hp0, hf0, hn0, hs1, hs2, hrv⟩ := h.ex
  obtain ⟨Ar, cr, rfl, hcr, hCr⟩ := hrv.slice
  obtain ⟨n, hn⟩ : ∃ n, s.R.length = n := ⟨_, rfl⟩
  obtain ⟨lo, hlo⟩ : ∃ lo, s.T.idx = lo := ⟨_, rfl⟩
  obtain ⟨ep, hep⟩ : ∃ ep, s.T.epoch = ep := ⟨_, rfl⟩
  obtain ⟨cm, hcm⟩ : ∃ cm, s.C = cm := ⟨_, rfl⟩
  rw [hlo, hep, hcm, hn] at hp0
  rw [hn] at hrv
  have HD := Aside0.mk (dead_calls h)
  have HPL : Aside0 (w.heap[p]? = some (.cells (shList b1 b2 b3 b4 lo ep (.slice Ar n cr) cm).toArray 86 (0, 0))) := ⟨hp0⟩
  have HS1 := Aside0.mk hs1
  have HS2 := Aside0.mk hs2
  have HRV := Aside0.mk hrv
  have HH := Aside0.mk h
  have HGB := Aside0.mk hGb
  have HL := Aside0.mk (And.intro hlo (And.intro hep hcm))
  have HC1 : Aside0 (∀ w' : World, St2 w' b1 b2 s.T → Calls Tryd.prog 56 #[vS b1 b2] w' fun e w'' => ∃ c1 c2, e = .returned (vS c1 c2) ∧ Below w'.heap.size w' w'' ∧ w'.heap.size ≤ c1 ∧ c1 < c2 ∧ St2 w'' c1 c2 s.T) := ⟨fun w' h' => copied_calls b1 b2 s.T w' h' hy.cell hw.tab.wf⟩
  have HC2 : Aside0 (∀ w' : World, St2 w' b3 b4 (lastT s) → Calls Tryd.prog 56 #[vS b3 b4] w' fun e w'' => ∃ c1 c2, e = .returned (vS c1 c2) ∧ Below w'.heap.size w' w'' ∧ w'.heap.size ≤ c1 ∧ c1 < c2 ∧ St2 w'' c1 c2 (lastT s)) := ⟨fun w' h' => copied_calls b3 b4 (lastT s) w' h' (up_keys _ _ hy.cell hy.rc) hw.last.1.wf⟩
  have HX1 : Aside0 (∀ v ∈ shList b1 b2 b3 b4 lo ep (.slice Ar n cr) cm, v.oneCell' = true) := ⟨by simp [Value.oneCell']⟩
  clear hp0 hf0 hn0 hs1 hs2 hrv hcr hCr hn hlo hep hcm h hGb hw hy
  go_enter Tryd.func38, Tryd.ntmps38
  go_upto_region 4 with (first
    | (go_at_call 51; refine HD.out.mono ?_; rintro e w' ⟨rfl, rfl⟩)
    | ((with_reducible refine gate_dst (N := 8) rfl ?_); go_must (refine wpList_seg (P := Tryd.prog) rfl 86 (.tmp 7) rfl p 0 rfl (shList b1 b2 b3 b4 lo ep (.slice Ar n cr) cm) aggSh (SegAt.blk (t := 86) (fr := (0, 0)) HPL.out) ?_))
    | ((with_reducible refine gate_ (.store 86 (.tmp 3) (.tmp 8)) rfl ?_); go_must (refine wpList_fill (P := Tryd.prog) rfl 86 (.tmp 3) (.tmp 8) rfl (shList b1 b2 b3 b4 lo ep (.slice Ar n cr) cm) _ rfl rfl aggSh rfl HX1.out ?_)))
  obtain ⟨w1, hw1⟩ : ∃ w1, w.alloc (.cells (shList b1 b2 b3 b4 lo ep (.slice Ar n cr) cm).toArray 86) = w1 := ⟨_, rfl⟩
  have hb1 : Below w.heap.size w w1 := hw1 ▸ below_alloc (Below.refl _ _) _
  have hs1 : w1.heap.size = w.heap.size + 1 := by rw [← hw1]; simp
  obtain ⟨q, hq⟩ : ∃ q, w.heap.size = q := ⟨_, rfl⟩
  have HQ1 : Aside0 (w1.heap[q]? = some (.cells (shCells b1 b2 b3 b4 lo ep (.slice Ar n cr) cm) 86 (0, 0))) := ⟨hq ▸ hw1 ▸ at_alloc w _⟩
  have HP1 : Aside0 (w1.heap[p]? = some (.cells (shCells b1 b2 b3 b4 lo ep (.slice Ar n cr) cm) 86 (0, 0))) := ⟨blk_below HPL.out hb1⟩
  have HB1 := Aside0.mk hb1
  have HS11 := Aside0.mk (HS1.out.below hb1)
  have HS21 := Aside0.mk (HS2.out.below hb1)
  have HSZ := Aside0.mk (And.intro hq hs1)
  rw [hw1, hq]
  clear hw1 hb1 hs1
  refine start_ (n := 14) (S := fun w' => w'.heap[p]? = some (.cells (shCells b1 b2 b3 b4 lo ep (.slice Ar n cr) cm) 86 (0, 0)) ∧ w'.heap[q]? = some (.cells (shCells b1 b2 b3 b4 lo ep (.slice Ar n cr) cm) 86 (0, 0)) ∧ St2 w' b1 b2 s.T ∧ St2 w' b3 b4 (lastT s) ∧ Below w1.heap.size w1 w') (ds := [11, 13]) #[false, false, false, false, false, false, false, false, false, false, false, false, false, false] (by kernel_rfl) rfl rfl ⟨blk_below HP1.out (below_drew1 (Below.refl _ _)), blk_below HQ1.out (below_drew1 (Below.refl _ _)), HS11.out.below (below_drew1 (Below.refl _ _)), HS21.out.below (below_drew1 (Below.refl _ _)), below_drew1 (Below.refl _ _)⟩ (fun hHeld => ?_)
  refine pure_ (i := 0) (N := some 9) (v := ?_) (a' := ?_) #[true, false, false, false, false, false, false, false, false, false, false, false, false, false] rfl rfl (by kernel_rfl) (fun _ _ _ h => h) (Or.inl ⟨by rfl, ?_⟩) ?_ ?_
  rotate_left
  · intro w'
    go_simp
    with_reducible rfl
  rotate_left
  · simp only [Act.put, List.setIfInBounds_toArray, List.set_cons_zero, List.set_cons_succ, i64_w, i32_w]
    rfl
  refine pure_ (i := 1) (N := some 10) (v := ?_) (a' := ?_) #[true, true, false, false, false, false, false, false, false, false, false, false, false, false] rfl rfl (by kernel_rfl) (fun _ _ _ h => h) (Or.inl ⟨by rfl, ?_⟩) ?_ ?_
  rotate_left
  · intro w'
    go_simp
    with_reducible rfl
  rotate_left
  · simp only [Act.put, List.setIfInBounds_toArray, List.set_cons_zero, List.set_cons_succ, i64_w, i32_w]
    rfl
  refine pure_ (i := 2) (N := some 11) (v := ?_) (a' := ?_) #[true, true, true, false, false, false, false, false, false, false, false, false, false, false] rfl rfl (by kernel_rfl) (fun _ _ _ h => h) (Or.inl ⟨by rfl, ?_⟩) ?_ ?_
  rotate_left
  · intro w'
    go_simp
    with_reducible rfl
  rotate_left
  · simp only [Act.put, List.setIfInBounds_toArray, List.set_cons_zero, List.set_cons_succ, i64_w, i32_w]
    rfl
  refine pure_ (i := 5) (N := some 14) (v := ?_) (a' := ?_) #[true, true, true, false, false, true, false, false, false, false, false, false, false, false] rfl rfl (by kernel_rfl) (fun _ _ _ h => h) (Or.inl ⟨by rfl, ?_⟩) ?_ ?_
  rotate_left
  · intro w'
    go_simp
    with_reducible rfl
  rotate_left
  · simp only [Act.put, List.setIfInBounds_toArray, List.set_cons_zero, List.set_cons_succ, i64_w, i32_w]
    rfl
  refine pure_ (i := 6) (N := some 15) (v := ?_) (a' := ?_) #[true, true, true, false, false, true, true, false, false, false, false, false, false, false] rfl rfl (by kernel_rfl) (fun _ _ _ h => h) (Or.inl ⟨by rfl, ?_⟩) ?_ ?_
  rotate_left
  · intro w'
    go_simp
    with_reducible rfl
  rotate_left
  · simp only [Act.put, List.setIfInBounds_toArray, List.set_cons_zero, List.set_cons_succ, i64_w, i32_w]
    rfl
  refine pure_ (i := 7) (N := some 16) (v := ?_) (a' := ?_) #[true, true, true, false, false, true, true, true, false, false, false, false, false, false] rfl rfl (by kernel_rfl) (fun _ _ _ h => h) (Or.inl ⟨by rfl, ?_⟩) ?_ ?_
  rotate_left
  · intro w'
    go_simp
    with_reducible rfl
  rotate_left
  · simp only [Act.put, List.setIfInBounds_toArray, List.set_cons_zero, List.set_cons_succ, i64_w, i32_w]
    rfl
  refine take_ (i := 3) (N := some 12) (v := ?_) (a' := ?_) #[true, true, true, true, false, true, true, true, false, false, false, false, false, false] rfl rfl (by kernel_rfl) (fun _ _ _ h => h) (Or.inl ⟨by rfl, ?_⟩) hHeld ?_ ?_
  rotate_left
  · rintro w' ⟨s0, s1, s2, s3, s4⟩
    refine Eq.trans (exec_seg (P := Tryd.prog) 84 (.tmp 11) rfl p 0 rfl [.map (some b1), .map (some b2)] aggS (seg_two (show w'.cell? ⟨p, 0, none⟩ = some (.map (some b1)) from (blk_cell s0 0).trans rfl) (show w'.cell? ⟨p, 1, none⟩ = some (.map (some b2)) from (blk_cell s0 1).trans rfl))) ?_
    with_reducible rfl
  rotate_left
  · simp only [Act.put, List.setIfInBounds_toArray, List.set_cons_zero, List.set_cons_succ, i64_w, i32_w]
    rfl
  refine take_ (i := 8) (N := some 17) (v := ?_) (a' := ?_) #[true, true, true, true, false, true, true, true, true, false, false, false, false, false] rfl rfl (by kernel_rfl) (fun _ _ _ h => h) (Or.inl ⟨by rfl, ?_⟩) hHeld ?_ ?_
  rotate_left
  · rintro w' ⟨s0, s1, s2, s3, s4⟩
    refine Eq.trans (exec_seg (P := Tryd.prog) 84 (.tmp 16) rfl p 2 rfl [.map (some b3), .map (some b4)] aggS (seg_two (show w'.cell? ⟨p, 2, none⟩ = some (.map (some b3)) from (blk_cell s0 2).trans rfl) (show w'.cell? ⟨p, 3, none⟩ = some (.map (some b4)) from (blk_cell s0 3).trans rfl))) ?_
    with_reducible rfl
  rotate_left
  · simp only [Act.put, List.setIfInBounds_toArray, List.set_cons_zero, List.set_cons_succ, i64_w, i32_w]
    rfl
  refine one_ (i := 4) (N := some 13) #[true, true, true, true, true, true, true, true, true, false, false, false, false, false] rfl rfl (by kernel_rfl) (by decide) (fun K hK => ?_)
  refine goes_ Tryd.func56 (by kernel_rfl) rfl #[vS b1 b2] (by rfl) rfl rfl (by first | rfl | (simp; done) | (simp only [List.map_toArray, List.map_cons, List.map_nil]; rfl)) ?_
  with_reducible refine (HC1.out _ hHeld.2.2.1).mono ?_
  rintro e w9 ⟨c1, c2, rfl, hb9, hge, hcc, hst9⟩
  refine ⟨_, rfl, ?_⟩
  have HST9 := Aside0.mk hst9
  have HC9 := Aside0.mk (And.intro (Nat.le_trans hHeld.2.2.2.2.size hge) hcc)
  refine hK.out _ _ ⟨blk_below hHeld.1 hb9, blk_below hHeld.2.1 hb9, hHeld.2.2.1.below hb9, hHeld.2.2.2.1.below hb9, below_step hHeld.2.2.2.2 hb9⟩ (fun hHeld => ?_)
  clear hK K
  refine norm_ (a' := ?_) ?_ ?_
  rotate_left
  · show Act.put _ (some 13) _ = _
    simp only [Act.put, List.setIfInBounds_toArray, List.set_cons_zero, List.set_cons_succ, i64_w, i32_w]
    rfl
  refine one_ (i := 9) (N := some 18) #[true, true, true, true, true, true, true, true, true, true, false, false, false, false] rfl rfl (by kernel_rfl) (by decide) (fun K hK => ?_)
  refine goes_ Tryd.func56 (by kernel_rfl) rfl #[vS b3 b4] (by rfl) rfl rfl (by first | rfl | (simp; done) | (simp only [List.map_toArray, List.map_cons, List.map_nil]; rfl)) ?_
  with_reducible refine (HC2.out _ hHeld.2.2.2.1).mono ?_
  rintro e w10 ⟨c3, c4, rfl, hb10, hge2, hcc2, hst10⟩
  refine ⟨_, rfl, ?_⟩
  have HST10 := Aside0.mk hst10
  have HST9' := Aside0.mk (HST9.out.below hb10)
  have HC10 := Aside0.mk (And.intro hge2 hcc2)
  have HB10 := Aside0.mk (below_step hHeld.2.2.2.2 hb10)
  refine hK.out _ _ ⟨blk_below hHeld.1 hb10, blk_below hHeld.2.1 hb10, hHeld.2.2.1.below hb10, hHeld.2.2.2.1.below hb10, below_step hHeld.2.2.2.2 hb10⟩ (fun hHeld => ?_)
  clear hK K
  refine norm_ (a' := ?_) ?_ ?_
  rotate_left
  · show Act.put _ (some 18) _ = _
    simp only [Act.put, List.setIfInBounds_toArray, List.set_cons_zero, List.set_cons_succ, i64_w, i32_w]
    rfl
  refine pure_ (i := 10) (N := some 19) (v := ?_) (a' := ?_) #[true, true, true, true, true, true, true, true, true, true, true, false, false, false] rfl rfl (by kernel_rfl) (fun _ _ _ h => h) (Or.inl ⟨by rfl, ?_⟩) ?_ ?_
  rotate_left
  · intro w'
    go_simp
    with_reducible rfl
  rotate_left
  · simp only [Act.put, List.setIfInBounds_toArray, List.set_cons_zero, List.set_cons_succ, i64_w, i32_w]
    rfl
  refine last_ (i := 11) (N := none) #[true, true, true, true, true, true, true, true, true, true, true, true, false, false] rfl rfl (by kernel_rfl) (by decide) (fun K hK => ?_)
  refine skip_part (P := Tryd.prog) (by rfl) rfl 84 (.tmp 19) (.tmp 13) rfl q 0 _ 86 hHeld.2.1 [.map (some c1), .map (some c2)] rfl rfl aggS (by simp) (by simp [Value.oneCell']) (shCells c1 c2 b3 b4 lo ep (.slice Ar n cr) cm) rfl ?_
  intro w11 q1w11 q2w11 q3w11
  refine hK.out _ _ ?_
  clear hK K
  refine pure_ (i := 12) (N := some 20) (v := ?_) (a' := ?_) #[true, true, true, true, true, true, true, true, true, true, true, true, true, false] rfl rfl (by kernel_rfl) (fun _ _ _ h => h) (Or.inl ⟨by rfl, ?_⟩) ?_ ?_
  rotate_left
  · intro w'
    go_simp
    with_reducible rfl
  rotate_left
  · simp only [Act.put, List.setIfInBounds_toArray, List.set_cons_zero, List.set_cons_succ, i64_w, i32_w]
    rfl
  refine last_ (i := 13) (N := none) #[true, true, true, true, true, true, true, true, true, true, true, true, true, true] rfl rfl (by kernel_rfl) (by decide) (fun K hK => ?_)
  refine skip_part (P := Tryd.prog) (by rfl) rfl 84 (.tmp 20) (.tmp 18) rfl q 2 _ 86 q3w11 [.map (some c3), .map (some c4)] rfl rfl aggS (by simp) (by simp [Value.oneCell']) (shCells c1 c2 c3 c4 lo ep (.slice Ar n cr) cm) rfl ?_
  intro w12 q1w12 q2w12 q3w12
  refine hK.out _ _ ?_
  clear hK K
  refine done_ (by kernel_rfl) ?_
  have hq12 : Ws (fun b => b = q) w10 w12 := (Ws.of_grown (P := fun b => b = q) q1w11 rfl).trans (Ws.of_grown (P := fun b => b = q) q1w12 rfl)
  have HQ12 := Aside0.mk hq12
  have HK12 := Aside0.mk q3w12
  have HS9 : Aside0 (c2 < w9.heap.size) := ⟨HST9.out.lt.2⟩
  clear hHeld hb9 hge hcc hst9 hb10 hge2 hcc2 hst10 q1w11 q2w11 q3w11 q1w12 q2w12 q3w12 hq12
  go_wp2_with (fail)
  go_ret
  have z1 := HSZ.out
  have z2 := HC9.out
  have z3 := HC10.out
  have z4 := HS9.out
  have z5 := HST9'.out.lt
  have z6 := HST10.out.lt
  have z7 := HQ12.out.size
  have hb110 := below_then HB1.out HB1.out.size HB10.out
  have hall : Below w.heap.size w w12 := HQ12.out.below hb110 (fun b hb => by omega)
  obtain ⟨F', hF'⟩ : ∃ F' : Nat → Prop, ∀ k, F' k ↔ (k = q ∨ k = c1 ∨ k = c2 ∨ k = c3 ∨ k = c4) := ⟨_, fun _ => Iff.rfl⟩
  obtain ⟨G', hG'⟩ : ∃ G' : Nat → Prop, ∀ k, G' k ↔ (G k ∨ F' k) := ⟨_, fun _ => Iff.rfl⟩
  have hlow : ∀ k, F' k → w.heap.size ≤ k ∧ k < w12.heap.size := fun k hk => by
    rcases (hF' k).1 hk with h | h | h | h | h <;> omega
  have hgr : ∀ b, b < w.heap.size → G' b → G b := fun b hb hg => ((hG' b).1 hg).elim id (fun hf => by have := (hlow b hf).1; omega)
  refine ⟨q, F', G', rfl, by first | exact hall | exact hq ▸ hall, ⟨fun k hk => (hlow k hk).2, fun k hk => (hG' k).2 (.inr hk), (hF' q).2 (.inl rfl), c1, c2, c3, c4, .slice Ar n cr, ?_, ⟨(hF' _).2 (.inr (.inl rfl)), (hF' _).2 (.inr (.inr (.inl rfl))), (hF' _).2 (.inr (.inr (.inr (.inl rfl)))), (hF' _).2 (.inr (.inr (.inr (.inr rfl))))⟩, ?_, ?_, ?_, ?_⟩, (HH.out.grow (fun k hk => (hG' k).2 (.inl (HH.out.fg k hk))) hgr).below hall, fun k hk => by first | exact hlow k hk | exact hq ▸ hlow k hk, fun k hk => (hG' k).2 (.inl hk), fun k hk => ?_⟩
  · show w12.heap[q]? = some (.cells (shCells c1 c2 c3 c4 s.T.idx s.T.epoch (.slice Ar n cr) s.C) 86 (0, 0))
    rw [HL.out.1, HL.out.2.1, HL.out.2.2]
    exact HK12.out
  · simp; omega
  · exact HST9'.out.ws HQ12.out (by omega) (by omega)
  · exact HST10.out.ws HQ12.out (by omega) (by omega)
  · exact ((HRV.out.grow hgr).below hb110).ws HQ12.out (fun b hb => (hG' b).2 (.inr ((hF' b).2 (.inl hb))))
  · rcases (hG' k).1 hk with h | h
    · have := HGB.out k h
      have := hall.size
      omega
    · exact (hlow k h).2
end
end Go.Proofs.YtgmaedngkhidlaaDoor.Sf
-- ShB
namespace Go.Proofs.YtgmaedngkhidlaaDoor.Sf
open Go Go.RowKit Go.ChangeMaps Go.MapKept Go.Proofs.YtgmaedngkhidlaaDoorW.PrintWords Go.Proofs.YtgmaedngkhidlaaDoorW.PrintLast Go.Proofs.YtgmaedngkhidlaaDoorW.PrintMore
open Go.Maps (Keyed)
set_option linter.unusedVariables false
set_option linter.unusedSimpArgs false
set_option maxRecDepth 100000
theorem eqK_self {a : List Int} (ha : KeyL a) (w : World) : (Op.equalIn 9999 28 (vK a) (vK a)).run Tryd.prog w = .ok true w := by
  obtain ⟨p, hp⟩ := key_some ha
  have hw : (match Tryd.prog.underlying 28 with | some (.array _ _) | some (.struct _) => true | _ => false) = true := by kernel_rfl
  obtain ⟨xs, L, e1, h1, r1⟩ := keyOf_top hw hp
  have hkt : Tryd.prog.keyTypeAt 3 28 = true := by kernel_rfl
  have g1 : (vK a).cells = xs := by rw [e1]; rfl
  obtain ⟨r, hr, hiff⟩ := run_equalIn_deep (P := Tryd.prog) 9996 3 28 hkt w _ _ (vK a) (vK a) L L (formedK ha.len) (formedK ha.len) (by rw [g1]; exact h1) (by rw [g1]; exact h1)
  rw [hiff.2 rfl] at hr
  exact hr
theorem str_self (v : ByteArray) : (v == v) = true := by rcases v with ⟨d⟩; exact beq_self_eq_true d
theorem eqR_self {x : Rc} (hx : KeyL x.key) (w : World) : (Op.equalIn 10000 32 (.agg (encR x).toArray) (.agg (encR x).toArray)).run Tryd.prog w = .ok true w := by
  have hK := eqK_self hx w
  obtain ⟨i, e, k, v, s, c, q⟩ := x
  obtain ⟨a0, a1, a2, a3, a4, a5, a6, a7, rfl⟩ := key8 hx.len
  have hs := str_self s
  show (Op.equalIn 10000 32 (.agg #[.int .i64 i, .int .i64 e, .int .u8 a0, .int .u8 a1, .int .u8 a2, .int .u8 a3, .int .u8 a4, .int .u8 a5, .int .u8 a6, .int .u8 a7, .int .i64 v, .string s, .int .i64 c, .int .i64 q]) (.agg #[.int .i64 i, .int .i64 e, .int .u8 a0, .int .u8 a1, .int .u8 a2, .int .u8 a3, .int .u8 a4, .int .u8 a5, .int .u8 a6, .int .u8 a7, .int .i64 v, .string s, .int .i64 c, .int .i64 q])).run Tryd.prog w = _
  change (Op.equalIn 9999 28 (.agg #[.int .u8 a0, .int .u8 a1, .int .u8 a2, .int .u8 a3, .int .u8 a4, .int .u8 a5, .int .u8 a6, .int .u8 a7]) (.agg #[.int .u8 a0, .int .u8 a1, .int .u8 a2, .int .u8 a3, .int .u8 a4, .int .u8 a5, .int .u8 a6, .int .u8 a7])).run Tryd.prog w = _ at hK
  go_simp
theorem eqC_self {x : Cel} (hx : KeyL x.key) (w : World) : (Op.equalIn 10000 45 (.agg (encC x).toArray) (.agg (encC x).toArray)).run Tryd.prog w = .ok true w := by
  have hK := eqK_self hx w
  obtain ⟨k, v, s⟩ := x
  obtain ⟨a0, a1, a2, a3, a4, a5, a6, a7, rfl⟩ := key8 hx.len
  have hs := str_self s
  show (Op.equalIn 10000 45 (.agg #[.int .u8 a0, .int .u8 a1, .int .u8 a2, .int .u8 a3, .int .u8 a4, .int .u8 a5, .int .u8 a6, .int .u8 a7, .int .i64 v, .string s]) (.agg #[.int .u8 a0, .int .u8 a1, .int .u8 a2, .int .u8 a3, .int .u8 a4, .int .u8 a5, .int .u8 a6, .int .u8 a7, .int .i64 v, .string s])).run Tryd.prog w = _
  change (Op.equalIn 9999 28 (.agg #[.int .u8 a0, .int .u8 a1, .int .u8 a2, .int .u8 a3, .int .u8 a4, .int .u8 a5, .int .u8 a6, .int .u8 a7]) (.agg #[.int .u8 a0, .int .u8 a1, .int .u8 a2, .int .u8 a3, .int .u8 a4, .int .u8 a5, .int .u8 a6, .int .u8 a7])).run Tryd.prog w = _ at hK
  go_simp
theorem eqD_self (x : Don) (w : World) : (Op.equalIn 10000 58 (.agg (encD x).toArray) (.agg (encD x).toArray)).run Tryd.prog w = .ok true w := by
  obtain ⟨c, q, v⟩ := x
  show (Op.equalIn 10000 58 (.agg #[.int .i64 c, .int .i64 q, .int .i64 v]) (.agg #[.int .i64 c, .int .i64 q, .int .i64 v])).run Tryd.prog w = _
  go_simp
theorem exec_neq {o : Oper} {a : Act} {w : World} (T R : TypeId) (x y : Operand) (ho : o.op = .binOp .neq T x y R) (xs : Array Value) (hx : a.eval x = .agg xs) (hy : a.eval y = .agg xs) (hg : Tryd.prog.eqGuardType Tryd.prog.depth T = false) (h : ∀ w', (Op.equalIn 10000 T (.agg xs) (.agg xs)).run Tryd.prog w' = .ok true w') : (execOp a.eval o).run Tryd.prog w = .ok (.value (.bool false)) w := by
  unfold execOp
  simp only [ho, hx, hy]
  have h1 : (eqGuard .neq T x y (.agg xs) (.agg xs)).run Tryd.prog w = .ok () w := by
    unfold eqGuard
    simp [Sem.run_bind, hg, go_sem]
  have h2 : (binOp .neq T (.agg xs) (.agg xs)).run Tryd.prog w = .ok (.bool false) w := by
    unfold binOp
    simp [Op.equal, go_sem, show Op.maxDepth = 10000 from rfl, h]
  simp only [Sem.run_bind, h1, h2, Result.andThen_ok, Sem.run_pure]
set_option maxHeartbeats 4000000 in
theorem SameR_calls (A B : Option Addr) (c d : Nat) (R : List Rc) (w : World) (hA : kR.C w A R.length R) (hB : kR.C w B R.length R) (hl : R.length ≤ 9223372036854775807) (hk : ∀ x ∈ R, KeyL x.key) :
    Calls Tryd.prog 39 #[.slice A R.length c, .slice B R.length d] w fun e w' => e = .returned (.bool true) ∧ Drawn0 w w' := by
  obtain ⟨n, hn⟩ : ∃ n, R.length = n := ⟨_, rfl⟩
  have HA := Aside0.mk hA
  have HB := Aside0.mk hB
  have HK := Aside0.mk hk
  have HN := Aside0.mk hn
  rw [hn] at hl ⊢
  have HL := Aside0.mk hl
  clear hA hB hk hn hl
  go_enter Tryd.func39, Tryd.ntmps39
  go_upto_region 4 with (fail)
  go_loopw [13] (fun v13 wr => ∃ j : Nat, j ≤ n ∧ v13 = .int .i64 (j : Int) ∧ Drawn0 w wr) (fun v13 _ => n - (intOf v13).toNat)
  case atStart => exact ⟨0, Nat.zero_le _, rfl, Drawn0.refl _⟩
  case round =>
    obtain ⟨j, hj, rfl, ⟨nd, rfl⟩⟩ := hrel
    by_cases e1 : j < n
    · have e1' : decide ((j : Int) < (n : Int)) = true := decide_eq_true (by omega)
      have hjl : j < R.length := by have := HN.out; omega
      have HWJ : Aside0 (wrap64 ((j : Int) + 1) = (j : Int) + 1) := ⟨by have := HL.out; unfold wrap64; omega⟩
      obtain ⟨ad, hA, hkl, hca⟩ := C_atR HA.out j hjl
      obtain ⟨bd, hB, _, hcb⟩ := C_atR HB.out j hjl
      subst hA
      subst hB
      obtain ⟨x, hx⟩ : ∃ x, R[j] = x := ⟨_, rfl⟩
      rw [hx] at hkl hca hcb
      have hkx := HK.out x (hx ▸ List.getElem_mem hjl)
      obtain ⟨xs, hxs⟩ : ∃ xs, encR x = xs := ⟨_, rfl⟩
      have HEQ : Aside0 (∀ w' : World, (Op.equalIn 10000 32 (.agg xs.toArray) (.agg xs.toArray)).run Tryd.prog w' = .ok true w') := ⟨fun w' => hxs ▸ eqR_self hkx w'⟩
      have HEG : Aside0 (Tryd.prog.eqGuardType Tryd.prog.depth 32 = false) := ⟨by kernel_rfl⟩
      have HXL : Aside0 (xs.length = 14) := ⟨hxs ▸ encR_len hkl⟩
      have HCA : Aside0 (∀ m q v, xs[q]? = some v → (w.drewN m).cell? ((ad.add (j * 14)).add q) = some v) := ⟨fun m q v hq => by rw [← hxs] at hq; exact hca q v hq⟩
      have HCB : Aside0 (∀ m q v, xs[q]? = some v → (w.drewN m).cell? ((bd.add (j * 14)).add q) = some v) := ⟨fun m q v hq => by rw [← hxs] at hq; exact hcb q v hq⟩
      clear hkl hca hcb hx hkx hxs
      go_upto_region 6 with (fail)
      refine start_ (n := 9) (S := fun w' => ∃ m, w' = w.drewN m) (ds := []) #[false, false, false, false, false, false, false, false, false] (by kernel_rfl) rfl rfl (⟨nd + 1, rfl⟩) (fun hHeld => ?_)
      refine pure_ (i := 0) (N := some 16) (v := ?_) (a' := ?_) #[true, false, false, false, false, false, false, false, false] rfl rfl (by kernel_rfl) (fun _ _ _ h => h) (Or.inl ⟨by rfl, ?_⟩) ?_ ?_
      rotate_left
      · intro w'
        go_simp
        with_reducible rfl
      rotate_left
      · simp only [Act.put, List.setIfInBounds_toArray, List.set_cons_zero, List.set_cons_succ, i64_w, i32_w]
        rfl
      refine pure_ (i := 1) (N := some 17) (v := ?_) (a' := ?_) #[true, true, false, false, false, false, false, false, false] rfl rfl (by kernel_rfl) (fun _ _ _ h => h) (Or.inl ⟨by rfl, ?_⟩) ?_ ?_
      rotate_left
      · intro w'
        go_simp
        with_reducible rfl
      rotate_left
      · simp only [Act.put, List.setIfInBounds_toArray, List.set_cons_zero, List.set_cons_succ, i64_w, i32_w]
        rfl
      refine pure_ (i := 2) (N := some 18) (v := ?_) (a' := ?_) #[true, true, true, false, false, false, false, false, false] rfl rfl (by kernel_rfl) (fun _ _ _ h => h) (Or.inl ⟨by rfl, ?_⟩) ?_ ?_
      rotate_left
      · intro w'
        go_simp
        with_reducible rfl
      rotate_left
      · simp only [Act.put, List.setIfInBounds_toArray, List.set_cons_zero, List.set_cons_succ, i64_w, i32_w]
        rfl
      refine pure_ (i := 4) (N := some 20) (v := ?_) (a' := ?_) #[true, true, true, false, true, false, false, false, false] rfl rfl (by kernel_rfl) (fun _ _ _ h => h) (Or.inl ⟨by rfl, ?_⟩) ?_ ?_
      rotate_left
      · intro w'
        go_simp
        with_reducible rfl
      rotate_left
      · simp only [Act.put, List.setIfInBounds_toArray, List.set_cons_zero, List.set_cons_succ, i64_w, i32_w]
        rfl
      refine pure_ (i := 5) (N := some 21) (v := ?_) (a' := ?_) #[true, true, true, false, true, true, false, false, false] rfl rfl (by kernel_rfl) (fun _ _ _ h => h) (Or.inl ⟨by rfl, ?_⟩) ?_ ?_
      rotate_left
      · intro w'
        go_simp
        with_reducible rfl
      rotate_left
      · simp only [Act.put, List.setIfInBounds_toArray, List.set_cons_zero, List.set_cons_succ, i64_w, i32_w]
        rfl
      refine pure_ (i := 6) (N := some 22) (v := ?_) (a' := ?_) #[true, true, true, false, true, true, true, false, false] rfl rfl (by kernel_rfl) (fun _ _ _ h => h) (Or.inl ⟨by rfl, ?_⟩) ?_ ?_
      rotate_left
      · intro w'
        go_simp
        with_reducible rfl
      rotate_left
      · simp only [Act.put, List.setIfInBounds_toArray, List.set_cons_zero, List.set_cons_succ, i64_w, i32_w]
        rfl
      refine take_ (i := 3) (N := some 19) (v := ?_) (a' := ?_) #[true, true, true, true, true, true, true, false, false] rfl rfl (by kernel_rfl) (fun _ _ _ h => h) (Or.inl ⟨by rfl, ?_⟩) hHeld ?_ ?_
      rotate_left
      · intro w' s0
        obtain ⟨m, rfl⟩ := s0
        refine Eq.trans (exec_at (P := Tryd.prog) 32 (.tmp 18) rfl (ad.add (j * 14)) rfl xs (by rw [HXL.out]; exact aggR) (HCA.out m)) ?_
        with_reducible rfl
      rotate_left
      · simp only [Act.put, List.setIfInBounds_toArray, List.set_cons_zero, List.set_cons_succ, i64_w, i32_w]
        rfl
      refine take_ (i := 7) (N := some 23) (v := ?_) (a' := ?_) #[true, true, true, true, true, true, true, true, false] rfl rfl (by kernel_rfl) (fun _ _ _ h => h) (Or.inl ⟨by rfl, ?_⟩) hHeld ?_ ?_
      rotate_left
      · intro w' s0
        obtain ⟨m, rfl⟩ := s0
        refine Eq.trans (exec_at (P := Tryd.prog) 32 (.tmp 22) rfl (bd.add (j * 14)) rfl xs (by rw [HXL.out]; exact aggR) (HCB.out m)) ?_
        with_reducible rfl
      rotate_left
      · simp only [Act.put, List.setIfInBounds_toArray, List.set_cons_zero, List.set_cons_succ, i64_w, i32_w]
        rfl
      refine pure_ (i := 8) (N := some 24) (v := ?_) (a' := ?_) #[true, true, true, true, true, true, true, true, true] rfl rfl (by kernel_rfl) (fun _ _ _ h => h) (Or.inl ⟨by rfl, ?_⟩) ?_ ?_
      rotate_left
      · intro w'
        refine Eq.trans (exec_neq 32 32 (.tmp 19) (.tmp 23) rfl xs.toArray rfl rfl HEG.out HEQ.out) ?_
        with_reducible rfl
      rotate_left
      · simp only [Act.put, List.setIfInBounds_toArray, List.set_cons_zero, List.set_cons_succ, i64_w, i32_w]
        rfl
      refine done_ (by kernel_rfl) ?_
      go_wp2_with (fail)
      rw [HWJ.out]
      exact ⟨⟨j + 1, by omega, by push_cast; rfl, ⟨_, rfl⟩⟩, by simp [intOf]; omega⟩
    · have e1' : decide ((j : Int) < (n : Int)) = false := decide_eq_false (by omega)
      go_wp2_with (fail)
      go_ret
      exact ⟨rfl, ⟨_, rfl⟩⟩
theorem C_cellC {A : Option Addr} {n : Nat} {R : List Cel} {w : World} (h : kC.C w A n R) (i : Nat) (hi : i < R.length) : ∃ ad, A = some ad ∧ (encC R[i]).length = 10 ∧ ∀ j v, (encC R[i])[j]? = some v → w.cell? ((ad.add (i * 10)).add j) = some v := by
  obtain ⟨ad, e, hk, hc⟩ := C_atC h i hi
  exact ⟨ad, e, encC_len hk, hc⟩
set_option maxHeartbeats 8000000 in
theorem SameT_calls (t : Tab) (A B C D : Option Addr) (ca cb cc cd : Nat) (w : World) (hA : kC.C w A t.cells.length t.cells) (hB : kD.C w B t.done.length t.done) (hC : kC.C w C t.cells.length t.cells) (hD : kD.C w D t.done.length t.done) (hk : ∀ x ∈ t.cells, KeyL x.key) :
    Calls Tryd.prog 27 #[vT t.idx t.epoch A t.cells.length ca B t.done.length cb, vT t.idx t.epoch C t.cells.length cc D t.done.length cd] w fun e w' => e = .returned (.bool true) ∧ Below w.heap.size w w' := by
  have hlc := hA.2.1
  have hld := hB.2.1
  obtain ⟨g, hg⟩ : ∃ g, w.heap.size = g := ⟨_, rfl⟩
  obtain ⟨idx, hidx⟩ : ∃ idx, t.idx = idx := ⟨_, rfl⟩
  obtain ⟨ep, hep⟩ : ∃ ep, t.epoch = ep := ⟨_, rfl⟩
  obtain ⟨n, hn⟩ : ∃ n, t.cells.length = n := ⟨_, rfl⟩
  obtain ⟨m, hm⟩ : ∃ m, t.done.length = m := ⟨_, rfl⟩
  rw [hidx, hep, hn, hm]
  rw [hn] at hlc
  rw [hm] at hld
  obtain ⟨w1, hw1⟩ : ∃ w1, w.alloc (.cells #[.int .i64 idx, .int .i64 ep, .slice A n ca, .slice B m cb] 25) = w1 := ⟨_, rfl⟩
  have hs1 : w1.heap.size = g + 1 := by rw [← hw1, ← hg]; simp
  obtain ⟨w2, hw2⟩ : ∃ w2, w1.alloc (.cells #[.int .i64 idx, .int .i64 ep, .slice C n cc, .slice D m cd] 25) = w2 := ⟨_, rfl⟩
  have hb1 : Below w.heap.size w w1 := hw1 ▸ below_alloc (Below.refl _ _) _
  have hb2 : Below w.heap.size w w2 := below_then hb1 hb1.size (hw2 ▸ below_alloc (Below.refl _ _) _)
  have hR1 : w1.heap[g]? = some (.cells #[.int .i64 idx, .int .i64 ep, .slice A n ca, .slice B m cb] 25) := hg ▸ hw1 ▸ at_alloc w _
  have hR2 : w2.heap[g]? = some (.cells #[.int .i64 idx, .int .i64 ep, .slice A n ca, .slice B m cb] 25) := hw2 ▸ under_alloc hR1 _
  have hQ2 : w2.heap[g + 1]? = some (.cells #[.int .i64 idx, .int .i64 ep, .slice C n cc, .slice D m cd] 25) := hs1 ▸ hw2 ▸ at_alloc w1 _
  have HA := Aside0.mk (Kd.C_below hA hb2)
  have HB := Aside0.mk (Kd.C_below hB hb2)
  have HC := Aside0.mk (Kd.C_below hC hb2)
  have HD := Aside0.mk (Kd.C_below hD hb2)
  have HK := Aside0.mk hk
  have HN := Aside0.mk (And.intro hn hm)
  have HL := Aside0.mk (And.intro hlc hld)
  have HW := Aside0.mk (And.intro hw1 hw2)
  have HBw := Aside0.mk hb2
  have HR2 := Aside0.mk hR2
  have HQ2 := Aside0.mk hQ2
  have HGC : Aside0 (∀ q, (w2.drewN q).cell? ⟨g, 2, none⟩ = some (.slice A n ca) ∧ (w2.drewN q).cell? ⟨g + 1, 2, none⟩ = some (.slice C n cc)) := ⟨fun q => ⟨(blk_cell (blk_drewN hR2 q) 2).trans rfl, (blk_cell (blk_drewN hQ2 q) 2).trans rfl⟩⟩
  have HGD : Aside0 (∀ q, (w2.drewN q).cell? ⟨g, 3, none⟩ = some (.slice B m cb) ∧ (w2.drewN q).cell? ⟨g + 1, 3, none⟩ = some (.slice D m cd)) := ⟨fun q => ⟨(blk_cell (blk_drewN hR2 q) 3).trans rfl, (blk_cell (blk_drewN hQ2 q) 3).trans rfl⟩⟩
  have HEC : Aside0 (Tryd.prog.eqGuardType Tryd.prog.depth 45 = false) := ⟨by kernel_rfl⟩
  have HED : Aside0 (Tryd.prog.eqGuardType Tryd.prog.depth 58 = false) := ⟨by kernel_rfl⟩
  have a0 : w2.cell? ⟨g, 0, none⟩ = some (.int .i64 idx) := (blk_cell hR2 0).trans rfl
  have a1 : w2.cell? ⟨g, 1, none⟩ = some (.int .i64 ep) := (blk_cell hR2 1).trans rfl
  have a2 : w2.cell? ⟨g, 2, none⟩ = some (.slice A n ca) := (blk_cell hR2 2).trans rfl
  have a3 : w2.cell? ⟨g, 3, none⟩ = some (.slice B m cb) := (blk_cell hR2 3).trans rfl
  have b0 : w2.cell? ⟨g + 1, 0, none⟩ = some (.int .i64 idx) := (blk_cell hQ2 0).trans rfl
  have b1 : w2.cell? ⟨g + 1, 1, none⟩ = some (.int .i64 ep) := (blk_cell hQ2 1).trans rfl
  have b2 : w2.cell? ⟨g + 1, 2, none⟩ = some (.slice C n cc) := (blk_cell hQ2 2).trans rfl
  have b3 : w2.cell? ⟨g + 1, 3, none⟩ = some (.slice D m cd) := (blk_cell hQ2 3).trans rfl
  clear hw1 hs1 hw2 hb1 hb2 hR1 hR2 hQ2 hA hB hC hD hk hn hm hlc hld hidx hep
  go_enter Tryd.func27, Tryd.ntmps27
  go_upto_region 1 with (fail)
  rw [HW.out.1, HW.out.2]
  go_upto_region 4 with (fail)
  go_loopw [40] (fun v40 wr => ∃ j : Nat, j ≤ n ∧ v40 = .int .i64 (j : Int) ∧ Drawn0 w2 wr) (fun v40 _ => n - (intOf v40).toNat)
  case atStart => exact ⟨0, Nat.zero_le _, rfl, Drawn0.refl _⟩
  case round =>
    obtain ⟨j, hj, rfl, ⟨nd, rfl⟩⟩ := hrel
    clear a0 a1 a2 a3 b0 b1 b2 b3
    by_cases e1 : j < n
    · have e1' : decide ((j : Int) < (n : Int)) = true := decide_eq_true (by omega)
      have hjl : j < t.cells.length := by have := HN.out.1; omega
      have HWJ : Aside0 (wrap64 ((j : Int) + 1) = (j : Int) + 1) := ⟨by have := HL.out.1; unfold wrap64; omega⟩
      obtain ⟨ad, hA, hkl, hca⟩ := C_cellC HA.out j hjl
      obtain ⟨bd, hB, _, hcb⟩ := C_cellC HC.out j hjl
      subst hA
      subst hB
      obtain ⟨x, hx⟩ : ∃ x, t.cells[j] = x := ⟨_, rfl⟩
      rw [hx] at hkl hca hcb
      have hkx := HK.out x (hx ▸ List.getElem_mem hjl)
      obtain ⟨xs, hxs⟩ : ∃ xs, encC x = xs := ⟨_, rfl⟩
      have HEQ : Aside0 (∀ w' : World, (Op.equalIn 10000 45 (.agg xs.toArray) (.agg xs.toArray)).run Tryd.prog w' = .ok true w') := ⟨fun w' => hxs ▸ eqC_self hkx w'⟩
      have HXL : Aside0 (xs.length = 10) := ⟨hxs ▸ hkl⟩
      have HCA : Aside0 (∀ m q v, xs[q]? = some v → (w2.drewN m).cell? ((ad.add (j * 10)).add q) = some v) := ⟨fun m q v hq => by rw [← hxs] at hq; exact hca q v hq⟩
      have HCB : Aside0 (∀ m q v, xs[q]? = some v → (w2.drewN m).cell? ((bd.add (j * 10)).add q) = some v) := ⟨fun m q v hq => by rw [← hxs] at hq; exact hcb q v hq⟩
      clear hkl hca hcb hx hkx hxs
      go_upto_region 6 with (fail)
      refine start_ (n := 11) (S := fun w' => ∃ m, w' = w2.drewN m) (ds := []) #[false, false, false, false, false, false, false, false, false, false, false] (by kernel_rfl) rfl rfl (⟨nd + 1, rfl⟩) (fun hHeld => ?_)
      refine pure_ (i := 0) (N := some 43) (v := ?_) (a' := ?_) #[true, false, false, false, false, false, false, false, false, false, false] rfl rfl (by kernel_rfl) (fun _ _ _ h => h) (Or.inl ⟨by rfl, ?_⟩) ?_ ?_
      rotate_left
      · intro w'
        go_simp
        with_reducible rfl
      rotate_left
      · simp only [Act.put, List.setIfInBounds_toArray, List.set_cons_zero, List.set_cons_succ, i64_w, i32_w]
        rfl
      refine pure_ (i := 2) (N := some 45) (v := ?_) (a' := ?_) #[true, false, true, false, false, false, false, false, false, false, false] rfl rfl (by kernel_rfl) (fun _ _ _ h => h) (Or.inl ⟨by rfl, ?_⟩) ?_ ?_
      rotate_left
      · intro w'
        go_simp
        with_reducible rfl
      rotate_left
      · simp only [Act.put, List.setIfInBounds_toArray, List.set_cons_zero, List.set_cons_succ, i64_w, i32_w]
        rfl
      refine pure_ (i := 5) (N := some 48) (v := ?_) (a' := ?_) #[true, false, true, false, false, true, false, false, false, false, false] rfl rfl (by kernel_rfl) (fun _ _ _ h => h) (Or.inl ⟨by rfl, ?_⟩) ?_ ?_
      rotate_left
      · intro w'
        go_simp
        with_reducible rfl
      rotate_left
      · simp only [Act.put, List.setIfInBounds_toArray, List.set_cons_zero, List.set_cons_succ, i64_w, i32_w]
        rfl
      refine pure_ (i := 7) (N := some 50) (v := ?_) (a' := ?_) #[true, false, true, false, false, true, false, true, false, false, false] rfl rfl (by kernel_rfl) (fun _ _ _ h => h) (Or.inl ⟨by rfl, ?_⟩) ?_ ?_
      rotate_left
      · intro w'
        go_simp
        with_reducible rfl
      rotate_left
      · simp only [Act.put, List.setIfInBounds_toArray, List.set_cons_zero, List.set_cons_succ, i64_w, i32_w]
        rfl
      refine take_ (i := 1) (N := some 44) (v := ?_) (a' := ?_) #[true, true, true, false, false, true, false, true, false, false, false] rfl rfl (by kernel_rfl) (fun _ _ _ h => h) (Or.inl ⟨by rfl, ?_⟩) hHeld ?_ ?_
      rotate_left
      · intro w' s0
        obtain ⟨m, rfl⟩ := s0
        have d_ := (HGC.out m).1
        go_simp
        with_reducible rfl
      rotate_left
      · simp only [Act.put, List.setIfInBounds_toArray, List.set_cons_zero, List.set_cons_succ, i64_w, i32_w]
        rfl
      refine pure_ (i := 3) (N := some 46) (v := ?_) (a' := ?_) #[true, true, true, true, false, true, false, true, false, false, false] rfl rfl (by kernel_rfl) (fun _ _ _ h => h) (Or.inl ⟨by rfl, ?_⟩) ?_ ?_
      rotate_left
      · intro w'
        go_simp
        with_reducible rfl
      rotate_left
      · simp only [Act.put, List.setIfInBounds_toArray, List.set_cons_zero, List.set_cons_succ, i64_w, i32_w]
        rfl
      refine take_ (i := 4) (N := some 47) (v := ?_) (a' := ?_) #[true, true, true, true, true, true, false, true, false, false, false] rfl rfl (by kernel_rfl) (fun _ _ _ h => h) (Or.inl ⟨by rfl, ?_⟩) hHeld ?_ ?_
      rotate_left
      · intro w' s0
        obtain ⟨m, rfl⟩ := s0
        refine Eq.trans (exec_at (P := Tryd.prog) 45 (.tmp 46) rfl (ad.add (j * 10)) rfl xs (by rw [HXL.out]; exact aggC) (HCA.out m)) ?_
        with_reducible rfl
      rotate_left
      · simp only [Act.put, List.setIfInBounds_toArray, List.set_cons_zero, List.set_cons_succ, i64_w, i32_w]
        rfl
      refine take_ (i := 6) (N := some 49) (v := ?_) (a' := ?_) #[true, true, true, true, true, true, true, true, false, false, false] rfl rfl (by kernel_rfl) (fun _ _ _ h => h) (Or.inl ⟨by rfl, ?_⟩) hHeld ?_ ?_
      rotate_left
      · intro w' s0
        obtain ⟨m, rfl⟩ := s0
        have d_ := (HGC.out m).2
        go_simp
        with_reducible rfl
      rotate_left
      · simp only [Act.put, List.setIfInBounds_toArray, List.set_cons_zero, List.set_cons_succ, i64_w, i32_w]
        rfl
      refine pure_ (i := 8) (N := some 51) (v := ?_) (a' := ?_) #[true, true, true, true, true, true, true, true, true, false, false] rfl rfl (by kernel_rfl) (fun _ _ _ h => h) (Or.inl ⟨by rfl, ?_⟩) ?_ ?_
      rotate_left
      · intro w'
        go_simp
        with_reducible rfl
      rotate_left
      · simp only [Act.put, List.setIfInBounds_toArray, List.set_cons_zero, List.set_cons_succ, i64_w, i32_w]
        rfl
      refine take_ (i := 9) (N := some 52) (v := ?_) (a' := ?_) #[true, true, true, true, true, true, true, true, true, true, false] rfl rfl (by kernel_rfl) (fun _ _ _ h => h) (Or.inl ⟨by rfl, ?_⟩) hHeld ?_ ?_
      rotate_left
      · intro w' s0
        obtain ⟨m, rfl⟩ := s0
        refine Eq.trans (exec_at (P := Tryd.prog) 45 (.tmp 51) rfl (bd.add (j * 10)) rfl xs (by rw [HXL.out]; exact aggC) (HCB.out m)) ?_
        with_reducible rfl
      rotate_left
      · simp only [Act.put, List.setIfInBounds_toArray, List.set_cons_zero, List.set_cons_succ, i64_w, i32_w]
        rfl
      refine pure_ (i := 10) (N := some 53) (v := ?_) (a' := ?_) #[true, true, true, true, true, true, true, true, true, true, true] rfl rfl (by kernel_rfl) (fun _ _ _ h => h) (Or.inl ⟨by rfl, ?_⟩) ?_ ?_
      rotate_left
      · intro w'
        refine Eq.trans (exec_neq 45 45 (.tmp 47) (.tmp 52) rfl xs.toArray rfl rfl HEC.out HEQ.out) ?_
        with_reducible rfl
      rotate_left
      · simp only [Act.put, List.setIfInBounds_toArray, List.set_cons_zero, List.set_cons_succ, i64_w, i32_w]
        rfl
      refine done_ (by kernel_rfl) ?_
      go_wp2_with (fail)
      rw [HWJ.out]
      exact ⟨⟨j + 1, by omega, by push_cast; rfl, ⟨_, rfl⟩⟩, by simp [intOf]; omega⟩
    · have e1' : decide ((j : Int) < (n : Int)) = false := decide_eq_false (by omega)
      have a3 := (HGD.out nd).1
      go_upto_region 10 with (fail)
      go_loopw [58] (fun v58 wr => ∃ j : Nat, j ≤ m ∧ v58 = .int .i64 (j : Int) ∧ Drawn0 w2 wr) (fun v58 _ => m - (intOf v58).toNat)
      case atStart => exact ⟨0, Nat.zero_le _, rfl, ⟨_, rfl⟩⟩
      case round =>
        clear a3 e1 e1'
        obtain ⟨j, hj, rfl, ⟨nd, rfl⟩⟩ := hrel
        by_cases e1 : j < m
        · have e1' : decide ((j : Int) < (m : Int)) = true := decide_eq_true (by omega)
          have hjl : j < t.done.length := by have := HN.out.2; omega
          have HWJ : Aside0 (wrap64 ((j : Int) + 1) = (j : Int) + 1) := ⟨by have := HL.out.2; unfold wrap64; omega⟩
          obtain ⟨ad, hA, hca⟩ := C_atD HB.out j hjl
          obtain ⟨bd, hB, hcb⟩ := C_atD HD.out j hjl
          subst hA
          subst hB
          obtain ⟨x, hx⟩ : ∃ x, t.done[j] = x := ⟨_, rfl⟩
          rw [hx] at hca hcb
          obtain ⟨xs, hxs⟩ : ∃ xs, encD x = xs := ⟨_, rfl⟩
          have HEQ : Aside0 (∀ w' : World, (Op.equalIn 10000 58 (.agg xs.toArray) (.agg xs.toArray)).run Tryd.prog w' = .ok true w') := ⟨fun w' => hxs ▸ eqD_self x w'⟩
          have HXL : Aside0 (xs.length = 3) := ⟨hxs ▸ rfl⟩
          have HCA : Aside0 (∀ m q v, xs[q]? = some v → (w2.drewN m).cell? ((ad.add (j * 3)).add q) = some v) := ⟨fun m q v hq => by rw [← hxs] at hq; exact hca q v hq⟩
          have HCB : Aside0 (∀ m q v, xs[q]? = some v → (w2.drewN m).cell? ((bd.add (j * 3)).add q) = some v) := ⟨fun m q v hq => by rw [← hxs] at hq; exact hcb q v hq⟩
          clear hca hcb hx hxs
          go_upto_region 12 with (fail)
          refine start_ (n := 11) (S := fun w' => ∃ m, w' = w2.drewN m) (ds := []) #[false, false, false, false, false, false, false, false, false, false, false] (by kernel_rfl) rfl rfl (⟨nd + 1, rfl⟩) (fun hHeld => ?_)
          refine pure_ (i := 0) (N := some 61) (v := ?_) (a' := ?_) #[true, false, false, false, false, false, false, false, false, false, false] rfl rfl (by kernel_rfl) (fun _ _ _ h => h) (Or.inl ⟨by rfl, ?_⟩) ?_ ?_
          rotate_left
          · intro w'
            go_simp
            with_reducible rfl
          rotate_left
          · simp only [Act.put, List.setIfInBounds_toArray, List.set_cons_zero, List.set_cons_succ, i64_w, i32_w]
            rfl
          refine pure_ (i := 2) (N := some 63) (v := ?_) (a' := ?_) #[true, false, true, false, false, false, false, false, false, false, false] rfl rfl (by kernel_rfl) (fun _ _ _ h => h) (Or.inl ⟨by rfl, ?_⟩) ?_ ?_
          rotate_left
          · intro w'
            go_simp
            with_reducible rfl
          rotate_left
          · simp only [Act.put, List.setIfInBounds_toArray, List.set_cons_zero, List.set_cons_succ, i64_w, i32_w]
            rfl
          refine pure_ (i := 5) (N := some 66) (v := ?_) (a' := ?_) #[true, false, true, false, false, true, false, false, false, false, false] rfl rfl (by kernel_rfl) (fun _ _ _ h => h) (Or.inl ⟨by rfl, ?_⟩) ?_ ?_
          rotate_left
          · intro w'
            go_simp
            with_reducible rfl
          rotate_left
          · simp only [Act.put, List.setIfInBounds_toArray, List.set_cons_zero, List.set_cons_succ, i64_w, i32_w]
            rfl
          refine pure_ (i := 7) (N := some 68) (v := ?_) (a' := ?_) #[true, false, true, false, false, true, false, true, false, false, false] rfl rfl (by kernel_rfl) (fun _ _ _ h => h) (Or.inl ⟨by rfl, ?_⟩) ?_ ?_
          rotate_left
          · intro w'
            go_simp
            with_reducible rfl
          rotate_left
          · simp only [Act.put, List.setIfInBounds_toArray, List.set_cons_zero, List.set_cons_succ, i64_w, i32_w]
            rfl
          refine take_ (i := 1) (N := some 62) (v := ?_) (a' := ?_) #[true, true, true, false, false, true, false, true, false, false, false] rfl rfl (by kernel_rfl) (fun _ _ _ h => h) (Or.inl ⟨by rfl, ?_⟩) hHeld ?_ ?_
          rotate_left
          · intro w' s0
            obtain ⟨m, rfl⟩ := s0
            have d_ := (HGD.out m).1
            go_simp
            with_reducible rfl
          rotate_left
          · simp only [Act.put, List.setIfInBounds_toArray, List.set_cons_zero, List.set_cons_succ, i64_w, i32_w]
            rfl
          refine pure_ (i := 3) (N := some 64) (v := ?_) (a' := ?_) #[true, true, true, true, false, true, false, true, false, false, false] rfl rfl (by kernel_rfl) (fun _ _ _ h => h) (Or.inl ⟨by rfl, ?_⟩) ?_ ?_
          rotate_left
          · intro w'
            go_simp
            with_reducible rfl
          rotate_left
          · simp only [Act.put, List.setIfInBounds_toArray, List.set_cons_zero, List.set_cons_succ, i64_w, i32_w]
            rfl
          refine take_ (i := 4) (N := some 65) (v := ?_) (a' := ?_) #[true, true, true, true, true, true, false, true, false, false, false] rfl rfl (by kernel_rfl) (fun _ _ _ h => h) (Or.inl ⟨by rfl, ?_⟩) hHeld ?_ ?_
          rotate_left
          · intro w' s0
            obtain ⟨m, rfl⟩ := s0
            refine Eq.trans (exec_at (P := Tryd.prog) 58 (.tmp 64) rfl (ad.add (j * 3)) rfl xs (by rw [HXL.out]; exact aggD) (HCA.out m)) ?_
            with_reducible rfl
          rotate_left
          · simp only [Act.put, List.setIfInBounds_toArray, List.set_cons_zero, List.set_cons_succ, i64_w, i32_w]
            rfl
          refine take_ (i := 6) (N := some 67) (v := ?_) (a' := ?_) #[true, true, true, true, true, true, true, true, false, false, false] rfl rfl (by kernel_rfl) (fun _ _ _ h => h) (Or.inl ⟨by rfl, ?_⟩) hHeld ?_ ?_
          rotate_left
          · intro w' s0
            obtain ⟨m, rfl⟩ := s0
            have d_ := (HGD.out m).2
            go_simp
            with_reducible rfl
          rotate_left
          · simp only [Act.put, List.setIfInBounds_toArray, List.set_cons_zero, List.set_cons_succ, i64_w, i32_w]
            rfl
          refine pure_ (i := 8) (N := some 69) (v := ?_) (a' := ?_) #[true, true, true, true, true, true, true, true, true, false, false] rfl rfl (by kernel_rfl) (fun _ _ _ h => h) (Or.inl ⟨by rfl, ?_⟩) ?_ ?_
          rotate_left
          · intro w'
            go_simp
            with_reducible rfl
          rotate_left
          · simp only [Act.put, List.setIfInBounds_toArray, List.set_cons_zero, List.set_cons_succ, i64_w, i32_w]
            rfl
          refine take_ (i := 9) (N := some 70) (v := ?_) (a' := ?_) #[true, true, true, true, true, true, true, true, true, true, false] rfl rfl (by kernel_rfl) (fun _ _ _ h => h) (Or.inl ⟨by rfl, ?_⟩) hHeld ?_ ?_
          rotate_left
          · intro w' s0
            obtain ⟨m, rfl⟩ := s0
            refine Eq.trans (exec_at (P := Tryd.prog) 58 (.tmp 69) rfl (bd.add (j * 3)) rfl xs (by rw [HXL.out]; exact aggD) (HCB.out m)) ?_
            with_reducible rfl
          rotate_left
          · simp only [Act.put, List.setIfInBounds_toArray, List.set_cons_zero, List.set_cons_succ, i64_w, i32_w]
            rfl
          refine pure_ (i := 10) (N := some 71) (v := ?_) (a' := ?_) #[true, true, true, true, true, true, true, true, true, true, true] rfl rfl (by kernel_rfl) (fun _ _ _ h => h) (Or.inl ⟨by rfl, ?_⟩) ?_ ?_
          rotate_left
          · intro w'
            refine Eq.trans (exec_neq 58 58 (.tmp 65) (.tmp 70) rfl xs.toArray rfl rfl HED.out HEQ.out) ?_
            with_reducible rfl
          rotate_left
          · simp only [Act.put, List.setIfInBounds_toArray, List.set_cons_zero, List.set_cons_succ, i64_w, i32_w]
            rfl
          refine done_ (by kernel_rfl) ?_
          go_wp2_with (fail)
          rw [HWJ.out]
          exact ⟨⟨j + 1, by omega, by push_cast; rfl, ⟨_, rfl⟩⟩, by simp [intOf]; omega⟩
        · have e1' : decide ((j : Int) < (m : Int)) = false := decide_eq_false (by omega)
          go_wp2_with (fail)
          go_ret
          have hbo := below_then HBw.out HBw.out.size (pw_below_drewN (Below.refl w2.heap.size w2) nd)
          exact ⟨rfl, by first | exact hbo | exact hg ▸ hbo⟩
end Go.Proofs.YtgmaedngkhidlaaDoor.Sf
-- ShK
namespace Go.Proofs.YtgmaedngkhidlaaDoor.Sf
open Go Go.RowKit Go.ChangeMaps Go.MapKept Go.Proofs.YtgmaedngkhidlaaDoorW.PrintWords Go.Proofs.YtgmaedngkhidlaaDoorW.PrintLast Go.Proofs.YtgmaedngkhidlaaDoorW.PrintMore
open Go.Maps (Keyed)
set_option linter.unusedVariables false
set_option linter.unusedSimpArgs false
theorem RV.empty {G G' : Nat → Prop} {w : World} {v : Value} (h : RV G w v []) : RV G' w v [] := by
  obtain ⟨A, c, rfl, hl, hf⟩ := h
  exact ⟨A, c, rfl, hl, fun W' _ => ⟨rfl, by simp, fun h0 => absurd h0 (by simp)⟩⟩
structure FamI (S : List (Nat × Sh)) (B : List (World → Prop)) (w0 w : World) (F : Nat → Nat → Prop) (G : Nat → Prop) : Prop where
  sh : ∀ a ∈ S, IsS (F a.1) G w a.1 a.2
  wf : ∀ a ∈ S, Wf a.2 ∧ Ky a.2
  lo : ∀ a ∈ S, ∀ k, F a.1 k → w0.heap.size ≤ k
  ap : S.Pairwise fun a b => ∀ k, F a.1 k → ¬ F b.1 k
  g : ∀ k, G k → k < w.heap.size
  tb : Tabs w0
  be : Below w0.heap.size w0 w
  bl : ∀ P ∈ B, Foot P w (fun b => ¬ G b)
def Fam (S : List (Nat × Sh)) (B : List (World → Prop)) (w0 w : World) : Prop := ∃ F G, FamI S B w0 w F G
section
variable {S S1 S2 : List (Nat × Sh)} {B : List (World → Prop)} {w0 w w1 : World} {F : Nat → Nat → Prop} {G F' G' : Nat → Prop} {p q : Nat} {s s' : Sh}
theorem FamI.below (h : FamI S B w0 w F G) (hb : Below w.heap.size w w1) : FamI S B w0 w1 F G :=
  ⟨fun a ha => (h.sh a ha).below hb, h.wf, h.lo, h.ap, fun k hk => Nat.lt_of_lt_of_le (h.g k hk) hb.size, h.tb, below_step h.be hb, fun P hP => (h.bl P hP).step (fun k _ hlt => hb.block k hlt)⟩
theorem Fam.below (h : Fam S B w0 w) (hb : Below w.heap.size w w1) : Fam S B w0 w1 := by
  obtain ⟨F, G, h⟩ := h
  exact ⟨F, G, h.below hb⟩
theorem IsS.acts {Fa : Nat → Prop} {a : Nat} {sa : Sh} {Fp : Nat → Prop} (h : IsS Fa G w a sa) (ha : Acts Fp G p w w1 s' F' G') (hp : ∀ k, Fp k → G k) (hne : ∀ k, Fa k → ¬ Fp k) : IsS Fa G' w1 a sa :=
  (h.grow (fun k hk => ha.g.all k (h.fg k hk)) (fun b hb hg => ha.g.new b hb hg)).other ha.ws hne (fun k hk => ha.g.all k (hp k hk))
theorem FamI.act (h : FamI (S1 ++ (p, s) :: S2) B w0 w F G) (ha : Acts (F p) G p w w1 s' F' G') (hw : Wf s') (hy : Ky s') : FamI (S1 ++ (p, s') :: S2) B w0 w1 (fun x => if x = p then F' else F x) G' := by
  have hp : IsS (F p) G w p s := h.sh (p, s) (by simp)
  have hap := List.pairwise_append.1 h.ap
  have hap2 := List.pairwise_cons.1 hap.2.1
  have hoth : ∀ a, a ∈ S1 ∨ a ∈ S2 → (∀ k, F a.1 k → ¬ F p k) ∧ a ∈ S1 ++ (p, s) :: S2 := by
    rintro a (e | e)
    · exact ⟨fun k hk => hap.2.2 a e (p, s) (List.mem_cons_self ..) k hk, by simp [e]⟩
    · exact ⟨fun k hk hk2 => hap2.1 a e k hk2 hk, by simp [e]⟩
  have hne : ∀ a, a ∈ S1 ∨ a ∈ S2 → a.1 ≠ p := fun a e he => by
    have h1 := (h.sh a (hoth a e).2).fp
    rw [he] at h1
    exact (hoth a e).1 p (he ▸ h1) hp.fp
  have hF : ∀ a, a ∈ S1 ∨ a ∈ S2 → (if a.1 = p then F' else F a.1) = F a.1 := fun a e => if_neg (hne a e)
  have hG : ∀ k, F p k → G k := hp.fg
  have hF' : ∀ a, a ∈ S1 ∨ a ∈ S2 → ∀ k, F a.1 k → ¬ F' k := fun a e k hk hk' => by
    have hlt := (h.sh a (hoth a e).2).lt k hk
    exact (hoth a e).1 k hk (ha.f.new k hlt hk')
  have hmem : ∀ a, a ∈ S1 ++ (p, s') :: S2 → a = (p, s') ∨ (a ∈ S1 ∨ a ∈ S2) := fun a e => by
    simp only [List.mem_append, List.mem_cons] at e
    rcases e with e | e | e
    · exact .inr (.inl e)
    · exact .inl e
    · exact .inr (.inr e)
  refine ⟨fun a e => ?_, fun a e => ?_, fun a e => ?_, ?_, ha.lt, h.tb, ?_, fun P hP => ?_⟩
  · rcases hmem a e with rfl | e
    · rw [if_pos rfl]
      exact ha.is
    · rw [hF a e]
      exact (h.sh a (hoth a e).2).acts ha hG (hoth a e).1
  · rcases hmem a e with rfl | e
    · exact ⟨hw, hy⟩
    · exact h.wf a (hoth a e).2
  · rcases hmem a e with rfl | e
    · rw [if_pos rfl]
      intro k hk
      by_cases hlt : k < w.heap.size
      · exact h.lo (p, s) (by simp) k (ha.f.new k hlt hk)
      · have := h.be.size
        omega
    · rw [hF a e]
      exact h.lo a (hoth a e).2
  · refine List.pairwise_append.2 ⟨?_, List.pairwise_cons.2 ⟨fun b hb => ?_, ?_⟩, fun a ha1 b hb => ?_⟩
    · exact hap.1.imp_of_mem (fun {a b} ea eb hab => by
        rw [hF a (.inl ea), hF b (.inl eb)]
        exact hab)
    · rw [if_pos rfl, hF b (.inr hb)]
      exact fun k hk hk2 => hF' b (.inr hb) k hk2 hk
    · exact hap2.2.imp_of_mem (fun {a b} ea eb hab => by
        rw [hF a (.inr ea), hF b (.inr eb)]
        exact hab)
    · rw [hF a (.inl ha1)]
      rcases List.mem_cons.1 hb with rfl | hb
      · rw [if_pos rfl]
        exact fun k hk => hF' a (.inl ha1) k hk
      · rw [hF b (.inr hb)]
        exact hap.2.2 a ha1 b (List.mem_cons_of_mem _ hb)
  · exact ha.ws.below h.be (fun b hb => h.lo (p, s) (by simp) b hb)
  · exact ((h.bl P hP).bound.step (fun k hk hlt => ha.ws.block k hlt (fun hf => hk.1 (hG k hf)))).mono (fun k hk hg => hk.1 (ha.g.new k hk.2 hg))
theorem FamI.join (h : FamI S B w0 w F G) (hb : Below w.heap.size w w1) (hi : IsS F' G' w1 q s) (hw : Wf s) (hy : Ky s) (hf : ∀ k, F' k → w.heap.size ≤ k) (hg : ∀ k, G k → G' k) : Fam ((q, s) :: S) B w0 w1 := by
  have hqw : w.heap.size ≤ q := hf q hi.fp
  have hS : ∀ a ∈ S, a.1 < w.heap.size := fun a ha => (h.sh a ha).lt a.1 (h.sh a ha).fp
  have hF : ∀ a ∈ S, (if a.1 = q then F' else F a.1) = F a.1 := fun a ha => if_neg (by have := hS a ha; omega)
  refine ⟨fun x => if x = q then F' else F x, fun k => G k ∨ F' k, fun a ha => ?_, fun a ha => ?_, fun a ha => ?_, ?_, ?_, h.tb, below_step h.be hb, fun P hP => ?_⟩
  · rcases List.mem_cons.1 ha with rfl | ha
    · rw [if_pos rfl]
      exact hi.grow (fun k hk => .inr hk) (fun b _ hb2 => hb2.elim (hg b) (hi.fg b))
    · rw [hF a ha]
      exact ((h.sh a ha).grow (fun k hk => .inl ((h.sh a ha).fg k hk)) (fun b hlt hb2 => hb2.elim id (fun e => by have := hf b e; omega))).below hb
  · rcases List.mem_cons.1 ha with rfl | ha
    · exact ⟨hw, hy⟩
    · exact h.wf a ha
  · rcases List.mem_cons.1 ha with rfl | ha
    · rw [if_pos rfl]
      exact fun k hk => Nat.le_trans h.be.size (hf k hk)
    · rw [hF a ha]
      exact h.lo a ha
  · refine List.pairwise_cons.2 ⟨fun a ha k hk hk2 => ?_, h.ap.imp_of_mem (fun {a b} ea eb hab => ?_)⟩
    · dsimp only at hk hk2
      rw [if_pos rfl] at hk
      rw [hF a ha] at hk2
      have h1 := hf k hk
      have h2 := (h.sh a ha).lt k hk2
      omega
    · rw [hF a ea, hF b eb]
      exact hab
  · rintro k (hk | hk)
    · exact Nat.lt_of_lt_of_le (h.g k hk) hb.size
    · exact hi.lt k hk
  · exact ((h.bl P hP).bound.step (fun k _ hlt => hb.block k hlt)).mono (fun k hk hg => hg.elim hk.1 (fun e => by have := hf k e; have := hk.2; omega))
theorem Fam.empty (hb : Below w0.heap.size w0 w) (ht : Tabs w0) : Fam [] [] w0 w :=
  ⟨fun _ _ => False, fun _ => False, fun a ha => (List.not_mem_nil ha).elim, fun a ha => (List.not_mem_nil ha).elim, fun a ha => (List.not_mem_nil ha).elim, List.Pairwise.nil, fun k hk => hk.elim, ht, hb, fun P hP => (List.not_mem_nil hP).elim⟩
theorem Fam.more (h : Fam S B w0 w) {P : World → Prop} (hb : Below w.heap.size w w1) (hP : Foot P w1 (fun k => w.heap.size ≤ k)) : Fam S (P :: B) w0 w1 := by
  obtain ⟨F, G, h⟩ := h
  have h2 := h.below hb
  exact ⟨F, G, h2.sh, h2.wf, h2.lo, h2.ap, h2.g, h2.tb, h2.be, fun x hx => by
    rcases List.mem_cons.1 hx with rfl | hx
    · exact hP.mono (fun k hk hg => by have := h.g k hg; omega)
    · exact h2.bl x hx⟩
abbrev rowP (A : Option Addr) (n : Nat) (R : List Rc) : World → Prop := fun W => kR.C W A n R
theorem Fam.be (h : Fam S B w0 w) : Below w0.heap.size w0 w := by obtain ⟨F, G, h⟩ := h; exact h.be
theorem Fam.tab (h : Fam S B w0 w) : Tabs w := by obtain ⟨F, G, h⟩ := h; exact h.tb.below h.be
theorem Fam.get (h : Fam S B w0 w) {P : World → Prop} (hm : P ∈ B) : P w := by obtain ⟨F, G, h⟩ := h; exact (h.bl P hm).now
theorem Fam.drop {S' : List (Nat × Sh)} {B' : List (World → Prop)} (h : Fam S B w0 w) (hS : S'.Sublist S) (hB : ∀ x ∈ B', x ∈ B) : Fam S' B' w0 w := by
  obtain ⟨F, G, h⟩ := h
  exact ⟨F, G, fun a ha => h.sh a (hS.subset ha), fun a ha => h.wf a (hS.subset ha), fun a ha => h.lo a (hS.subset ha), h.ap.sublist hS, h.g, h.tb, h.be, fun P hP => h.bl P (hB P hP)⟩
theorem Fam.low (h : Fam S B w0 w) (hm : (p, s) ∈ S) : Calls Tryd.prog 20 #[.pointer (some ⟨p, 0, none⟩)] w fun e w' => e = .returned (.int .i64 s.T.idx) ∧ w = w' := by
  obtain ⟨F, G, h⟩ := h
  exact Low_calls (h.sh _ hm)
theorem Fam.behind (h : Fam S B w0 w) (hm : (p, s) ∈ S) (i most : Int) : Calls Tryd.prog 19 #[.pointer (some ⟨p, 0, none⟩), .int .i64 i, .int .i64 most] w fun e w' => ∃ A c, e = .returned (.tuple #[.slice A (behindP s i most).1.length c, .bool (behindP s i most).2]) ∧ Fam S (rowP A (behindP s i most).1.length (behindP s i most).1 :: B) w0 w' ∧ Below w.heap.size w w' := by
  obtain ⟨F, G, h⟩ := h
  refine (Behind_calls i most w (h.sh _ hm) (fun k hk hg => by have := h.g k hg; omega) (h.wf _ hm).1).mono ?_
  rintro e w' ⟨v, rfl, hb, hr⟩
  have h2 := h.below hb
  obtain ⟨A, c, rfl, hl, hf⟩ := hr
  exact ⟨A, c, rfl, ⟨F, G, h2.sh, h2.wf, h2.lo, h2.ap, h2.g, h2.tb, h2.be, fun x hx => by
    rcases List.mem_cons.1 hx with rfl | hx
    · exact hf
    · exact h2.bl x hx⟩, hb⟩
theorem Fam.whole (h : Fam S B w0 w) (hm : (p, s) ∈ S) : Calls Tryd.prog 29 #[.pointer (some ⟨p, 0, none⟩)] w fun e w' => ∃ A ca B' cb, e = .returned (vT (comT s).idx (comT s).epoch A (comT s).cells.length ca B' (comT s).done.length cb) ∧ Fam S B w0 w' ∧ Below w.heap.size w w' ∧ kC.C w' A (comT s).cells.length (comT s).cells ∧ kD.C w' B' (comT s).done.length (comT s).done := by
  obtain ⟨F, G, h⟩ := h
  refine (Whole_calls w (h.sh _ hm) (h.wf _ hm).1 (h.wf _ hm).2).mono ?_
  rintro e w' ⟨A, ca, B', cb, rfl, hb, h1, h2⟩
  exact ⟨A, ca, B', cb, rfl, ⟨F, G, h.below hb⟩, hb, h1, h2⟩
theorem Fam.clone (h : Fam S B w0 w) (hm : (p, s) ∈ S) : Calls Tryd.prog 38 #[.pointer (some ⟨p, 0, none⟩)] w fun e w' => ∃ q, e = .returned (.pointer (some ⟨q, 0, none⟩)) ∧ Fam ((q, s) :: S) B w0 w' ∧ Below w.heap.size w w' := by
  obtain ⟨F, G, h⟩ := h
  refine (CloneS_calls w (h.sh _ hm) h.g (h.wf _ hm).1 (h.wf _ hm).2).mono ?_
  rintro e w' ⟨q, F', G', rfl, hb, h1, _, h3, h4, _⟩
  exact ⟨q, rfl, h.join hb h1 (h.wf _ hm).1 (h.wf _ hm).2 (fun k hk => (h3 k hk).1) h4, hb⟩
theorem Fam.does (h : Fam (S1 ++ (p, s) :: S2) B w0 w) (k : Dq) (hk : QOk k) : Calls Tryd.prog 31 #[.pointer (some ⟨p, 0, none⟩), .agg (encQ k).toArray] w fun e w' => e = .returned (.tuple #[vR (doesP (bits .and .i64 k.op 7) s k).2.1, .int .i64 (doesP (bits .and .i64 k.op 7) s k).2.2]) ∧ Fam (S1 ++ (p, nextS s k) :: S2) B w0 w' := by
  obtain ⟨F, G, h⟩ := h
  have hm : (p, s) ∈ S1 ++ (p, s) :: S2 := by simp
  refine (does_calls k w (h.sh _ hm) h.g (h.wf _ hm).1 (h.wf _ hm).2 hk (h.tb.below h.be)).mono ?_
  rintro e w' ⟨rfl, F', G', ha⟩
  exact ⟨rfl, _, _, h.act ha (goWf [k] s (h.wf _ hm).1) (goKy [k] s (h.wf _ hm).2 (fun x hx => by rw [List.mem_singleton.1 hx]; exact hk))⟩
theorem Fam.wfd (h : Fam S B w0 w) (hm : (p, s) ∈ S) : Wf s ∧ Ky s := by obtain ⟨F, G, h⟩ := h; exact h.wf _ hm
theorem Fam.newS (h : Fam S B w0 w) (t : Tab) (A B' : Option Addr) (c d : Nat) (hC : kC.C w A t.cells.length t.cells) (hD : kD.C w B' t.done.length t.done) (hk : ∀ x ∈ t.cells, KeyL x.key ∧ x.val.size ≤ 9223372036854775807) (hok : TabOk t) :
    Calls Tryd.prog 25 #[vT t.idx t.epoch A t.cells.length c B' t.done.length d] w fun e w' => ∃ p, e = .returned (.tuple #[.pointer (some ⟨p, 0, none⟩), .int .i64 0]) ∧ Fam ((p, ⟨t, [], t.idx⟩) :: S) B w0 w' ∧ Below w.heap.size w w' := by
  refine (From_calls t A B' c d w hC hD hk h.tab hok).mono ?_
  rintro e w' ⟨q, rfl, hb, hi⟩
  obtain ⟨F, G, h⟩ := h
  obtain ⟨b1, b2, b3, b4, rv, hp, hf, hn, h3, h4, hr⟩ := hi.ex
  have hi2 : IsS (fun k => w.heap.size ≤ k ∧ k < w'.heap.size) (fun k => G k ∨ (w.heap.size ≤ k ∧ k < w'.heap.size)) w' q ⟨t, [], t.idx⟩ := ⟨hi.lt, fun k hk => .inr hk, hi.fp, b1, b2, b3, b4, rv, hp, hf, hn, h3, h4, hr.empty⟩
  exact ⟨q, rfl, h.join hb hi2 (Wf.new hok) (Ky.new (fun c hc => (hk c hc).1)) (fun k hk => hk.1) (fun k hk => .inl hk), hb⟩
end
end Go.Proofs.YtgmaedngkhidlaaDoor.Sf
-- ShL
namespace Go.Proofs.YtgmaedngkhidlaaDoor.Sf
open Go Go.RowKit Go.ChangeMaps Go.MapKept Go.Proofs.YtgmaedngkhidlaaDoorW.PrintWords Go.Proofs.YtgmaedngkhidlaaDoorW.PrintLast Go.Proofs.YtgmaedngkhidlaaDoorW.PrintMore
open Go.Maps (Keyed)
set_option linter.unusedVariables false
set_option linter.unusedSimpArgs false
set_option maxHeartbeats 8000000 in
set_option maxRecDepth 100000 in
theorem Fam.made {S : List (Nat × Sh)} {B' : List (World → Prop)} {w0 w : World} (h : Fam S B' w0 w) (t : Tab) (A B Q : Option Addr) (c d cq : Nat) (l : List Dq) (hC : kC.C w A t.cells.length t.cells) (hD : kD.C w B t.done.length t.done) (hQ : ∀ S' w', Fam S' B' w0 w' → kQ.C w' Q l.length l) (hk : ∀ x ∈ t.cells, KeyL x.key ∧ x.val.size ≤ 9223372036854775807) (hq : ∀ k ∈ l, QOk k) (hok : TabOk t) :
    Calls Tryd.prog 16 #[vT t.idx t.epoch A t.cells.length c B t.done.length d, .slice Q l.length cq] w fun e w' => ∃ p, e = .returned (.pointer (some ⟨p, 0, none⟩)) ∧ Fam ((p, madeS t l) :: S) B' w0 w' := by
  obtain ⟨g, hg⟩ : ∃ g, w.heap.size = g := ⟨_, rfl⟩
  obtain ⟨idx, hidx⟩ : ∃ idx, t.idx = idx := ⟨_, rfl⟩
  obtain ⟨ep, hep⟩ : ∃ ep, t.epoch = ep := ⟨_, rfl⟩
  obtain ⟨n, hn⟩ : ∃ n, t.cells.length = n := ⟨_, rfl⟩
  obtain ⟨m, hm⟩ : ∃ m, t.done.length = m := ⟨_, rfl⟩
  obtain ⟨L, hL⟩ : ∃ L, l.length = L := ⟨_, rfl⟩
  obtain ⟨w1, hw1⟩ : ∃ w1, w.alloc (.cells #[.int .i64 idx, .int .i64 ep, .slice A n c, .slice B m d] 25) = w1 := ⟨_, rfl⟩
  have hb1 : Below w.heap.size w w1 := hw1 ▸ below_alloc (Below.refl _ _) _
  have hR1 : w1.heap[g]? = some (.cells [.int .i64 idx, .int .i64 ep, .slice A n c, .slice B m d].toArray 25) := hg ▸ hw1 ▸ at_alloc w _
  have HFROM := Aside0.mk ((h.below hb1).newS t A B c d (Kd.C_below hC hb1) (Kd.C_below hD hb1) hk hok)
  rw [hidx, hep, hn, hm] at HFROM
  rw [hidx, hep, hn, hm, hL]
  have HQ := Aside0.mk hQ
  have HMAX : Aside0 (L ≤ 9223372036854775807) := ⟨hL ▸ (hQ S w h).2.1⟩
  have HQK := Aside0.mk hq
  have HW := Aside0.mk hw1
  have HB := Aside0.mk hb1
  have HR := Aside0.mk hR1
  have HN := Aside0.mk (And.intro hidx hL)
  clear hC hD hQ hw1 hb1 hR1 hk hq h hok hep hn hm
  go_enter Tryd.func16, Tryd.ntmps16
  go_upto_region 1 with (fail)
  rw [HW.out]
  go_upto_region 3 with (first
    | ((with_reducible refine gate_dst (N := 10) rfl ?_); go_must (refine wpList_seg (P := Tryd.prog) rfl 25 (.tmp 2) rfl g 0 rfl [.int .i64 idx, .int .i64 ep, .slice A n c, .slice B m d] aggTb (SegAt.blk (t := 25) (fr := (0, 0)) HR.out) ?_))
    | (go_at_call 25; refine HFROM.out.mono ?_; rintro e w5 ⟨p, rfl, hf5, _⟩; have HF5 := Aside0.mk hf5; clear hf5))
  go_loopw [16] (fun v16 wr => ∃ j : Nat, j ≤ L ∧ v16 = .int .i64 (j : Int) ∧ Aside0 (Fam ((p, (l.take j).foldl nextS ⟨t, [], idx⟩) :: S) B' w0 wr)) (fun v16 _ => L - (intOf v16).toNat)
  case atStart => exact ⟨0, Nat.zero_le _, rfl, ⟨by rw [List.take_zero]; exact HF5.out⟩⟩
  case round =>
    obtain ⟨j, hj, rfl, HA⟩ := hrel
    by_cases e1 : j < L
    · have e1' : decide ((j : Int) < (L : Int)) = true := decide_eq_true (by omega)
      have hjl : j < l.length := by have := HN.out.2; omega
      have HWJ : Aside0 (wrap64 ((j : Int) + 1) = (j : Int) + 1) := ⟨by have := HMAX.out; unfold wrap64; omega⟩
      obtain ⟨ad, hA, hql, hcell⟩ := C_cellsQ (HQ.out _ _ HA.out) j hjl
      subst hA
      obtain ⟨k, hk⟩ : ∃ k, l[j] = k := ⟨_, rfl⟩
      rw [hk] at hql hcell
      have HSN : Aside0 ((l.take (j + 1)).foldl nextS ⟨t, [], idx⟩ = nextS ((l.take j).foldl nextS ⟨t, [], idx⟩) k) := ⟨go_snoc (by rw [List.getElem?_eq_getElem hjl, hk])⟩
      obtain ⟨s, hs⟩ : ∃ s, (l.take j).foldl nextS ⟨t, [], idx⟩ = s := ⟨_, rfl⟩
      have hqk : QOk k := HQK.out k (hk ▸ List.getElem_mem hjl)
      rw [hs] at HSN HA
      obtain ⟨qs, hqs⟩ : ∃ qs, encQ k = qs := ⟨_, rfl⟩
      have HDOES : Aside0 (∀ w' : World, Below wr.heap.size wr w' → Calls Tryd.prog 31 #[.pointer (some ⟨p, 0, none⟩), .agg qs.toArray] w' fun e w'' => (∃ x y, e = .returned (.tuple #[x, y])) ∧ Fam ((p, nextS s k) :: S) B' w0 w'') := ⟨fun w' hb => by
        refine (hqs ▸ (HA.out.below hb).does (S1 := []) k hqk).mono ?_
        rintro e w'' ⟨h1, h2⟩
        exact ⟨⟨_, _, h1⟩, h2⟩⟩
      have HLQ : Aside0 (qs.length = 29) := ⟨hqs ▸ hql⟩
      have HQ1 : Aside0 (∀ v ∈ qs, v.oneCell' = true) := ⟨hqs ▸ encQ_one k⟩
      have HCell : Aside0 (∀ q v, qs[q]? = some v → wr.cell? ((ad.add (j * 29)).add q) = some v) := ⟨hqs ▸ hcell⟩
      clear HA hk hql hcell hs hqk hqs
      go_upto_region 5 with (first
        | ((with_reducible refine gate_dst (N := 19) rfl ?_); go_must (refine wpList_at (P := Tryd.prog) rfl 34 (.tmp 18) rfl (ad.add (j * 29)) rfl qs (by rw [HLQ.out]; exact aggDo) HCell.out ?_))
        | ((with_reducible refine gate_ (.store 34 (.tmp 8) (.tmp 19)) rfl ?_); go_must (refine wpList_fill (P := Tryd.prog) rfl 34 (.tmp 8) (.tmp 19) rfl qs _ rfl rfl (by rw [HLQ.out]; exact aggDo) (by rw [HLQ.out]; rfl) HQ1.out ?_)))
      obtain ⟨w11, hw11⟩ : ∃ w11, wr.alloc (.cells qs.toArray 34) = w11 := ⟨_, rfl⟩
      have hb11 : Below wr.heap.size wr w11 := hw11 ▸ below_alloc (Below.refl _ _) _
      have HA11 := Aside0.mk (show w11.heap[wr.heap.size]? = some (.cells qs.toArray 34) from hw11 ▸ at_alloc wr _)
      have HD11 := Aside0.mk (HDOES.out w11 hb11)
      rw [hw11]
      obtain ⟨b, hbb⟩ : ∃ b, wr.heap.size = b := ⟨_, rfl⟩
      rw [hbb] at HA11 ⊢
      clear hw11 hb11 hbb HDOES
      go_wp2_with (first
        | ((with_reducible refine gate_dst (N := 21) rfl ?_); go_must (refine wpList_seg (P := Tryd.prog) rfl 34 (.tmp 8) rfl b 0 rfl qs (by rw [HLQ.out]; exact aggDo) (SegAt.blk (t := 34) (fr := (0, 0)) HA11.out) ?_))
        | (go_at_call 31; refine HD11.out.mono ?_; rintro e w12 ⟨⟨x1, x2, rfl⟩, H12⟩; have H12 := Aside0.mk H12))
      rw [HWJ.out]
      exact ⟨⟨j + 1, by omega, by push_cast; rfl, ⟨by rw [HSN.out]; exact H12.out⟩⟩, by simp [intOf]; omega⟩
    · have e1' : decide ((j : Int) < (L : Int)) = false := decide_eq_false (by omega)
      have ha := HA.out
      rw [List.take_of_length_le (by have := HN.out.2; omega)] at ha
      have HAc := Aside0.mk ha
      clear ha HA
      go_wp2_with (fail)
      go_ret
      exact ⟨p, rfl, by unfold madeS; rw [HN.out.1]; exact HAc.out⟩
end Go.Proofs.YtgmaedngkhidlaaDoor.Sf
-- ShO
namespace Go.Proofs.YtgmaedngkhidlaaDoor.Sf
open Go Go.RowKit Go.ChangeMaps Go.MapKept Go.Proofs.YtgmaedngkhidlaaDoorW.PrintWords Go.Proofs.YtgmaedngkhidlaaDoorW.PrintLast Go.Proofs.YtgmaedngkhidlaaDoorW.PrintMore
open Go.Maps (Keyed)
set_option linter.unusedVariables false
set_option linter.unusedSimpArgs false
end Go.Proofs.YtgmaedngkhidlaaDoor.Sf
-- ShP
namespace Go.Proofs.YtgmaedngkhidlaaDoor.Sf
open Go Go.RowKit Go.ChangeMaps Go.MapKept Go.Proofs.YtgmaedngkhidlaaDoorW.PrintWords Go.Proofs.YtgmaedngkhidlaaDoorW.PrintLast Go.Proofs.YtgmaedngkhidlaaDoorW.PrintMore
open Go.Maps (Keyed)
set_option linter.unusedVariables false
set_option linter.unusedSimpArgs false
end Go.Proofs.YtgmaedngkhidlaaDoor.Sf
-- ShQ
namespace Go.Proofs.YtgmaedngkhidlaaDoor.Sf
open Go Go.RowKit Go.ChangeMaps Go.MapKept Go.Proofs.YtgmaedngkhidlaaDoorW.PrintWords Go.Proofs.YtgmaedngkhidlaaDoorW.PrintLast Go.Proofs.YtgmaedngkhidlaaDoorW.PrintMore
open Go.Maps (Keyed)
set_option linter.unusedVariables false
set_option linter.unusedSimpArgs false
structure IsBL (e : Ending) (Q : Prop) : Prop where
  ex : ∃ b, e = .returned (.bool b) ∧ (b = true → Q)
set_option maxHeartbeats 4000000 in
set_option maxRecDepth 100000 in
theorem short2_calls (ad : Addr) (L c : Nat) (w : World) (len : Nat → Nat) (hL : L ≤ 9223372036854775807) (hrow : ∀ i, i < L → ∃ A l cc, w.cell? (ad.add i) = some (.slice A l.length cc) ∧ kQ.C w A l.length l ∧ (∀ x ∈ l, x.key.length = 8 ∧ x.x.key.length = 8) ∧ l.length = len i) :
    Calls Tryd.prog 13 #[.slice (some ad) L c] w fun e w' => IsBL e (∀ i, i < L → len i ≤ 120) ∧ Drawn0 w w' := by
  have HR := Aside0.mk hrow
  clear hrow
  go_enter Tryd.func13, Tryd.ntmps13
  go_wp2_with (fail)
  go_loopw [3, 4, 10] (fun v3 v4 v10 wr => ∃ (x y : Int) (j : Nat), v3 = .int .i64 x ∧ v4 = .int .i64 y ∧ v10 = .int .i64 (j : Int) ∧ j ≤ L ∧ Drawn0 w wr ∧ Aside0 ((120 < y ∨ 8192 < x) ∨ (0 ≤ y ∧ ∀ i, i < j → (len i : Int) ≤ y))) (fun v3 v4 v10 _ => L - (intOf v10).toNat)
  case atStart => exact ⟨0, 0, 0, rfl, rfl, rfl, Nat.zero_le _, Drawn0.refl _, ⟨.inr ⟨Int.le_refl _, fun i hi => absurd hi (Nat.not_lt_zero _)⟩⟩⟩
  case round =>
    obtain ⟨x, y, j, rfl, rfl, rfl, hj, ⟨n1, rfl⟩, HS⟩ := hrel
    have hwj : wrap64 ((j : Int) + 1) = (j : Int) + 1 ∨ ¬ j < L := by
      by_cases e : j < L
      · exact .inl (by unfold wrap64; omega)
      · exact .inr e
    by_cases c1 : j < L
    · replace hwj := hwj.resolve_right (fun e => e c1)
      have d1 : decide ((j : Int) < (L : Int)) = true := decide_eq_true (by omega)
      obtain ⟨A, l, cc, hcell, hC, hkk, hlen⟩ := HR.out j c1
      have HC := Aside0.mk hC
      have HKK := Aside0.mk hkk
      have HLN := Aside0.mk hlen
      clear hC hkk hlen
      go_wp2_with (fail)
      go_loopw [3, 4, 7] (fun v3 v4 v7 wr => ∃ (x y : Int) (q : Nat), v3 = .int .i64 x ∧ v4 = .int .i64 y ∧ v7 = .int .i64 (q : Int) ∧ q ≤ l.length ∧ Drawn0 w wr ∧ Aside0 ((120 < y ∨ 8192 < x) ∨ (0 ≤ y ∧ (q : Int) ≤ y ∧ ∀ i, i < j → (len i : Int) ≤ y))) (fun v3 v4 v7 _ => l.length - (intOf v7).toNat)
      case atStart => exact ⟨x, y, 0, rfl, rfl, rfl, Nat.zero_le _, ⟨_, rfl⟩, ⟨HS.out.imp id (fun h => ⟨h.1, by simpa using h.1, h.2⟩)⟩⟩
      case round =>
        obtain ⟨x, y, q, rfl, rfl, rfl, hq, ⟨n2, rfl⟩, HS2⟩ := hrel
        by_cases c2 : q < l.length
        · have d2 : decide ((q : Int) < (l.length : Int)) = true := decide_eq_true (by omega)
          by_cases c3 : y ≤ 120
          · have d3 : decide (y ≤ 120) = true := decide_eq_true c3
            by_cases c4 : x ≤ 8192
            · have d4 : decide (x ≤ 8192) = true := decide_eq_true c4
              obtain ⟨ad2, hA, hD⟩ := C_atQ HC.out (fun z hz => (HKK.out z hz).1) q c2
              subst hA
              have hx2 := (HKK.out _ (List.getElem_mem c2)).2
              have r12 : w.cell? ⟨(ad2.add (q * 29)).block, (ad2.add (q * 29)).off + 12, none⟩ = some (.string (l[q]).val) := by
                have := hD.val
                rw [add_pos ad2 (q * 29) 12 (by decide)] at this
                exact this
              have r26 : w.cell? ⟨(ad2.add (q * 29)).block, (ad2.add (q * 29)).off + 26, none⟩ = some (.string (l[q]).x.val) := by
                have := (recAt (f := fun j => w.cell? ((ad2.add (q * 29)).add (15 + j))) hx2 hD.x).val
                rw [add_pos ad2 (q * 29) (15 + 11) (by decide)] at this
                exact this
              obtain ⟨va, hva⟩ : ∃ va, (l[q]).val = va := ⟨_, rfl⟩
              obtain ⟨vb, hvb⟩ : ∃ vb, (l[q]).x.val = vb := ⟨_, rfl⟩
              rw [hva] at r12
              rw [hvb] at r26
              clear hD hx2 hva hvb
              have hs := HS2.out.resolve_left (by omega)
              have HY : Aside0 (wrap64 (y + 1) = y + 1) := ⟨by have := hs.1; unfold wrap64; omega⟩
              have HS3 : Aside0 (0 ≤ y + 1 ∧ ((q + 1 : Nat) : Int) ≤ y + 1 ∧ ∀ i, i < j → (len i : Int) ≤ y + 1) := ⟨by have := hs.1; have := hs.2.1; exact ⟨by omega, by omega, fun i hi => by have := hs.2.2 i hi; omega⟩⟩
              clear hs
              have hwq : wrap64 ((q : Int) + 1) = (q : Int) + 1 := by have := HC.out.2.1; unfold wrap64; omega
              go_wp2_with (fail)
              go_quiet (fail)
              go_wp2_with (fail)
              rw [hwq, HY.out]
              exact ⟨⟨_, _, q + 1, rfl, rfl, by push_cast; rfl, by omega, ⟨_, rfl⟩, ⟨.inr HS3.out⟩⟩, by simp [intOf]; omega⟩
            · have d4 : decide (x ≤ 8192) = false := decide_eq_false c4
              have HS3 : Aside0 (120 < y ∨ 8192 < x) := ⟨.inr (by omega)⟩
              go_wp2_with (fail)
              exact ⟨⟨x, y, j + 1, rfl, rfl, by push_cast; rfl, by omega, ⟨_, rfl⟩, ⟨.inl HS3.out⟩⟩, by simp [intOf]; omega⟩
          · have d3 : decide (y ≤ 120) = false := decide_eq_false c3
            have HS3 : Aside0 (120 < y ∨ 8192 < x) := ⟨.inl (by omega)⟩
            go_wp2_with (fail)
            exact ⟨⟨x, y, j + 1, rfl, rfl, by push_cast; rfl, by omega, ⟨_, rfl⟩, ⟨.inl HS3.out⟩⟩, by simp [intOf]; omega⟩
        · have d2 : decide ((q : Int) < (l.length : Int)) = false := decide_eq_false (by omega)
          have HS3 : Aside0 ((120 < y ∨ 8192 < x) ∨ (0 ≤ y ∧ ∀ i, i < j + 1 → (len i : Int) ≤ y)) := ⟨HS2.out.imp id (fun h => ⟨h.1, fun i hi => by
            have hh := h.2.1
            rcases Nat.lt_or_ge i j with e | e
            · exact h.2.2 i e
            · have : i = j := by omega
              subst this
              rw [← HLN.out]
              omega⟩)⟩
          go_wp2_with (fail)
          exact ⟨⟨x, y, j + 1, rfl, rfl, by push_cast; rfl, by omega, ⟨_, rfl⟩, HS3⟩, by simp [intOf]; omega⟩
    · have d1 : decide ((j : Int) < (L : Int)) = false := decide_eq_false (by omega)
      have hjL : j = L := by omega
      by_cases c2 : y ≤ 120
      · have d2 : decide (y ≤ 120) = true := decide_eq_true c2
        have HFin : Aside0 (decide (x ≤ 8192) = true → ∀ i, i < L → len i ≤ 120) := ⟨fun hx i hi => by
          have hx' := of_decide_eq_true hx
          have := (HS.out.resolve_left (by omega)).2 i (by omega)
          omega⟩
        go_wp2_with (fail)
        go_ret
        exact ⟨⟨⟨_, rfl, HFin.out⟩⟩, ⟨_, rfl⟩⟩
      · have d2 : decide (y ≤ 120) = false := decide_eq_false c2
        go_wp2_with (fail)
        go_ret
        exact ⟨⟨⟨_, rfl, fun h => by cases h⟩⟩, ⟨_, rfl⟩⟩
theorem infoQ : (Tryd.prog.info? 34).map (fun i => (i.zero, i.size, i.bytes)) = some (some (.agg #[.int .i64 0, .int .i64 0, .int .i64 0, .bool false, .int .u8 0, .int .u8 0, .int .u8 0, .int .u8 0, .int .u8 0, .int .u8 0, .int .u8 0, .int .u8 0, .string ⟨#[]⟩, .int .i64 0, .int .i64 0, .int .i64 0, .int .i64 0, .int .u8 0, .int .u8 0, .int .u8 0, .int .u8 0, .int .u8 0, .int .u8 0, .int .u8 0, .int .u8 0, .int .i64 0, .string ⟨#[]⟩, .int .i64 0, .int .i64 0]), 29, 136) := by kernel_rfl
theorem heapQ : Kd.Heap kQ := flat_heap encQ 29 encQ_one
theorem N_footQ {e base : Nat} {ok : Nat → Prop} {w : World} {v : Value} {xs : List Dq} (h : Kd.N kQ e w base ok v xs) : ∃ A c, v = .slice A xs.length c ∧ Foot (fun W => kQ.C W A xs.length xs) w (fun k => base ≤ k) := by
  by_cases h0 : xs = []
  · subst h0
    obtain ⟨A, c, rfl⟩ := Kd.N_slice h
    exact ⟨A, c, rfl, fun W' _ => ⟨rfl, by simp, fun hp => absurd hp (by simp)⟩⟩
  · obtain ⟨g, c, rfl, hb, hlt, _⟩ := Kd.N_form h (List.length_pos_iff.2 h0)
    obtain ⟨_, _, hC⟩ := Kd.N_reads' h
    refine ⟨_, c, rfl, fun W' hW => ⟨rfl, hC.2.1, fun hp => ?_⟩⟩
    obtain ⟨ad, he, hcell⟩ := hC.2.2 hp
    injection he with he
    subst he
    refine ⟨_, rfl, fun j p hj => ?_⟩
    obtain ⟨cs, h1, h2, h3⟩ := hcell j p hj
    exact ⟨cs, h1, h2, fun i v hi => (World.cell?_of_block (by rw [add_off]; exact hW g hb hlt)).trans (h3 i v hi)⟩
set_option maxHeartbeats 8000000 in
set_option maxRecDepth 100000 in
theorem CloneQ_calls (ad : Option Addr) (c0 : Nat) (l0 : List Dq) (w : World) (hr0 : kQ.C w ad l0.length l0) (hc0 : l0.length ≤ c0) (hl : l0.length < 1000000000) :
    Calls Tryd.prog 40 #[.slice ad l0.length c0] w fun e w' => ∃ v : Value, e = .returned v ∧ Kd.N kQ 34 w' w.heap.size (fun _ => True) v l0 ∧ Below w.heap.size w w' := by
  have LM := Aside0.mk hl
  have HR0 := Aside0.mk hr0
  have HF0 := Aside0.mk (Kd.C_F heapQ hr0)
  have HC0 := Aside0.mk hc0
  clear hr0 hc0 hl
  have HB := Aside0.mk (Below.refl w.heap.size w)
  cases ad with
  | none =>
    have hn : l0 = [] := by
      cases l0 with
      | nil => rfl
      | cons a_ b_ => obtain ⟨ad, e, _⟩ := HR0.out.2.2 (by simp); cases e
    subst hn
    have heq : ∀ W : World, (binOp .eql 26 (.slice none ([] : List Dq).length c0) (.slice none 0 0)).run Tryd.prog W = .ok (.bool true) W := fun W => Lib.run_eql_slice_nil W 26 34 none _ _ _ _ Tryd.underlying26
    have heq2 : ∀ W : World, (binOp .eql 26 (.slice none 0 c0) (.slice none 0 0)).run Tryd.prog W = .ok (.bool true) W := fun W => Lib.run_eql_slice_nil W 26 34 none _ _ _ _ Tryd.underlying26
    go_enter Tryd.func40, Tryd.ntmps40
    go_wp2
    go_ret
    exact ⟨_, rfl, Kd.N_nil _ _ _ _ _, HB.out⟩
  | some ad =>
    have heq : ∀ W : World, (binOp .eql 26 (.slice (some ad) l0.length c0) (.slice none 0 0)).run Tryd.prog W = .ok (.bool false) W := fun W => Lib.run_eql_slice_nil W 26 34 (some ad) _ _ _ _ Tryd.underlying26
    obtain ⟨y1, Ny1⟩ : ∃ y_ : List Dq, Aside0 (y_ = ([] : List Dq)) := ⟨_, ⟨rfl⟩⟩
    have LM2 := Aside0.mk (show y1.length + l0.length < 1000000000 by have := LM.out; rw [Ny1.out]; simpa using this)
    have Ny2 := Aside0.mk (show l0 = y1 ++ l0 by rw [Ny1.out]; rfl)
    go_enter Tryd.func40, Tryd.ntmps40
    go_wp2_with (first | ((with_reducible refine gate_dst (N := 5) rfl ?_); refine Kd.N_lit kQ _ 34 ?hg (N' := 5) ?hd (xs := ([] : List Dq)) (inner := []) (ok := fun _ => True) (okp := fun _ => True) ?hr ?hp (fun _ hk => hk) trivial (Below.refl _ _) (Nat.le_refl _) (by simp) ?_; (case hd => rfl); (case hg => rfl); (case hr => first | (go_simp; done) | (go_simp; rfl)); (case hp => exact (Reps.none _ _)); intro va w4 ho5 hb hg_ hnew_; clear hg_ hnew_; (first | rw [← Ny1.out] at ho5 | (simp only [Int.reduceToNat] at ho5; rw [← Ny1.out] at ho5)); have n0_ := Aside0.mk ho5; have n1_ := Aside0.mk (below_step HB.out hb); clear HB; have HOa := n0_; have HB := n1_; clear n0_ n1_; clear hb ho5) | ((with_reducible refine gate_builtin (b := .append) (xs := #[.tmp 5, .tmp 6]) rfl ?_); at_builtin; refine Kd.N_append_rows kQ (w0 := w) w.heap.size rfl (.tmp 5) (.tmp 6) 26 34 _ 136 rfl Tryd.underlying26 infoQ rfl (by decide) (by omega) va y1 l0 _ _ _ (fun _ => True) (fun k => k < w.heap.size) rfl rfl ?aO ?aR ?aP ?aF ?aB ?aS ?aL ?_; (case aR => exact Kd.F_below HF0.out HB.out); (case aP => exact (fun k hk => ⟨trivial, fun he => by have := Kd.N_base HOa.out k he.symm; omega⟩)); (case aB => exact HB.out); (case aF => exact (fun _ _ => trivial)); (case aO => exact HOa.out); (case aS => exact HB.out.size); (case aL => have := LM2.out; omega); intro vb w6 ho hb hg hat; rw [← Ny2.out] at ho; have n0_ := Aside0.mk (hb); have n1_ := Aside0.mk (ho); clear HB; clear HOa; have HB := n0_; have HOa := n1_; clear n0_ n1_; clear ho hb hg hat))
    go_ret
    exact ⟨_, rfl, HOa.out, HB.out⟩
end Go.Proofs.YtgmaedngkhidlaaDoor.Sf
