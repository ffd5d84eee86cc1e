/- A slice that came in, of whatever plain kind (numbers, bools, strings, slices, structs of these), reads as a row of that kind. -/
import Derived.Test.YtehjbhnlbjbhfaaWMore
import Derived.Deep.Slices
import Derived.ChangeArms
import Derived.OpenShut
namespace Go.Proofs.Ytehjbhnlbjbhfaa.Op
open Go Go.RowKit Go.Deep Go.Proofs.YtehjbhnlbjbhfaaW.PrintWords Go.Proofs.YtehjbhnlbjbhfaaW.PrintLast Go.Proofs.YtehjbhnlbjbhfaaW.PrintMore
set_option linter.unusedVariables false
section
variable {H : Type} (enc : TypeId × Value → H) (P : Program) (w : World)
/-- What is read at type t is of kind d, and G holds of it. -/
def Opens {α : Type} (d : Kd α) (G : α → Prop) (t : TypeId) : Prop :=
  P.cellsOf t = d.sz ∧ ∀ n cs x, DataW.trod enc P w 0 (fun _ => true) true n t cs = some x → ∃ y, d.K w y cs ∧ G y
/-- .. the fields fs of a struct, from the cell 'off' on. -/
def Fields {α : Type} (fs : List Field) (off : Nat) (d : Kd α) (G : α → Prop) : Prop :=
  ∀ n (cs : List Value), cs.length = off + d.sz → (∀ (i : Nat) (f : Field), fs[i]? = some f → ∃ x, DataW.trod enc P w 0 (fun _ => true) true n f.type ((cs.drop f.offset).take (P.cellsOf f.type)) = some x) → ∃ y, d.K w y (cs.drop off) ∧ G y
variable {enc} {P} {w}
theorem opens_int {t : TypeId} {k : IntKind} (ht : P.underlying t = some (.int k)) (hc : P.cellsOf t = 1) : Opens enc P w (Kd.int k) (fun n => (Lit.int k n).wf = true) t := by
  refine ⟨hc, fun n cs x h => ?_⟩
  obtain ⟨m, rfl, _, hw⟩ := DataW.trod_int ht h
  exact ⟨m, rfl, hw⟩
theorem opens_bool {t : TypeId} (ht : P.underlying t = some .bool) (hc : P.cellsOf t = 1) : Opens enc P w Kd.bool (fun _ => True) t := by
  refine ⟨hc, fun n cs x h => ?_⟩
  obtain ⟨m, rfl, _⟩ := DataW.trod_bool ht h
  exact ⟨m, rfl, trivial⟩
theorem opens_string {t : TypeId} (ht : P.underlying t = some .string) (hc : P.cellsOf t = 1) : Opens enc P w Kd.string (fun s => s.size ≤ maxLen) t := by
  refine ⟨hc, fun n cs x h => ?_⟩
  obtain ⟨s, rfl, _, hs⟩ := DataW.trod_string ht h
  exact ⟨s, rfl, hs⟩
theorem pick_lt {α : Type} {p : Nat → α → Prop} : ∀ n : Nat, (∀ i, i < n → ∃ a, p i a) → ∃ xs : List α, xs.length = n ∧ ∀ j a, xs[j]? = some a → p j a := by
  intro n
  induction n with
  | zero => intro _; exact ⟨[], rfl, fun j a h => by simp at h⟩
  | succ n ih =>
    intro h
    obtain ⟨xs, hl, hp⟩ := ih (fun i hi => h i (by omega))
    obtain ⟨a, ha⟩ := h n (by omega)
    refine ⟨xs ++ [a], by simp [hl], fun j b hj => ?_⟩
    rcases Nat.lt_or_ge j n with hlt | hge
    · rw [List.getElem?_append_left (by omega)] at hj
      exact hp j b hj
    · have hj2 : j < (xs ++ [a]).length := (List.getElem?_eq_some_iff.1 hj).1
      rw [List.length_append, List.length_singleton] at hj2
      have : j = n := by omega
      subst this
      rw [List.getElem?_append_right (by omega), hl, Nat.sub_self] at hj
      injection hj with hj
      exact hj ▸ ha
/-- The slice itself: the row that it leads to. -/
theorem open_row {α : Type} {d : Kd α} {G : α → Prop} {t e : TypeId} (ht : P.underlying t = some (.slice e)) (he : Opens enc P w d G e) {n : Nat} {cs : List Value} {x : DataW H × List MemPlace} (h : DataW.trod enc P w 0 (fun _ => true) true n t cs = some x) :
    ∃ a len cap ys, cs = [.slice a len cap] ∧ len ≤ cap ∧ ys.length = len ∧ d.C w a len ys ∧ (∀ y ∈ ys, G y) ∧ (a = none → cap = 0) := by
  rcases open_slice ht h with ⟨rfl, _⟩ | ⟨a, len, cap, m, k, D, Pl, rfl, _, hl, hm, hmm, _, hx⟩
  · exact ⟨none, 0, 0, [], rfl, Nat.le_refl _, rfl, Kd.C_nil d w, by simp, fun _ => rfl⟩
  · simp only [if_true] at hmm
    subst hmm
    have hcap : m ≤ 9223372036854775807 := by unfold maxLen at hm; omega
    obtain ⟨ys, hyl, hy⟩ := pick_lt (p := fun i y => (∃ c, c.length = d.sz ∧ d.K w y c ∧ ∀ j u, c[j]? = some u → w.cell? (a.add (i * d.sz + j)) = some u) ∧ G y) len (fun i hi => by
      obtain ⟨c, h1, h2⟩ := hx i (by omega)
      obtain ⟨y, hk, hg⟩ := he.2 k c _ h2
      rw [he.1] at h1
      obtain ⟨_, h3, h4⟩ := World.cells?_some h1
      refine ⟨y, ⟨c, h3, hk, fun j u hj => ?_⟩, hg⟩
      have hjl : j < d.sz := by rw [← h3]; exact (List.getElem?_eq_some_iff.1 hj).1
      have h5 := h4 j hjl
      rw [Go.Deep.add_add] at h5
      rw [h5, hj])
    refine ⟨some a, len, m, ys, rfl, hl, hyl, ⟨hyl, by omega, fun _ => ⟨a, rfl, fun j p hj => ?_⟩⟩, fun y hmem => ?_, fun e => by cases e⟩
    · obtain ⟨⟨c, h1, h2, h3⟩, _⟩ := hy j p hj
      exact ⟨c, h1, h2, h3⟩
    · obtain ⟨j, hj⟩ := List.getElem?_of_mem hmem
      exact (hy j y hj).2
theorem opens_slice {α : Type} {d : Kd α} {G : α → Prop} {t e : TypeId} (ht : P.underlying t = some (.slice e)) (hc : P.cellsOf t = 1) (he : Opens enc P w d G e) : Opens enc P w (Kd.slice e d) (fun ys => ∀ y ∈ ys, G y) t := by
  refine ⟨hc, fun n cs x h => ?_⟩
  obtain ⟨a, len, cap, ys, rfl, hl, rfl, hC, hG, _⟩ := open_row ht he h
  exact ⟨ys, ⟨a, cap, rfl, hl, hC⟩, hG⟩
theorem fields_one {α : Type} {d : Kd α} {G : α → Prop} {f : Field} {off : Nat} (ho : f.offset = off) (h : Opens enc P w d G f.type) : Fields enc P w [f] off d G := by
  intro n cs hl hx
  obtain ⟨x, hx⟩ := hx 0 f rfl
  rw [ho, h.1, List.take_of_length_le (by rw [List.length_drop]; omega)] at hx
  exact h.2 n _ x hx
theorem fields_cons {α β : Type} {d : Kd α} {G : α → Prop} {d' : Kd β} {G' : β → Prop} {f : Field} {fs : List Field} {off : Nat} (ho : f.offset = off) (h : Opens enc P w d G f.type) (hr : Fields enc P w fs (off + d.sz) d' G') : Fields enc P w (f :: fs) off (Kd.pair d d') (fun p => G p.1 ∧ G' p.2) := by
  intro n cs hl hx
  obtain ⟨x, hx0⟩ := hx 0 f rfl
  rw [ho, h.1] at hx0
  obtain ⟨y, hk, hg⟩ := h.2 n _ x hx0
  obtain ⟨y', hk', hg'⟩ := hr n cs (by rw [hl]; show off + (d.sz + d'.sz) = _; omega) (fun i f' hf => hx (i + 1) f' (by simpa using hf))
  refine ⟨(y, y'), ⟨_, _, ?_, hk, hk'⟩, hg, hg'⟩
  rw [← List.drop_drop, List.take_append_drop]
theorem opens_struct {α : Type} {d : Kd α} {G : α → Prop} {t : TypeId} {fs : Array Field} (ht : P.underlying t = some (.struct fs)) (hc : P.cellsOf t = d.sz) (hf : Fields enc P w fs.toList 0 d G) : Opens enc P w d G t := by
  refine ⟨hc, fun n cs x h => ?_⟩
  obtain ⟨xs, m, rfl, rfl, hl, hlen, hx⟩ := DataW.trod_struct ht h
  obtain ⟨y, hk, hg⟩ := hf m cs (by rw [hl, hc, Nat.zero_add]) (fun i f hi => by
    have hi' : fs[i]? = some f := by simpa using hi
    have h1 := hx i f hi'
    have hlt : i < xs.length := by rw [hlen]; exact (Array.getElem?_eq_some_iff.1 hi').1
    rw [List.getElem?_eq_getElem hlt] at h1
    exact ⟨_, h1⟩)
  exact ⟨y, hk, hg⟩
theorem opens_iso {α β : Type} {d : Kd α} {G : α → Prop} {t : TypeId} (h : Opens enc P w d G t) (f : β → α) (g : α → β) (hfg : ∀ a, f (g a) = a) : Opens enc P w (Kd.iso d f) (fun b => G (f b)) t := by
  refine ⟨h.1, fun n cs x hx => ?_⟩
  obtain ⟨y, hk, hg⟩ := h.2 n cs x hx
  exact ⟨g y, by show d.K w (f (g y)) cs; rw [hfg]; exact hk, by show G (f (g y)); rw [hfg]; exact hg⟩
/-- A parameter that is a slice. -/
theorem open_param {α : Type} {d : Kd α} {G : α → Prop} {t e : TypeId} (ht : P.underlying t = some (.slice e)) (he : Opens enc P w d G e) {v : Value} {D : DataW H} {p : List MemPlace} (h : DataW.Trod enc P w 0 (fun _ => true) true t v D p) (hv : ∃ a len cap, v = .slice a len cap) :
    ∃ a cap ys, v = .slice a ys.length cap ∧ ys.length ≤ cap ∧ d.C w a ys.length ys ∧ (∀ y ∈ ys, G y) ∧ (a = none → cap = 0) := by
  obtain ⟨n, h⟩ := h
  obtain ⟨a', l', c', rfl⟩ := hv
  obtain ⟨a, len, cap, ys, hcs, hl, rfl, hC, hG, hn⟩ := open_row ht he h
  have : (Value.slice a' l' c') = .slice a ys.length cap := by simpa [Value.cells] using hcs
  exact ⟨a, cap, ys, this, hl, hC, hG, hn⟩
end
end Go.Proofs.Ytehjbhnlbjbhfaa.Op
