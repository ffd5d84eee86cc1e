/- A call as a plain one. -/
import Derived.Test.YtehjbhnlbjbhfaaDkL
namespace Go.Proofs.Ytehjbhnlbjbhfaa.Dk
open Go Go.RowKit Go.Proofs.YtehjbhnlbjbhfaaW.PrintWords Go.Proofs.YtehjbhnlbjbhfaaW.PrintLast Go.Proofs.YtehjbhnlbjbhfaaW.PrintMore
open Go.Proofs.Ytehjbhnlbjbhfaa.PDiskBegins
attribute [local go_sem] max2_int min2_int max_two min_two
set_option linter.unusedVariables false
set_option linter.unusedSimpArgs false
theorem Rw.came {G : Nat → Prop} {k : IntKind} {w : World} {A : Option Addr} {c : Nat} {xs : List Int} (h : (Kd.int k).C w A xs.length xs) (hc : xs.length ≤ c) (hG : ∀ b, G b → w.heap.size ≤ b) : Rw G k w (.slice A xs.length c) xs :=
  Kd.V_mk hc (Kd.F_mono (Kd.C_F (Kd.heap_int k) h) (fun b hb hg => by have := hG b hg; omega))
theorem wrap_succ {i n : Nat} (h : i < n) (hn : n ≤ 9223372036854775807) : wrap64 ((i : Int) + 1) = ((i + 1 : Nat) : Int) := by
  unfold wrap64; omega
def toDd (x : S35) : Dd := ⟨x.f0, x.f1, x.f2, x.f3, x.f4⟩
def goP (s : DS) (l : List S35) : DS := l.foldl (fun s x => (doesP s (toDd x)).1) s
theorem goP_step (s : DS) (l : List S35) {i : Nat} (h : i < l.length) : goP s (l.take (i + 1)) = (doesP (goP s (l.take i)) (toDd (rd_T35 l (i : Int)))).1 := by
  unfold goP rd_T35
  rw [Int.toNat_natCast, List.take_add_one, List.getElem?_eq_getElem h, List.foldl_append, List.getD_eq_getElem?_getD, List.getElem?_eq_getElem h]
  rfl
theorem goP_okk {s : DS} (h : Okk s) : ∀ l : List S35, (∀ x ∈ l, (toDd x).ok) → Okk (goP s l) := by
  intro l
  induction l generalizing s with
  | nil => intro _; exact h
  | cons a l ih => intro hl; exact ih (h.does _ (hl a (List.mem_cons_self ..))) (fun x hx => hl x (List.mem_cons_of_mem _ hx))
theorem rd_mem {l : List S35} {i : Nat} (h : i < l.length) : rd_T35 l (i : Int) ∈ l := by
  unfold rd_T35
  rw [Int.toNat_natCast, List.getD_eq_getElem?_getD, List.getElem?_eq_getElem h]
  exact List.getElem_mem h
end Go.Proofs.Ytehjbhnlbjbhfaa.Dk
