/- What the printed texts take from our walks of wire.Put and wire.Open. -/
import Derived.Test.YtleaiojilmkhaaaOpen
namespace Go.Proofs.Ytleaiojilmkhaaa.Wire
open Go Go.RowKit Go.Proofs.YtleaiojilmkhaaaW.PrintWords Go.Proofs.YtleaiojilmkhaaaW.PrintLast Go.Proofs.YtleaiojilmkhaaaW.PrintMore
set_option linter.unusedVariables false
def bs (l : List Int) : Bool := l.all fun x => decide (0 ≤ x ∧ x < 256)
def u64s (l : List Int) : Bool := l.all fun x => decide (0 ≤ x ∧ x < 18446744073709551616)
theorem bs_iff {l : List Int} : bs l = true ↔ Bs l := by simp [bs, Bs]
theorem u64s_iff {l : List Int} : u64s l = true ↔ ∀ x ∈ l, 0 ≤ x ∧ x < 18446744073709551616 := by simp [u64s]
theorem C_some {w : World} {A : Option Addr} {l : List Int} (h : Kd.C (Kd.int .u8) w A l.length l) : A = none → l = [] := by
  intro e
  subst e
  cases l with
  | nil => rfl
  | cons a r => obtain ⟨ad, c, e, _⟩ := Kd.C_get h (0 : Int) 0 (by decide) (by simp); cases e
theorem Put_own (A0 : Option Addr) (c0 : Nat) (l0 : List Int) (A1 : Option Addr) (c1 : Nat) (l1 : List Int) (w : World) (hr0 : Kd.C (Kd.int .u8) w A0 l0.length l0) (hc0 : l0.length ≤ c0) (hr1 : Kd.C (Kd.int .u64) w A1 l1.length l1) (hc1 : l1.length ≤ c1)
    (h1 : l1 ≠ []) (h2 : u64s l1 = true) (h3 : l0.length + 10 * l1.length < 140737488355328) :
    Calls Try.prog 25 #[.slice A0 l0.length c0, .slice A1 l1.length c1] w fun e w' => ∃ v0_ : Value, e = .returned (v0_) ∧ Kd.R (Kd.int .u8) 5 w' w.heap.size (fun _ => True) v0_ (l0 ++ encs l1) ∧ Below w.heap.size w w' := by
  refine (Put_any A0 c0 l0 A1 c1 l1 w hr0 hc0 hr1 hc1 (C_some hr0) (u64s_iff.1 h2) h3).mono ?_
  rintro e w' ⟨v, rfl, h | h, hb⟩
  · obtain ⟨_, hx, _, _⟩ := h
    exact absurd (encs_nil (List.append_cancel_left (hx.trans (List.append_nil _).symm))) h1
  · exact ⟨v, rfl, h, hb⟩
end Go.Proofs.Ytleaiojilmkhaaa.Wire
