/- Plain lemmas: the set of a list of numbers; with one, and without it. -/
import Derived.Test.YtjkllkbdmkkndaaPlainC
namespace Go.Proofs.Ytjkllkbdmkkndaa.Ref
set_option linter.unusedVariables false
open Go Go.RowKit Go.Proofs.YtjkllkbdmkkndaaW.PrintWords Go.Proofs.YtjkllkbdmkkndaaW.PrintLast Go.Proofs.YtjkllkbdmkkndaaW.PrintMore Go.Proofs.Ytjkllkbdmkkndaa.Bits
def putR (x : Nat) (n : Int) (b : Bool) : Nat := if 0 ≤ n ∧ n < 64 then W (putS x n.toNat b) else x
theorem putR_lt (x : Nat) (hx : x < 2 ^ 64) (n : Int) (b : Bool) : putR x n b < 2 ^ 64 := by
  unfold putR; split
  · exact W_lt _
  · exact hx
theorem Put_calls (x : Nat) (n : Int) (b : Bool) (w : World) :
    Calls Try.prog 36 #[setV x, .int .i64 n, .bool b] w fun e w' => e = .returned (setV (putR x n b)) ∧ Below w.heap.size w w' := by
  unfold putR
  by_cases h : 0 ≤ n ∧ n < 64
  · rw [if_pos h]
    obtain ⟨m, rfl⟩ := Int.eq_ofNat_of_zero_le h.1
    exact Put_in x m b (by omega) w
  · rw [if_neg h]
    exact Put_out x n b (by omega) w
theorem putS_or (x m : Nat) (hx : x < 2 ^ 64) (hm : m < 64) : W (putS x m true) = x ||| 2 ^ m :=
  W_of (Nat.or_lt_two_pow hx (Nat.pow_lt_pow_right (by decide) hm)) (fun i _ => by
    rw [Nat.testBit_or, Nat.testBit_two_pow]; unfold putS
    by_cases h : i = m
    · rw [if_pos h, decide_eq_true h.symm, Bool.or_true]
    · rw [if_neg h, decide_eq_false (fun e => h e.symm), Bool.or_false])
def ofN (l : List Int) : Nat := l.foldl (fun x n => putR x n true) 0
theorem ofN_snoc (l : List Int) (n : Int) : ofN (l ++ [n]) = putR (ofN l) n true := by unfold ofN; rw [List.foldl_append]; rfl
theorem ofN_take (l : List Int) (j : Nat) (h : j < l.length) : ofN (l.take (j + 1)) = putR (ofN (l.take j)) (rd l j) true := by
  rw [List.take_succ_eq_append_getElem h, ofN_snoc]
  have : l[j] = rd l (j : Int) := by unfold rd; rw [Int.toNat_natCast, List.getD_eq_getElem?_getD, List.getElem?_eq_getElem h]; rfl
  rw [this]
theorem foldl_lt (l : List Int) : ∀ x, x < 2 ^ 64 → l.foldl (fun x n => putR x n true) x < 2 ^ 64 := by
  induction l with
  | nil => intro x hx; exact hx
  | cons a l ih => intro x hx; exact ih _ (putR_lt x hx a true)
theorem ofN_lt (l : List Int) : ofN l < 2 ^ 64 := foldl_lt l 0 (by decide)
theorem putR_bit (x : Nat) (n : Int) (i : Nat) (hi : i < 64) : (putR x n true).testBit i = (decide ((i : Int) = n) || x.testBit i) := by
  unfold putR
  by_cases h : 0 ≤ n ∧ n < 64
  · rw [if_pos h, W_bit' _ i hi]; unfold putS
    by_cases e : (i : Int) = n
    · rw [if_pos (by omega), decide_eq_true e, Bool.true_or]
    · rw [if_neg (by omega), decide_eq_false e, Bool.false_or]
  · rw [if_neg h, decide_eq_false (by omega), Bool.false_or]
theorem foldl_bit (l : List Int) : ∀ x i, i < 64 → (l.foldl (fun x n => putR x n true) x).testBit i = (decide ((i : Int) ∈ l) || x.testBit i) := by
  induction l with
  | nil => intro x i _; simp
  | cons a l ih =>
    intro x i hi
    rw [List.foldl_cons, ih _ i hi, putR_bit x a i hi]
    by_cases h1 : (i : Int) = a
    · simp [h1]
    · simp [h1]
theorem ofN_bit (l : List Int) (i : Nat) (hi : i < 64) : (ofN l).testBit i = decide ((i : Int) ∈ l) := by
  unfold ofN; rw [foldl_bit l 0 i hi, Nat.zero_testBit, Bool.or_false]
theorem andNot_u64 (x y : Nat) (hx : x < 2 ^ 64) (hy : y < 2 ^ 64) : ∃ z : Nat, Go.bits .andNot .u64 (x : Int) (y : Int) = (z : Int) ∧ z < 2 ^ 64 ∧ ∀ i, i < 64 → z.testBit i = (x.testBit i && !y.testBit i) := by
  refine ⟨(BitVec.ofNat 64 x &&& ~~~ BitVec.ofNat 64 y).toNat, ?_, (BitVec.isLt _), fun i hi => ?_⟩
  · simp only [Go.bits, BitVec.ofInt_natCast]
    have := (BitVec.ofNat 64 x &&& ~~~ BitVec.ofNat 64 y).isLt
    exact wraps_u64 (((BitVec.ofNat 64 x &&& ~~~ BitVec.ofNat 64 y).toNat : Nat) : Int) (by omega) (by omega)
  · rw [BitVec.testBit_toNat, BitVec.getLsbD_and, BitVec.getLsbD_not, BitVec.getLsbD_ofNat, BitVec.getLsbD_ofNat]
    simp [hi]
theorem putS_not (x m : Nat) (hx : x < 2 ^ 64) (hm : m < 64) : Go.bits .andNot .u64 (x : Int) ((2 ^ m : Nat) : Int) = ((W (putS x m false) : Nat) : Int) := by
  obtain ⟨z, h1, h2, h3⟩ := andNot_u64 x (2 ^ m) hx (Nat.pow_lt_pow_right (by decide) hm)
  rw [h1]
  congr 1
  exact (W_of h2 (fun i hi => by
    rw [h3 i hi, Nat.testBit_two_pow]; unfold putS
    by_cases e : i = m
    · rw [if_pos e, decide_eq_true e.symm]; simp
    · rw [if_neg e, decide_eq_false (fun h => e h.symm)]; simp)).symm
theorem shl_one (m : Nat) (hm : m < 64) : shl .u64 1 (m : Int) = ((2 ^ m : Nat) : Int) := by
  unfold shl
  have hp : 2 ^ m < 2 ^ 64 := Nat.pow_lt_pow_right (by decide) hm
  rw [Int.toNat_natCast, show IntKind.u64.bits = 64 from rfl, Nat.min_eq_left (by omega), show (1 : Int) * 2 ^ m = ((2 ^ m : Nat) : Int) from by push_cast; omega, wrap_nat, Nat.mod_eq_of_lt hp]
end Go.Proofs.Ytjkllkbdmkkndaa.Ref
