/- The statement MaskShare over numbers alone: two sets that have most of a third one share a number of it, for every three words. -/
import Derived.Test.YtjkllkbdmkkndaaPMaskSharex2
import Derived.Test.YtjkllkbdmkkndaaBits
namespace Go.Proofs.Ytjkllkbdmkkndaa.Pure
open Go Go.RowKit Go.Proofs.Ytjkllkbdmkkndaa.PMaskShare Go.Proofs.YtjkllkbdmkkndaaW.PrintWords Go.Proofs.YtjkllkbdmkkndaaW.PrintLast Go.Proofs.YtjkllkbdmkkndaaW.PrintMore Go.Proofs.Ytjkllkbdmkkndaa.Bits

theorem len_t (x : Nat) (hx : x < 2 ^ 64) : mask_Set_Len.f (x : Int) = some (cnt x 64 : Int) := congrArg some (lenI_eq x hx)
theorem and_t (x y : Nat) (hx : x < 2 ^ 64) (hy : y < 2 ^ 64) : mask_Set_And.f (x : Int) (y : Int) = some ((x &&& y : Nat) : Int) := congrArg some (and_u64 x y hx hy)
theorem most_t (x y : Nat) (hx : x < 2 ^ 64) (hy : y < 2 ^ 64) : mask_Set_Most.f (x : Int) (y : Int) = some (decide (cnt y 64 < cnt (x &&& y) 64 * 2)) := by
  have hl : (x &&& y) < 2 ^ 64 := Nat.and_lt_two_pow _ hy
  have h1 := cnt_le (x &&& y) 64
  unfold mask_Set_Most.f
  rw [and_t x y hx hy, Option.bind_some, len_t _ hl, Option.bind_some, len_t y hy, Option.bind_some]
  refine congrArg some ?_
  rw [Bool.eq_iff_iff, decide_eq_true_eq, decide_eq_true_eq, show wrap64 ((cnt (x &&& y) 64 : Int) * 2) = ((cnt (x &&& y) 64 * 2 : Nat) : Int) from by unfold wrap64; omega]
  omega
theorem awake_t : towlinelaw02_awake.f 20 = some true := by decide +kernel
theorem MaskShare : towlinelaw02_MaskShare.Pure := by
  intro a b c ha hb hc
  have ha' := wf_u64 ha
  have hb' := wf_u64 hb
  have hc' := wf_u64 hc
  obtain ⟨s, rfl⟩ := Int.eq_ofNat_of_zero_le ha'.1
  obtain ⟨t, rfl⟩ := Int.eq_ofNat_of_zero_le hb'.1
  obtain ⟨u, rfl⟩ := Int.eq_ofNat_of_zero_le hc'.1
  have hs : s < 2 ^ 64 := by omega
  have ht : t < 2 ^ 64 := by omega
  have hu : u < 2 ^ 64 := by omega
  refine ⟨20, ?_⟩
  unfold towlinelaw02_MaskShare.f
  rw [most_t s u hs hu, Option.bind_some]
  by_cases h1 : cnt u 64 < cnt (s &&& u) 64 * 2
  · rw [decide_eq_true h1, if_pos rfl, most_t t u ht hu, Option.bind_some]
    by_cases h2 : cnt u 64 < cnt (t &&& u) 64 * 2
    · have hst : (s &&& t) < 2 ^ 64 := Nat.and_lt_two_pow _ ht
      have := share s t u 64 h1 h2
      rw [decide_eq_true h2, if_pos rfl, and_t s t hs ht, Option.bind_some, and_t _ u hst hu, Option.bind_some, len_t _ (Nat.and_lt_two_pow _ hu), Option.bind_some, if_pos (by omega), awake_t]
      rfl
    · rw [decide_eq_false h2, if_neg (by decide), awake_t]; rfl
  · rw [decide_eq_false h1, if_neg (by decide), awake_t]; rfl

end Go.Proofs.Ytjkllkbdmkkndaa.Pure
