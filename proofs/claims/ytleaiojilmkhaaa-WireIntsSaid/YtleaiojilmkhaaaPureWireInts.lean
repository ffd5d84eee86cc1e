/- Numbers with signs behind bytes. -/
import Derived.Test.YtleaiojilmkhaaaPWireIntsx2
import Derived.Test.YtleaiojilmkhaaaPlainT
import Derived.Test.YtleaiojilmkhaaaExt
import Derived.Test.YtleaiojilmkhaaaPlainS
import Derived.Test.YtleaiojilmkhaaaPlainX
namespace Go.Proofs.Ytleaiojilmkhaaa.Pure
open Go Go.RowKit Go.Proofs.Ytleaiojilmkhaaa.PWireInts Go.Proofs.YtleaiojilmkhaaaW.PrintWords Go.Proofs.YtleaiojilmkhaaaW.PrintLast Go.Proofs.YtleaiojilmkhaaaW.PrintMore Go.Proofs.Ytleaiojilmkhaaa.Wire

theorem awake_t : towlinelaw01_awake.f 100 = some true := by decide +kernel
theorem awake_le : ∀ k, 100 ≤ k → towlinelaw01_awake.f k = some true := by
  intro k hk
  induction k with
  | zero => omega
  | succ k ih =>
    rcases Nat.lt_or_ge k 100 with h | h
    · obtain rfl : k = 99 := by omega
      exact awake_t
    · exact towlinelaw01_awake.mono k true (ih h)
theorem rput_l1 (s : List Int) (x12 x13 : Int) : ∀ (f j k n : Nat) (acc : List Int), j + f = 9 → n < 128 ^ (f + 1) → n < 18446744073709551616 → acc.length + (11 - j) < 140737488355328 → f + 1 < k → ∃ k', k ≤ k' + f + 1 ∧ k' < k ∧ towlineref01_Put.l1 k acc (n : Int) s x12 x13 (j : Int) = towlineref01_Put.l0 k' (acc ++ enc f n) s x12 (wrap64 (x13 + 1)) := by
  intro f
  induction f with
  | zero =>
    intro j k n acc hj hn hn2 hl hk
    obtain ⟨k, rfl⟩ : ∃ k', k = k' + 1 := ⟨k - 1, by omega⟩
    refine ⟨k, by omega, by omega, ?_⟩
    simp only [towlineref01_Put.l1]
    rw [if_pos (by omega), if_pos (by omega), if_pos (by omega), show (n : Int) % 256 = (n : Int) by omega]
    rfl
  | succ f ih =>
    intro j k n acc hj hn hn2 hl hk
    obtain ⟨k, rfl⟩ : ∃ k', k = k' + 1 := ⟨k - 1, by omega⟩
    by_cases h : n < 128
    · refine ⟨k, by omega, by omega, ?_⟩
      simp only [towlineref01_Put.l1]
      rw [if_pos (by omega), if_pos (by omega), if_pos (by omega), show (n : Int) % 256 = (n : Int) by omega]
      unfold enc
      rw [if_pos h]
    · have hd : n / 128 < 128 ^ (f + 1) := by
        rw [Nat.pow_succ] at hn
        exact (Nat.div_lt_iff_lt_mul (by decide)).2 hn
      obtain ⟨k', h1, h2, h3⟩ := ih (j + 1) k (n / 128) (acc ++ [128 + (n : Int) % 128]) (by omega) hd (by omega) (by simp only [List.length_append, List.length_singleton]; omega) (by omega)
      refine ⟨k', by omega, by omega, ?_⟩
      simp only [towlineref01_Put.l1]
      rw [if_pos (by omega), if_neg (by omega), if_pos (by omega), Int.tmod_eq_emod_of_nonneg (by omega), Int.tdiv_eq_ediv_of_nonneg (by omega), show IntKind.u64.wrap (128 + (n : Int) % 128) % 256 = 128 + (n : Int) % 128 by rw [u64w]; omega, show IntKind.u64.wrap ((n : Int) / 128) = ((n / 128 : Nat) : Int) by rw [u64w]; omega, show wrap64 ((j : Int) + 1) = ((j + 1 : Nat) : Int) by unfold wrap64; omega, h3]
      rw [List.append_assoc]
      have e : enc (f + 1) n = (128 + (n : Int) % 128) :: enc f (n / 128) := by
        show (if n < 128 then _ else _) = _
        rw [if_neg h]
      rw [e]; rfl
theorem rput_l0 (s : List Int) (hs : ∀ x ∈ s, 0 ≤ x ∧ x < 18446744073709551616) (hlen : s.length < 140737488355328) : ∀ (r : List Int) (i k : Nat) (acc : List Int), s.drop i = r → i ≤ s.length → acc.length + 10 * r.length + 20 < 140737488355328 → 12 * r.length < k → towlineref01_Put.l0 k acc s (s.length : Int) (i : Int) = some (acc ++ Wire.encs r) := by
  intro r
  induction r with
  | nil =>
    intro i k acc hd hi hl hk
    obtain ⟨k, rfl⟩ : ∃ k', k = k' + 1 := ⟨k - 1, by omega⟩
    have h0 := List.drop_eq_nil_iff.1 hd
    simp only [towlineref01_Put.l0]
    rw [if_neg (by omega)]
    simp [Wire.encs]
  | cons x r ih =>
    intro i k acc hd hi hl hk
    obtain ⟨hx, hlt, hmem, hd2⟩ := rd_drop hd
    obtain ⟨hx0, hx1⟩ := hs x hmem
    obtain ⟨b, rfl⟩ := Int.eq_ofNat_of_zero_le hx0
    rw [List.length_cons] at hk hl
    obtain ⟨k, rfl⟩ : ∃ k', k = k' + 1 := ⟨k - 1, by omega⟩
    simp only [towlineref01_Put.l0]
    rw [if_pos (by omega), if_pos (by omega), if_pos (by omega), hx]
    obtain ⟨k', h1, h2, h3⟩ := rput_l1 s (s.length : Int) (i : Int) 9 0 k b acc rfl (by omega) (by omega) (by omega) (by omega)
    refine h3.trans ?_
    clear h3
    rw [show wrap64 ((i : Int) + 1) = ((i + 1 : Nat) : Int) by unfold wrap64; omega]
    have hl2 := enc_len 9 b
    rw [ih (i + 1) k' _ hd2 (by omega) (by rw [List.length_append]; omega) (by omega)]
    unfold Wire.encs
    rw [List.flatMap_cons, List.append_assoc, Int.toNat_natCast]
theorem rput (l s : List Int) (hs : ∀ x ∈ s, 0 ≤ x ∧ x < 18446744073709551616) (hl : l.length + 10 * s.length + 20 < 140737488355328) (k : Nat) (hk : 12 * s.length < k) : towlineref01_Put.f k l s = some (l ++ Wire.encs s) := by
  unfold towlineref01_Put.f
  rw [Option.bind_some, if_pos (by simp only [List.length_nil]; omega), List.nil_append]
  exact rput_l0 s hs (by omega) s 0 k l rfl (Nat.zero_le _) hl hk
theorem turn_t (n : Int) (h : -9223372036854775808 ≤ n ∧ n ≤ 9223372036854775807) : wire_Turn.f n = some (turnP n) := by unfold wire_Turn.f; rw [turn_w n h]
theorem turn_r (n : Int) (h : -9223372036854775808 ≤ n ∧ n ≤ 9223372036854775807) : towlineref01_Turn.f n = some (turnP n) := by
  unfold towlineref01_Turn.f
  by_cases h0 : n ≥ 0
  · rw [if_pos h0, turn_r0 n h h0]
  · rw [if_neg h0, turn_r1 n h h0]
theorem put_one (l : List Int) (x : Int) (hx : 0 ≤ x ∧ x < 18446744073709551616) (hl : l.length < 100000000) : wire_Put.f l [x] = some (l ++ enc 9 x.toNat) := by
  unfold wire_Put.f
  rw [if_pos ⟨by simp, by simp [u64s]; omega, by simp only [List.length_singleton]; omega⟩]
  simp [Wire.encs]
theorem encs_cons (x : Int) (r : List Int) : Wire.encs (x :: r) = enc 9 x.toNat ++ Wire.encs r := by unfold Wire.encs; rw [List.flatMap_cons]
theorem ints_w (s : List Int) (hs : ∀ x ∈ s, -9223372036854775808 ≤ x ∧ x ≤ 9223372036854775807) (hlen : s.length ≤ 500) : ∀ (r : List Int) (i k : Nat) (acc : List Int), s.drop i = r → i ≤ s.length → acc.length + 10 * r.length ≤ 50000 → r.length < k → wire_PutInts.l0 k acc s (s.length : Int) (i : Int) = some (acc ++ Wire.encs (r.map turnP)) := by
  intro r
  induction r with
  | nil =>
    intro i k acc hd hi hl hk
    obtain ⟨k, rfl⟩ : ∃ k', k = k' + 1 := ⟨k - 1, by omega⟩
    have h0 := List.drop_eq_nil_iff.1 hd
    simp only [wire_PutInts.l0]
    rw [if_neg (by omega)]
    simp [Wire.encs]
  | cons x r ih =>
    intro i k acc hd hi hl hk
    obtain ⟨hx, hlt, hmem, hd2⟩ := rd_drop hd
    have hxr := hs x hmem
    rw [List.length_cons] at hk hl
    obtain ⟨k, rfl⟩ : ∃ k', k = k' + 1 := ⟨k - 1, by omega⟩
    have hen := enc_len 9 (turnP x).toNat
    have e := ih (i + 1) k (acc ++ enc 9 (turnP x).toNat) hd2 (by omega) (by rw [List.length_append]; omega) (by omega)
    simp only [wire_PutInts.l0]
    rw [if_pos (by omega), if_pos (by omega), if_pos (by omega), hx, turn_t x hxr, Option.bind_some, put_one _ _ (turn_range x hxr) (by omega), Option.bind_some, show wrap64 ((i : Int) + 1) = ((i + 1 : Nat) : Int) by unfold wrap64; omega, e, List.map_cons, encs_cons, List.append_assoc]
theorem ints_r (s : List Int) (hs : ∀ x ∈ s, -9223372036854775808 ≤ x ∧ x ≤ 9223372036854775807) (hlen : s.length ≤ 500) : ∀ (r : List Int) (i k : Nat) (acc : List Int), s.drop i = r → i ≤ s.length → acc.length + 10 * r.length ≤ 50000 → r.length + 100 < k → towlineref01_Ints.l0 k acc s (s.length : Int) (i : Int) = some (acc ++ Wire.encs (r.map turnP)) := by
  intro r
  induction r with
  | nil =>
    intro i k acc hd hi hl hk
    obtain ⟨k, rfl⟩ : ∃ k', k = k' + 1 := ⟨k - 1, by omega⟩
    have h0 := List.drop_eq_nil_iff.1 hd
    simp only [towlineref01_Ints.l0]
    rw [if_neg (by omega), Option.bind_some, if_pos (by simp only [List.length_nil]; omega), List.nil_append]
    simp [Wire.encs]
  | cons x r ih =>
    intro i k acc hd hi hl hk
    obtain ⟨hx, hlt, hmem, hd2⟩ := rd_drop hd
    have hxr := hs x hmem
    have htr := turn_range x hxr
    rw [List.length_cons] at hk hl
    obtain ⟨k, rfl⟩ : ∃ k', k = k' + 1 := ⟨k - 1, by omega⟩
    have hen := enc_len 9 (turnP x).toNat
    have e := ih (i + 1) k (acc ++ enc 9 (turnP x).toNat) hd2 (by omega) (by rw [List.length_append]; omega) (by omega)
    have h1 : towlineref01_Put.f k acc [turnP x] = some (acc ++ enc 9 (turnP x).toNat) := by
      rw [rput acc [turnP x] (by simp; omega) (by simp only [List.length_singleton]; omega) k (by simp only [List.length_singleton]; omega), encs_cons]
      simp [Wire.encs]
    simp only [towlineref01_Ints.l0]
    rw [if_pos (by omega), if_pos (by omega), if_pos (by omega), hx, turn_r x hxr, Option.bind_some, h1, Option.bind_some, show wrap64 ((i : Int) + 1) = ((i + 1 : Nat) : Int) by unfold wrap64; omega, e, List.map_cons, encs_cons, List.append_assoc]
theorem bseq (l : List Int) : bytes_Equal.f l l = some true := by unfold bytes_Equal.f; simp
theorem WireInts : towlinelaw01_WireInts.Pure := by
  intro b l yes _ _ hb _ _ hl
  have hL : ∀ x ∈ l, -9223372036854775808 ≤ x ∧ x ≤ 9223372036854775807 := fun x hx => wf_i64 (hl x hx)
  refine ⟨10000, ?_⟩
  have main : ∀ z : Bool, (z = false → b.length ≤ 16384 ∧ l.length ≤ 500) → towlinelaw01_WireInts.j0 10000 b l yes z = some true := by
    intro z hz
    cases z with
    | true =>
      simp only [towlinelaw01_WireInts.j0]
      rw [if_pos trivial, awake_le _ (by decide)]; rfl
    | false =>
      obtain ⟨h1, h2⟩ := hz rfl
      have hw : wire_PutInts.f 9999 b l = some (b ++ Wire.encs (l.map turnP)) := ints_w l hL h2 l 0 9999 b rfl (Nat.zero_le _) (by omega) (by omega)
      have hr : towlineref01_Ints.f 9999 b l = some (b ++ Wire.encs (l.map turnP)) := ints_r l hL h2 l 0 9999 b rfl (Nat.zero_le _) (by omega) (by omega)
      have hone : ∀ x : Int, 0 ≤ x ∧ x < 18446744073709551616 → towlineref01_Put.f 9999 b [x] = some (b ++ enc 9 x.toNat) := fun x hx => by
        rw [rput b [x] (by simp; omega) (by simp only [List.length_singleton]; omega) _ (by simp only [List.length_singleton]; omega), encs_cons]
        simp [Wire.encs]
      have hbo : ∃ z, wire_PutBool.f b yes = some z ∧ towlineref01_Bool.f 9999 b yes = some z := by
        unfold wire_PutBool.f towlineref01_Bool.f
        cases yes with
        | true => exact ⟨b ++ enc 9 (1 : Int).toNat, by simp [put_one b 1 (by decide) (by omega)], by simp [hone 1 (by decide)]⟩
        | false => exact ⟨b ++ enc 9 (0 : Int).toNat, by simp [put_one b 0 (by decide) (by omega)], by simp [hone 0 (by decide)]⟩
      obtain ⟨z, hz1, hz2⟩ := hbo
      simp only [towlinelaw01_WireInts.j0]
      rw [if_neg (by decide), hw, Option.bind_some, hr, Option.bind_some, bseq, Option.bind_some, if_pos rfl, hz1, Option.bind_some, hz2, Option.bind_some, bseq, Option.bind_some, if_pos rfl, awake_le _ (by decide)]
      rfl
  unfold towlinelaw01_WireInts.f
  by_cases h1 : (b.length : Int) > 16384
  · rw [if_pos h1]; exact main true (by intro h; cases h)
  · rw [if_neg h1]; exact main _ (fun h => ⟨by omega, by have := of_decide_eq_false h; omega⟩)

end Go.Proofs.Ytleaiojilmkhaaa.Pure
