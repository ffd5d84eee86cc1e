/- The example of the laws, as one contract; a number with a sign that is read back. -/
import Derived.Test.YtleaiojilmkhaaaPWireBackx
import Derived.Test.YtleaiojilmkhaaaNobody
import Derived.Test.YtleaiojilmkhaaaExt
import Derived.Test.YtleaiojilmkhaaaPlainT
import Derived.Test.YtleaiojilmkhaaaPlainX
namespace Go.Proofs.Ytleaiojilmkhaaa.Wk
open Go Go.RowKit Go.Proofs.YtleaiojilmkhaaaW.PrintWords Go.Proofs.YtleaiojilmkhaaaW.PrintLast Go.Proofs.YtleaiojilmkhaaaW.PrintMore Go.Proofs.Ytleaiojilmkhaaa.Wire
open Go.Proofs.Ytleaiojilmkhaaa.PWireBack
set_option linter.unusedVariables false
theorem awake_t : towlinelaw01_awake.f 100 = some true := by decide +kernel
theorem awake_any (w : World) : Calls Try.prog 16 #[] w fun e w' => e = .returned (.bool true) ∧ Below w.heap.size w w' := towlinelaw01_awake.calls 100 true w awake_t
theorem Back_any (m : Nat) (h : m < 18446744073709551616) (w : World) : Calls Try.prog 28 #[.int .u64 (m : Int)] w fun e w' => e = .returned (.int .i64 (backP m)) ∧ Drawn0 w w' :=
  wire_Back.calls (m : Int) (backP m) w (congrArg some (back_w m h))
theorem Int_nb (v : Value) (w : World) (h : NB v w) : Calls Try.prog 40 #[v] w fun e w' => e = .returned (.int .i64 0) ∧ Drawn0 w w' := by
  have H := Aside0.mk h
  clear h
  have b0 := @Back_any 0 (by decide)
  rw [show backP ((0 : Nat) : Int) = 0 by decide, show ((0 : Nat) : Int) = 0 from rfl] at b0
  have HB0 := Aside0.mk b0
  clear b0
  go_enter Try.func40, Try.ntmps40
  go_wp2_with (fail)
  refine (Number_nb v _ H.out).mono ?_
  rintro e w1 ⟨rfl, ⟨n0, rfl⟩⟩
  go_wp2_with (fail)
  refine (HB0.out _).mono ?_
  rintro e w1 ⟨rfl, ⟨n1, rfl⟩⟩
  go_wp2
  go_ret
  exact ⟨rfl, n0 + n1, rfl⟩
theorem psum_l1 (s : List Int) (x8 x9 : Int) : ∀ (n j k : Nat) (c : Nat), c < 4294967296 → j + n = 8 → n < k → wire_Sum.l1 k (c : Int) s x8 x9 (j : Int) = wire_Sum.l0 (k - n - 1) ((bitsS n c : Nat) : Int) s x8 (wrap64 (x9 + 1)) := by
  intro n
  induction n with
  | zero =>
    intro j k c hc hj hk
    obtain ⟨k, rfl⟩ : ∃ k', k = k' + 1 := ⟨k - 1, by omega⟩
    simp only [wire_Sum.l1]
    rw [if_neg (by omega)]
    rfl
  | succ n ih =>
    intro j k c hc hj hk
    obtain ⟨k, rfl⟩ : ∃ k', k = k' + 1 := ⟨k - 1, by omega⟩
    simp only [wire_Sum.l1]
    rw [if_pos (by omega), bit_w c hc, show wrap64 ((j : Int) + 1) = ((j + 1 : Nat) : Int) by unfold wrap64; omega, ih (j + 1) k (bitS c) (bitS_lt hc) (by omega) (by omega), show k + 1 - (n + 1) - 1 = k - n - 1 by omega]
    rfl
theorem psum_l0 (s : List Int) (hs : Bs s) (hlen : s.length < 140737488355328) : ∀ (r : List Int) (i k c : Nat), s.drop i = r → c < 4294967296 → i ≤ s.length → 10 * r.length < k → wire_Sum.l0 k (c : Int) s (s.length : Int) (i : Int) = some ((4294967295 ^^^ crc r c : Nat) : Int) := by
  intro r
  induction r with
  | nil =>
    intro i k c hd hc hi hk
    obtain ⟨k, rfl⟩ : ∃ k', k = k' + 1 := ⟨k - 1, by omega⟩
    have h0 := List.drop_eq_nil_iff.1 hd
    simp only [wire_Sum.l0]
    rw [if_neg (by omega), show (4294967295 : Int) = ((4294967295 : Nat) : Int) from rfl, u32_xor_nat _ _ (by decide) hc]
    rfl
  | cons x r ih =>
    intro i k c hd hc hi hk
    obtain ⟨hx, hlt, hmem, hd2⟩ := rd_drop hd
    obtain ⟨hx0, hx1⟩ := hs x hmem
    obtain ⟨b, rfl⟩ := Int.eq_ofNat_of_zero_le hx0
    rw [List.length_cons] at hk
    obtain ⟨k, rfl⟩ : ∃ k', k = k' + 1 := ⟨k - 1, by omega⟩
    simp only [wire_Sum.l0]
    rw [if_pos (by omega), if_pos (by omega), if_pos (by omega), hx, show (b : Int) % 4294967296 = (b : Int) by omega, u32_xor_nat _ _ hc (by omega)]
    have h1 := psum_l1 s (s.length : Int) (i : Int) 8 0 k (c ^^^ b) (xor_lt hc (by omega)) rfl (by omega)
    refine h1.trans ?_
    clear h1
    rw [show wrap64 ((i : Int) + 1) = ((i + 1 : Nat) : Int) by unfold wrap64; omega]
    exact ih (i + 1) _ _ hd2 (bitsS_lt 8 _ (xor_lt hc (by omega))) (by omega) (by omega)
theorem psum (s : List Int) (hs : Bs s) (hlen : s.length < 140737488355328) (k : Nat) (hk : 10 * s.length < k) : wire_Sum.f k s = some (sumP s) := psum_l0 s hs hlen s 0 k 4294967295 rfl (by decide) (Nat.zero_le _) hk
theorem pseal_long (l : List Int) (h : 8192 < l.length) (k : Nat) : wire_Seal.f k l = some ([], 4) := by
  unfold wire_Seal.f; rw [if_pos (by omega)]
theorem pseal (l : List Int) (hb : Bs l) (h : l.length ≤ 8192) (k : Nat) (hk : 90000 < k) : wire_Seal.f k l = some (sealP l, 0) := by
  have hw : IntKind.u64.wrap (l.length : Int) = (l.length : Int) := by rw [u64w]; omega
  have hes : Wire.encs [(l.length : Int)] = enc 9 l.length := by simp [Wire.encs]
  have hen := enc_len 9 l.length
  have hr := rec_len l h
  have hp : wire_PutBytes.f [] l = some (recP l) := by
    unfold wire_PutBytes.f wire_Put.f recP
    rw [hw, if_pos ⟨by simp, by simp [u64s]; omega, by simp only [List.length_singleton, List.length_nil]; omega⟩, Option.bind_some, hes, List.nil_append, if_pos (by omega)]
  unfold wire_Seal.f wire_four.f
  rw [if_neg (by omega), hp, Option.bind_some, psum _ (rec_bs hb (by omega)) (by omega) _ (by omega), Option.bind_some, Option.bind_some, if_pos (by simp only [List.length_cons, List.length_nil]; omega)]
  rfl
theorem ono_reads {A A' : Option Addr} {l : List Int} {W : World} {base n c : Nat} {xs : List Int} (h : OnO A l W base (.slice A' n c) xs) : Kd.C (Kd.int .u8) W A' xs.length xs ∧ xs.length ≤ c := by
  rcases h with ⟨hv, hx, hC, _⟩ | h
  · injection hv with h1 h2 h3
    subst h1 h2 h3 hx
    exact ⟨hC, Nat.le_refl _⟩
  · exact ⟨(Kd.R_reads' h).2.2, by have h1 := (Kd.R_reads' h).1; have h2 := (Kd.R_reads' h).2.1; omega⟩
theorem bseq (l : List Int) : bytes_Equal.f l l = some true := by unfold bytes_Equal.f; simp
/-- Seal of bytes that are not too many. -/
theorem Seal_any (A0 : Option Addr) (c0 : Nat) (l0 : List Int) (w : World) (hr0 : Kd.C (Kd.int .u8) w A0 l0.length l0) (hc0 : l0.length ≤ c0) (hb : Bs l0) (hl : l0.length ≤ 8192) :
    Calls Try.prog 22 #[.slice A0 l0.length c0] w fun e w' => ∃ v0_ : Value, e = .returned (.tuple #[v0_, .int .i64 0]) ∧ Kd.R (Kd.int .u8) 5 w' w.heap.size (fun _ => True) v0_ (sealP l0) ∧ Below w.heap.size w w' :=
  wire_Seal.calls 90001 A0 c0 l0 (sealP l0) 0 w hr0 hc0 (pseal l0 hb hl 90001 (by decide))
end Go.Proofs.Ytleaiojilmkhaaa.Wk
