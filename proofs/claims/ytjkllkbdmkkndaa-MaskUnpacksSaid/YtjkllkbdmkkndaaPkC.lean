/- What is packed is unpacked as it was, and the other way around, in plain words. -/
import Derived.Test.YtjkllkbdmkkndaaPkB
namespace Go.Proofs.Ytjkllkbdmkkndaa.Pk
open Go Go.RowKit Go.Proofs.YtjkllkbdmkkndaaW.PrintWords Go.Proofs.YtjkllkbdmkkndaaW.PrintLast Go.Proofs.YtjkllkbdmkkndaaW.PrintMore Go.Proofs.Ytjkllkbdmkkndaa.Bits Go.Proofs.Ytjkllkbdmkkndaa.Ref
open Go.Proofs.Ytjkllkbdmkkndaa.PMaskUnpacks
set_option linter.unusedVariables false
def resU (o : Option (List S56)) : List S56 × Int := match o with | some l => (l, 0) | none => ([], 20)
theorem signed_given (x b : Nat) (h0 : 1 ≤ b) (h1 : b ≤ 64) : mask_Signed.f (x : Int) (b : Int) = some (signedOf x b) := by
  unfold mask_Signed.f
  have e : wrap64 (64 - (b : Int)) = ((64 - b : Nat) : Int) := by unfold wrap64; omega
  rw [if_neg (by omega), if_neg (by omega), e, if_pos (show (0 : Int) ≤ ((64 - b : Nat) : Int) by omega), shl_t x _ (by omega), shr_i64 _ _ (by omega), signed_shift x b (by omega) (by omega)]
theorem mod_lt_pow (x b : Nat) (h : b ≤ 64) : x % 2 ^ b < 2 ^ 64 := Nat.lt_of_lt_of_le (Nat.mod_lt _ (Nat.two_pow_pos _)) (Nat.pow_le_pow_right (by decide) h)
theorem wrap_neg_iff (x : Nat) (hx : x < 2 ^ 64) : wrap64 (x : Int) < 0 ↔ 9223372036854775807 < (x : Int) := by unfold wrap64; omega
theorem valR_false (y b : Nat) : valR y b false = wrap64 ((y % 2 ^ b : Nat) : Int) := by unfold valR; exact if_neg (by decide)
theorem unpack_from (w : Nat) (hw : w < 2 ^ 64) (l : List S56) (hl : l.length ≤ 500) : ∀ d (j a : Nat) (acc : List S56), d = l.length - j → j ≤ l.length → a ≤ 64 → acc.length ≤ j → ∀ k, 3 * d < k → mask_Unpack.l0 k (w : Int) acc (a : Int) l (l.length : Int) (j : Int) = some (resU (unpackR w (l.drop j) a acc)) := by
  intro d
  induction d with
  | zero =>
    intro j a acc hd hj ha hacc k hk
    obtain rfl : j = l.length := by omega
    obtain ⟨k, rfl⟩ : ∃ m, k = m + 1 := ⟨k - 1, by omega⟩
    rw [mask_Unpack.l0, if_neg (by omega), List.drop_length, unpackR]
    by_cases c : (a : Int) < 64
    · rw [if_pos c, if_pos (by omega), shr_t _ _ ha]
      by_cases c2 : w / 2 ^ a = 0
      · rw [if_pos (by omega), if_pos c2]; rfl
      · rw [if_neg (by omega), if_neg c2]; rfl
    · obtain rfl : a = 64 := by omega
      rw [if_neg c, if_pos (Nat.div_eq_of_lt hw)]; rfl
  | succ d ih =>
    intro j a acc hd hj ha hacc k hk
    have hlt : j < l.length := by omega
    obtain ⟨k, rfl⟩ : ∃ m, k = m + 1 + 1 + 1 := ⟨k - 3, by omega⟩
    have hsub : wrap64 (64 - (a : Int)) = 64 - (a : Int) := by unfold wrap64; omega
    rw [mask_Unpack.l0, if_pos (by omega), if_pos (by omega), if_pos (by omega), rd_at l j hlt, List.drop_eq_getElem_cons hlt]
    generalize l[j] = f at *
    obtain ⟨b, v, s⟩ := f
    simp only []
    rw [unpackR]
    simp only []
    by_cases c1 : b < 1
    · rw [if_pos c1, mask_Unpack.j1, if_pos rfl, if_neg (by omega)]; rfl
    · rw [if_neg c1, mask_Unpack.j1, hsub]
      by_cases c2 : b > 64 - (a : Int)
      · rw [if_pos (decide_eq_true c2), if_neg (by omega)]; rfl
      · rw [if_neg (by simp; omega), if_pos (by omega), if_pos (show 1 ≤ b ∧ b ≤ 64 - (a : Int) by omega)]
        obtain ⟨n, rfl⟩ := Int.eq_ofNat_of_zero_le (show 0 ≤ b by omega)
        have hq : w / 2 ^ a < 2 ^ 64 := Nat.lt_of_le_of_lt (Nat.div_le_self _ _) hw
        rw [shr_t _ _ ha, cut_given _ _ hq (by omega) (by omega), Option.bind_some, Int.toNat_natCast]
        have hx := mod_lt_pow (w / 2 ^ a) n (by omega)
        have hnw := Aside0.mk (show wrap64 ((a : Int) + (n : Int)) = ((a + n : Nat) : Int) by unfold wrap64; omega)
        clear hsub
        cases s with
        | true =>
          rw [if_pos rfl, mask_Unpack.j2, if_neg (by decide), if_pos rfl, signed_given _ _ (by omega) (by omega), Option.bind_some, if_pos (by omega), if_neg (by simp), hnw.out, wrap_succ j (by omega)]
          unfold valR
          rw [if_pos rfl]
          exact ih (j + 1) (a + n) _ (by omega) (by omega) (by omega) (by rw [List.length_append, List.length_singleton]; omega) k (by omega)
        | false =>
          rw [if_neg (show ¬ (false = true) by decide)]
          have hbig : n ≠ 64 → ¬ 9223372036854775807 < ((w / 2 ^ a % 2 ^ n : Nat) : Int) := by
            intro hne
            have h1 : w / 2 ^ a % 2 ^ n < 2 ^ n := Nat.mod_lt _ (Nat.two_pow_pos _)
            have h2 : (2 : Nat) ^ n ≤ 2 ^ 63 := Nat.pow_le_pow_right (by decide) (by omega)
            omega
          rw [valR_false]
          have hiff := Aside0.mk (wrap_neg_iff _ hx)
          generalize w / 2 ^ a % 2 ^ n = z at *
          have main : ∀ bb : Bool, bb = decide (9223372036854775807 < (z : Int)) → mask_Unpack.j2 (k + 1) (w : Int) acc (a : Int) (z : Int) l (l.length : Int) (j : Int) bb (n : Int) v false = some (resU (if false = false ∧ wrap64 (z : Int) < 0 then none else unpackR w (l.drop (j + 1)) (a + n) (acc ++ [⟨(n : Int), wrap64 (z : Int), false⟩]))) := by
            intro bb hbb
            rw [mask_Unpack.j2]
            by_cases c3 : 9223372036854775807 < (z : Int)
            · rw [hbb, if_pos (decide_eq_true c3), if_pos ⟨rfl, hiff.out.2 c3⟩]; rfl
            · rw [hbb, if_neg (by simpa using c3), if_neg (show ¬ (false = true) by decide), if_pos (by omega), if_neg (fun h => c3 (hiff.out.1 h.2)), hnw.out, wrap_succ j (by omega)]
              exact ih (j + 1) (a + n) _ (by omega) (by omega) (by omega) (by rw [List.length_append, List.length_singleton]; omega) k (by omega)
          by_cases c4 : (n : Int) = 64
          · rw [if_pos c4]; exact main _ rfl
          · rw [if_neg c4]; exact main _ (decide_eq_false (hbig (by omega))).symm
theorem unpack_given (w : Nat) (hw : w < 2 ^ 64) (l : List S56) (hl : l.length ≤ 500) : mask_Unpack.f 1502 (w : Int) l = some (resU (unpackR w l 0 [])) := by
  have := unpack_from w hw l hl (l.length - 0) 0 0 [] rfl (by omega) (by omega) (by simp) 1502 (by omega)
  rw [List.drop_zero] at this
  exact this
theorem wd_mod (v : Int) (b : Nat) (hb : b ≤ 64) : ((wd v % 2 ^ b : Nat) : Int) = v % (2 : Int) ^ b := by
  unfold wd
  have h1 : (((v % 18446744073709551616).toNat : Nat) : Int) = v % 18446744073709551616 := by omega
  rw [Int.natCast_emod, h1, pow_i]
  apply Int.emod_emod_of_dvd
  refine ⟨(2 : Int) ^ (64 - b), ?_⟩
  rw [← Int.pow_add, show b + (64 - b) = 64 by omega]; decide
theorem emod_neg (v p : Int) (h0 : -p ≤ v) (h1 : v < 0) : v % p = v + p := by
  rw [← Int.add_emod_right]; exact Int.emod_eq_of_lt (by omega) (by omega)
theorem pow_half (b : Nat) (h : 1 ≤ b) : (2 : Int) ^ b = 2 * 2 ^ (b - 1) := by
  obtain ⟨m, rfl⟩ : ∃ m, b = m + 1 := ⟨b - 1, by omega⟩
  rw [show m + 1 - 1 = m by omega, Int.pow_succ, Int.mul_comm]
/-- The value that fits is what its lowest bits tell. -/
theorem val_back (b : Nat) (v : Int) (s : Bool) (h : fitsOk (b : Int) v s = true) (h0 : -9223372036854775808 ≤ v) (h1 : v ≤ 9223372036854775807) (y : Nat) (hy : y % 2 ^ b = wd v % 2 ^ b) : valR y b s = v := by
  have hb := fitsOk_bits h
  unfold valR
  rw [hy]
  have hm := wd_mod v b (by omega)
  unfold fitsOk at h
  rw [Int.toNat_natCast] at h
  cases s with
  | true =>
    simp at h
    rw [if_pos rfl, signedOf_eq _ _ (by omega) (by omega), Nat.mod_mod]
    have hh := pow_half b (by omega)
    have hp := pow_pos_i (b - 1)
    have e1 := pow_i (b - 1)
    have e2 := pow_i b
    generalize (2 : Int) ^ (b - 1) = p at *
    generalize (2 : Int) ^ b = q at *
    generalize (2 : Nat) ^ (b - 1) = pn at *
    generalize (2 : Nat) ^ b = qn at *
    generalize wd v % qn = z at *
    by_cases c : v < 0
    · have := emod_neg v q (by omega) c
      rw [if_neg (by omega)]; omega
    · have := Int.emod_eq_of_lt (show 0 ≤ v by omega) (show v < q by omega)
      rw [if_pos (by omega)]; omega
  | false =>
    simp at h
    rw [if_neg (by decide), hm, Int.emod_eq_of_lt h.2.1 h.2.2]
    unfold wrap64; omega
theorem val_true (y b : Nat) (h0 : 1 ≤ b) (h1 : b ≤ 64) : ∃ r : Int, valR y b true = r ∧ -(2 ^ (b - 1)) ≤ r ∧ r < 2 ^ (b - 1) ∧ r % 2 ^ b = ((y % 2 ^ b : Nat) : Int) := by
  have hz : y % 2 ^ b < 2 ^ b := Nat.mod_lt _ (Nat.two_pow_pos _)
  have hh := pow_half b h0
  have hp := pow_pos_i (b - 1)
  have e1 := pow_i (b - 1)
  have e2 := pow_i b
  have hv : valR y b true = if y % 2 ^ b < 2 ^ (b - 1) then ((y % 2 ^ b : Nat) : Int) else ((y % 2 ^ b : Nat) : Int) - ((2 ^ b : Nat) : Int) := by
    unfold valR; rw [if_pos rfl, signedOf_eq _ _ h0 h1, Nat.mod_mod]
  refine ⟨_, hv, ?_⟩
  clear hv
  generalize (2 : Int) ^ (b - 1) = p at *
  generalize (2 : Int) ^ b = q at *
  generalize (2 : Nat) ^ (b - 1) = pn at *
  generalize (2 : Nat) ^ b = qn at *
  generalize y % qn = z at *
  by_cases c : z < pn
  · rw [if_pos c]; exact ⟨by omega, by omega, Int.emod_eq_of_lt (by omega) (by omega)⟩
  · rw [if_neg c]; exact ⟨by omega, by omega, by rw [emod_neg _ _ (by omega) (by omega)]; omega⟩
theorem wrap_small (z : Nat) (h : ¬ 9223372036854775807 < (z : Int)) : wrap64 (z : Int) = (z : Int) := by unfold wrap64; omega
theorem val_false (y b : Nat) (h0 : 1 ≤ b) (h1 : b ≤ 64) (hn : ¬ valR y b false < 0) : ∃ r : Int, valR y b false = r ∧ 0 ≤ r ∧ r < 2 ^ b ∧ r % 2 ^ b = ((y % 2 ^ b : Nat) : Int) ∧ r ≤ 9223372036854775807 := by
  have hz : y % 2 ^ b < 2 ^ b := Nat.mod_lt _ (Nat.two_pow_pos _)
  have hn2 : ¬ 9223372036854775807 < ((y % 2 ^ b : Nat) : Int) := fun h => hn (by rw [valR_false]; exact (wrap_neg_iff _ (mod_lt_pow y b h1)).2 h)
  have hv : valR y b false = ((y % 2 ^ b : Nat) : Int) := (valR_false y b).trans (wrap_small _ hn2)
  have e2 := pow_i b
  refine ⟨_, hv, ?_⟩
  clear hv hn
  generalize (2 : Int) ^ b = q at *
  generalize (2 : Nat) ^ b = qn at *
  generalize y % qn = z at *
  exact ⟨by omega, by omega, Int.emod_eq_of_lt (by omega) (by omega), by omega⟩
theorem val_fits (y b : Nat) (s : Bool) (h0 : 1 ≤ b) (h1 : b ≤ 64) (hn : ¬ (s = false ∧ valR y b s < 0)) : fitsOk (b : Int) (valR y b s) s = true ∧ wd (valR y b s) % 2 ^ b = y % 2 ^ b ∧ -9223372036854775808 ≤ valR y b s ∧ valR y b s ≤ 9223372036854775807 := by
  have hle := pow_le63 (b - 1) (by omega)
  cases s with
  | true =>
    obtain ⟨r, hr, r1, r2, r3⟩ := val_true y b h0 h1
    rw [hr]
    clear hr hn
    refine ⟨?_, Int.ofNat.inj ((wd_mod r b h1).trans r3), by omega, by omega⟩
    unfold fitsOk
    rw [Int.toNat_natCast, decide_eq_true (show (1 : Int) ≤ (b : Int) by omega), decide_eq_true (show (b : Int) ≤ 64 by omega), if_pos rfl, decide_eq_true r1, decide_eq_true r2]; rfl
  | false =>
    obtain ⟨r, hr, r1, r2, r3, r4⟩ := val_false y b h0 h1 (fun h => hn ⟨rfl, h⟩)
    rw [hr]
    clear hr hn
    refine ⟨?_, Int.ofNat.inj ((wd_mod r b h1).trans r3), by omega, r4⟩
    unfold fitsOk
    rw [Int.toNat_natCast, decide_eq_true (show (1 : Int) ≤ (b : Int) by omega), decide_eq_true (show (b : Int) ≤ 64 by omega), if_neg (show ¬ (false = true) by decide), decide_eq_true r1, decide_eq_true r2]; rfl
theorem pack_unpack : ∀ (l : List S56) (w a x : Nat) (acc : List S56), (∀ f ∈ l, GF f) → w < 2 ^ a → a ≤ 64 → packR l w a = some x → x % 2 ^ a = w ∧ x < 2 ^ 64 ∧ unpackR x l a acc = some (acc ++ l) := by
  intro l
  induction l with
  | nil =>
    intro w a x acc _ hw ha h
    obtain rfl := Option.some.inj h
    refine ⟨Nat.mod_eq_of_lt hw, Nat.lt_of_lt_of_le hw (Nat.pow_le_pow_right (by decide) ha), ?_⟩
    rw [unpackR, if_pos (Nat.div_eq_of_lt hw), List.append_nil]
  | cons f l ih =>
    intro w a x acc hG hw ha h
    obtain ⟨b, v, s⟩ := f
    rw [packR] at h
    by_cases c : fitsOk b v s = true ∧ b ≤ 64 - (a : Int)
    · rw [if_pos c] at h
      have hb := fitsOk_bits c.1
      obtain ⟨n, rfl⟩ := Int.eq_ofNat_of_zero_le (show 0 ≤ b by omega)
      simp only [Int.toNat_natCast] at h
      have hg := Aside0.mk (hG _ List.mem_cons_self)
      have HC := Aside0.mk c
      have hc2 := c.2
      clear c
      obtain ⟨h1, h2, h3⟩ := ih _ _ x (acc ++ [⟨(n : Int), v, s⟩]) (fun f hf => hG f (List.mem_cons_of_mem _ hf)) (put_lt w (wd v) a n hw) (by omega) h
      have h4 : x % 2 ^ a = w := by
        have : x % 2 ^ (a + n) % 2 ^ a = x % 2 ^ a := Nat.mod_mod_of_dvd _ (Nat.pow_dvd_pow _ (by omega))
        rw [← this, h1, Nat.add_mul_mod_self_right, Nat.mod_eq_of_lt hw]
      have h5 : x / 2 ^ a % 2 ^ n = wd v % 2 ^ n := by
        rw [← Nat.mod_mul_right_div_self, ← Nat.pow_add, h1, Nat.add_mul_div_right _ _ (Nat.two_pow_pos _), Nat.div_eq_of_lt hw, Nat.zero_add]
      have h6 := val_back n v s HC.out.1 hg.out.1 hg.out.2 _ h5
      refine ⟨h4, h2, ?_⟩
      rw [unpackR]
      simp only [Int.toNat_natCast]
      rw [if_pos ⟨hb.1, hc2⟩, h6, if_neg ?_, h3, List.append_assoc]; rfl
      rintro ⟨rfl, hneg⟩
      have hf := HC.out.1
      clear h1 h2 h3 h4 h5 h6 h hw ih
      unfold fitsOk at hf; simp at hf; omega
    · rw [if_neg c] at h; cases h
theorem unpack_pack (w : Nat) (hw : w < 2 ^ 64) : ∀ (l : List S56) (a : Nat) (acc k : List S56), a ≤ 64 → unpackR w l a acc = some k → ∃ k', k = acc ++ k' ∧ k'.length = l.length ∧ (∀ f ∈ k', GF f) ∧ packR k' (w % 2 ^ a) a = some w := by
  intro l
  induction l with
  | nil =>
    intro a acc k ha h
    rw [unpackR] at h
    by_cases c : w / 2 ^ a = 0
    · rw [if_pos c] at h
      refine ⟨[], by rw [List.append_nil]; exact (Option.some.inj h).symm, rfl, by simp, ?_⟩
      rw [packR, Nat.mod_eq_of_lt (by
        rcases Nat.div_eq_zero_iff.1 c with h | h
        · have := Nat.two_pow_pos a; omega
        · exact h)]
    · rw [if_neg c] at h; cases h
  | cons f l ih =>
    intro a acc k ha h
    obtain ⟨b, v, s⟩ := f
    rw [unpackR] at h
    simp only [] at h
    by_cases c : 1 ≤ b ∧ b ≤ 64 - (a : Int)
    · rw [if_pos c] at h
      obtain ⟨n, rfl⟩ := Int.eq_ofNat_of_zero_le (show 0 ≤ b by omega)
      rw [Int.toNat_natCast] at h
      by_cases c2 : s = false ∧ valR (w / 2 ^ a) n s < 0
      · rw [if_pos c2] at h; cases h
      · rw [if_neg c2] at h
        obtain ⟨k', rfl, hlen, hGk, hp⟩ := ih _ _ k (by omega) h
        obtain ⟨h1, h2, h3, h4⟩ := val_fits (w / 2 ^ a) n s (by omega) (by omega) c2
        refine ⟨⟨(n : Int), valR (w / 2 ^ a) n s, s⟩ :: k', by rw [List.append_assoc]; rfl, by simp [hlen], ?_, ?_⟩
        · intro f hf
          rcases List.mem_cons.1 hf with rfl | hf
          · exact ⟨h3, h4⟩
          · exact hGk f hf
        · rw [packR]
          simp only [Int.toNat_natCast]
          rw [if_pos ⟨h1, c.2⟩, h2]
          have : w % 2 ^ a + w / 2 ^ a % 2 ^ n * 2 ^ a = w % 2 ^ (a + n) := by
            rw [Nat.pow_add, Nat.mod_mul, Nat.mul_comm (2 ^ a)]
          rw [this]; exact hp
    · rw [if_neg c] at h; cases h
theorem awake_t : towlinelaw02_awake.f 20 = some true := by decide +kernel
theorem Awake_calls (w : World) : Calls Try.prog 21 #[] w fun e w' => e = .returned (.bool true) ∧ Below w.heap.size w w' :=
  towlinelaw02_awake.calls 20 true w awake_t
theorem eq_from (l : List S56) (hl : l.length ≤ 500) : ∀ d (j : Nat), d = l.length - j → j ≤ l.length → ∀ k, d < k → api_Field_49.l0 k l l (l.length : Int) (j : Int) = some true := by
  intro d
  induction d with
  | zero =>
    intro j hd hj k hk
    obtain ⟨k, rfl⟩ : ∃ m, k = m + 1 := ⟨k - 1, by omega⟩
    rw [api_Field_49.l0, if_neg (by omega)]
  | succ d ih =>
    intro j hd hj k hk
    obtain ⟨k, rfl⟩ : ∃ m, k = m + 1 := ⟨k - 1, by omega⟩
    rw [api_Field_49.l0, if_pos (by omega), if_pos (by omega), if_pos (by omega), if_pos (by omega), if_neg (by simp), wrap_succ j (by omega)]
    exact ih (j + 1) (by omega) (by omega) k (by omega)
theorem Eq_calls (A0 : Option Addr) (c0 : Nat) (A1 : Option Addr) (c1 : Nat) (l : List S56) (hl : l.length ≤ 500) (w : World) (hr0 : Kd.C k56 w A0 l.length l) (hc0 : l.length ≤ c0) (hr1 : Kd.C k56 w A1 l.length l) (hc1 : l.length ≤ c1) :
    Calls Try.prog 49 #[.slice A0 l.length c0, .slice A1 l.length c1] w fun e w' => e = .returned (.bool true) ∧ Drawn0 w w' :=
  api_Field_49.calls 502 A0 c0 l A1 c1 l true w hr0 hc0 hr1 hc1 (by
    unfold api_Field_49.f
    rw [if_pos rfl]
    exact eq_from l hl (l.length - 0) 0 rfl (by omega) 502 (by omega))
theorem Clone_calls (A0 : Option Addr) (c0 : Nat) (l : List S56) (hl : l.length ≤ 500) (w : World) (hr0 : Kd.C k56 w A0 l.length l) (hc0 : l.length ≤ c0) :
    Calls Try.prog 46 #[.slice A0 l.length c0] w fun e w' => ∃ v0_ : Value, e = .returned (v0_) ∧ Kd.R k56 56 w' w.heap.size (fun _ => True) v0_ l ∧ Below w.heap.size w w' :=
  api_Field_46.calls A0 c0 l l w hr0 hc0 (by unfold api_Field_46.f; rw [if_pos (by omega)])
theorem Pack_calls (A0 : Option Addr) (c0 : Nat) (l : List S56) (hl : l.length ≤ 500) (hG : ∀ f ∈ l, GF f) (w : World) (hr0 : Kd.C k56 w A0 l.length l) (hc0 : l.length ≤ c0) :
    Calls Try.prog 47 #[.slice A0 l.length c0] w fun e w' => e = .returned (.tuple #[.int .u64 (resP (packR l 0 0)).1, .int .i64 (resP (packR l 0 0)).2]) ∧ Below w.heap.size w w' :=
  mask_Pack.calls 502 A0 c0 l _ _ w hr0 hc0 (pack_given l hl hG)
theorem Unpack_calls (x : Nat) (hx : x < 2 ^ 64) (A0 : Option Addr) (c0 : Nat) (l : List S56) (hl : l.length ≤ 500) (w : World) (hr0 : Kd.C k56 w A0 l.length l) (hc0 : l.length ≤ c0) :
    Calls Try.prog 50 #[.int .u64 (x : Int), .slice A0 l.length c0] w fun e w' => ∃ v0_ : Value, e = .returned (.tuple #[v0_, .int .i64 (resU (unpackR x l 0 [])).2]) ∧ Kd.R k56 56 w' w.heap.size (fun _ => True) v0_ (resU (unpackR x l 0 [])).1 ∧ Below w.heap.size w w' :=
  mask_Unpack.calls 1502 (x : Int) A0 c0 l _ _ w hr0 hc0 (unpack_given x hx l hl)
end Go.Proofs.Ytjkllkbdmkkndaa.Pk
