/- What is put is read as it was, whatever stands behind. -/
import Derived.Test.YtleaiojilmkhaaaRdC
import Derived.Test.YtleaiojilmkhaaaPlainZ
namespace Go.Proofs.Ytleaiojilmkhaaa.Wk
open Go Go.RowKit Go.Proofs.YtleaiojilmkhaaaW.PrintWords Go.Proofs.YtleaiojilmkhaaaW.PrintLast Go.Proofs.YtleaiojilmkhaaaW.PrintMore Go.Proofs.Ytleaiojilmkhaaa.Wire
open Go.Proofs.Ytleaiojilmkhaaa.WBase (IsS62 info37)
open Go.Proofs.Ytleaiojilmkhaaa.PWireBack
set_option linter.unusedVariables false
theorem turn_t (n : Int) (h : -9223372036854775808 ≤ n ∧ n ≤ 9223372036854775807) : wire_Turn.f n = some (turnP n) := by unfold wire_Turn.f; rw [turn_w n h]
theorem put_one (l : List Int) (x : Int) (hx : 0 ≤ x ∧ x < 18446744073709551616) (hl : l.length < 100000000) : wire_Put.f l [x] = some (l ++ enc 9 x.toNat) := by
  unfold wire_Put.f
  rw [if_pos ⟨by simp, by simp [u64s]; omega, by simp only [List.length_singleton]; omega⟩]
  simp [Wire.encs]
theorem encs_cons (x : Int) (r : List Int) : Wire.encs (x :: r) = enc 9 x.toNat ++ Wire.encs r := by unfold Wire.encs; rw [List.flatMap_cons]
theorem ints_w (s : List Int) (hs : ∀ x ∈ s, -9223372036854775808 ≤ x ∧ x ≤ 9223372036854775807) (hlen : s.length ≤ 500) : ∀ (r : List Int) (i k : Nat) (acc : List Int), s.drop i = r → i ≤ s.length → acc.length + 10 * r.length ≤ 50000 → r.length < k → wire_PutInts.l0 k acc s (s.length : Int) (i : Int) = some (acc ++ Wire.encs (r.map turnP)) := by
  intro r
  induction r with
  | nil =>
    intro i k acc hd hi hl hk
    obtain ⟨k, rfl⟩ : ∃ k', k = k' + 1 := ⟨k - 1, by omega⟩
    have h0 := List.drop_eq_nil_iff.1 hd
    simp only [wire_PutInts.l0]
    rw [if_neg (by omega)]
    simp [Wire.encs]
  | cons x r ih =>
    intro i k acc hd hi hl hk
    obtain ⟨hx, hlt, hmem, hd2⟩ := rd_drop hd
    have hxr := hs x hmem
    rw [List.length_cons] at hk hl
    obtain ⟨k, rfl⟩ : ∃ k', k = k' + 1 := ⟨k - 1, by omega⟩
    have hen := enc_len 9 (turnP x).toNat
    have e := ih (i + 1) k (acc ++ enc 9 (turnP x).toNat) hd2 (by omega) (by rw [List.length_append]; omega) (by omega)
    simp only [wire_PutInts.l0]
    rw [if_pos (by omega), if_pos (by omega), if_pos (by omega), hx, turn_t x hxr, Option.bind_some, put_one _ _ (turn_range x hxr) (by omega), Option.bind_some, show wrap64 ((i : Int) + 1) = ((i + 1 : Nat) : Int) by unfold wrap64; omega, e, List.map_cons, encs_cons, List.append_assoc]
/-- The reader behind P of S. -/
def BS (w w1 : World) (g : Nat) (S P : List Int) (W : World) : Prop := IsS62 w1 W g S ((P.length : Nat) : Int) 0 true ∧ Below w1.heap.size w1 W ∧ Below w.heap.size w w1
theorem BS.below {w w1 : World} {g : Nat} {S P : List Int} {W W' : World} (h : BS w w1 g S P W) (hb : Below W.heap.size W W') : BS w w1 g S P W' := ⟨h.1.below hb, below_step h.2.1 hb, h.2.2⟩
theorem BS.up {w w1 : World} {g : Nat} {S P : List Int} {W : World} (h : BS w w1 g S P W) : Below w.heap.size w W := below_step h.2.2 h.2.1
theorem num_at {S P R : List Int} {n : Nat} (h : S = P ++ (enc 9 n ++ R)) (hn : n < 18446744073709551616) : num (S.drop P.length) = (n, (enc 9 n).length, 0) := by
  rw [h, List.drop_left, num_enc n R hn]
theorem Number_at (g : Nat) (S P R : List Int) (n : Nat) (w w1 W : World) (hS : S = P ++ (enc 9 n ++ R)) (hn : n < 18446744073709551616) (H : BS w w1 g S P W) (hs : Bs S) (hlen : S.length < 140737488355328) :
    Calls Try.prog 33 #[.pointer (some ⟨g, 0, none⟩)] W fun e w' => e = .returned (.int .u64 (n : Int)) ∧ BS w w1 g S (P ++ enc 9 n) w' := by
  have hp : P.length ≤ S.length := by rw [hS, List.length_append]; omega
  refine (Number_made g S P.length w1 W H.1 H.2.1 hs hlen hp).mono ?_
  rintro e w' ⟨rfl, hI, hB, hK⟩
  have hq := num_at hS hn
  rw [hq] at hI ⊢
  refine ⟨rfl, ?_, hB, H.2.2⟩
  have e1 : numA P.length (n, (enc 9 n).length, (0 : Int)) = (P ++ enc 9 n).length := by unfold numA; rw [if_pos rfl, List.length_append]
  rw [e1] at hI
  exact hI
theorem Int_at (g : Nat) (S P R : List Int) (x : Int) (hx : -9223372036854775808 ≤ x ∧ x ≤ 9223372036854775807) (w w1 W : World) (hS : S = P ++ (enc 9 (turnP x).toNat ++ R)) (H : BS w w1 g S P W) (hs : Bs S) (hlen : S.length < 140737488355328) :
    Calls Try.prog 40 #[.pointer (some ⟨g, 0, none⟩)] W fun e w' => e = .returned (.int .i64 x) ∧ BS w w1 g S (P ++ enc 9 (turnP x).toNat) w' := by
  have hp : P.length ≤ S.length := by rw [hS, List.length_append]; omega
  have ht := turn_range x hx
  have hb := back_turn x
  generalize turnP x = tx at *
  obtain ⟨n, rfl⟩ : ∃ n : Nat, tx = (n : Int) := Int.eq_ofNat_of_zero_le ht.1
  rw [Int.toNat_natCast] at *
  have hn2 : n < 18446744073709551616 := by omega
  refine (Int_made g S P.length w1 W H.1 H.2.1 hs hlen hp).mono ?_
  rintro e w' ⟨rfl, hI, hB, hK⟩
  have hq := num_at hS hn2
  rw [hq] at hI ⊢
  have e1 : numA P.length (n, (enc 9 n).length, (0 : Int)) = (P ++ enc 9 n).length := by unfold numA; rw [if_pos rfl, List.length_append]
  have e2 : numV (n, (enc 9 n).length, (0 : Int)) = n := by unfold numV; rw [if_pos rfl]
  rw [e1] at hI
  rw [e2, hb]
  exact ⟨rfl, hI, hB, H.2.2⟩
theorem bytes_at {S P R d : List Int} (h : S = P ++ (enc 9 d.length ++ (d ++ R))) (hd : d.length < 1000000) : bytesP S P.length (d.length : Int) = (d, (P ++ (enc 9 d.length ++ d)).length, 0) := by
  unfold bytesP
  rw [num_at h (by omega)]
  simp only [ne_eq, not_true_eq_false, if_false]
  have hl : S.length = P.length + (enc 9 d.length).length + d.length + R.length := by rw [h]; simp only [List.length_append]; omega
  rw [if_neg (by rw [if_neg (by omega)]; omega), if_neg (by omega)]
  refine Prod.ext ?_ (Prod.ext ?_ rfl)
  · show (S.drop (P.length + (enc 9 d.length).length)).take d.length = d
    rw [h, ← List.append_assoc, ← List.length_append, List.drop_left, List.take_left]
  · show P.length + (enc 9 d.length).length + d.length = _
    simp only [List.length_append]; omega
theorem Bytes_at (g : Nat) (S P R d : List Int) (w w1 W : World) (hS : S = P ++ (enc 9 d.length ++ (d ++ R))) (hd : d.length < 1000000) (H : BS w w1 g S P W) (hs : Bs S) (hlen : S.length < 140737488355328) :
    Calls Try.prog 41 #[.pointer (some ⟨g, 0, none⟩), .int .i64 (d.length : Int)] W fun e w' => ∃ A c, e = .returned (.slice A d.length c) ∧ Kd.C (Kd.int .u8) w' A d.length d ∧ d.length ≤ c ∧ BS w w1 g S (P ++ (enc 9 d.length ++ d)) w' := by
  have hp : P.length ≤ S.length := by rw [hS, List.length_append]; omega
  refine (Bytes_calls g S P.length d.length (by omega) w1 W H.1 H.2.1 hs hlen hp).mono ?_
  rintro e w' ⟨v, rfl, hR, hI, hB, hK⟩
  have hq := bytes_at hS hd
  rw [hq] at hR hI
  obtain ⟨A, c, rfl⟩ := Kd.R_slice hR
  exact ⟨A, c, rfl, (Kd.R_reads' hR).2.2, (Kd.R_reads' hR).2.1, hI, hB, H.2.2⟩
theorem ono_V {W : World} {base : Nat} {v : Value} {xs : List Int} (h : OnO none [] W base v xs) : Kd.V (Kd.int .u8) 5 W W.heap.size (fun _ => True) v xs := by
  rcases h with ⟨rfl, rfl, _, _⟩ | h
  · exact Kd.V_nil _ _ _ _ _
  · exact Kd.R_V h
theorem Ints_any (A0 : Option Addr) (c0 : Nat) (l0 : List Int) (A1 : Option Addr) (c1 : Nat) (l1 : List Int) (w : World) (hs0 : Kd.V (Kd.int .u8) 5 w w.heap.size (fun _ => True) (.slice A0 l0.length c0) l0) (hr1 : Kd.C (Kd.int .i64) w A1 l1.length l1) (hc1 : l1.length ≤ c1) (hs : ∀ x ∈ l1, -9223372036854775808 ≤ x ∧ x ≤ 9223372036854775807) (hl : l1.length ≤ 500) (hl0 : l0.length ≤ 5000) :
    Calls Try.prog 36 #[.slice A0 l0.length c0, .slice A1 l1.length c1] w fun e w' => ∃ A c, e = .returned (.slice A (l0 ++ Wire.encs (l1.map turnP)).length c) ∧ Kd.C (Kd.int .u8) w' A (l0 ++ Wire.encs (l1.map turnP)).length (l0 ++ Wire.encs (l1.map turnP)) ∧ (l0 ++ Wire.encs (l1.map turnP)).length ≤ c ∧ Below w.heap.size w w' := by
  refine (wire_PutInts.calls 501 (fun _ => True) A0 c0 l0 A1 c1 l1 _ w hs0 hr1 hc1 (ints_w l1 hs hl l1 0 501 l0 rfl (Nat.zero_le _) (by omega) (by omega))).mono ?_
  rintro e w' ⟨v, rfl, hV, hB⟩
  obtain ⟨A, c, rfl⟩ := Kd.V_slice hV
  exact ⟨A, c, rfl, (Kd.V_reads' hV).2.2, (Kd.V_reads' hV).2.1, hB⟩
theorem PutBytes_any (A0 : Option Addr) (c0 : Nat) (l0 : List Int) (A1 : Option Addr) (c1 : Nat) (l1 : List Int) (w : World) (hr0 : Kd.C (Kd.int .u8) w A0 l0.length l0) (hc0 : l0.length ≤ c0) (hr1 : Kd.C (Kd.int .u8) w A1 l1.length l1) (hc1 : l1.length ≤ c1) (hl0 : l0.length ≤ 100000) (hl1 : l1.length ≤ 100000) :
    Calls Try.prog 17 #[.slice A0 l0.length c0, .slice A1 l1.length c1] w fun e w' => ∃ v0_ : Value, e = .returned (v0_) ∧ Kd.R (Kd.int .u8) 5 w' w.heap.size (fun _ => True) v0_ (l0 ++ (enc 9 l1.length ++ l1)) ∧ Below w.heap.size w w' := by
  have hen := enc_len 9 l1.length
  have hp : wire_PutBytes.f l0 l1 = some (l0 ++ (enc 9 l1.length ++ l1)) := by
    unfold wire_PutBytes.f
    rw [show IntKind.u64.wrap (l1.length : Int) = (l1.length : Int) by rw [u64w]; omega, put_one l0 _ (by omega) (by omega), Option.bind_some, if_pos (by rw [List.length_append, Int.toNat_natCast]; omega), List.append_assoc, Int.toNat_natCast]
  exact wire_PutBytes.calls A0 c0 l0 A1 c1 l1 _ w hr0 hc0 hr1 hc1 hp
theorem encs_at (l : List Int) (j : Nat) (h : j < l.length) : Wire.encs l = Wire.encs (l.take j) ++ (enc 9 (rd l j).toNat ++ Wire.encs (l.drop (j + 1))) := by
  have h1 : rd l (j : Int) = l[j] := by unfold rd; rw [Int.toNat_natCast, List.getD_eq_getElem?_getD, List.getElem?_eq_getElem h]; rfl
  have h2 : l = l.take j ++ (l[j] :: l.drop (j + 1)) := by rw [← List.drop_eq_getElem_cons h, List.take_append_drop]
  conv => lhs; rw [h2]
  unfold Wire.encs
  rw [List.flatMap_append, List.flatMap_cons, h1]
theorem encs_at_turn (l : List Int) (j : Nat) (h : j < l.length) : Wire.encs (l.map turnP) = Wire.encs ((l.take j).map turnP) ++ (enc 9 (turnP (rd l j)).toNat ++ Wire.encs ((l.drop (j + 1)).map turnP)) := by
  have h1 := encs_at (l.map turnP) j (by rw [List.length_map]; exact h)
  have h2 : rd (l.map turnP) (j : Int) = turnP (rd l j) := by
    unfold rd
    rw [Int.toNat_natCast, List.getD_eq_getElem?_getD, List.getD_eq_getElem?_getD, List.getElem?_eq_getElem (by rw [List.length_map]; exact h), List.getElem?_eq_getElem h]
    simp
  rw [h2, ← List.map_take, ← List.map_drop] at h1
  exact h1
theorem encs_take_turn (l : List Int) (j : Nat) (h : j < l.length) : Wire.encs ((l.take (j + 1)).map turnP) = Wire.encs ((l.take j).map turnP) ++ enc 9 (turnP (rd l j)).toNat := by
  rw [List.take_succ_eq_append_getElem h, List.map_append, List.map_singleton, encs_snoc]
  have h1 : rd l (j : Int) = l[j] := by unfold rd; rw [Int.toNat_natCast, List.getD_eq_getElem?_getD, List.getElem?_eq_getElem h]; rfl
  rw [h1]
set_option maxHeartbeats 8000000 in
set_option maxRecDepth 100000 in
theorem back (A0 : Option Addr) (c0 : Nat) (l0 : List Int) (A1 : Option Addr) (c1 : Nat) (l1 : List Int) (A2 : Option Addr) (c2 : Nat) (l2 : List Int) (A3 : Option Addr) (c3 : Nat) (l3 : List Int) (w : World)
    (hr0 : Kd.C (Kd.int .u64) w A0 l0.length l0) (hc0 : l0.length ≤ c0) (hr1 : Kd.C (Kd.int .i64) w A1 l1.length l1) (hc1 : l1.length ≤ c1) (hr2 : Kd.C (Kd.int .u8) w A2 l2.length l2) (hc2 : l2.length ≤ c2) (hr3 : Kd.C (Kd.int .u8) w A3 l3.length l3) (hc3 : l3.length ≤ c3)
    (hu : ∀ x ∈ l0, 0 ≤ x ∧ x < 18446744073709551616) (hi : ∀ x ∈ l1, -9223372036854775808 ≤ x ∧ x ≤ 9223372036854775807) (hb2 : Bs l2) (hb3 : Bs l3) (y0 : l0.length ≤ 140737488351232) (y1 : l1.length ≤ 140737488351232) (y2 : l2.length ≤ 140737488351232) (y3 : l3.length ≤ 140737488351232) :
    Calls Try.prog 12 #[.slice A0 l0.length c0, .slice A1 l1.length c1, .slice A2 l2.length c2, .slice A3 l3.length c3] w fun e w' => e = .returned (.bool true) ∧ Below w.heap.size w w' := by
  have HR0 := Aside0.mk hr0
  have HC0 := Aside0.mk hc0
  have HR1 := Aside0.mk hr1
  have HC1 := Aside0.mk hc1
  have HR2 := Aside0.mk hr2
  have HC2 := Aside0.mk hc2
  have HR3 := Aside0.mk hr3
  have HC3 := Aside0.mk hc3
  have HU := Aside0.mk hu
  have HI := Aside0.mk hi
  have HB2 := Aside0.mk hb2
  have HB3 := Aside0.mk hb3
  clear hr0 hc0 hr1 hc1 hr2 hc2 hr3 hc3 hu hi hb2 hb3
  have short : (decide (500 < ((l0.length : Int) + (l1.length : Int))) = true ∨ (decide (500 < ((l0.length : Int) + (l1.length : Int))) = false ∧ decide (16384 < ((l2.length : Int) + (l3.length : Int))) = true)) ∨ (l0.length + l1.length ≤ 500 ∧ l2.length + l3.length ≤ 16384) := by
    by_cases c : 500 < ((l0.length : Int) + (l1.length : Int))
    · exact .inl (.inl (decide_eq_true c))
    · by_cases d : 16384 < ((l2.length : Int) + (l3.length : Int))
      · exact .inl (.inr ⟨decide_eq_false c, decide_eq_true d⟩)
      · exact .inr ⟨by omega, by omega⟩
  rcases short with h | ⟨h0, h1⟩
  · rcases h with hb | ⟨hb, hb2⟩
    all_goals
      go_enter Try.func12, Try.ntmps12
      go_wp2_with (fail)
      refine (awake_any _).mono ?_
      rintro e w1 ⟨rfl, hB⟩
      have HB := Aside0.mk hB
      clear hB
      go_wp2
      go_ret
      exact ⟨rfl, HB.out⟩
  · have d0 : decide (500 < ((l0.length : Int) + (l1.length : Int))) = false := decide_eq_false (by omega)
    have d1 : decide (16384 < ((l2.length : Int) + (l3.length : Int))) = false := decide_eq_false (by omega)
    have HL0 := Aside0.mk h0
    have HL1 := Aside0.mk h1
    have HE0 := Aside0.mk (encs_len l0)
    have HE1 := Aside0.mk (encs_len (l1.map turnP))
    obtain ⟨X0, hX0⟩ : ∃ X, Wire.encs l0 = X := ⟨_, rfl⟩
    obtain ⟨X1, hX1⟩ : ∃ X, X0 ++ Wire.encs (l1.map turnP) = X := ⟨_, rfl⟩
    obtain ⟨X2, hX2⟩ : ∃ X, X1 ++ (enc 9 l2.length ++ l2) = X := ⟨_, rfl⟩
    obtain ⟨S, hS⟩ : ∃ X, X2 ++ l3 = X := ⟨_, rfl⟩
    have HX0 := Aside0.mk hX0
    have HX1 := Aside0.mk hX1
    have HX2 := Aside0.mk hX2
    have HS := Aside0.mk hS
    have n0 : X0.length ≤ 5000 := by rw [← hX0]; have := HE0.out; omega
    have n1 : X1.length ≤ 10000 := by rw [← hX1, List.length_append]; have := HE1.out; rw [List.length_map] at this; omega
    have n2 : X2.length ≤ 30000 := by rw [← hX2]; have := enc_len 9 l2.length; simp only [List.length_append]; omega
    have n3 : S.length ≤ 60000 := by rw [← hS, List.length_append]; omega
    have hbs : Bs S := by
      rw [← hS, ← hX2, ← hX1, ← hX0]
      have he : ∀ l : List Int, (∀ x ∈ l, 0 ≤ x ∧ x < 18446744073709551616) → Bs (Wire.encs l) := by
        intro l hl x hx
        unfold Wire.encs at hx
        obtain ⟨y, hy, hxy⟩ := List.mem_flatMap.1 hx
        have h2 := hl y hy
        exact enc64_bs (n := y.toNat) (by omega) x hxy
      refine ((Bs.app (he l0 HU.out) (he _ ?_)).app ((enc64_bs (by omega)).app HB2.out)).app HB3.out
      intro x hx
      obtain ⟨y, hy, rfl⟩ := List.mem_map.1 hx
      exact turn_range y (HI.out y hy)
    have HBS := Aside0.mk hbs
    have N0 := Aside0.mk n0
    have N1 := Aside0.mk n1
    have N2 := Aside0.mk n2
    have N3 := Aside0.mk n3
    clear hX0 hX1 hX2 hS h0 h1 n0 n1 n2 n3 hbs
    have HSL := Aside0.mk (show S.length < 140737488355328 by have := N3.out; omega)
    have S1 : Aside0 (∀ j : Nat, j < l0.length → ∃ R, S = Wire.encs (l0.take j) ++ (enc 9 (rd l0 j).toNat ++ R)) := ⟨fun j hj => ⟨Wire.encs (l0.drop (j + 1)) ++ (Wire.encs (l1.map turnP) ++ ((enc 9 l2.length ++ l2) ++ l3)), by
      rw [← HS.out, ← HX2.out, ← HX1.out, ← HX0.out, encs_at l0 j hj]; simp only [List.append_assoc]⟩⟩
    have S2 : Aside0 (∀ j : Nat, j < l1.length → ∃ R, S = (X0 ++ Wire.encs ((l1.take j).map turnP)) ++ (enc 9 (turnP (rd l1 j)).toNat ++ R)) := ⟨fun j hj => ⟨Wire.encs ((l1.drop (j + 1)).map turnP) ++ ((enc 9 l2.length ++ l2) ++ l3), by
      rw [← HS.out, ← HX2.out, ← HX1.out, encs_at_turn l1 j hj]; simp only [List.append_assoc]⟩⟩
    have S3 : Aside0 (S = X1 ++ (enc 9 l2.length ++ (l2 ++ l3))) := ⟨by rw [← HS.out, ← HX2.out]; simp only [List.append_assoc]⟩
    go_enter Try.func12, Try.ntmps12
    go_wp2_with (fail)
    refine (Put_any none 0 [] A0 c0 l0 _ (Kd.C_nil _ _) (Nat.le_refl _) HR0.out HC0.out (fun _ => rfl) HU.out (by have := HL0.out; simp only [List.length_nil]; omega)).mono ?_
    rintro e w2 ⟨v2, rfl, hO, hB⟩
    rw [List.nil_append, HX0.out] at hO
    obtain ⟨A4, c4, rfl⟩ := hO.slice
    have HV := Aside0.mk (ono_V hO)
    have HB := Aside0.mk hB
    clear hO hB
    go_wp2_with (fail)
    refine (Ints_any A4 c4 X0 A1 c1 l1 _ HV.out (Kd.C_below HR1.out HB.out) HC1.out HI.out (by have := HL0.out; omega) N0.out).mono ?_
    rw [HX1.out]
    rintro e w3 ⟨A5, c5, rfl, hC, hc, hB⟩
    have HC5 := Aside0.mk hC
    have HCC5 := Aside0.mk hc
    have HB3 := Aside0.mk (below_step HB.out hB)
    clear hC hc hB HB HV
    go_wp2_with (fail)
    refine (PutBytes_any A5 c5 X1 A2 c2 l2 _ HC5.out HCC5.out (Kd.C_below HR2.out HB3.out) HC2.out (by have := N1.out; omega) (by have := HL1.out; omega)).mono ?_
    rw [HX2.out]
    rintro e w4 ⟨v6, rfl, hR, hB⟩
    have HR6 := Aside0.mk (Kd.R_lower hR HB3.out.size)
    have HB4 := Aside0.mk (below_step HB3.out hB)
    obtain ⟨A6, c6, rfl⟩ := Kd.R_slice hR
    clear hR hB HB3 HC5 HCC5
    have HLA := Aside0.mk (show (X2.length + l3.length) * 1 ≤ 140737488355328 by have h1 := N2.out; have h2 := HL1.out; omega)
    go_wp2_with (first | ((with_reducible refine gate_builtin (b := .append) (xs := #[.tmp 34, .tmp 35]) rfl ?_); at_builtin; refine Kd.R_append_rows (Kd.int .u8) (w0 := w) w.heap.size rfl (.tmp 34) (.tmp 35) 22 5 (.int .u8 0) 1 rfl Try.underlying22 Go.Proofs.Ytleaiojilmkhaaa.Wire.info5 rfl (by decide) (by omega) (.slice A6 X2.length c6) X2 l3 _ _ _ (fun _ => True) (fun _ => False) rfl rfl HR6.out (Kd.C_below HR3.out HB4.out) (fun _ _ h => h) (fun _ h => h.elim) (fun _ _ => trivial) HB4.out HB4.out.size HLA.out ?_; intro vb w6 ho hb hg hat; rw [HS.out] at ho; have HR7 := Aside0.mk ho; have HB7 := Aside0.mk hb; clear HB4; clear ho hb hg hat))
    obtain ⟨A7, c7, rfl⟩ := Kd.R_slice HR7.out
    refine (Read_calls A7 c7 S _ (Kd.R_reads' HR7.out).2.2 (Kd.R_reads' HR7.out).2.1 HSL.out).mono ?_
    rintro e w8 ⟨w7, g, rfl, hI, hb1, hb2⟩
    have H0 := Aside0.mk (show BS w w7 g S [] w8 from ⟨hI, hb2, below_step HB7.out hb1⟩)
    clear hI hb1 hb2 HR7 HB7 HR6
    go_wp2_with (fail)
    go_loopw [40] (fun v40 wr => ∃ j : Nat, j ≤ l0.length ∧ v40 = .int .i64 (j : Int) ∧ Aside0 (BS w w7 g S (Wire.encs (l0.take j)) wr)) (fun v40 _ => (l0.length - intOf v40).toNat)
    case atStart => exact ⟨0, by omega, rfl, ⟨by simpa [Wire.encs] using H0.out⟩⟩
    case round =>
      obtain ⟨j, hj, rfl, H⟩ := hrel
      clear H0
      by_cases hlt : j < l0.length
      · obtain ⟨ad, e0, hx⟩ := Kd.at_int HR0.out (j : Int) (by omega) (by omega)
        cases e0
        replace hx := (H.out.up.cell (World.block_lt_of_cell? w _ hx)).trans hx
        rw [Int.toNat_natCast] at hx
        have hmem : rd l0 (j : Int) ∈ l0 := by unfold rd; rw [Int.toNat_natCast, List.getD_eq_getElem?_getD, List.getElem?_eq_getElem hlt]; exact List.getElem_mem hlt
        obtain ⟨hp0, hp1⟩ := HU.out _ hmem
        obtain ⟨R, hR⟩ := S1.out j hlt
        have HT := encs_take l0 j hlt
        clear hmem
        generalize rd l0 (j : Int) = y at *
        obtain ⟨n, rfl⟩ := Int.eq_ofNat_of_zero_le hp0
        rw [Int.toNat_natCast] at HT hR
        have HN := Aside0.mk (Number_at g S _ R n w w7 wr hR (by omega) H.out HBS.out HSL.out)
        rw [← HT] at HN
        have HP1 := Aside0.mk hp1
        clear HT hR hp0 hp1 H
        go_wp2_with (fail)
        refine (HN.out).mono ?_
        rintro e w9 ⟨rfl, hb⟩
        have H := Aside0.mk hb
        clear hb hx HN
        go_wp2
        go_roundw
        case rel => exact ⟨j + 1, hlt, by go_num, H⟩
        case measure => simp [intOf]; omega
      · have hje : l0.take j = l0 := List.take_of_length_le (by omega)
        rw [hje, HX0.out] at H
        clear hje
        go_wp2_with (fail)
        obtain ⟨wo, rfl⟩ : ∃ wo : World, wo = wr := ⟨_, rfl⟩
        go_loopw [51] (fun v51 wr => ∃ j : Nat, j ≤ l1.length ∧ v51 = .int .i64 (j : Int) ∧ Aside0 (BS w w7 g S (X0 ++ Wire.encs ((l1.take j).map turnP)) wr)) (fun v51 _ => (l1.length - intOf v51).toNat)
        case atStart => exact ⟨0, by omega, rfl, ⟨by simpa [Wire.encs] using H.out⟩⟩
        case round =>
          obtain ⟨i, hi, rfl, H1⟩ := hrel
          clear H hlt hj
          by_cases hlt : i < l1.length
          · obtain ⟨ad, e0, hx⟩ := Kd.at_int HR1.out (i : Int) (by omega) (by omega)
            cases e0
            replace hx := (H1.out.up.cell (World.block_lt_of_cell? w _ hx)).trans hx
            rw [Int.toNat_natCast] at hx
            have hmem : rd l1 (i : Int) ∈ l1 := by unfold rd; rw [Int.toNat_natCast, List.getD_eq_getElem?_getD, List.getElem?_eq_getElem hlt]; exact List.getElem_mem hlt
            have HP := Aside0.mk (HI.out _ hmem)
            obtain ⟨R, hR⟩ := S2.out i hlt
            have HT := encs_take_turn l1 i hlt
            have HT2 : X0 ++ Wire.encs ((l1.take (i + 1)).map turnP) = (X0 ++ Wire.encs ((l1.take i).map turnP)) ++ enc 9 (turnP (rd l1 i)).toNat := by rw [HT, List.append_assoc]
            have HN := Aside0.mk (Int_at g S _ R (rd l1 i) HP.out w w7 wr hR H1.out HBS.out HSL.out)
            rw [← HT2] at HN
            clear hmem HT HT2 hR H1
            generalize rd l1 (i : Int) = y at *
            go_wp2_with (fail)
            refine (HN.out).mono ?_
            rintro e w9 ⟨rfl, hb⟩
            have H := Aside0.mk hb
            clear hb hx HN
            go_wp2
            go_roundw
            case rel => exact ⟨i + 1, hlt, by go_num, H⟩
            case measure => simp [intOf]; omega
          · have hje : l1.take i = l1 := List.take_of_length_le (by omega)
            rw [hje, HX1.out] at H1
            clear hje
            have HD := Aside0.mk (show l2.length < 1000000 by have := HL1.out; omega)
            have HEQ := Aside0.mk (bseq l2)
            go_wp2_with (fail)
            refine (Bytes_at g S X1 l3 l2 w w7 _ S3.out HD.out H1.out HBS.out HSL.out).mono ?_
            rintro e w9 ⟨A9, c9, rfl, hC, hc, hb⟩
            have HC9 := Aside0.mk (And.intro hC hc)
            have H2 := Aside0.mk hb
            clear hC hc hb H1
            rw [HX2.out] at H2
            go_wp2_with (fail)
            refine (bytes_Equal.calls A9 c9 l2 A2 c2 l2 true _ HC9.out.1 HC9.out.2 (Kd.C_below HR2.out H2.out.up) HC2.out HEQ.out).mono ?_
            rintro e w10 ⟨rfl, hdr⟩
            have H3 := Aside0.mk (H2.out.below hdr.below)
            clear hdr H2
            go_wp2_with (fail)
            refine (Err_made g S _ 0 w7 _ H3.out.1).mono ?_
            rintro e w11 ⟨rfl, hdr⟩
            have H4 := Aside0.mk (H3.out.below hdr.below)
            clear hdr H3
            have HLX := Aside0.mk (show X2.length ≤ S.length ∧ S.length - X2.length = l3.length by rw [← HS.out, List.length_append]; omega)
            go_wp2_with (fail)
            refine (Left_made g S X2.length 0 w7 _ H4.out.1 (by decide) HLX.out.1 HSL.out).mono ?_
            rw [HLX.out.2]
            rintro e w12 ⟨rfl, hdr⟩
            have H5 := Aside0.mk (H4.out.below hdr.below)
            clear hdr H4
            go_wp2_with (fail)
            refine (awake_any _).mono ?_
            rintro e w13 ⟨rfl, hB⟩
            have HB := Aside0.mk (below_step H5.out.up hB)
            clear hB
            go_wp2
            go_ret
            exact ⟨rfl, HB.out⟩
theorem WireBack (a0 : Option Addr) (len0 cap0 : Nat) (z0 : List Int) (a1 : Option Addr) (len1 cap1 : Nat) (z1 : List Int) (a2 : Option Addr) (len2 cap2 : Nat) (z2 : List Int) (a3 : Option Addr) (len3 cap3 : Nat) (z3 : List Int) (w : World) (w0 : (a0 = none ∧ len0 = 0 ∧ cap0 = 0 ∧ z0 = []) ∨ ∃ x, a0 = some x ∧ len0 ≤ cap0 ∧ cap0 ≤ maxLen ∧ z0.length = cap0 ∧ (∀ i, i < z0.length → w.cell? (x.add i) = some (.int .u64 (z0.getD i 0))) ∧ ∀ n ∈ z0, (Lit.int .u64 n).wf = true) (y0 : len0 * 8 ≤ 140737488351232) (w1 : (a1 = none ∧ len1 = 0 ∧ cap1 = 0 ∧ z1 = []) ∨ ∃ x, a1 = some x ∧ len1 ≤ cap1 ∧ cap1 ≤ maxLen ∧ z1.length = cap1 ∧ (∀ i, i < z1.length → w.cell? (x.add i) = some (.int .i64 (z1.getD i 0))) ∧ ∀ n ∈ z1, (Lit.int .i64 n).wf = true) (y1 : len1 * 8 ≤ 140737488351232) (w2 : (a2 = none ∧ len2 = 0 ∧ cap2 = 0 ∧ z2 = []) ∨ ∃ x, a2 = some x ∧ len2 ≤ cap2 ∧ cap2 ≤ maxLen ∧ z2.length = cap2 ∧ (∀ i, i < z2.length → w.cell? (x.add i) = some (.int .u8 (z2.getD i 0))) ∧ ∀ n ∈ z2, (Lit.int .u8 n).wf = true) (y2 : len2 * 1 ≤ 140737488351232) (w3 : (a3 = none ∧ len3 = 0 ∧ cap3 = 0 ∧ z3 = []) ∨ ∃ x, a3 = some x ∧ len3 ≤ cap3 ∧ cap3 ≤ maxLen ∧ z3.length = cap3 ∧ (∀ i, i < z3.length → w.cell? (x.add i) = some (.int .u8 (z3.getD i 0))) ∧ ∀ n ∈ z3, (Lit.int .u8 n).wf = true) (y3 : len3 * 1 ≤ 140737488351232) :
    Calls Try.prog 12 #[.slice a0 len0 cap0, .slice a1 len1 cap1, .slice a2 len2 cap2, .slice a3 len3 cap3] w fun e w' => e = .returned (.bool true) ∧ Below w.heap.size w w' := by
  obtain ⟨l0, rfl, hr0, hm0, hw0, hc0⟩ := ReadsInt.ofRowC w0
  obtain ⟨l1, rfl, hr1, hm1, hw1, hc1⟩ := ReadsInt.ofRowC w1
  obtain ⟨l2, rfl, hr2, hm2, hw2, hc2⟩ := ReadsInt.ofRowC w2
  obtain ⟨l3, rfl, hr3, hm3, hw3, hc3⟩ := ReadsInt.ofRowC w3
  exact back _ _ l0 _ _ l1 _ _ l2 _ _ l3 w (Kd.C_of_reads (d := (0 : Int)) (h1 := fun _ => rfl) hr0) hc0 (Kd.C_of_reads (d := (0 : Int)) (h1 := fun _ => rfl) hr1) hc1 (Kd.C_of_reads (d := (0 : Int)) (h1 := fun _ => rfl) hr2) hc2 (Kd.C_of_reads (d := (0 : Int)) (h1 := fun _ => rfl) hr3) hc3 (fun x hx => wf_u64 (hw0 x hx)) (fun x hx => wf_i64 (hw1 x hx)) (fun x hx => wf_u8 (hw2 x hx)) (fun x hx => wf_u8 (hw3 x hx)) (by omega) (by omega) (by omega) (by omega)
end Go.Proofs.Ytleaiojilmkhaaa.Wk
