/- Contract of wire.All: the bytes of all records with which others begin, and how many these have; of slices.EqualFunc at rows of bytes. -/
import Derived.Test.YtleaiojilmkhaaaAw
import Derived.Test.YtleaiojilmkhaaaPlainZ
namespace Go.Proofs.Ytleaiojilmkhaaa.Wk
open Go Go.RowKit Go.Proofs.YtleaiojilmkhaaaW.PrintWords Go.Proofs.YtleaiojilmkhaaaW.PrintLast Go.Proofs.YtleaiojilmkhaaaW.PrintMore Go.Proofs.Ytleaiojilmkhaaa.Wire
open Go.Proofs.Ytleaiojilmkhaaa.PWireBack (bytes_Equal.calls bytes_Equal.f)
set_option linter.unusedVariables false
theorem info22 : (Try.prog.info? 22).map (fun i => (i.zero, i.size, i.bytes)) = some (some (.slice none 0 0), 1, 24) := by kernel_rfl
def allGo : Nat → List Int → Nat → List (List Int) × Nat
  | 0, _, n => ([], n)
  | f + 1, l, n => if (openP (l.drop n)).2.2 ≠ 0 then ([], n) else ((openP (l.drop n)).1 :: (allGo f l (n + (openP (l.drop n)).2.1)).1, (allGo f l (n + (openP (l.drop n)).2.1)).2)
/-- What All tells: the bytes of all records, and how many these have. -/
def allP (l : List Int) : List (List Int) × Nat := allGo (l.length + 1) l 0
abbrev KdBB : Kd (List (List Int)) := Kd.slice 22 (Kd.slice 5 (Kd.int .u8))
abbrev KdB : Kd (List Int) := Kd.slice 5 (Kd.int .u8)
/-- The state of All: what is found, what is to come. -/
def AS (w : World) (l0 : List Int) (f n : Nat) (outs : List (List Int)) (v : Value) (W : World) : Prop :=
  Kd.R KdB 22 W w.heap.size (fun _ => True) v outs ∧ Below w.heap.size w W
theorem AS.below {w : World} {l0 : List Int} {f n : Nat} {outs : List (List Int)} {v : Value} {W W' : World} (h : AS w l0 f n outs v W) (hb : Below W.heap.size W W') : AS w l0 f n outs v W' := ⟨Kd.R_below h.1 hb, below_step h.2 hb⟩
def AP (l0 : List Int) (f n : Nat) (outs : List (List Int)) : Prop := n ≤ l0.length ∧ l0.length - n < f ∧ allP l0 = (outs ++ (allGo f l0 n).1, (allGo f l0 n).2) ∧ outs.length ≤ n
theorem AP.step {l0 : List Int} {f n : Nat} {outs : List (List Int)} (h : AP l0 (f + 1) n outs) (hs : Bs l0) {d : List Int} {k : Nat} (he : openP (l0.drop n) = (d, k, 0)) : AP l0 f (n + k) (outs ++ [d]) ∧ n + k ≤ l0.length := by
  obtain ⟨h1, h2, h3, h4⟩ := h
  obtain ⟨_, a2, a3⟩ := open_canon (hs.drop n) he
  have hsl := seal_len d
  rw [a3, List.length_take] at hsl
  rw [List.length_drop] at a2 hsl
  have hk : 4 ≤ k := by omega
  refine ⟨⟨by omega, by omega, ?_, by rw [List.length_append, List.length_singleton]; omega⟩, by omega⟩
  rw [h3]
  have e : allGo (f + 1) l0 n = (d :: (allGo f l0 (n + k)).1, (allGo f l0 (n + k)).2) := by
    rw [allGo, he]
    simp
  rw [e]
  simp
theorem AP.stop {l0 : List Int} {f n : Nat} {outs : List (List Int)} (h : AP l0 (f + 1) n outs) (he : (openP (l0.drop n)).2.2 ≠ 0) : allP l0 = (outs, n) := by
  obtain ⟨h1, h2, h3, h4⟩ := h
  rw [h3, allGo, if_pos he]
  simp
set_option maxHeartbeats 8000000 in
set_option maxRecDepth 100000 in
theorem All_calls (A0 : Option Addr) (c0 : Nat) (l0 : List Int) (w : World) (hr0 : Kd.C (Kd.int .u8) w A0 l0.length l0) (hc0 : l0.length ≤ c0) (hs : Bs l0) (hlen : l0.length < 1000000000) :
    Calls Try.prog 43 #[.slice A0 l0.length c0] w fun e w' => ∃ v, e = .returned (.tuple #[v, .int .i64 ((allP l0).2 : Int)]) ∧ Kd.R KdB 22 w' w.heap.size (fun _ => True) v (allP l0).1 ∧ Below w.heap.size w w' := by
  have HR0 := Aside0.mk hr0
  have HC0 := Aside0.mk hc0
  have HS := Aside0.mk hs
  have HL := Aside0.mk hlen
  obtain ⟨i0, hi0, _, hz1, _⟩ := info_parts Go.Proofs.Ytleaiojilmkhaaa.Wire.info5
  have HINF := Aside0.mk (And.intro hi0 hz1)
  clear hi0 hz1 hr0 hc0 hs hlen
  have H0 := Aside0.mk (show AS w l0 (l0.length + 1) 0 [] (.slice none 0 0) w from ⟨Kd.R_nil _ _ _ _ _, Below.refl _ _⟩)
  have P0 := Aside0.mk (show AP l0 (l0.length + 1) 0 [] from ⟨Nat.zero_le _, by omega, by simp [allP], Nat.le_refl _⟩)
  go_enter Try.func43, Try.ntmps43
  go_wp2_with (fail)
  go_loopg [4, 5] (l0.length + 1) (fun f v4 v5 wr => ∃ (n : Nat) (outs : List (List Int)) (A : Option Addr) (c : Nat), v4 = .slice A outs.length c ∧ v5 = .int .i64 (n : Int) ∧ Aside0 (AS w l0 f n outs (.slice A outs.length c) wr) ∧ Aside0 (AP l0 f n outs))
  case atStart => exact ⟨0, [], none, 0, rfl, rfl, H0, P0⟩
  case round =>
    obtain ⟨n, outs, A, c, rfl, rfl, H, P⟩ := hrel
    clear H0 P0
    obtain ⟨f, rfl⟩ : ∃ f, gk = f + 1 := ⟨gk - 1, by have := P.out.2.1; omega⟩
    have HCUT := cut_from (P := Try.prog) 22 5 .i64 Try.underlying22 HINF.out.1 1 HINF.out.2 A0 l0.length c0 (n : Int) (by omega) (by have := P.out.1; omega)
    have HCX := Aside0.mk (Kd.C_drop (c := c0) (Kd.C_below HR0.out H.out.2) P.out.1 HC0.out)
    rw [Int.toNat_natCast] at HCUT
    rw [show n * (Kd.int IntKind.u8).sz = n * 1 from rfl] at HCX
    generalize (if c0 = n then A0 else A0.map (·.add (n * 1))) = AX at HCUT HCX
    have HXL := Aside0.mk (show (l0.drop n).length = l0.length - n from List.length_drop)
    rw [← HXL.out] at HCUT
    have HXC := Aside0.mk (show (l0.drop n).length ≤ c0 - n by have h1 := HC0.out; have h2 := HXL.out; omega)
    have HXS := Aside0.mk (HS.out.drop n)
    have HXB := Aside0.mk (show (l0.drop n).length < 140737488355328 by have h1 := HL.out; have h2 := HXL.out; omega)
    obtain ⟨X, hX⟩ : ∃ X, l0.drop n = X := ⟨_, rfl⟩
    have HX := Aside0.mk hX
    rw [hX] at HCUT HCX HXL HXC HXS HXB
    clear hX
    by_cases eo : (openP X).2.2 = 0
    · obtain ⟨dd, k, hon⟩ : ∃ dd k, openP X = (dd, k, 0) := ⟨(openP X).1, (openP X).2.1, by rw [← eo]⟩
      have HON := Aside0.mk hon
      have PS := Aside0.mk (P.out.step HS.out (by rw [HX.out]; exact hon))
      clear hon eo
      go_wp2_with (fail)
      refine (Open_calls AX (c0 - n) X _ HCX.out HXC.out HXS.out HXB.out).mono ?_
      rw [HON.out]
      rintro e w5 ⟨v5, rfl, hR, hB⟩
      obtain ⟨A5, c5, rfl⟩ := Kd.R_slice hR
      have HM := Aside0.mk (show Kd.M KdB w5 w.heap.size (fun k => wr.heap.size ≤ k) dd [.slice A5 dd.length c5] from ⟨_, rfl, Kd.R_lower (Kd.R_mono (Kd.R_bound hR) (fun k hk => hk.2.1)) H.out.2.size⟩)
      have HF := Aside0.mk (Kd.fresh_ok H.out.1)
      have H1 := Aside0.mk (H.out.below hB)
      have HLN := Aside0.mk (show (outs.length + 1) * 24 ≤ 140737488355328 by have h1 := HL.out; have h2 := P.out.2.2.2; have h3 := P.out.1; omega)
      have HW := Aside0.mk (show wrap64 ((n : Int) + (k : Int)) = ((n + k : Nat) : Int) by
        have h1 := PS.out.2; have h2 := HL.out
        unfold wrap64; omega)
      clear hR hB H HCUT
      go_wp2_with (first | ((with_reducible refine gate_builtin (b := .append) (xs := #[.tmp 21, .tmp 23]) rfl ?_); at_builtin; refine Kd.R_append KdB (w0 := w) w.heap.size rfl (.tmp 21) (.tmp 23) 57 22 (.slice none 0 0) 24 rfl Try.underlying57 info22 rfl (by decide) (by omega) (.slice A outs.length c) outs dd [.slice A5 dd.length c5] (fun _ => True) (fun k => wr.heap.size ≤ k) rfl rfl HM.out (fun k hk => ⟨trivial, HF.out k hk⟩) (fun _ _ => trivial) H1.out.1 H1.out.2 H1.out.2.size HLN.out ?_; intro v1 w7 h1 h2 h3 _; have HR7 := Aside0.mk h1; have HB7 := Aside0.mk h2; clear h1 h2 h3))
      obtain ⟨A7, c7, e7⟩ := Kd.R_slice HR7.out
      subst e7
      rw [HW.out]
      go_roundg f
      case rel => exact ⟨n + k, outs ++ [dd], A7, c7, rfl, rfl, ⟨HR7.out, HB7.out⟩, ⟨PS.out.1⟩⟩
      case measure => omega
    · have HE := Aside0.mk eo
      have PS := Aside0.mk (P.out.stop (by rw [HX.out]; exact eo))
      have heo3 : ((openP X).2.2 != (0 : Int)) = true := by simpa using eo
      have heo2 : ((openP X).2.2 == (0 : Int)) = false := by simpa using eo
      clear eo
      go_wp2_with (fail)
      refine (Open_calls AX (c0 - n) X _ HCX.out HXC.out HXS.out HXB.out).mono ?_
      rintro e w5 ⟨v5, rfl, hR, hB⟩
      have H1 := Aside0.mk (H.out.below hB)
      clear hR hB H HCUT
      generalize (openP X).2.2 = er at *
      go_wp2_with (fail)
      go_ret2
      exact ⟨_, by rw [PS.out]; rfl, by rw [PS.out]; exact H1.out.1, H1.out.2⟩
theorem bb_get {w : World} {A : Option Addr} {n : Nat} {ls : List (List Int)} (h : Kd.C KdB w A n ls) (i : Nat) (hi : i < n) : ∃ ad A1 c1, A = some ad ∧ (ls.getD i []).length ≤ c1 ∧ Kd.C (Kd.int .u8) w A1 (ls.getD i []).length (ls.getD i []) ∧ w.cell? (ad.add i) = some (.slice A1 (ls.getD i []).length c1) := by
  obtain ⟨ad, cs, hA, hl, ⟨A1, c1, rfl, hc, hC⟩, hcell⟩ := Kd.C_get h [] (i : Int) (by omega) (by omega)
  rw [Int.toNat_natCast] at hc hC hcell
  refine ⟨ad, A1, c1, hA, hc, hC, ?_⟩
  have := hcell 0 _ rfl
  rw [show i * KdB.sz + 0 = i from by show i * 1 + 0 = i; omega] at this
  exact this
set_option maxHeartbeats 8000000 in
set_option maxRecDepth 100000 in
theorem EqualFunc_same (A0 : Option Addr) (c0 : Nat) (ls : List (List Int)) (A1 : Option Addr) (c1 : Nat) (w : World) (h0 : Kd.C KdB w A0 ls.length ls) (h1 : Kd.C KdB w A1 ls.length ls) :
    Calls Try.prog 45 #[.slice A0 ls.length c0, .slice A1 ls.length c1, .func (.func 18) #[] #[]] w fun e w' => e = .returned (.bool true) ∧ Drawn0 w w' := by
  have H0 := Aside0.mk h0
  have H1 := Aside0.mk h1
  clear h0 h1
  have HM := Aside0.mk (Kd.C_max H0.out)
  have hm := HM.out
  go_enter Try.func45, Try.ntmps45
  go_wp2_with (fail)
  go_loopw [17] (fun v17 wr => ∃ i : Nat, i ≤ ls.length ∧ v17 = .int .i64 (i : Int) ∧ Drawn0 w wr) (fun v17 _ => (ls.length - intOf v17).toNat)
  case atStart => exact ⟨0, by omega, rfl, Drawn0.refl w⟩
  case round =>
    obtain ⟨i, hi, rfl, ⟨nd, rfl⟩⟩ := hrel
    by_cases hlt : i < ls.length
    · obtain ⟨ad0, B0, b0, e0, hc0, hC0, hx0⟩ := bb_get H0.out i hlt
      obtain ⟨ad1, B1, b1, e1, hc1, hC1, hx1⟩ := bb_get H1.out i hlt
      subst e0 e1
      have HC := Aside0.mk (And.intro (And.intro hc0 hC0) (And.intro hc1 hC1))
      clear hc0 hC0 hc1 hC1
      generalize ls.getD i [] = y at *
      have HEQ := Aside0.mk (bseq y)
      go_wp2_with (fail)
      refine (bytes_Equal.calls B0 b0 y B1 b1 y true _ (Kd.C_drewN HC.out.1.2 nd) HC.out.1.1 (Kd.C_drewN HC.out.2.2 nd) HC.out.2.1 HEQ.out).mono ?_
      rintro e w10 ⟨rfl, ⟨nq, rfl⟩⟩
      go_wp2
      go_roundw
      case rel => exact ⟨i + 1, hlt, by go_num, ⟨_, rfl⟩⟩
      case measure => simp [intOf]; omega
    · go_wp2
      go_ret
      exact ⟨rfl, ⟨_, rfl⟩⟩
end Go.Proofs.Ytleaiojilmkhaaa.Wk
