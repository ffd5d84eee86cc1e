/- What is read, put again, is the bytes that were read. -/
import Derived.Test.YtleaiojilmkhaaaRdC
import Derived.Test.YtleaiojilmkhaaaPlainZ
namespace Go.Proofs.Ytleaiojilmkhaaa.Wk
open Go Go.RowKit Go.Proofs.YtleaiojilmkhaaaW.PrintWords Go.Proofs.YtleaiojilmkhaaaW.PrintLast Go.Proofs.YtleaiojilmkhaaaW.PrintMore Go.Proofs.Ytleaiojilmkhaaa.Wire
open Go.Proofs.Ytleaiojilmkhaaa.WBase (IsS62 info37)
open Go.Proofs.Ytleaiojilmkhaaa.PWireBack (bytes_Equal.calls)
set_option linter.unusedVariables false
/-- The reader, and the numbers that were read. -/
def FS (w w1 : World) (g : Nat) (l0 : List Int) (p : Nat) (er : Int) (L : List Int) (v : Value) (W : World) : Prop :=
  IsS62 w1 W g l0 (p : Int) er true ∧ Below w1.heap.size w1 W ∧ Below w.heap.size w w1 ∧ Kd.R (Kd.int .u64) 37 W w1.heap.size (fun k => k ≠ g) v L
theorem FS.below {w w1 : World} {g : Nat} {l0 : List Int} {p : Nat} {er : Int} {L : List Int} {v : Value} {W W' : World} (h : FS w w1 g l0 p er L v W) (hb : Below W.heap.size W W') : FS w w1 g l0 p er L v W' :=
  ⟨h.1.below hb, below_step h.2.1 hb, h.2.2.1, Kd.R_below h.2.2.2 hb⟩
theorem FS.up {w w1 : World} {g : Nat} {l0 : List Int} {p : Nat} {er : Int} {L : List Int} {v : Value} {W : World} (h : FS w w1 g l0 p er L v W) : Below w.heap.size w W := below_step h.2.2.1 h.2.1
theorem FS.append {w w1 : World} {g : Nat} {l0 : List Int} {p : Nat} {er : Int} {L L' : List Int} {v v' : Value} {W W' : World} (h : FS w w1 g l0 p er L v W) (hR : Kd.R (Kd.int .u64) 37 W' w1.heap.size (fun k => k ≠ g) v' L') (hB : Below w1.heap.size w1 W') (hG : W.grownBy W' v.ownBlock) : FS w w1 g l0 p er L' v' W' :=
  ⟨h.1.grown hG (h.1.own_ne h.2.2.2 (by decide)), hB, h.2.2.1, hR⟩
/-- What the loop has come to. -/
def FP (l0 : List Int) (p : Nat) (er : Int) (L : List Int) : Prop := p ≤ l0.length ∧ Wire.encs L = l0.take p ∧ (∀ x ∈ L, 0 ≤ x ∧ x < 18446744073709551616) ∧ L.length ≤ p ∧ er ≠ 6
theorem FP.step {l0 : List Int} {p : Nat} {L : List Int} (h : FP l0 p 0 L) (hs : Bs l0) (he : (num (l0.drop p)).2.2 = 0) : FP l0 (numA p (num (l0.drop p))) 0 (L ++ [((numV (num (l0.drop p)) : Nat) : Int)]) ∧ p < numA p (num (l0.drop p)) := by
  obtain ⟨h1, h2, h3, h4, h5⟩ := h
  have hle := num_le he
  have hc := num_canon (hs.drop p) he
  have hv := num_lt (l0.drop p)
  have hA : numA p (num (l0.drop p)) = p + (num (l0.drop p)).2.1 := by unfold numA; rw [if_pos he]
  have hV : numV (num (l0.drop p)) = (num (l0.drop p)).1 := by unfold numV; rw [if_pos he]
  rw [List.length_drop] at hle
  rw [hA, hV]
  refine ⟨⟨by omega, ?_, ?_, ?_, h5⟩, by omega⟩
  · rw [encs_snoc, h2, Int.toNat_natCast, hc, List.take_add]
  · intro x hx
    rcases List.mem_append.1 hx with hx | hx
    · exact h3 x hx
    · rw [List.mem_singleton.1 hx]; omega
  · rw [List.length_append, List.length_singleton]; omega
theorem FP.stop {l0 : List Int} {p : Nat} {L : List Int} (h : FP l0 p 0 L) (he : (num (l0.drop p)).2.2 ≠ 0) : FP l0 (numA p (num (l0.drop p))) (num (l0.drop p)).2.2 L := by
  obtain ⟨h1, h2, h3, h4, h5⟩ := h
  have hA : numA p (num (l0.drop p)) = p := by unfold numA; rw [if_neg he]
  rw [hA]
  exact ⟨h1, h2, h3, h4, by have := num_err (l0.drop p); omega⟩
theorem Open_bad (A0 : Option Addr) (c0 : Nat) (l : List Int) (w : World) (hr0 : Kd.C (Kd.int .u8) w A0 l.length l) (hc0 : l.length ≤ c0) (hs : Bs l) (hlen : l.length < 140737488355328) (he : (openP l).2.2 ≠ 0) :
    Calls Try.prog 24 #[.slice A0 l.length c0] w fun e w' => ∃ v, e = .returned (.tuple #[v, .int .i64 0, .int .i64 (openP l).2.2]) ∧ Below w.heap.size w w' := by
  refine (Open_calls A0 c0 l w hr0 hc0 hs hlen).mono ?_
  rintro e w' ⟨v, rfl, _, hB⟩
  have h0 : (openP l).2.1 = 0 := by rw [open_err he]
  exact ⟨v, by rw [h0]; rfl, hB⟩
theorem Open_good (A0 : Option Addr) (c0 : Nat) (l : List Int) (w : World) (hr0 : Kd.C (Kd.int .u8) w A0 l.length l) (hc0 : l.length ≤ c0) (hs : Bs l) (hlen : l.length < 140737488355328) (d : List Int) (n : Nat) (he : openP l = (d, n, 0)) :
    Calls Try.prog 24 #[.slice A0 l.length c0] w fun e w' => ∃ A c, e = .returned (.tuple #[.slice A d.length c, .int .i64 (n : Int), .int .i64 0]) ∧ Kd.R (Kd.int .u8) 5 w' w.heap.size (fun _ => True) (.slice A d.length c) d ∧ Below w.heap.size w w' := by
  refine (Open_calls A0 c0 l w hr0 hc0 hs hlen).mono ?_
  rintro e w' ⟨v, rfl, hR, hB⟩
  rw [he] at hR ⊢
  obtain ⟨A, c, rfl⟩ := Kd.R_slice hR
  exact ⟨A, c, rfl, hR, hB⟩
set_option maxHeartbeats 8000000 in
set_option maxRecDepth 100000 in
theorem form (A0 : Option Addr) (c0 : Nat) (l0 : List Int) (w : World) (hr0 : Kd.C (Kd.int .u8) w A0 l0.length l0) (hc0 : l0.length ≤ c0) (hs : Bs l0) :
    Calls Try.prog 9 #[.slice A0 l0.length c0] w fun e w' => e = .returned (.bool true) ∧ Below w.heap.size w w' := by
  have HR0 := Aside0.mk hr0
  have HC0 := Aside0.mk hc0
  have HS := Aside0.mk hs
  clear hr0 hc0 hs
  rcases Nat.lt_or_ge 16384 l0.length with h | h
  · have hb : decide (16384 < (l0.length : Int)) = true := decide_eq_true (by omega)
    clear h
    go_enter Try.func9, Try.ntmps9
    go_wp2_with (fail)
    refine (awake_any _).mono ?_
    rintro e w1 ⟨rfl, hB⟩
    have HB := Aside0.mk hB
    clear hB
    go_wp2
    go_ret
    exact ⟨rfl, HB.out⟩
  · have hb : decide (16384 < (l0.length : Int)) = false := decide_eq_false (by omega)
    have HL := Aside0.mk h
    clear h
    have HLL := Aside0.mk (show l0.length < 140737488355328 by have := HL.out; omega)
    obtain ⟨i0, hi0, _, hz1, _⟩ := info_parts Go.Proofs.Ytleaiojilmkhaaa.Wire.info5
    have HINF := Aside0.mk hi0
    clear hi0 hz1
    go_enter Try.func9, Try.ntmps9
    go_wp2_with (fail)
    refine (Read_calls A0 c0 l0 _ HR0.out HC0.out HLL.out).mono ?_
    rintro e w2 ⟨w1, g, rfl, hI, hb1, hb2⟩
    have H0 := Aside0.mk (show FS w w1 g l0 0 0 [] (.slice none 0 0) w2 from ⟨hI, hb2, hb1, Kd.R_nil _ _ _ _ _⟩)
    have P0 := Aside0.mk (show FP l0 0 0 [] from ⟨Nat.zero_le _, by simp [Wire.encs], by simp, Nat.le_refl _, by decide⟩)
    clear hI hb1 hb2
    go_wp2_with (fail)
    go_loopg [4, 5] (l0.length + 2) (fun kq v4 v5 wr => ∃ (p : Nat) (er : Int) (L : List Int) (A : Option Addr) (c : Nat), v4 = .slice A L.length c ∧ Aside0 (FS w w1 g l0 p er L (.slice A L.length c) wr) ∧ Aside0 (FP l0 p er L) ∧ Aside0 (er = 0 → l0.length - p + 1 < kq))
    case atStart => exact ⟨0, 0, [], none, 0, rfl, H0, P0, ⟨fun _ => by omega⟩⟩
    case round =>
      obtain ⟨p, er, L, A, c, rfl, H, P, K⟩ := hrel
      clear H0 P0
      obtain ⟨d, hd⟩ : ∃ d, l0.length - p = d := ⟨_, rfl⟩
      have HD := Aside0.mk hd
      clear hd
      by_cases hgo : 0 < d ∧ er = 0
      · obtain ⟨h1, rfl⟩ := hgo
        have hd0 : decide (0 < (d : Int)) = true := decide_eq_true (by omega)
        go_wp2_with (fail)
        refine (Left_made g l0 p 0 w1 _ H.out.1 P.out.2.2.2.2 P.out.1 HLL.out).mono ?_
        rintro e w3 ⟨rfl, hdr⟩
        rw [HD.out]
        have H1 := Aside0.mk (H.out.below hdr.below)
        clear hdr H
        go_wp2_with (fail)
        refine (Err_made g l0 p 0 w1 _ H1.out.1).mono ?_
        rintro e w4 ⟨rfl, hdr⟩
        have H2 := Aside0.mk (H1.out.below hdr.below)
        clear hdr H1
        go_wp2_with (fail)
        refine (Number_made g l0 p w1 _ H2.out.1 H2.out.2.1 HS.out HLL.out P.out.1).mono ?_
        rintro e w5 ⟨rfl, hI, hB, hK⟩
        have HR5 := Aside0.mk (Kd.R_keep H2.out.2.2.2 hK (fun _ hk => hk))
        have H3 := Aside0.mk (show FS w w1 g l0 (numA p (num (l0.drop p))) (num (l0.drop p)).2.2 L (.slice A L.length c) w5 from ⟨hI, hB, H2.out.2.2.1, HR5.out⟩)
        clear hI hB hK HR5 H2
        by_cases he : (num (l0.drop p)).2.2 = 0
        · have PS := Aside0.mk (P.out.step HS.out he)
          have HE := Aside0.mk he
          rw [he] at H3
          clear he
          go_wp2_with (fail)
          refine (Err_made g l0 _ _ w1 _ H3.out.1).mono ?_
          rintro e w6 ⟨rfl, hdr⟩
          have H4 := Aside0.mk (H3.out.below hdr.below)
          clear hdr H3
          have HLN := Aside0.mk (show L.length + 1 ≤ 17000 by have := P.out.2.2.2.1; have := P.out.1; have := HL.out; omega)
          generalize numV (num (l0.drop p)) = v at *
          generalize numA p (num (l0.drop p)) = p' at *
          go_wp2_with (first | ((with_reducible refine gate_builtin (b := .append) (xs := #[.tmp 30, .tmp 32]) rfl ?_); at_builtin; refine Kd.R_append (Kd.int .u64) (w0 := w1) w1.heap.size rfl (.tmp 30) (.tmp 32) 45 37 (.int .u64 0) 8 rfl Try.underlying45 info37 rfl (by decide) (by omega) (.slice A L.length c) L ((v : Nat) : Int) [.int .u64 ((v : Nat) : Int)] (fun k => k ≠ g) (fun _ => False) rfl rfl rfl (fun _ hk => hk.elim) H4.out.1.fresh H4.out.2.2.2 H4.out.2.1 H4.out.2.1.size ?hl ?_; (case hl => have := HLN.out; omega); intro v1 w7 h1 h2 h3 _; have H5 := Aside0.mk (H4.out.append h1 h2 h3); clear h1 h2 h3))
          obtain ⟨A5, c5, rfl⟩ := Kd.R_slice H5.out.2.2.2
          go_roundg (gk - 1)
          case rel => exact ⟨p', 0, L ++ [((v : Nat) : Int)], A5, c5, rfl, H5, ⟨PS.out.1⟩, ⟨fun _ => by have h1 := K.out (by simp); have h2 := PS.out.2; have h3 := PS.out.1.1; omega⟩⟩
          case measure => have h1 := K.out (by simp); omega
        · have PS := Aside0.mk (P.out.stop he)
          have he2 : ((num (l0.drop p)).2.2 == (0 : Int)) = false := by simpa using he
          have HE := Aside0.mk he
          clear he
          go_wp2_with (fail)
          refine (Err_made g l0 _ _ w1 _ H3.out.1).mono ?_
          rintro e w6 ⟨rfl, hdr⟩
          have H4 := Aside0.mk (H3.out.below hdr.below)
          clear hdr H3
          generalize numA p (num (l0.drop p)) = p' at *
          generalize (num (l0.drop p)).2.2 = er' at *
          go_wp2
          go_roundg (gk - 1)
          case rel => exact ⟨p', er', L, A, c, rfl, H4, PS, ⟨fun h => absurd h HE.out⟩⟩
          case measure => have h1 := K.out (by simp); omega
      · have hex : d = 0 ∨ (0 < d ∧ er ≠ 0) := by omega
        clear hgo
        rcases hex with hd0 | ⟨hd1, her⟩
        · subst hd0
          go_wp2_with (fail)
          refine (Left_made g l0 p er w1 _ H.out.1 P.out.2.2.2.2 P.out.1 HLL.out).mono ?_
          rintro e w3 ⟨rfl, hdr⟩
          rw [HD.out, show ((0 : Nat) : Int) = (0 : Int) from rfl]
          have H4 := Aside0.mk (H.out.below hdr.below)
          clear hdr H
          have HRL := Aside0.mk (Kd.R_reads' H4.out.2.2.2)
          go_wp2_with (fail)
          refine (Put_any none 0 [] A c L _ (Kd.C_nil _ _) (Nat.le_refl _) HRL.out.2.2 HRL.out.2.1 (fun _ => rfl) P.out.2.2.1 (by have := P.out.2.2.2.1; have := P.out.1; have := HL.out; simp only [List.length_nil]; omega)).mono ?_
          rintro e w5 ⟨v5, rfl, hO, hB⟩
          obtain ⟨X, hX⟩ : ∃ X, l0.take p = X := ⟨_, rfl⟩
          have hXl : X.length = p := by rw [← hX, List.length_take]; exact Nat.min_eq_left P.out.1
          have HX := Aside0.mk hX
          have HXL := Aside0.mk hXl
          clear hXl
          rw [List.nil_append, P.out.2.1, hX] at hO
          clear hX
          obtain ⟨A5, c5, rfl⟩ := hO.slice
          have HO := Aside0.mk (ono_reads hO)
          have H5 := Aside0.mk (H4.out.below hB)
          clear hO hB H4 HRL
          go_wp2_with (fail)
          refine (Left_made g l0 p er w1 _ H5.out.1 P.out.2.2.2.2 P.out.1 HLL.out).mono ?_
          rintro e w6 ⟨rfl, hdr⟩
          obtain ⟨q, hq⟩ : ∃ q, l0.length - p = q := ⟨_, rfl⟩
          rw [hq]
          have HQ := Aside0.mk hq
          clear hq
          have H6 := Aside0.mk (H5.out.below hdr.below)
          have HO6 := Aside0.mk (Kd.C_below HO.out.1 hdr.below)
          clear hdr H5
          have HCUT := cut_to (P := Try.prog) 22 5 .i64 Try.underlying22 HINF.out A0 l0.length c0 (p : Int) (by omega) (by have := P.out.1; omega) HC0.out
          rw [Int.toNat_natCast] at HCUT
          have hw : wrap64 ((l0.length : Int) - (q : Int)) = (p : Int) := by
            have h1 := HQ.out; have h2 := P.out.1; have h3 := HL.out
            unfold wrap64; omega
          have HCP := Aside0.mk (Kd.C_take (Kd.C_below HR0.out H6.out.up) P.out.1)
          rw [HX.out] at HCP
          rw [← HXL.out] at HCUT
          rw [← HXL.out] at hw
          have HPC := Aside0.mk (show X.length ≤ c0 by have h1 := P.out.1; have h2 := HC0.out; have h3 := HXL.out; omega)
          have HEQ := Aside0.mk (bseq X)
          go_wp2_with (fail)
          refine (bytes_Equal.calls A5 c5 X A0 c0 X true w6 HO6.out HO.out.2 HCP.out HPC.out HEQ.out).mono ?_
          rintro e w7 ⟨rfl, hdr⟩
          have H7 := Aside0.mk (H6.out.up)
          have HB7 := Aside0.mk (below_step H7.out hdr.below)
          clear hdr hw HCUT
          go_wp2_with (fail)
          by_cases eo : (openP l0).2.2 = 0
          · obtain ⟨dd, n, hon⟩ : ∃ dd n, openP l0 = (dd, n, 0) := ⟨(openP l0).1, (openP l0).2.1, by rw [← eo]⟩
            obtain ⟨hd8, hnl, hsl⟩ := open_canon HS.out hon
            have HON := Aside0.mk hon
            have HD8 := Aside0.mk hd8
            have HNL := Aside0.mk hnl
            have hbd : Bs dd := by
              have h1 := HS.out.take n
              rw [← hsl] at h1
              unfold sealP recP at h1
              exact fun x hx => h1 x (List.mem_append_left _ (List.mem_append_right _ hx))
            have HBD := Aside0.mk hbd
            clear hon hd8 hnl hbd eo
            refine (Open_good A0 c0 l0 _ (Kd.C_below HR0.out HB7.out) HC0.out HS.out HLL.out dd n HON.out).mono ?_
            rintro e w8 ⟨A8, c8, rfl, hR8, hB⟩
            have HR8 := Aside0.mk hR8
            have HB8 := Aside0.mk (below_step HB7.out hB)
            clear hR8 hB
            go_wp2_with (fail)
            refine (Seal_any A8 c8 dd _ (Kd.R_reads' HR8.out).2.2 (Kd.R_reads' HR8.out).2.1 HBD.out HD8.out).mono ?_
            rintro e w9 ⟨v9, rfl, hR9, hB⟩
            obtain ⟨Y, hY⟩ : ∃ Y, l0.take n = Y := ⟨_, rfl⟩
            have hYl : Y.length = n := by rw [← hY, List.length_take]; exact Nat.min_eq_left HNL.out
            rw [hsl, hY] at hR9
            have HB9 := Aside0.mk (below_step HB8.out hB)
            obtain ⟨A9, c9, rfl⟩ := Kd.R_slice hR9
            have HR9 := Aside0.mk (Kd.R_reads' hR9)
            have HCP9 := Aside0.mk (Kd.C_take (Kd.C_below HR0.out HB9.out) HNL.out)
            rw [hY] at HCP9
            have HCUT := cut_to (P := Try.prog) 22 5 .i64 Try.underlying22 HINF.out A0 l0.length c0 (n : Int) (by omega) (by have := HNL.out; omega) HC0.out
            rw [Int.toNat_natCast, ← hYl] at HCUT
            rw [hYl] at HCUT
            have HPC9 := Aside0.mk (show Y.length ≤ c0 by have h1 := HNL.out; have h2 := HC0.out; omega)
            have HEQ9 := Aside0.mk (bseq Y)
            have HE9 := Aside0.mk (bytes_Equal.calls A9 c9 Y A0 c0 Y true w9 HR9.out.2.2 HR9.out.2.1 HCP9.out HPC9.out HEQ9.out)
            rw [hYl] at HE9
            clear hR9 hB hY hsl
            rw [hYl]
            clear hYl
            go_wp2_with (fail)
            refine (HE9.out).mono ?_
            rintro e w10 ⟨rfl, hdr⟩
            have HB10 := Aside0.mk (below_step HB9.out hdr.below)
            clear hdr HCUT
            go_wp2_with (fail)
            refine (awake_any _).mono ?_
            rintro e w11 ⟨rfl, hB⟩
            have HB11 := Aside0.mk (below_step HB10.out hB)
            clear hB
            go_wp2
            go_ret
            exact ⟨rfl, HB11.out⟩
          · have HEO := Aside0.mk eo
            have heo2 : ((openP l0).2.2 == (0 : Int)) = false := by simpa using eo
            have heo3 : ((openP l0).2.2 != (0 : Int)) = true := by simpa using eo
            clear eo
            refine (Open_bad A0 c0 l0 _ (Kd.C_below HR0.out HB7.out) HC0.out HS.out HLL.out HEO.out).mono ?_
            rintro e w8 ⟨v8, rfl, hB⟩
            have HB8 := Aside0.mk (below_step HB7.out hB)
            clear hB
            generalize (openP l0).2.2 = eo at *
            go_wp2_with (fail)
            refine (awake_any _).mono ?_
            rintro e w9 ⟨rfl, hB⟩
            have HB9 := Aside0.mk (below_step HB8.out hB)
            clear hB
            go_wp2
            go_ret
            exact ⟨rfl, HB9.out⟩
        · have hd2 : decide (0 < (d : Int)) = true := decide_eq_true (by omega)
          have hd3 : decide (0 < d) = true := decide_eq_true (by omega)
          have her2 : (er == (0 : Int)) = false := by simpa using her
          clear her
          go_wp2_with (fail)
          refine (Left_made g l0 p er w1 _ H.out.1 P.out.2.2.2.2 P.out.1 HLL.out).mono ?_
          rintro e w3 ⟨rfl, hdr⟩
          rw [HD.out]
          have H3 := Aside0.mk (H.out.below hdr.below)
          clear hdr H
          go_wp2_with (fail)
          refine (Err_made g l0 p er w1 _ H3.out.1).mono ?_
          rintro e w4 ⟨rfl, hdr⟩
          have H4 := Aside0.mk (H3.out.below hdr.below)
          clear hdr H3
          have HRL := Aside0.mk (Kd.R_reads' H4.out.2.2.2)
          go_wp2_with (fail)
          refine (Put_any none 0 [] A c L _ (Kd.C_nil _ _) (Nat.le_refl _) HRL.out.2.2 HRL.out.2.1 (fun _ => rfl) P.out.2.2.1 (by have := P.out.2.2.2.1; have := P.out.1; have := HL.out; simp only [List.length_nil]; omega)).mono ?_
          rintro e w5 ⟨v5, rfl, hO, hB⟩
          obtain ⟨X, hX⟩ : ∃ X, l0.take p = X := ⟨_, rfl⟩
          have hXl : X.length = p := by rw [← hX, List.length_take]; exact Nat.min_eq_left P.out.1
          have HX := Aside0.mk hX
          have HXL := Aside0.mk hXl
          clear hXl
          rw [List.nil_append, P.out.2.1, hX] at hO
          clear hX
          obtain ⟨A5, c5, rfl⟩ := hO.slice
          have HO := Aside0.mk (ono_reads hO)
          have H5 := Aside0.mk (H4.out.below hB)
          clear hO hB H4 HRL
          go_wp2_with (fail)
          refine (Left_made g l0 p er w1 _ H5.out.1 P.out.2.2.2.2 P.out.1 HLL.out).mono ?_
          rintro e w6 ⟨rfl, hdr⟩
          obtain ⟨q, hq⟩ : ∃ q, l0.length - p = q := ⟨_, rfl⟩
          rw [hq]
          have HQ := Aside0.mk hq
          clear hq
          have H6 := Aside0.mk (H5.out.below hdr.below)
          have HO6 := Aside0.mk (Kd.C_below HO.out.1 hdr.below)
          clear hdr H5
          have HCUT := cut_to (P := Try.prog) 22 5 .i64 Try.underlying22 HINF.out A0 l0.length c0 (p : Int) (by omega) (by have := P.out.1; omega) HC0.out
          rw [Int.toNat_natCast] at HCUT
          have hw : wrap64 ((l0.length : Int) - (q : Int)) = (p : Int) := by
            have h1 := HQ.out; have h2 := P.out.1; have h3 := HL.out
            unfold wrap64; omega
          have HCP := Aside0.mk (Kd.C_take (Kd.C_below HR0.out H6.out.up) P.out.1)
          rw [HX.out] at HCP
          rw [← HXL.out] at HCUT
          rw [← HXL.out] at hw
          have HPC := Aside0.mk (show X.length ≤ c0 by have h1 := P.out.1; have h2 := HC0.out; have h3 := HXL.out; omega)
          have HEQ := Aside0.mk (bseq X)
          go_wp2_with (fail)
          refine (bytes_Equal.calls A5 c5 X A0 c0 X true w6 HO6.out HO.out.2 HCP.out HPC.out HEQ.out).mono ?_
          rintro e w7 ⟨rfl, hdr⟩
          have H7 := Aside0.mk (H6.out.up)
          have HB7 := Aside0.mk (below_step H7.out hdr.below)
          clear hdr hw HCUT
          go_wp2_with (fail)
          by_cases eo : (openP l0).2.2 = 0
          · obtain ⟨dd, n, hon⟩ : ∃ dd n, openP l0 = (dd, n, 0) := ⟨(openP l0).1, (openP l0).2.1, by rw [← eo]⟩
            obtain ⟨hd8, hnl, hsl⟩ := open_canon HS.out hon
            have HON := Aside0.mk hon
            have HD8 := Aside0.mk hd8
            have HNL := Aside0.mk hnl
            have hbd : Bs dd := by
              have h1 := HS.out.take n
              rw [← hsl] at h1
              unfold sealP recP at h1
              exact fun x hx => h1 x (List.mem_append_left _ (List.mem_append_right _ hx))
            have HBD := Aside0.mk hbd
            clear hon hd8 hnl hbd eo
            refine (Open_good A0 c0 l0 _ (Kd.C_below HR0.out HB7.out) HC0.out HS.out HLL.out dd n HON.out).mono ?_
            rintro e w8 ⟨A8, c8, rfl, hR8, hB⟩
            have HR8 := Aside0.mk hR8
            have HB8 := Aside0.mk (below_step HB7.out hB)
            clear hR8 hB
            go_wp2_with (fail)
            refine (Seal_any A8 c8 dd _ (Kd.R_reads' HR8.out).2.2 (Kd.R_reads' HR8.out).2.1 HBD.out HD8.out).mono ?_
            rintro e w9 ⟨v9, rfl, hR9, hB⟩
            obtain ⟨Y, hY⟩ : ∃ Y, l0.take n = Y := ⟨_, rfl⟩
            have hYl : Y.length = n := by rw [← hY, List.length_take]; exact Nat.min_eq_left HNL.out
            rw [hsl, hY] at hR9
            have HB9 := Aside0.mk (below_step HB8.out hB)
            obtain ⟨A9, c9, rfl⟩ := Kd.R_slice hR9
            have HR9 := Aside0.mk (Kd.R_reads' hR9)
            have HCP9 := Aside0.mk (Kd.C_take (Kd.C_below HR0.out HB9.out) HNL.out)
            rw [hY] at HCP9
            have HCUT := cut_to (P := Try.prog) 22 5 .i64 Try.underlying22 HINF.out A0 l0.length c0 (n : Int) (by omega) (by have := HNL.out; omega) HC0.out
            rw [Int.toNat_natCast, ← hYl] at HCUT
            rw [hYl] at HCUT
            have HPC9 := Aside0.mk (show Y.length ≤ c0 by have h1 := HNL.out; have h2 := HC0.out; omega)
            have HEQ9 := Aside0.mk (bseq Y)
            have HE9 := Aside0.mk (bytes_Equal.calls A9 c9 Y A0 c0 Y true w9 HR9.out.2.2 HR9.out.2.1 HCP9.out HPC9.out HEQ9.out)
            rw [hYl] at HE9
            clear hR9 hB hY hsl
            rw [hYl]
            clear hYl
            go_wp2_with (fail)
            refine (HE9.out).mono ?_
            rintro e w10 ⟨rfl, hdr⟩
            have HB10 := Aside0.mk (below_step HB9.out hdr.below)
            clear hdr HCUT
            go_wp2_with (fail)
            refine (awake_any _).mono ?_
            rintro e w11 ⟨rfl, hB⟩
            have HB11 := Aside0.mk (below_step HB10.out hB)
            clear hB
            go_wp2
            go_ret
            exact ⟨rfl, HB11.out⟩
          · have HEO := Aside0.mk eo
            have heo2 : ((openP l0).2.2 == (0 : Int)) = false := by simpa using eo
            have heo3 : ((openP l0).2.2 != (0 : Int)) = true := by simpa using eo
            clear eo
            refine (Open_bad A0 c0 l0 _ (Kd.C_below HR0.out HB7.out) HC0.out HS.out HLL.out HEO.out).mono ?_
            rintro e w8 ⟨v8, rfl, hB⟩
            have HB8 := Aside0.mk (below_step HB7.out hB)
            clear hB
            generalize (openP l0).2.2 = eo at *
            go_wp2_with (fail)
            refine (awake_any _).mono ?_
            rintro e w9 ⟨rfl, hB⟩
            have HB9 := Aside0.mk (below_step HB8.out hB)
            clear hB
            go_wp2
            go_ret
            exact ⟨rfl, HB9.out⟩
theorem WireForm (a0 : Option Addr) (len0 cap0 : Nat) (z0 : List Int) (w : World) (w0 : (a0 = none ∧ len0 = 0 ∧ cap0 = 0 ∧ z0 = []) ∨ ∃ x, a0 = some x ∧ len0 ≤ cap0 ∧ cap0 ≤ maxLen ∧ z0.length = cap0 ∧ (∀ i, i < z0.length → w.cell? (x.add i) = some (.int .u8 (z0.getD i 0))) ∧ ∀ n ∈ z0, (Lit.int .u8 n).wf = true) (y0 : len0 * 1 ≤ 140737488351232) :
    Calls Try.prog 9 #[.slice a0 len0 cap0] w fun e w' => e = .returned (.bool true) ∧ Below w.heap.size w w' := by
  obtain ⟨l0, rfl, hr0, hm0, hw0, hc0⟩ := ReadsInt.ofRowC w0
  exact form _ _ l0 w (Kd.C_of_reads (d := (0 : Int)) (h1 := fun _ => rfl) hr0) hc0 (fun x hx => wf_u8 (hw0 x hx))
end Go.Proofs.Ytleaiojilmkhaaa.Wk
