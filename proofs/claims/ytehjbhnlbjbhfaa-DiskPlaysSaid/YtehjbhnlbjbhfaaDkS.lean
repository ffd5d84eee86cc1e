/- Contract of the law's awake: the example. -/
import Derived.Test.YtehjbhnlbjbhfaaDkM
import Derived.Lib.SlBytesConst
namespace Go.Proofs.Ytehjbhnlbjbhfaa.Dk
open Go Go.RowKit Go.Proofs.YtehjbhnlbjbhfaaW.PrintWords Go.Proofs.YtehjbhnlbjbhfaaW.PrintLast Go.Proofs.YtehjbhnlbjbhfaaW.PrintMore
open Go.Proofs.Ytehjbhnlbjbhfaa.PDiskBegins
attribute [local go_sem] max2_int min2_int max_two min_two
set_option linter.unusedVariables false
set_option linter.unusedSimpArgs false
def aw0 : DS := newP 100
def aw1 : DS := (appendP aw0 0 [97, 98]).1
def aw2 : DS := (syncP aw1 0).1
def aw3 : DS := (appendP aw2 0 [99, 100]).1
def aw4 : DS := (crashP aw3 [1]).1
def aw5 : DS := (startP aw4).1
def aw6 : DS := (armP aw5 1 []).1
def aw7 : DS := (appendP aw6 0 [120, 121]).1
def aw8 : DS := (startP aw7).1
theorem ea1 : appendP aw0 0 [97, 98] = (aw1, 0) := rfl
theorem ea2 : syncP aw1 0 = (aw2, 0) := rfl
theorem ea3 : appendP aw2 0 [99, 100] = (aw3, 0) := rfl
theorem ea4 : crashP aw3 [1] = (aw4, 0) := rfl
theorem ea5 : startP aw4 = (aw5, 0) := rfl
theorem ea6 : armP aw5 1 [] = (aw6, 0) := rfl
theorem ea7 : appendP aw6 0 [120, 121] = (aw7, 50) := rfl
theorem ea8 : (startP aw7).1 = aw8 := rfl
theorem ea9 : appendP aw8 8 [] = (aw8, 51) := rfl
theorem er5 : readP aw5 0 = ([97, 98, 99], 0) := rfl
theorem er8 : readP aw8 0 = ([97, 98, 99], 0) := rfl
theorem ok0 : Okk aw0 := newP_okk 100 (by decide)
theorem ok1 : Okk aw1 := ok0.append _ _
theorem ok2 : Okk aw2 := ok1.sync _
theorem ok3 : Okk aw3 := ok2.append _ _
theorem ok4 : Okk aw4 := ok3.crash _
theorem ok5 : Okk aw5 := ok4.start
theorem ok6 : Okk aw6 := ok5.arm _ _ (by decide) (fun x hx => by cases hx) (by decide)
theorem ok7 : Okk aw7 := ok6.append _ _
theorem ok8 : Okk aw8 := ok7.start
theorem lit_row {G : Nat → Prop} (k : IntKind) (W : World) (xs : List Int) (e : TypeId) (fr : Nat × Nat) (hG : ∀ b, G b → b < W.heap.size) (hm : xs.length ≤ 9223372036854775807) : Rw G k (W.alloc (.cells (xs.map (Value.int k)).toArray e fr)) (.slice (some ⟨W.heap.size, 0, none⟩) xs.length xs.length) xs := by
  refine Kd.V_mk (Nat.le_refl _) ?_
  intro W' hW
  have h1 := (hW W.heap.size (fun h => by have := hG _ h; omega) (by simp)).trans (blk_new W (.cells (xs.map (Value.int k)).toArray e fr))
  refine ⟨rfl, hm, fun _ => ⟨_, rfl, fun j p hj => ⟨[.int k p], rfl, rfl, fun i u hi => ?_⟩⟩⟩
  have hi0 : i = 0 := by
    have := (List.getElem?_eq_some_iff.1 hi).1
    simp at this; exact this
  subst hi0
  injection hi with hi
  subst hi
  have ha : (⟨W.heap.size, 0, none⟩ : Addr).add (j * (Kd.int k).sz + 0) = ⟨W.heap.size, j, none⟩ := by
    rw [add_at, show (Kd.int k).sz = 1 from rfl]; simp
  rw [ha, cell_of_row W' W.heap.size j _ e fr h1, List.getElem?_toArray, List.getElem?_map, hj]
  rfl
set_option maxHeartbeats 8000000 in
set_option maxRecDepth 100000 in
theorem awake_calls (w : World) : Calls Try.prog 13 #[] w fun e w' => e = .returned (.bool true) ∧ Below w.heap.size w w' := by
  have kc := fun (w : World) (C : Array Value) (n c : Nat) => Lib.run_convert_bytes_const (P := Try.prog) w 32 5 C n c Try.underlying32 Try.underlying5
  go_enter Try.func13, Try.ntmps13
  go_wp2_with (fail)
  refine (New_calls 100 w (by decide) (by decide)).mono ?_
  rintro e w1 ⟨b, rfl, hb, hb1, hB, hI⟩
  have HG := Aside0.mk hb
  have HI := Aside0.mk (show IsD (fun k => k = b) w1 b aw0 from hI (fun k => k = b) (fun k hk => hk ▸ hb1) rfl)
  have HB := Aside0.mk hB
  clear hb hb1 hB hI
  go_wp2_with (fail)
  refine (Append_calls _ b aw0 0 _ [97, 98] _ (HI.out.al (.cells #[.int .u8 97, .int .u8 98] 5 (2, 3))) ok0 (lit_row .u8 w1 [97, 98] 5 (2, 3) HI.out.lt (by decide)) (by decide)).mono ?_
  rintro e w2 ⟨rfl, hI, hW⟩
  rw [ea1] at hI
  rw [show (appendP aw0 0 [97, 98]).2 = 0 from rfl]
  have HI2 := Aside0.mk hI
  have HB2 := Aside0.mk (hW.below (below_alloc HB.out _) HG.out)
  clear hI hW
  go_wp2_with (fail)
  refine (Sync_calls _ b aw1 0 _ HI2.out ok1).mono ?_
  rintro e w3 ⟨rfl, hI, hW⟩
  rw [ea2] at hI
  rw [show (syncP aw1 0).2 = 0 from rfl]
  have HI3 := Aside0.mk hI
  have HB3 := Aside0.mk (hW.below HB2.out HG.out)
  clear hI hW HI2 HB2
  go_wp2_with (fail)
  refine (Append_calls _ b aw2 0 _ [99, 100] _ (HI3.out.al (.cells #[.int .u8 99, .int .u8 100] 5 (2, 3))) ok2 (lit_row .u8 w3 [99, 100] 5 (2, 3) HI3.out.lt (by decide)) (by decide)).mono ?_
  rintro e w4 ⟨rfl, hI, hW⟩
  rw [ea3] at hI
  rw [show (appendP aw2 0 [99, 100]).2 = 0 from rfl]
  have HI4 := Aside0.mk hI
  have HB4 := Aside0.mk (hW.below (below_alloc HB3.out _) HG.out)
  clear hI hW HI3 HB3
  go_wp2_with (fail)
  refine (Crash_calls _ b aw3 _ [1] _ (HI4.out.al (.cells #[.int .i64 1] 3)) ok3 (lit_row .i64 w4 [1] 3 (0, 0) HI4.out.lt (by decide)) (by intro x hx; simp at hx; subst hx; decide)).mono ?_
  rintro e w5 ⟨rfl, hI, hW⟩
  rw [ea4] at hI
  rw [show (crashP aw3 [1]).2 = 0 from rfl]
  have HI5 := Aside0.mk hI
  have HB5 := Aside0.mk (hW.below (below_alloc HB4.out _) HG.out)
  clear hI hW HI4 HB4
  go_wp2_with (fail)
  refine (Start_calls _ b aw4 _ HI5.out).mono ?_
  rintro e w6 ⟨rfl, hI, hW⟩
  rw [ea5] at hI
  rw [show (startP aw4).2 = 0 from rfl]
  have HI6 := Aside0.mk hI
  have HB6 := Aside0.mk (hW.below HB5.out HG.out)
  clear hI hW HI5 HB5
  go_wp2_with (fail)
  refine (Read_calls _ b aw5 0 _ HI6.out ok5.1).mono ?_
  rintro e w7 ⟨v, rfl, hR, hW⟩
  rw [er5] at hR
  rw [show (readP aw5 0).2 = 0 from rfl]
  obtain ⟨A, c, e3⟩ := Kd.R_slice hR
  subst e3
  have HI7 := Aside0.mk (HI6.out.below hW)
  have HB7 := Aside0.mk (below_step HB6.out hW)
  have HR := Aside0.mk hR
  clear hW HI6 HB6 hR
  have hcv : (convert 32 9 (.slice A 3 c)).run Try.prog w7 = .ok (.string (ByteArray.mk #[97, 98, 99])) w7 := (Kd.C_string (P := Try.prog) (A := A) (c := c) Try.underlying32 Try.underlying5 Try.underlying9 (Kd.R_reads' HR.out).2.2).trans rfl
  go_wp2_with (fail)
  clear hcv HR
  refine (Arm_calls _ b aw5 1 _ [] _ HI7.out ok5 (Rw.nil _ _ _) (by decide)).mono ?_
  rintro e w8 ⟨rfl, hI, hW⟩
  rw [ea6] at hI
  rw [show (armP aw5 1 []).2 = 0 from rfl]
  have HI8 := Aside0.mk hI
  have HB8 := Aside0.mk (hW.below HB7.out HG.out)
  clear hI hW HI7 HB7
  go_wp2_with (fail)
  refine (Append_calls _ b aw6 0 _ [120, 121] _ (HI8.out.al (.cells #[.int .u8 120, .int .u8 121] 5 (2, 3))) ok6 (lit_row .u8 w8 [120, 121] 5 (2, 3) HI8.out.lt (by decide)) (by decide)).mono ?_
  rintro e w9 ⟨rfl, hI, hW⟩
  rw [ea7] at hI
  rw [show (appendP aw6 0 [120, 121]).2 = 50 from rfl]
  have HI9 := Aside0.mk hI
  have HB9 := Aside0.mk (hW.below (below_alloc HB8.out _) HG.out)
  clear hI hW HI8 HB8
  go_wp2_with (fail)
  refine (Start_calls _ b aw7 _ HI9.out).mono ?_
  rintro e wa ⟨rfl, hI, hW⟩
  rw [ea8] at hI
  have HIa := Aside0.mk hI
  have HBa := Aside0.mk (hW.below HB9.out HG.out)
  clear hI hW HI9 HB9
  go_wp2_with (fail)
  refine (Read_calls _ b aw8 0 _ HIa.out ok8.1).mono ?_
  rintro e wb ⟨v, rfl, hR, hW⟩
  rw [er8] at hR
  rw [show (readP aw8 0).2 = 0 from rfl]
  obtain ⟨A8, c8, e3⟩ := Kd.R_slice hR
  subst e3
  have HIb := Aside0.mk (HIa.out.below hW)
  have HBb := Aside0.mk (below_step HBa.out hW)
  have HR := Aside0.mk hR
  clear hW HIa HBa hR
  have hcv : (convert 32 9 (.slice A8 3 c8)).run Try.prog wb = .ok (.string (ByteArray.mk #[97, 98, 99])) wb := (Kd.C_string (P := Try.prog) (A := A8) (c := c8) Try.underlying32 Try.underlying5 Try.underlying9 (Kd.R_reads' HR.out).2.2).trans rfl
  go_wp2_with (fail)
  refine (Append_calls _ b aw8 8 _ [] _ HIb.out ok8 (Rw.nil _ _ _) (by decide)).mono ?_
  rintro e wc ⟨rfl, hI, hW⟩
  rw [show (appendP aw8 8 []).2 = 51 from rfl]
  have HBc := Aside0.mk (hW.below HBb.out HG.out)
  clear hI hW HIb HBb hcv
  go_wp2_with (fail)
  go_ret
  exact ⟨rfl, HBc.out⟩
end Go.Proofs.Ytehjbhnlbjbhfaa.Dk
