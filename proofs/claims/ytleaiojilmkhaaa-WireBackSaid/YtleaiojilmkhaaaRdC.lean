/- Contracts of a reader that a call made: Err, Left, Number, Int. -/
import Derived.Test.YtleaiojilmkhaaaAw
import Derived.Test.YtleaiojilmkhaaaPlainY
namespace Go.Proofs.Ytleaiojilmkhaaa.Wk
open Go Go.RowKit Go.Proofs.YtleaiojilmkhaaaW.PrintWords Go.Proofs.YtleaiojilmkhaaaW.PrintLast Go.Proofs.YtleaiojilmkhaaaW.PrintMore Go.Proofs.Ytleaiojilmkhaaa.Wire
open Go.Proofs.Ytleaiojilmkhaaa.WBase
set_option linter.unusedVariables false
theorem Err_made (g : Nat) (s : List Int) (p er : Int) (w0 w : World) (hI : IsS62 w0 w g s p er true) : Calls Try.prog 32 #[.pointer (some ⟨g, 0, none⟩)] w fun e w' => e = .returned (.int .i64 er) ∧ Drawn0 w w' := by
  obtain ⟨A, c, HG, hg, HS⟩ := hI
  have hc_2 := cellS62_2 HG
  have hc_3 := cellS62_3 HG
  clear hg HG HS
  go_enter Try.func32, Try.ntmps32
  go_wp2
  go_ret
  exact ⟨rfl, 0, rfl⟩
theorem Left_made (g : Nat) (s : List Int) (p : Nat) (er : Int) (w0 w : World) (hI : IsS62 w0 w g s (p : Int) er true) (her : er ≠ 6) (hp : p ≤ s.length) (hlen : s.length < 140737488355328) : Calls Try.prog 31 #[.pointer (some ⟨g, 0, none⟩)] w fun e w' => e = .returned (.int .i64 ((s.length - p : Nat) : Int)) ∧ Drawn0 w w' := by
  have HI := Aside0.mk hI
  have HP := Aside0.mk hp
  have HL := Aside0.mk hlen
  have d6 : (er == (6 : Int)) = false := by simpa using her
  obtain ⟨A, c, HG, hg, HS⟩ := hI
  have hc_0 := cellS62_0 HG
  have hc_1 := cellS62_1 HG
  clear hg HG HS hp hlen her
  go_enter Try.func31, Try.ntmps31
  go_wp2_with (fail)
  refine (Err_made g s p er w0 _ HI.out).mono ?_
  rintro e w1 ⟨rfl, ⟨n0, rfl⟩⟩
  go_wp2
  go_quiet (fail)
  go_wp2
  have hw : wrap64 ((s.length : Int) - (p : Int)) = ((s.length - p : Nat) : Int) := by
    have := HP.out; have := HL.out
    unfold wrap64; omega
  go_ret
  exact ⟨by rw [← hw]; rfl, Drawn0.step ⟨⟨n0, rfl⟩⟩ nq⟩
/-- The number that is told, the place and the error behind it. -/
def numV (q : Nat × Nat × Int) : Nat := if q.2.2 = 0 then q.1 else 0
def numA (p : Nat) (q : Nat × Nat × Int) : Nat := if q.2.2 = 0 then p + q.2.1 else p
theorem Number_made (g : Nat) (s : List Int) (p : Nat) (w0 w : World) (hI : IsS62 w0 w g s (p : Int) 0 true) (hB : Below w0.heap.size w0 w) (hs : Bs s) (hlen : s.length < 140737488355328) (hp : p ≤ s.length) :
    Calls Try.prog 33 #[.pointer (some ⟨g, 0, none⟩)] w fun e w' => e = .returned (.int .u64 (numV (num (s.drop p)) : Nat)) ∧ IsS62 w0 w' g s (numA p (num (s.drop p)) : Nat) (num (s.drop p)).2.2 true ∧ Below w0.heap.size w0 w' ∧ KeepBut w w' g none := by
  have hN := Number_eq s hs hlen p hp 36 (by decide)
  have h2 : wire_Reader_Number.f 36 s (p : Int) 0 true = some (((numV (num (s.drop p)) : Nat) : Int), ((numA p (num (s.drop p)) : Nat) : Int), (num (s.drop p)).2.2, true) := by
    rw [hN]
    unfold res numV numA
    by_cases c : (num (s.drop p)).2.2 = 0
    · rw [if_pos c, if_pos c, if_pos c, c]
    · rw [if_neg c, if_neg c, if_neg c]; rfl
  exact wire_Reader_Number.calls 36 g s p 0 true _ _ _ _ w0 w hI hB h2
theorem numA_le {s : List Int} {p : Nat} (hp : p ≤ s.length) : numA p (num (s.drop p)) ≤ s.length := by
  unfold numA
  split
  · rename_i h
    have := (num_le h).1
    rw [List.length_drop] at this; omega
  · exact hp
theorem num_err (r : List Int) : (num r).2.2 = 0 ∨ (num r).2.2 = 2 ∨ (num r).2.2 = 5 ∨ (num r).2.2 = 10 := by
  have : ∀ (r : List Int) (i n : Nat), (numGo i n r).2.2 = 0 ∨ (numGo i n r).2.2 = 2 ∨ (numGo i n r).2.2 = 5 ∨ (numGo i n r).2.2 = 10 := by
    intro r
    induction r with
    | nil => intro i n; simp [numGo]
    | cons x r ih =>
      intro i n
      unfold numGo
      split
      · simp
      · split
        · simp
        · split
          · simp
          · exact ih _ _
  exact this r 0 0
set_option maxHeartbeats 2000000 in
theorem Int_made (g : Nat) (s : List Int) (p : Nat) (w0 w : World) (hI : IsS62 w0 w g s (p : Int) 0 true) (hB : Below w0.heap.size w0 w) (hs : Bs s) (hlen : s.length < 140737488355328) (hp : p ≤ s.length) :
    Calls Try.prog 40 #[.pointer (some ⟨g, 0, none⟩)] w fun e w' => e = .returned (.int .i64 (backP (numV (num (s.drop p)) : Nat))) ∧ IsS62 w0 w' g s (numA p (num (s.drop p)) : Nat) (num (s.drop p)).2.2 true ∧ Below w0.heap.size w0 w' ∧ KeepBut w w' g none := by
  have HC := Aside0.mk (Number_made g s p w0 w hI hB hs hlen hp)
  have HV := Aside0.mk (show numV (num (s.drop p)) < 18446744073709551616 by
    have := num_lt (s.drop p)
    unfold numV
    split
    · exact this
    · decide)
  clear hI hB hs hlen hp
  generalize numV (num (s.drop p)) = v at *
  generalize numA p (num (s.drop p)) = a at *
  generalize (num (s.drop p)).2.2 = er at *
  go_enter Try.func40, Try.ntmps40
  go_wp2_with (fail)
  refine (HC.out).mono ?_
  rintro e w1 ⟨rfl, hi, hb, hk⟩
  have HR := Aside0.mk (And.intro hi (And.intro hb hk))
  clear hi hb hk HC
  go_wp2_with (fail)
  refine (Back_any v HV.out _).mono ?_
  rintro e w2 ⟨rfl, ⟨n0, rfl⟩⟩
  go_wp2
  go_ret
  exact ⟨rfl, HR.out.1.drewN n0, pw_below_drewN HR.out.2.1 n0, keep_drewN HR.out.2.2 n0⟩
end Go.Proofs.Ytleaiojilmkhaaa.Wk
