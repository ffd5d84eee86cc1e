/- Contract of bytes.HasPrefix. -/
import Derived.Test.YtnnkohddhiecoaaDkQ
namespace Go.Proofs.Ytnnkohddhiecoaa.Dk
open Go Go.RowKit Go.Proofs.YtnnkohddhiecoaaW.PrintWords Go.Proofs.YtnnkohddhiecoaaW.PrintLast Go.Proofs.YtnnkohddhiecoaaW.PrintMore
open Go.Proofs.Ytnnkohddhiecoaa.PDiskBegins
attribute [local go_sem] max2_int min2_int max_two min_two
set_option linter.unusedVariables false
set_option linter.unusedSimpArgs false
def eqB (a b : List Int) : Bool := (strOfNums a).toList == (strOfNums b).toList
theorem eqB_same (a : List Int) : eqB a a = true := by unfold eqB; simp
def hasP (a b : List Int) : Bool := decide (b.length ≤ a.length) && eqB (a.take b.length) b
theorem Equal_any (A : Option Addr) (c : Nat) (l : List Int) (B : Option Addr) (d : Nat) (m : List Int) (w : World) (h1 : Kd.C (Kd.int .u8) w A l.length l) (hc : l.length ≤ c) (h2 : Kd.C (Kd.int .u8) w B m.length m) (hd : m.length ≤ d) :
    Calls Try.prog 23 #[.slice A l.length c, .slice B m.length d] w fun e w' => e = .returned (.bool (eqB l m)) ∧ Drawn0 w w' := bytes_Equal.calls A c l B d m _ w h1 hc h2 hd rfl
set_option maxHeartbeats 8000000 in
set_option maxRecDepth 100000 in
theorem HasPrefix_calls (A : Option Addr) (c : Nat) (l : List Int) (B : Option Addr) (d : Nat) (m : List Int) (w : World) (h1 : Kd.C (Kd.int .u8) w A l.length l) (hc : l.length ≤ c) (h2 : Kd.C (Kd.int .u8) w B m.length m) (hd : m.length ≤ d) :
    Calls Try.prog 29 #[.slice A l.length c, .slice B m.length d] w fun e w' => e = .returned (.bool (hasP l m)) ∧ Below w.heap.size w w' := by
  obtain ⟨r, hr⟩ : ∃ r, hasP l m = r := ⟨_, rfl⟩
  rw [hr]
  have HR := Aside0.mk hr
  have HC := Aside0.mk h1
  have HD := Aside0.mk h2
  have HM := Aside0.mk (Kd.C_max h1)
  have HN := Aside0.mk (Kd.C_max h2)
  clear hr
  by_cases q : m.length ≤ l.length
  · have HL := Aside0.mk (show (l.take m.length).length = m.length by rw [List.length_take]; omega)
    have HCT := Aside0.mk (Kd.C_take h1 q)
    have HE := Aside0.mk (fun W (h1 : Kd.C (Kd.int .u8) W A (l.take m.length).length (l.take m.length)) (h2 : Kd.C (Kd.int .u8) W B m.length m) => Equal_any A c (l.take m.length) B d m W h1 (by rw [HL.out]; omega) h2 hd)
    rw [HL.out] at HE HCT
    have HR2 := Aside0.mk (show r = eqB (l.take m.length) m by rw [← HR.out]; unfold hasP; rw [decide_eq_true q, Bool.true_and])
    have d1 : decide ((m.length : Int) ≤ (l.length : Int)) = true := decide_eq_true (by omega)
    have q2 := Nat.le_trans q hc
    clear h1 h2 HR
    rw [HR2.out]
    generalize l.length = n at *
    generalize m.length = k at *
    go_enter Try.func29, Try.ntmps29
    go_wp2_with (fail)
    refine (HE.out w HCT.out HD.out).mono ?_
    rintro e w3 ⟨rfl, ⟨nd, rfl⟩⟩
    go_wp2_with (fail)
    go_ret
    exact ⟨rfl, pw_below_drewN (Below.refl _ _) nd⟩
  · have HR2 := Aside0.mk (show r = false by rw [← HR.out]; unfold hasP; rw [decide_eq_false q, Bool.false_and])
    have d1 : decide ((m.length : Int) ≤ (l.length : Int)) = false := decide_eq_false (by omega)
    clear h1 h2 HR
    rw [HR2.out]
    go_enter Try.func29, Try.ntmps29
    go_wp2_with (fail)
    go_ret
    exact ⟨rfl, Below.refl _ _⟩
end Go.Proofs.Ytnnkohddhiecoaa.Dk
