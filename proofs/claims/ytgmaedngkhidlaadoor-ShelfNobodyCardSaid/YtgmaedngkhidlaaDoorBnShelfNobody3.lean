/- Texts that the row of LawShelfNobody rests on, part 3 of 6: contracts of the functions, their walks, plain laws. -/
import Derived.Test.YtgmaedngkhidlaaDoorBnShelfNobody2
import Derived.Lib.BytesEntry
import Derived.Laws.CopyRow
import Derived.Lib.Bytes
import Derived.Lib.Bytealg
import Derived.Shelf.Unicode.ValidAny
import Derived.Deep.LoopGhost
set_option linter.unusedSimpArgs false
-- SfU
namespace Go.Proofs.YtgmaedngkhidlaaDoor.Sf
open Go Go.RowKit Go.ChangeMaps Go.MapKept Go.Proofs.YtgmaedngkhidlaaDoorW.PrintWords Go.Proofs.YtgmaedngkhidlaaDoorW.PrintLast Go.Proofs.YtgmaedngkhidlaaDoorW.PrintMore
open Go.Maps (Keyed)
set_option linter.unusedVariables false
set_option linter.unusedSimpArgs false
theorem strB_eq (xs : List Int) : (strOfNums xs).data.toList = Lib.bytesOf xs := by rw [← Lib.toList_data]; exact Lib.strOfNums_toList xs
theorem indexByte_neg : ∀ {l : List UInt8} {c : UInt8}, c ∉ l → Lib.indexByte l c = -1
  | [], _, _ => rfl
  | b :: l, c, h => by
    have h1 : (b == c) = false := by simpa using fun e : b = c => h (by rw [e]; exact List.mem_cons_self ..)
    unfold Lib.indexByte
    rw [h1, indexByte_neg fun e => h (List.mem_cons_of_mem _ e)]
    rfl
theorem indexByte_pos : ∀ {l : List UInt8} {c : UInt8}, c ∈ l → 0 ≤ Lib.indexByte l c
  | b :: l, c, h => by
    unfold Lib.indexByte
    split
    · omega
    · rename_i hb
      have hc : c ∈ l := (List.mem_cons.1 h).resolve_left fun e => hb (by simp [e])
      have := indexByte_pos hc
      split
      · rename_i e
        have : Lib.indexByte l c = -1 := by simpa using e
        omega
      · omega
set_option maxHeartbeats 1000000 in
set_option maxRecDepth 100000 in
theorem IndexByte_calls (b o n c : Nat) (xs : List Int) (w : World) (hx : xs.length = n) (hc : ∀ i, i < n → w.cell? ⟨b, o + i, none⟩ = some (.int .u8 (xs.getD i 0))) :
    Calls Tryd.prog 84 #[.slice (some ⟨b, o, none⟩) n c, .int .u8 0] w fun e w' => e = .returned (.int .i64 (Lib.indexByte (Lib.bytesOf xs) 0)) ∧ w = w' := by
  have hrun := Lib.run_indexByteSlice (P := Tryd.prog) w b o n c xs hx hc 0
  have h0 : ((0 : Int).toNat.toUInt8) = 0 := rfl
  rw [h0] at hrun
  clear hc hx
  generalize Lib.indexByte (Lib.bytesOf xs) 0 = C at *
  go_enter Tryd.func84, Tryd.ntmps84
  go_wp2
  rw [run_callFunc_extern Tryd.func89 (by kernel_rfl) (by kernel_rfl) (by kernel_rfl) (e := Extern.BytealgIndexByte.indexByte) (by kernel_rfl), hrun]
  simp only [Result.andThen]
  rw [Oper.upon_value]
  go_wp2
  go_ret
  exact ⟨rfl, rfl⟩
theorem nameLen_of : ∀ {k : List Int} {j : Nat}, j ≤ k.length → (∀ i, j ≤ i → i < k.length → k.getD i 0 = 0) → (j = 0 ∨ k.getD (j - 1) 0 ≠ 0) → nameLen k = j
  | [], j, hj, _, _ => by simp at hj; subst hj; rfl
  | x :: xs, 0, _, h, _ => by
    have h1 := nameLen_of (k := xs) (j := 0) (Nat.zero_le _) (fun i _ hi => by have := h (i + 1) (by omega) (by simpa using hi); simpa using this) (.inl rfl)
    have h2 : x = 0 := by have := h 0 (Nat.le_refl _) (by simp); simpa using this
    unfold nameLen
    rw [h1, if_pos rfl, if_pos h2]
  | x :: xs, j + 1, hj, h, hn => by
    have hz : ∀ i, j ≤ i → i < xs.length → xs.getD i 0 = 0 := fun i hi hl => by have := h (i + 1) (by omega) (by simpa using hl); simpa using this
    by_cases e : j = 0
    · subst e
      have h1 := nameLen_of (k := xs) (j := 0) (Nat.zero_le _) hz (.inl rfl)
      have h2 : x ≠ 0 := by rcases hn with h | h
                            · cases h
                            · simpa using h
      unfold nameLen
      rw [h1, if_pos rfl, if_neg h2]
    · have h1 := nameLen_of (k := xs) (j := j) (by simpa using hj) hz (.inr (by
        rcases hn with h | h
        · cases h
        · obtain ⟨i, rfl⟩ : ∃ i, j = i + 1 := ⟨j - 1, by omega⟩
          simpa using h))
      unfold nameLen
      rw [h1, if_neg e]
theorem key_cells {k : List Int} {w : World} {g : Nat} {t : TypeId} (hb : w.heap[g]? = some (.cells (encK k).toArray t (0, 0))) (i : Nat) (hi : i < k.length) : w.cell? ⟨g, i, none⟩ = some (.int .u8 (k.getD i 0)) := by
  rw [blk_cell hb, List.getElem?_toArray]
  unfold encK
  rw [List.getElem?_map, List.getElem?_eq_getElem hi, List.getD_eq_getElem?_getD, List.getElem?_eq_getElem hi]
  rfl
theorem slice_arr (w : World) (g m : Nat) (hm : m ≤ 8) : (Instr.sliceAt 28 (.pointer (some ⟨g, 0, none⟩)) none (some (.int .i64 (m : Int))) none).run Tryd.prog w = .ok (.slice (some ⟨g, 0, none⟩) m 8) w := by
  have hal : Tryd.prog.arrayLen 28 = 8 := by kernel_rfl
  rw [run_sliceAt_array_h w 28 ⟨g, 0, none⟩ (by kernel_rfl) .i64 (m : Int) (by omega) (by rw [hal]; omega), hal]
  have hs : (sizeOf (Tryd.prog.elem 28)).run Tryd.prog w = .ok 1 w := by kernel_rfl
  rw [hs]
  simp only [Result.andThen, slicedAt, Int.toNat_natCast, Nat.sub_zero]
  simp [Addr.add]
theorem key_take {k : List Int} {w : World} {g : Nat} {t : TypeId} (hb : w.heap[g]? = some (.cells (encK k).toArray t (0, 0))) (j : Nat) (hj : j ≤ k.length) (hm : k.length ≤ 8) : (Kd.int .u8).C w (some ⟨g, 0, none⟩) (k.take j).length (k.take j) := by
  refine ⟨rfl, by rw [List.length_take]; omega, fun _ => ⟨_, rfl, fun i p hp => ⟨[.int .u8 p], rfl, rfl, fun q v hv => ?_⟩⟩⟩
  have hq : q = 0 := by have := (List.getElem?_eq_some_iff.1 hv).1; simp at this; omega
  subst hq
  simp at hv
  subst hv
  rw [add_off]
  have hi : i < k.length := by have := (List.getElem?_eq_some_iff.1 hp).1; rw [List.length_take] at this; omega
  have := key_cells hb i hi
  rw [List.getElem?_take] at hp
  split at hp
  · rw [List.getD_eq_getElem?_getD, hp] at this
    rw [show 0 + (i * (Kd.int IntKind.u8).sz + 0) = i by show 0 + (i * 1 + 0) = i; omega]
    exact this
  · cases hp
set_option maxHeartbeats 4000000 in
set_option maxRecDepth 100000 in
theorem Name_calls (k : List Int) (w : World) (hk : KeyL k) :
    Calls Tryd.prog 71 #[vK k] w fun e w' => e = .returned (.string (strOfNums (k.take (nameLen k)))) ∧ Below w.heap.size w w' := by
  have hlen := hk.len
  have hblk := blk_new w (.cells (encK k).toArray 28)
  have hbel := below_alloc (Below.refl w.heap.size w) (.cells (encK k).toArray 28)
  have HB0 := Aside0.mk hblk
  have HB1 := Aside0.mk hbel
  have HL := Aside0.mk hlen
  clear hblk hbel hlen hk
  go_enter Tryd.func71, Tryd.ntmps71
  go_upto_region 1 with (fail)
  obtain ⟨g, hg⟩ : ∃ g, w.heap.size = g := ⟨_, rfl⟩
  rw [hg] at HB0
  have HB2 : Aside0 (Below w.heap.size w (w.alloc (.cells (encK k).toArray 28))) := HB1
  rw [hg]
  obtain ⟨w1, hw1⟩ : ∃ w1, w.alloc (.cells (encK k).toArray 28) = w1 := ⟨_, rfl⟩
  rw [hw1] at HB0 HB2 ⊢
  rw [hg] at HB2
  clear HB1
  go_wp2_with (fail)
  go_loop [3] (fun v => ∃ j : Nat, v = .int .i64 (j : Int) ∧ Aside0 (j ≤ 8 ∧ ∀ i, j ≤ i → i < 8 → k.getD i 0 = 0)) (fun v => (intOf v).toNat)
  case atStart => exact ⟨8, rfl, ⟨Nat.le_refl _, fun i h1 h2 => by omega⟩⟩
  case round =>
    obtain ⟨j, rfl, HJ⟩ := hrel
    by_cases hj : j = 0
    · subst hj
      have HN := Aside0.mk (nameLen_of (k := k) (j := 0) (Nat.zero_le _) (fun i h1 h2 => HJ.out.2 i h1 (by rw [← HL.out]; exact h2)) (.inl rfl))
      have hC : (convert 96 9 (.slice (some ⟨g, 0, none⟩) 0 8)).run Tryd.prog w1 = .ok (.string (strOfNums (k.take 0))) w1 := Kd.C_string (P := Tryd.prog) (src := 96) (dst := 9) (c := 8) Tryd.underlying96 Tryd.underlying5 Tryd.underlying9 (key_take HB0.out 0 (Nat.zero_le _) (by rw [HL.out]; decide))
      obtain ⟨X, hX⟩ : ∃ X, strOfNums (k.take 0) = X := ⟨_, rfl⟩
      rw [hX] at hC
      have HX := Aside0.mk hX
      clear hX
      go_wp2
      go_ret
      exact ⟨by rw [HN.out, HX.out]; rfl, HB2.out⟩
    · obtain ⟨m, hm⟩ : ∃ m : Nat, m = j := ⟨_, rfl⟩
      subst hm
      have hi : m - 1 < k.length := by have := HJ.out.1; have := HL.out; omega
      have hc := key_cells HB0.out (m - 1) hi
      have hm1 : 0 < m := by omega
      have h1 : m ≤ 8 := HJ.out.1
      have hw : wrap64 ((m : Int) - 1) = (m : Int) - 1 := by unfold wrap64; omega
      have d1 : decide ((m : Int) > 0) = true := decide_eq_true (by omega)
      have d2 : decide ((0 : Int) < (m : Int)) = true := decide_eq_true (by omega)
      obtain ⟨x, hx⟩ : ∃ x, k.getD (m - 1) 0 = x := ⟨_, rfl⟩
      rw [hx] at hc
      have HX := Aside0.mk hx
      clear hx hj hi
      by_cases hz : x = 0
      · subst hz
        go_wp2
        go_round
        case rel => exact ⟨m - 1, by go_num, ⟨by omega, fun q q1 q2 => by
          by_cases e : q = m - 1
          · rw [e]; exact HX.out
          · exact HJ.out.2 q (by omega) q2⟩⟩
        case measure => simp [intOf]; omega
      · have d3 : (x == (0 : Int)) = false := by simpa using hz
        have d4 : decide (x = (0 : Int)) = false := decide_eq_false hz
        have HN := Aside0.mk (nameLen_of (k := k) (j := m) (by have := HL.out; omega) (fun i h1 h2 => HJ.out.2 i h1 (by rw [← HL.out]; exact h2)) (.inr (by rw [HX.out]; exact hz)))
        have hC0 := Kd.C_string (P := Tryd.prog) (src := 96) (dst := 9) (c := 8) Tryd.underlying96 Tryd.underlying5 Tryd.underlying9 (key_take HB0.out m (by have := HL.out; omega) (by rw [HL.out]; decide))
        rw [List.length_take, HL.out, Nat.min_eq_left h1] at hC0
        obtain ⟨X, hX⟩ : ∃ X, strOfNums (k.take m) = X := ⟨_, rfl⟩
        rw [hX] at hC0
        have HXS := Aside0.mk hX
        clear hX hz
        go_wp2_with (rw [slice_arr w1 g m HJ.out.1])
        go_ret
        exact ⟨by rw [HN.out, HXS.out]; rfl, HB2.out⟩
def keyP (s : ByteArray) : List Int × Int := if s.size < 1 ∨ 8 < s.size ∨ 0 ∈ bytesOf s then (zK, 91) else (bytesOf s ++ List.replicate (8 - s.size) 0, 0)
theorem bytes_range (s : ByteArray) : ∀ x ∈ bytesOf s, 0 ≤ x ∧ x < 256 := by
  intro x hx
  obtain ⟨b, _, rfl⟩ := List.mem_map.1 hx
  have := b.toNat_lt
  omega
theorem keyP_L (s : ByteArray) : KeyL (keyP s).1 := by
  unfold keyP
  split
  · exact keyL_zero
  · rename_i h
    have hl := bytesOf_length s
    refine ⟨?_, ?_⟩
    · show (bytesOf s ++ List.replicate (8 - s.size) 0).length = 8
      rw [List.length_append, List.length_replicate, hl]; omega
    · intro x hx
      rcases List.mem_append.1 hx with hx | hx
      · exact bytes_range s x hx
      · rw [List.eq_of_mem_replicate hx]; omega
set_option maxHeartbeats 4000000 in
set_option maxRecDepth 100000 in
theorem Key_calls (s : ByteArray) (w : World) : Calls Tryd.prog 70 #[.string s] w fun e w' => e = .returned (.tuple #[vK (keyP s).1, .int .i64 (keyP s).2]) ∧ Below w.heap.size w w' := by
  by_cases c1 : s.size < 1
  · have hk : keyP s = (zK, 91) := by unfold keyP; rw [if_pos (.inl c1)]
    rw [hk]
    have d1 : decide ((s.size : Int) < 1) = true := decide_eq_true (by omega)
    clear hk
    go_enter Tryd.func70, Tryd.ntmps70
    go_wp2_with (fail)
    refine bodyPost_ret (results_ct rfl _ _ w.heap.size 28 #[.int .u8 0, .int .u8 0, .int .u8 0, .int .u8 0, .int .u8 0, .int .u8 0, .int .u8 0, .int .u8 0] (0, 0) _ (by rfl) (heap_alloc2_old w _ _) Tryd.underlying28 rfl (by kernel_rfl)) rfl ?_
    exact ⟨rfl, below_alloc (below_alloc (Below.refl _ _) _) _⟩
  by_cases c2 : 8 < s.size
  · have hk : keyP s = (zK, 91) := by unfold keyP; rw [if_pos (.inr (.inl c2))]
    rw [hk]
    have d1 : decide ((s.size : Int) < 1) = false := decide_eq_false (by omega)
    have d2 : decide ((s.size : Int) > 8) = true := decide_eq_true (by omega)
    have d3 : decide ((8 : Int) < (s.size : Int)) = true := decide_eq_true (by omega)
    clear hk
    go_enter Tryd.func70, Tryd.ntmps70
    go_wp2_with (fail)
    refine bodyPost_ret (results_ct rfl _ _ w.heap.size 28 #[.int .u8 0, .int .u8 0, .int .u8 0, .int .u8 0, .int .u8 0, .int .u8 0, .int .u8 0, .int .u8 0] (0, 0) _ (by rfl) (heap_alloc2_old w _ _) Tryd.underlying28 rfl (by kernel_rfl)) rfl ?_
    exact ⟨rfl, below_alloc (below_alloc (Below.refl _ _) _) _⟩
  have d1 : decide ((s.size : Int) < 1) = false := decide_eq_false (by omega)
  have d2 : decide ((s.size : Int) > 8) = false := decide_eq_false (by omega)
  have d3 : decide ((8 : Int) < (s.size : Int)) = false := decide_eq_false (by omega)
  have HL := Aside0.mk (show 1 ≤ s.size ∧ s.size ≤ 8 by omega)
  clear c1 c2
  obtain ⟨q, hq⟩ : ∃ q, keyP s = q := ⟨_, rfl⟩
  rw [hq]
  have HQ := Aside0.mk hq
  clear hq
  go_enter Tryd.func70, Tryd.ntmps70
  go_upto_region 2 with (fail)
  obtain ⟨g, hg⟩ : ∃ g, w.heap.size = g := ⟨_, rfl⟩
  have HG := Aside0.mk hg
  have HG2 := Aside0.mk (heap_alloc2_old w (.cells #[.int .u8 0, .int .u8 0, .int .u8 0, .int .u8 0, .int .u8 0, .int .u8 0, .int .u8 0, .int .u8 0] 28) (.cells #[.int .u8 0, .int .u8 0, .int .u8 0, .int .u8 0, .int .u8 0, .int .u8 0, .int .u8 0, .int .u8 0] 28))
  have HG4 := Aside0.mk (heap_alloc2_new w (.cells #[.int .u8 0, .int .u8 0, .int .u8 0, .int .u8 0, .int .u8 0, .int .u8 0, .int .u8 0, .int .u8 0] 28) (.cells #[.int .u8 0, .int .u8 0, .int .u8 0, .int .u8 0, .int .u8 0, .int .u8 0, .int .u8 0, .int .u8 0] 28))
  have HB2 := Aside0.mk (below_alloc (below_alloc (Below.refl w.heap.size w) (.cells #[.int .u8 0, .int .u8 0, .int .u8 0, .int .u8 0, .int .u8 0, .int .u8 0, .int .u8 0, .int .u8 0] 28)) (.cells #[.int .u8 0, .int .u8 0, .int .u8 0, .int .u8 0, .int .u8 0, .int .u8 0, .int .u8 0, .int .u8 0] 28))
  rw [hg] at HG2 HG4 HB2 ⊢
  obtain ⟨w2, hw2⟩ : ∃ w2, (w.alloc (.cells #[.int .u8 0, .int .u8 0, .int .u8 0, .int .u8 0, .int .u8 0, .int .u8 0, .int .u8 0, .int .u8 0] 28)).alloc (.cells #[.int .u8 0, .int .u8 0, .int .u8 0, .int .u8 0, .int .u8 0, .int .u8 0, .int .u8 0, .int .u8 0] 28) = w2 := ⟨_, rfl⟩
  rw [hw2] at HG2 HG4 HB2 ⊢
  clear hw2
  have HI := Aside0.mk (fun c => IndexByte_calls w2.heap.size 0 s.size c (bytesOf s) (Lib.bytesWorld w2 5 s) (bytesOf_length s) (fun i hi => by
    obtain ⟨ad, e, hc⟩ := (bytes_reads w2 5 s (by have := HL.out; omega)).2.2 (by omega)
    injection e with e
    subst e
    have := hc i (by omega)
    rw [add_off] at this
    exact this))
  have HG2' := Aside0.mk (blk_below HG2.out (bytes_below (Below.refl w2.heap.size w2) (Nat.le_refl _) 5 s))
  have HG4' := Aside0.mk (blk_below HG4.out (bytes_below (Below.refl w2.heap.size w2) (Nat.le_refl _) 5 s))
  have HB2' := Aside0.mk (below_then HB2.out (by have := HB2.out.size; omega) (bytes_below (Below.refl w2.heap.size w2) (Nat.le_refl _) 5 s))
  have kb := print_bytes (P := Tryd.prog) 9 96 5 Tryd.underlying9 Tryd.underlying96 Tryd.underlying5 s w2
  obtain ⟨w3, hw3⟩ : ∃ w3, Lib.bytesWorld w2 5 s = w3 := ⟨_, rfl⟩
  rw [hw3] at HI HG2' HG4' HB2' kb
  clear HG2 HG4 HB2 hw3
  obtain ⟨X, hX⟩ : ∃ X, Lib.indexByte (Lib.bytesOf (bytesOf s)) 0 = X := ⟨_, rfl⟩
  rw [hX] at HI
  by_cases c3 : 0 ∈ bytesOf s
  · have hk : keyP s = (zK, 91) := by unfold keyP; rw [if_pos (.inr (.inr c3))]
    have HK := Aside0.mk (HQ.out.symm.trans hk)
    have hx : 0 ≤ X := hX ▸ indexByte_pos (List.mem_map.2 ⟨0, c3, rfl⟩)
    have d4 : decide (X ≥ 0) = true := decide_eq_true hx
    have d5 : decide ((0 : Int) ≤ X) = true := decide_eq_true hx
    clear hk hX c3
    go_upto_if 18 with (go_at_call 84; refine (HI.out _).mono ?_; rintro e w' ⟨rfl, rfl⟩)
    go_wp2_with (first
      | ((with_reducible refine gate_dst (N := 19) rfl ?_); refine wpList_seg (P := Tryd.prog) rfl 28 (.tmp 4) rfl (g + 1) 0 rfl (encK zK) aggK (SegAt.blk (t := 28) (fr := (0, 0)) HG4'.out) ?_)
      | ((with_reducible refine gate_ (.store 28 (.tmp 2) (.tmp 19)) rfl ?_); refine wpList_row (P := Tryd.prog) rfl 28 (.tmp 2) (.tmp 19) rfl g _ 28 HG2'.out (encK zK) rfl rfl aggK rfl (encK_one zK) ?_; intro w4 r1 r2 r3))
    refine bodyPost_ret (results_ct rfl _ _ g 28 (encK zK).toArray (0, 0) _ (by rfl) r3 Tryd.underlying28 rfl (by kernel_rfl)) rfl ?_
    rw [HK.out]
    exact ⟨rfl, HG.out ▸ pw_below_grown (HG.out.symm ▸ HB2'.out) _ (HB2'.out.size) r1 (fun k e => by injection e with e; omega)⟩
  · have hk : keyP s = (bytesOf s ++ List.replicate (8 - s.size) 0, 0) := by
      unfold keyP
      rw [if_neg]
      have := HL.out
      rintro (h | h | h)
      · omega
      · omega
      · exact c3 h
    have HK := Aside0.mk (HQ.out.symm.trans hk)
    have hx : X = -1 := hX ▸ indexByte_neg (fun h => c3 (by
      obtain ⟨y, h1, h2⟩ := List.mem_map.1 h
      have hy := bytes_range s y h1
      have : y = 0 := by
        have h3 := congrArg UInt8.toNat h2
        simp only [UInt8.toNat_ofNat'] at h3
        have h4 : (0 : UInt8).toNat = 0 := rfl
        omega
      exact this ▸ h1))
    subst hx
    clear hk hX c3
    go_upto_if 18 with (go_at_call 84; refine (HI.out _).mono ?_; rintro e w' ⟨rfl, rfl⟩)
    have HS8 : s.size ≤ 8 := HL.out.2
    have hL1 : ((bytesOf s).map (Value.int .u8) ++ (encK zK).toArray.toList.drop s.size) = encK (bytesOf s ++ List.replicate (8 - s.size) 0) := by
      show _ ++ (List.replicate 8 (Value.int .u8 0)).drop s.size = _
      unfold encK
      rw [List.map_append, List.map_replicate, List.drop_replicate]
    have HZ8 : (encK (bytesOf s ++ List.replicate (8 - s.size) 0)).length = 8 := encK_len (by rw [List.length_append, List.length_replicate, bytesOf_length]; omega)
    have HO := encK_one (bytesOf s ++ List.replicate (8 - s.size) 0)
    obtain ⟨Z, hZ⟩ : ∃ Z, encK (bytesOf s ++ List.replicate (8 - s.size) 0) = Z := ⟨_, rfl⟩
    rw [hZ] at hL1 HZ8 HO
    have HZ := Aside0.mk hZ
    have HL1 := Aside0.mk hL1
    have HZ8 := Aside0.mk HZ8
    have HO := Aside0.mk HO
    have HW3 := Aside0.mk (show g < w3.heap.size from (Array.getElem?_eq_some_iff.1 HG2'.out).1)
    have HB3 := Aside0.mk (show Below w.heap.size w w3 from HG.out ▸ HB2'.out)
    clear hZ hL1
    go_wp2_with (first
      | rw [slice_all w3 (g + 1)]
      | ((with_reducible refine gate_dst (N := 22) rfl ?_); refine wpList_copyStr (P := Tryd.prog) rfl (.tmp 20) (.tmp 21) 96 9 rfl 5 Tryd.underlying96 (by kernel_rfl) (g + 1) (encK zK).toArray 28 HG4'.out 8 8 rfl s rfl HS8 rfl ?_; rw [HL1.out]; intro w4 q1 q2 q3)
      | ((with_reducible refine gate_dst (N := 23) rfl ?_); refine wpList_seg (P := Tryd.prog) rfl 28 (.tmp 4) rfl (g + 1) 0 rfl Z (by rw [HZ8.out]; exact aggK) (SegAt.blk (t := 28) (fr := (0, 0)) q3) ?_)
      | ((with_reducible refine gate_ (.store 28 (.tmp 2) (.tmp 23)) rfl ?_); refine wpList_row (P := Tryd.prog) rfl 28 (.tmp 2) (.tmp 23) rfl g (encK zK).toArray 28 ((q1.block g HW3.out (fun e => by injection e with e; omega)).trans HG2'.out) Z rfl rfl (by rw [HZ8.out]; exact aggK) (by rw [HZ8.out]; rfl) HO.out ?_; intro w5 r1 r2 r3))
    refine bodyPost_ret (results_ct rfl _ _ g 28 Z.toArray (0, 0) _ (by rfl) r3 Tryd.underlying28 rfl (by rw [List.size_toArray, HZ8.out]; kernel_rfl)) rfl ?_
    rw [HK.out]
    have hg := HG.out
    have hb4 : Below w.heap.size w w4 := pw_below_grown HB3.out _ HB3.out.size q1 (fun k e => by injection e with e; omega)
    have hb5 := pw_below_grown hb4 _ hb4.size r1 (fun k e => by injection e with e; omega)
    rw [hg] at hb5
    have hz : (encK (bytesOf s ++ List.replicate (8 - s.size) 0)).toArray = Z.toArray := by rw [HZ.out]
    dsimp only [vK]
    rw [hz]
    exact ⟨rfl, hb5⟩
end Go.Proofs.YtgmaedngkhidlaaDoor.Sf
-- WGuard
namespace Go.Proofs.YtgmaedngkhidlaaDoorW.PrintWords
open Go.RowKit
section
variable {P : Program} {ops : Array Oper} {rest : List Oper} {o : Oper} {a : Act} {Q : Exit → Act → World → Prop} {W : World}
theorem gate_guard (hw : Region.wanted o (yielded ops a.tmps) = true) (h : wpList P ops Q ({ o with guard := none } :: rest) a W) : wpList P ops Q (o :: rest) a W := by
  have h1 : Region.wanted { o with guard := none } (yielded ops a.tmps) = true := rfl
  unfold wpList at h ⊢
  rw [if_pos h1] at h
  rw [if_pos hw]
  exact h
end
end Go.Proofs.YtgmaedngkhidlaaDoorW.PrintWords
-- SfV
namespace Go.Proofs.YtgmaedngkhidlaaDoor.Sf
open Go Go.RowKit Go.ChangeMaps Go.MapKept Go.Proofs.YtgmaedngkhidlaaDoorW.PrintWords Go.Proofs.YtgmaedngkhidlaaDoorW.PrintLast Go.Proofs.YtgmaedngkhidlaaDoorW.PrintMore
open Go.Maps (Keyed)
set_option linter.unusedVariables false
set_option linter.unusedSimpArgs false
abbrev Tabs (w : World) : Prop := Lib.Utf8Tabs 0 1 w
theorem Tabs.below {w w1 : World} (h : Tabs w) (hb : Below w.heap.size w w1) : Tabs w1 := Utf8Tabs_below h hb
def ren8 : Go.Shelf.Ren := ⟨fun x => if x = 196 then 72 else if x = 259 then 85 else 0, fun x => if x = 46 then 78 else if x = 53 then 129 else if x = 119 then 122 else if x = 138 then 124 else if x = 139 then 125 else x, fun x => if x = 3 then 0 else 1⟩
set_option maxRecDepth 100000 in
theorem lays196 : Go.Proofs.Lays.n196 Tryd.prog ren8 := by
  constructor <;> first | kernel_rfl | (intro w; kernel_rfl)
theorem Valid_calls (s : ByteArray) (w : World) (hs : s.size ≤ 9223372036854775807) (hT : Tabs w) :
    Calls Tryd.prog 72 #[.string s] w fun e w' => e = .returned (.bool (u8ok s)) ∧ Below w.heap.size w w' := Any.utf8_ValidString lays196 s w hs hT
theorem bytesOf_str {xs : List Int} (h : ∀ x ∈ xs, 0 ≤ x ∧ x < 256) : bytesOf (strOfNums xs) = xs := by
  unfold bytesOf
  rw [strB_eq]
  unfold Lib.bytesOf
  rw [List.map_map]
  conv => rhs; rw [← List.map_id xs]
  refine List.map_congr_left fun x hx => ?_
  have := h x hx
  simp only [Function.comp, UInt8.toNat_ofNat', id]
  omega
theorem size_str {xs : List Int} (h : ∀ x ∈ xs, 0 ≤ x ∧ x < 256) : (strOfNums xs).size = xs.length := by rw [← bytesOf_length, bytesOf_str h]
theorem name_rest : ∀ k : List Int, k.drop (nameLen k) = List.replicate (k.length - nameLen k) 0
  | [] => rfl
  | x :: xs => by
    have ih := name_rest xs
    unfold nameLen
    split
    · rename_i h
      rw [h] at ih
      split
      · rename_i hx
        rw [hx]
        simp only [List.drop_zero, Nat.sub_zero, List.length_cons] at ih ⊢
        rw [List.replicate_succ]
        rw [← ih]
      · simpa using ih
    · rename_i h
      simpa using ih
theorem key_name {k : List Int} (hk : KeyL k) : keyP (strOfNums (k.take (nameLen k))) = if keyB k = true then (k, 0) else (zK, 91) := by
  have hb : ∀ x ∈ k.take (nameLen k), 0 ≤ x ∧ x < 256 := fun x hx => hk.byte x (List.mem_of_mem_take hx)
  have hle := nameLen_le k
  have hsz : (strOfNums (k.take (nameLen k))).size = nameLen k := by rw [size_str hb, List.length_take]; omega
  unfold keyP
  rw [bytesOf_str hb, hsz]
  have h8 := hk.len
  by_cases c : keyB k = true
  · rw [if_pos c]
    unfold keyB at c
    simp only [Bool.and_eq_true, decide_eq_true_eq, List.all_eq_true] at c
    rw [if_neg]
    · have := name_rest k
      rw [h8] at this
      rw [← this, List.take_append_drop]
    · rintro (h | h | h)
      · omega
      · omega
      · exact c.2 0 h rfl
  · rw [if_neg c, if_pos]
    unfold keyB at c
    simp only [Bool.and_eq_true, decide_eq_true_eq, List.all_eq_true] at c
    by_cases h1 : nameLen k < 1
    · exact .inl h1
    · refine .inr (.inr ?_)
      by_cases h0 : 0 ∈ k.take (nameLen k)
      · exact h0
      · exact absurd ⟨by omega, fun x hx e => h0 (e ▸ hx)⟩ c
theorem cellsK : Tryd.prog.cellsOf 28 = 8 := by kernel_rfl
theorem formedK {a : List Int} (ha : a.length = 8) : (vK a).formed Tryd.prog 28 = true := by
  have h := encK_len ha
  simp only [Value.formed, Tryd.underlying28, cellsK]
  simp [h]
set_option maxRecDepth 100000 in
theorem eqK {a b : List Int} (ha : KeyL a) (hb : KeyL b) (w : World) : (Op.equalIn 10000 28 (vK a) (vK b)).run Tryd.prog w = .ok (decide (a = b)) w := by
  obtain ⟨p, hp⟩ := key_some ha
  obtain ⟨q, hq⟩ := key_some hb
  have hw : (match Tryd.prog.underlying 28 with | some (.array _ _) | some (.struct _) => true | _ => false) = true := by kernel_rfl
  obtain ⟨xs, L, e1, h1, r1⟩ := keyOf_top hw hp
  obtain ⟨ys, M, e2, h2, r2⟩ := keyOf_top hw hq
  have hkt : Tryd.prog.keyTypeAt 3 28 = true := by kernel_rfl
  have g1 : (vK a).cells = xs := by rw [e1]; rfl
  have g2 : (vK b).cells = ys := by rw [e2]; rfl
  obtain ⟨r, hr, hiff⟩ := run_equalIn_deep (P := Tryd.prog) 9997 3 28 hkt w _ _ (vK a) (vK b) L M (formedK ha.len) (formedK hb.len) (by rw [g1]; exact h1) (by rw [g2]; exact h2)
  refine hr.trans ?_
  congr 1
  by_cases hab : a = b
  · subst hab
    have hxy : xs = ys := g1.symm.trans g2
    rw [hxy] at h1
    rw [hiff.2 (Option.some.inj (h1.symm.trans h2)), decide_eq_true rfl]
  · rw [decide_eq_false hab]
    cases r with
    | false => rfl
    | true =>
      have hLM := hiff.1 rfl
      rw [r1] at hp
      rw [r2, ← hLM] at hq
      exact absurd (vK_inj (keyedK.inj hp hq)) hab
set_option maxHeartbeats 8000000 in
set_option maxRecDepth 100000 in
theorem Right_calls (k : List Int) (v : ByteArray) (w : World) (hk : KeyL k) (hs : v.size ≤ 9223372036854775807) (hT : Tabs w) :
    Calls Tryd.prog 45 #[vK k, .string v] w fun e w' => e = .returned (.int .i64 (if rightB k v = true then 0 else 91)) ∧ Below w.heap.size w w' := by
  obtain ⟨out, hout⟩ : ∃ out : Int, (if rightB k v = true then 0 else 91) = out := ⟨_, rfl⟩
  rw [hout]
  have hblk := blk_new w (.cells (encK k).toArray 28)
  have hbel := below_alloc (Below.refl w.heap.size w) (.cells (encK k).toArray 28)
  have HB0 := Aside0.mk hblk
  have HB1 := Aside0.mk hbel
  have HO := Aside0.mk hout
  have HT0 := Aside0.mk hT
  clear hblk hbel hout hT
  have HK := Aside0.mk hk
  have HS := Aside0.mk hs
  obtain ⟨cs, hcs⟩ : ∃ cs, encK k = cs := ⟨_, rfl⟩
  have HCL : Aside0 (cs.length = 8) := ⟨by rw [← hcs]; exact encK_len hk.len⟩
  have HC1 : Aside0 (∀ v ∈ cs, v.oneCell' = true) := ⟨by rw [← hcs]; exact encK_one k⟩
  have HE : Aside0 (∀ w : World, (Op.equalIn 10000 28 (.agg cs.toArray) (.agg cs.toArray)).run Tryd.prog w = .ok true w) := ⟨fun w => by
    have := eqK hk hk w
    rw [decide_eq_true rfl] at this
    rw [← hcs]
    exact this⟩
  have HN : Aside0 (∀ w : World, Calls Tryd.prog 71 #[.agg cs.toArray] w fun e w' => e = .returned (.string (strOfNums (k.take (nameLen k)))) ∧ Below w.heap.size w w') := ⟨fun w => hcs ▸ Name_calls k w hk⟩
  obtain ⟨nm, hnm⟩ : ∃ nm, strOfNums (k.take (nameLen k)) = nm := ⟨_, rfl⟩
  have hkey := key_name hk
  rw [hnm] at hkey HN
  have HY : Aside0 (∃ ds E, ds.length = 8 ∧ (∀ v ∈ ds, v.oneCell' = true) ∧ ((keyB k = true ∧ ds = cs ∧ E = 0) ∨ (keyB k = false ∧ E = 91)) ∧ ∀ w : World, Calls Tryd.prog 70 #[.string nm] w fun e w' => e = .returned (.tuple #[.agg ds.toArray, .int .i64 E]) ∧ Below w.heap.size w w') := by
    refine ⟨encK (keyP nm).1, (keyP nm).2, encK_len (keyP_L nm).len, encK_one _, ?_, fun w => Key_calls nm w⟩
    by_cases c : keyB k = true
    · rw [if_pos c] at hkey
      rw [hkey]
      exact .inl ⟨c, hcs, rfl⟩
    · rw [if_neg c] at hkey
      rw [hkey]
      exact .inr ⟨by simpa using c, rfl⟩
  obtain ⟨ds, E, hd1, hd2, hd3, hd4⟩ := HY.out
  have HD1 := Aside0.mk hd1
  have HD2 := Aside0.mk hd2
  have HD3 := Aside0.mk hd3
  have HD4 := Aside0.mk hd4
  clear hd1 hd2 hd3 hd4 HY
  rw [hcs] at HB0 HB1
  change Calls Tryd.prog 45 #[.agg (encK k).toArray, .string v] w _
  rw [hcs]
  clear hkey hs hk
  go_enter Tryd.func45, Tryd.ntmps45
  go_upto_region 1 with (fail)
  obtain ⟨g, hg⟩ : ∃ g, w.heap.size = g := ⟨_, rfl⟩
  have HG := Aside0.mk hg
  rw [hg] at HB0
  have HB2 : Aside0 (Below w.heap.size w (w.alloc (.cells cs.toArray 28))) := HB1
  rw [hg]
  obtain ⟨w1, hw1⟩ : ∃ w1, w.alloc (.cells cs.toArray 28) = w1 := ⟨_, rfl⟩
  rw [hw1] at HB0 HB2 ⊢
  clear HB1 hw1 hg
  go_upto_region 2 with (first
    | ((with_reducible refine gate_dst (N := 8) rfl ?_); refine wpList_seg (P := Tryd.prog) rfl 28 (.tmp 2) rfl g 0 rfl cs (by rw [HCL.out]; exact aggK) (SegAt.blk (t := 28) (fr := (0, 0)) HB0.out) ?_)
    | (go_at_call 71; refine (HN.out _).mono ?_; rintro e w2 ⟨rfl, HB3⟩)
    | (go_at_call 70; refine (HD4.out _).mono ?_; rintro e w3 ⟨rfl, HB4⟩)
    | ((with_reducible refine gate_ (.store 28 (.tmp 5) (.tmp 11)) rfl ?_); refine wpList_fill (P := Tryd.prog) rfl 28 (.tmp 5) (.tmp 11) rfl ds _ rfl rfl (by rw [HD1.out]; exact aggK) (by rw [HD1.out]; rfl) HD2.out ?_))
  have HB5 := below_then HB2.out HB2.out.size HB3
  have HB6 := below_then HB5 HB5.size HB4
  have hG2 := blk_below HB0.out HB3
  have hG3 := blk_below hG2 HB4
  have HG4 := Aside0.mk (blk_below hG3 (below_alloc (Below.refl w3.heap.size w3) (.cells ds.toArray 28)))
  have HN4 := Aside0.mk (blk_new w3 (.cells ds.toArray 28))
  have HB7 := Aside0.mk (below_then HB6 HB6.size (below_alloc (Below.refl w3.heap.size w3) (.cells ds.toArray 28)))
  have HT := Aside0.mk (HT0.out.below HB7.out)
  obtain ⟨h, hh⟩ : ∃ h, w3.heap.size = h := ⟨_, rfl⟩
  rw [hh] at HN4 ⊢
  obtain ⟨w4, hw4⟩ : ∃ w4, w3.alloc (.cells ds.toArray 28) = w4 := ⟨_, rfl⟩
  rw [hw4] at HN4 HG4 HB7 HT ⊢
  clear HB0 HB2 HB3 HB4 HB5 HB6 hG2 hG3 hh hw4 HT0 HN HD4
  rcases HD3.out with ⟨ck, hds, hE⟩ | ⟨ck, hE⟩
  · rw [hE]
    have HE2 : Aside0 ((Op.equalIn 10000 28 (.agg ds.toArray) (.agg cs.toArray)).run Tryd.prog w4 = .ok true w4) := ⟨by rw [hds]; exact HE.out w4⟩
    have HR : Aside0 ((if (decide (1 ≤ v.size) && (decide (v.size ≤ 24) && u8ok v)) = true then (0 : Int) else 91) = out) := ⟨by
      have := HO.out
      unfold rightB at this
      rw [ck, Bool.true_and] at this
      exact this⟩
    clear HD3 hds hE ck HO HE
    go_upto_if 19 with (first
      | ((with_reducible refine gate_dst (N := 16) rfl ?_); refine gate_guard (by rfl) ?_; refine wpList_seg (P := Tryd.prog) rfl 28 (.tmp 5) rfl h 0 rfl ds (by rw [HD1.out]; exact aggK) (SegAt.blk (t := 28) (fr := (0, 0)) HN4.out) ?_)
      | ((with_reducible refine gate_dst (N := 17) rfl ?_); refine gate_guard (by rfl) ?_; refine wpList_seg (P := Tryd.prog) rfl 28 (.tmp 2) rfl g 0 rfl cs (by rw [HCL.out]; exact aggK) (SegAt.blk (t := 28) (fr := (0, 0)) HG4.out) ?_)
      | (rw [HE2.out]; simp only [Result.andThen, Bool.not_true]; rw [Oper.upon_value]))
    have hS := HS.out
    by_cases c1 : v.size < 1
    · have d1 : decide ((v.size : Int) < 1) = true := decide_eq_true (by omega)
      have e1 : decide (1 ≤ v.size) = false := decide_eq_false (by omega)
      have HR2 : (91 : Int) = out := by have := HR.out; rw [e1, Bool.false_and] at this; exact this
      subst HR2
      go_wp2_with (fail)
      go_ret
      exact ⟨rfl, HB7.out⟩
    by_cases c2 : 24 < v.size
    · have d1 : decide ((v.size : Int) < 1) = false := decide_eq_false (by omega)
      have d2 : decide ((v.size : Int) > 24) = true := decide_eq_true (by omega)
      have d3 : decide ((24 : Int) < (v.size : Int)) = true := decide_eq_true (by omega)
      have e1 : decide (v.size ≤ 24) = false := decide_eq_false (by omega)
      have HR2 : (91 : Int) = out := by have := HR.out; rw [e1, Bool.false_and, Bool.and_false] at this; exact this
      subst HR2
      go_wp2_with (fail)
      go_ret
      exact ⟨rfl, HB7.out⟩
    have d1 : decide ((v.size : Int) < 1) = false := decide_eq_false (by omega)
    have d2 : decide ((v.size : Int) > 24) = false := decide_eq_false (by omega)
    have d3 : decide ((24 : Int) < (v.size : Int)) = false := decide_eq_false (by omega)
    have e1 : decide (1 ≤ v.size) = true := decide_eq_true (by omega)
    have e2 : decide (v.size ≤ 24) = true := decide_eq_true (by omega)
    have HR2 := HR.out
    rw [e1, e2, Bool.true_and, Bool.true_and] at HR2
    have HV : Aside0 (∀ w : World, Tabs w → Calls Tryd.prog 72 #[.string v] w fun e w' => e = .returned (.bool (u8ok v)) ∧ Below w.heap.size w w') := ⟨fun w hT => Valid_calls v w hS hT⟩
    clear e1 e2 c1 c2 HR
    obtain ⟨u, hu⟩ : ∃ u, u8ok v = u := ⟨_, rfl⟩
    rw [hu] at HV HR2
    clear hu
    cases u
    · have HR3 : (91 : Int) = out := HR2
      subst HR3
      clear HR2
      go_wp2_with (go_at_call 72; refine (HV.out _ HT.out).mono ?_; rintro e w5 ⟨rfl, HB8⟩)
      go_ret
      exact ⟨rfl, below_then HB7.out HB7.out.size HB8⟩
    · have HR3 : (0 : Int) = out := HR2
      subst HR3
      clear HR2
      go_wp2_with (go_at_call 72; refine (HV.out _ HT.out).mono ?_; rintro e w5 ⟨rfl, HB8⟩)
      go_ret
      exact ⟨rfl, below_then HB7.out HB7.out.size HB8⟩
  · rw [hE]
    have HR : Aside0 ((91 : Int) = out) := ⟨by
      have := HO.out
      unfold rightB at this
      rw [ck, Bool.false_and] at this
      exact this⟩
    go_wp2_with (fail)
    go_ret
    exact ⟨by rw [← HR.out]; rfl, HB7.out⟩
end Go.Proofs.YtgmaedngkhidlaaDoor.Sf
-- SfW
namespace Go.Proofs.YtgmaedngkhidlaaDoor.Sf
open Go Go.RowKit Go.ChangeMaps Go.MapKept Go.Proofs.YtgmaedngkhidlaaDoorW.PrintWords Go.Proofs.YtgmaedngkhidlaaDoorW.PrintLast Go.Proofs.YtgmaedngkhidlaaDoorW.PrintMore
open Go.Maps (Keyed)
set_option linter.unusedVariables false
set_option linter.unusedSimpArgs false
abbrev vQ (c s : Int) : Value := .agg #[.int .i64 c, .int .i64 s]
set_option maxHeartbeats 4000000 in
set_option maxRecDepth 100000 in
theorem request_calls (c s : Int) (w : World) : Calls Tryd.prog 47 #[vQ c s] w fun e w' => e = .returned (.bool (reqB c s)) ∧ Below w.heap.size w w' := by
  have hb := below_alloc (Below.refl w.heap.size w) (.cells #[.int .i64 c, .int .i64 s] 30)
  have HB := Aside0.mk hb
  obtain ⟨r, hr⟩ : ∃ r, reqB c s = r := ⟨_, rfl⟩
  rw [hr]
  unfold reqB at hr
  have HR := Aside0.mk hr
  clear hb hr
  by_cases c1 : 0 ≤ c
  · have d1 : decide (c ≥ 0) = true := decide_eq_true c1
    have e1 : decide (0 ≤ c) = true := decide_eq_true c1
    by_cases c2 : c < 4
    · have e2 : decide (c < 4) = true := decide_eq_true c2
      by_cases c3 : 1 ≤ s
      · have d3 : decide (s ≥ 1) = true := decide_eq_true c3
        have e3 : decide (1 ≤ s) = true := decide_eq_true c3
        have HR2 := HR.out
        rw [e1, e2, e3, Bool.true_and, Bool.true_and, Bool.true_and] at HR2
        clear c1 c2 c3 HR
        go_enter Tryd.func47, Tryd.ntmps47
        go_wp2_with (fail)
        go_ret
        exact ⟨by rw [← HR2]; rfl, HB.out⟩
      · have d3 : decide (s ≥ 1) = false := decide_eq_false c3
        have e3 : decide (1 ≤ s) = false := decide_eq_false c3
        have HR2 := HR.out
        rw [e1, e2, e3, Bool.true_and, Bool.true_and, Bool.false_and] at HR2
        subst HR2
        clear c1 c2 c3 HR
        go_enter Tryd.func47, Tryd.ntmps47
        go_wp2_with (fail)
        go_ret
        exact ⟨rfl, HB.out⟩
    · have e2 : decide (c < 4) = false := decide_eq_false c2
      have HR2 := HR.out
      rw [e1, e2, Bool.true_and, Bool.false_and] at HR2
      subst HR2
      clear c1 c2 HR
      go_enter Tryd.func47, Tryd.ntmps47
      go_wp2_with (fail)
      go_ret
      exact ⟨rfl, HB.out⟩
  · have d1 : decide (c ≥ 0) = false := decide_eq_false c1
    have e1 : decide (0 ≤ c) = false := decide_eq_false c1
    have HR2 := HR.out
    rw [e1, Bool.false_and] at HR2
    subst HR2
    clear c1 HR
    go_enter Tryd.func47, Tryd.ntmps47
    go_wp2_with (fail)
    go_ret
    exact ⟨rfl, HB.out⟩
end Go.Proofs.YtgmaedngkhidlaaDoor.Sf
-- SfX
namespace Go.Proofs.YtgmaedngkhidlaaDoor.Sf
open Go Go.RowKit Go.ChangeMaps Go.MapKept Go.Proofs.YtgmaedngkhidlaaDoorW.PrintWords Go.Proofs.YtgmaedngkhidlaaDoorW.PrintLast Go.Proofs.YtgmaedngkhidlaaDoorW.PrintMore
open Go.Maps (Keyed)
set_option linter.unusedVariables false
set_option linter.unusedSimpArgs false
abbrev vS (b1 b2 : Nat) : Value := .agg #[.map (some b1), .map (some b2)]
theorem at_alloc (w : World) (o : Obj) : (w.alloc o).heap[w.heap.size]? = some o := (MapKept.heap_alloc w o).1
theorem under_alloc {w : World} {g : Nat} {x : Obj} (h : w.heap[g]? = some x) (o : Obj) : (w.alloc o).heap[g]? = some x := by
  have hb := below_alloc (Below.refl w.heap.size w) o
  exact (hb.block g (Array.getElem?_eq_some_iff.1 h).1).trans h
theorem results_c {P : Program} {fn : Func} {p : Tmp} {ty : TypeId} (h : fn.results = #[.cell p ty]) (tmps : Array Value) (w : World) (g : Nat) (t : TypeId) (cs : Array Value) (fr : Nat × Nat) (d : TypeDesc)
    (hp : tmps.getD p undef = .pointer (some ⟨g, 0, none⟩)) (hg : w.heap[g]? = some (.cells cs t fr))
    (hu : P.underlying ty = some d) (hd : (match d with | .struct _ | .array _ _ => true | _ => false) = true) (hi : (P.info? ty).map (·.size) = some cs.size) :
    (results fn tmps).run P w = .ok (.agg cs) w := by
  have hp' : tmps[p]?.getD undef = .pointer (some ⟨g, 0, none⟩) := by simpa using hp
  simp [results, h, hp', asAddr, run_loadVar_row w g t ty cs fr d hg hu hd hi]
theorem run_make (P : Program) (t : TypeId) (w : World) : (Instr.makeMap t none).run P w = .ok (.map (some w.heap.size)) (w.alloc (.map #[] 0)) := by
  simp [Instr.makeMap]
set_option maxHeartbeats 4000000 in
set_option maxRecDepth 100000 in
theorem fresh_calls (w : World) : Calls Tryd.prog 74 #[] w fun e w' => ∃ b1 b2, e = .returned (vS b1 b2) ∧ Below w.heap.size w w' ∧ w.heap.size ≤ b1 ∧ b1 < b2 ∧ IsCs w' b1 [] ∧ IsDs w' b2 [] := by
  obtain ⟨w1, hw1⟩ : ∃ w1, w.alloc (.cells #[.map none, .map none] 84) = w1 := ⟨_, rfl⟩
  have hs1 : w1.heap.size = w.heap.size + 1 := by rw [← hw1]; simp
  obtain ⟨w2, hw2⟩ : ∃ w2, w1.alloc (.map #[] 0) = w2 := ⟨_, rfl⟩
  have hs2 : w2.heap.size = w.heap.size + 2 := by rw [← hw2]; simp [hs1]
  obtain ⟨w3, hw3⟩ : ∃ w3, w2.alloc (.map #[] 0) = w3 := ⟨_, rfl⟩
  have hG0 : w1.heap[w.heap.size]? = some (.cells #[.map none, .map none] 84) := hw1 ▸ at_alloc w _
  have hG := Aside0.mk (show w3.heap[w.heap.size]? = some (.cells #[.map none, .map none] 84) from hw3 ▸ under_alloc (hw2 ▸ under_alloc hG0 _) _)
  have hC1 : IsCs w2 w1.heap.size [] := hw2 ▸ IsMap.made Tryd.prog 28 w1
  have hC := Aside0.mk (show IsCs w3 w1.heap.size [] from hw3 ▸ IsMap.below hC1 (below_alloc (Below.refl _ _) _))
  have hD := Aside0.mk (show IsDs w3 w2.heap.size [] from hw3 ▸ IsMap.made Tryd.prog 3 w2)
  have hB := Aside0.mk (show Below w.heap.size w w3 from hw3 ▸ below_alloc (hw2 ▸ below_alloc (hw1 ▸ below_alloc (Below.refl _ _) _) _) _)
  have HS := Aside0.mk (And.intro hs1 hs2)
  have HW := Aside0.mk (And.intro hw1 (And.intro hw2 hw3))
  clear hG0 hC1 hs1 hs2 hw1 hw2 hw3
  go_enter Tryd.func74, Tryd.ntmps74
  go_upto_region 1 with (fail)
  rw [HW.out.1]
  go_wp2_with (first
    | (rw [run_make Tryd.prog 81 w1, HW.out.2.1]; simp only [Result.andThen]; rw [Oper.upon_value])
    | (rw [run_make Tryd.prog 82 w2, HW.out.2.2]; simp only [Result.andThen]; rw [Oper.upon_value])
    | ((with_reducible refine gate_ (.store 84 (.tmp 0) (.tmp 3)) rfl ?_); refine wpList_row (P := Tryd.prog) rfl 84 (.tmp 0) (.tmp 3) rfl w.heap.size _ 84 hG.out [.map (some w1.heap.size), .map (some w2.heap.size)] rfl rfl aggS rfl (by simp [Value.oneCell']) ?_; intro w4 r1 r2 r3))
  refine bodyPost_ret (results_c rfl _ _ w.heap.size 84 #[.map (some w1.heap.size), .map (some w2.heap.size)] (0, 0) _ (by rfl) r3 Tryd.underlying84 rfl (by kernel_rfl)) rfl ?_
  have hs := HS.out
  exact ⟨_, _, rfl, pw_below_grown hB.out _ hB.out.size r1 (fun k e => by injection e with e; omega), by omega, by omega, IsMap.same hC.out (r1.block _ (IsMap.lt hC.out) (fun e => by injection e with e; omega)), IsMap.same hD.out (r1.block _ (IsMap.lt hD.out) (fun e => by injection e with e; omega))⟩
abbrev sh0 : Sh := ⟨⟨0, 0, [], []⟩, [], 0⟩
set_option maxHeartbeats 4000000 in
set_option maxRecDepth 100000 in
theorem New_calls (w : World) : Calls Tryd.prog 48 #[] w fun e w' => ∃ p, e = .returned (.pointer (some ⟨p, 0, none⟩)) ∧ Below w.heap.size w w' ∧ ∀ G : Nat → Prop, (∀ k, w.heap.size ≤ k → k < w'.heap.size → G k) → IsS (fun k => w.heap.size ≤ k ∧ k < w'.heap.size) G w' p sh0 := by
  go_enter Tryd.func48, Tryd.ntmps48
  go_upto_region 1 with (fail)
  go_wp2_with (first
    | (go_at_call 74; refine (fresh_calls w).mono ?_; rintro e w1 ⟨b1, b2, rfl, H1⟩; have H1 := Aside0.mk H1)
    | (go_at_call 74; refine (fresh_calls w1).mono ?_; rintro e w2 ⟨b3, b4, rfl, H2⟩; have H2 := Aside0.mk H2))
  go_ret
  obtain ⟨h1, h2, h3, h4, h5⟩ := H1.out
  obtain ⟨k1, k2, k3, k4, k5⟩ := H2.out
  have s1 := h1.size
  have s2 := k1.size
  have l1 := IsMap.lt h4
  have l2 := IsMap.lt h5
  have l3 := IsMap.lt k4
  have l4 := IsMap.lt k5
  have hb2 := below_then h1 h1.size k1
  refine ⟨_, rfl, below_then hb2 hb2.size (below_alloc (Below.refl _ _) _), fun G hG => ?_⟩
  have ha := below_alloc (Below.refl w2.heap.size w2) (.cells (shCells b1 b2 b3 b4 0 0 (.slice none 0 0) 0) 86)
  have hsz : (w2.alloc (.cells (shCells b1 b2 b3 b4 0 0 (.slice none 0 0) 0) 86)).heap.size = w2.heap.size + 1 := by simp
  refine ⟨fun k hk => hk.2, fun k hk => hG k hk.1 hk.2, ⟨hb2.size, by rw [hsz]; omega⟩, b1, b2, b3, b4, .slice none 0 0, at_alloc _ _, ⟨⟨by omega, by rw [hsz]; omega⟩, ⟨by omega, by rw [hsz]; omega⟩, ⟨by omega, by rw [hsz]; omega⟩, ⟨by omega, by rw [hsz]; omega⟩⟩, ?_, ⟨IsMap.below (IsMap.below h4 k1) ha, IsMap.below (IsMap.below h5 k1) ha⟩, ⟨IsMap.below k4 ha, IsMap.below k5 ha⟩, Kd.V_nil _ _ _ _ _⟩
  simp
  omega
end Go.Proofs.YtgmaedngkhidlaaDoor.Sf
-- SfY
namespace Go.Proofs.YtgmaedngkhidlaaDoor.Sf
open Go Go.RowKit Go.ChangeMaps Go.MapKept Go.Proofs.YtgmaedngkhidlaaDoorW.PrintWords Go.Proofs.YtgmaedngkhidlaaDoorW.PrintLast Go.Proofs.YtgmaedngkhidlaaDoorW.PrintMore
open Go.Maps (Keyed)
set_option linter.unusedVariables false
set_option linter.unusedSimpArgs false
theorem key8 : ∀ {k : List Int}, k.length = 8 → ∃ a0 a1 a2 a3 a4 a5 a6 a7, k = [a0, a1, a2, a3, a4, a5, a6, a7]
  | [a0, a1, a2, a3, a4, a5, a6, a7], _ => ⟨a0, a1, a2, a3, a4, a5, a6, a7, rfl⟩
theorem builtC {k : List Int} (hk : k.length = 8) (v : Int) (s : ByteArray) : Tryd.prog.built 45 [(0, vK k), (1, .int .i64 v), (2, .string s)] = some (encC ⟨k, v, s⟩).toArray := by
  obtain ⟨a0, a1, a2, a3, a4, a5, a6, a7, rfl⟩ := key8 hk
  kernel_rfl
theorem builtD (c s v : Int) : Tryd.prog.built 58 [(0, .int .i64 c), (1, .int .i64 s), (2, .int .i64 v)] = some (encD ⟨c, s, v⟩).toArray := by kernel_rfl
structure RecAt (f : Nat → Option Value) (x : Rc) : Prop where
  idx : f 0 = some (.int .i64 x.idx)
  epoch : f 1 = some (.int .i64 x.epoch)
  key : ∀ j v, (encK x.key)[j]? = some v → f (2 + j) = some v
  ver : f 10 = some (.int .i64 x.ver)
  val : f 11 = some (.string x.val)
  client : f 12 = some (.int .i64 x.client)
  seq : f 13 = some (.int .i64 x.seq)
theorem recAt {f : Nat → Option Value} {x : Rc} (hk : x.key.length = 8) (h : ∀ j v, (encR x)[j]? = some v → f j = some v) : RecAt f x := by
  have hl := encK_len hk
  have late : ∀ j v, ([Value.int .i64 x.ver, .string x.val, .int .i64 x.client, .int .i64 x.seq] : List Value)[j]? = some v → f (10 + j) = some v := fun j v hv => h (10 + j) v (by
    unfold encR
    rw [List.getElem?_append_right (by rw [List.length_append, hl]; show 10 ≤ 10 + j; omega), List.length_append, hl]
    show _[10 + j - 10]? = _
    rw [Nat.add_sub_cancel_left]
    exact hv)
  have early : ∀ j v, ([Value.int .i64 x.idx, .int .i64 x.epoch] ++ encK x.key)[j]? = some v → f j = some v := fun j v hv => h j v (by
    unfold encR
    rw [List.getElem?_append_left (List.getElem?_eq_some_iff.1 hv).1]
    exact hv)
  exact ⟨early 0 _ rfl, early 1 _ rfl, fun j v hv => early (2 + j) v (by rw [List.getElem?_append_right (by simp)]; simpa using hv), late 0 _ rfl, late 1 _ rfl, late 2 _ rfl, late 3 _ rfl⟩
structure CelAt (f : Nat → Option Value) (x : Cel) : Prop where
  key : ∀ j v, (encK x.key)[j]? = some v → f j = some v
  ver : f 8 = some (.int .i64 x.ver)
  val : f 9 = some (.string x.val)
theorem celAt {f : Nat → Option Value} {x : Cel} (hk : x.key.length = 8) (h : ∀ j v, (encC x)[j]? = some v → f j = some v) : CelAt f x := by
  have hl := encK_len hk
  have late : ∀ j v, ([Value.int .i64 x.ver, .string x.val] : List Value)[j]? = some v → f (8 + j) = some v := fun j v hv => h (8 + j) v (by
    unfold encC
    rw [List.getElem?_append_right (by rw [hl]; omega), hl, Nat.add_sub_cancel_left]
    exact hv)
  exact ⟨fun j v hv => h j v (by unfold encC; rw [List.getElem?_append_left (List.getElem?_eq_some_iff.1 hv).1]; exact hv), late 0 _ rfl, late 1 _ rfl⟩
theorem blk_get {w : World} {g : Nat} {t : TypeId} {fr : Nat × Nat} {cs : List Value} (h : w.heap[g]? = some (.cells cs.toArray t fr)) : ∀ j v, cs[j]? = some v → w.cell? ⟨g, j, none⟩ = some v := fun j v hv => by
  rw [cell_of_row w g _ _ t fr h, List.getElem?_toArray]
  exact hv
theorem wpList_built {P : Program} {ops : Array Oper} {rest : List Oper} {o : Oper} {a : Act} {w : World} {Q : Exit → Act → World → Prop} (hg : o.guard = none) (t : TypeId) (parts : Array (Nat × Operand)) (ho : o.op = .build t parts) (ps : List (Nat × Value)) (hp : (parts.map fun (i, x) => (i, a.eval x)).toList = ps) (cs : Array Value)
    (hf : P.built t ps = some cs) (h : wpList P ops Q rest (a.put o.dst (.agg cs)) w) : wpList P ops Q (o :: rest) a w :=
  wpList_build hg t parts ho (by rw [hp, hf]; rfl) (by rw [hp, hf]; exact h)
set_option maxHeartbeats 4000000 in
set_option maxRecDepth 100000 in
theorem put_calls (b1 b2 : Nat) (t : Tab) (x : Rc) (w : World) (hS : St2 w b1 b2 t) (hne : b1 ≠ b2) (huC : UpC t.cells) (huD : UpD t.done) (hk : KeyL x.key) (hcl : (Lit.int .i64 x.client).wf = true) :
    Calls Tryd.prog 55 #[vS b1 b2, vR x] w fun e w' => e = .returned (.tuple #[]) ∧ Ws (fun b => b = b1 ∨ b = b2) w w' ∧ St2 w' b1 b2 (putT t x) := by
  obtain ⟨q, hq⟩ := key_some hk
  obtain ⟨cs, hcs⟩ : ∃ cs, encR x = cs := ⟨_, rfl⟩
  change Calls Tryd.prog 55 #[vS b1 b2, .agg (encR x).toArray] w _
  obtain ⟨w1, hw1⟩ : ∃ w1, w.alloc (.cells #[.map (some b1), .map (some b2)] 84) = w1 := ⟨_, rfl⟩
  have hs1 : w1.heap.size = w.heap.size + 1 := by rw [← hw1]; simp
  obtain ⟨w2, hw2⟩ : ∃ w2, w1.alloc (.cells (encR x).toArray 32) = w2 := ⟨_, rfl⟩
  have hb1 : Below w.heap.size w w1 := hw1 ▸ below_alloc (Below.refl _ _) _
  have hb2 : Below w.heap.size w w2 := below_then hb1 hb1.size (hw2 ▸ below_alloc (Below.refl _ _) _)
  have hG1 : w1.heap[w.heap.size]? = some (.cells #[.map (some b1), .map (some b2)] 84) := hw1 ▸ at_alloc w _
  have hG2 : w2.heap[w.heap.size]? = some (.cells [.map (some b1), .map (some b2)].toArray 84) := hw2 ▸ under_alloc hG1 _
  have hR2 : w2.heap[w1.heap.size]? = some (.cells (encR x).toArray 32) := hw2 ▸ at_alloc w1 _
  rw [hcs]
  have hS2 := hS.below hb2
  have lt1 := hS.lt.1
  have lt2 := hS.lt.2
  have HW := Aside0.mk (And.intro hw1 hw2)
  rw [hcs] at HW
  have HF := Aside0.mk (And.intro hs1 (And.intro lt1 lt2))
  have HB2 := Aside0.mk hb2
  have HG2 := Aside0.mk hG2
  have HR2 := Aside0.mk hR2
  have HS2 := Aside0.mk hS2
  have HK := Aside0.mk hk
  have HQ := Aside0.mk hq
  have HU := Aside0.mk (And.intro huC huD)
  have HN := Aside0.mk hne
  have HC := Aside0.mk hcl
  have HE := Aside0.mk hcs
  clear hw1 hw2 hs1 hb1 hb2 hG1 hG2 hR2 hcs hS hS2 lt1 lt2 hk hq huC huD hne hcl
  go_enter Tryd.func55, Tryd.ntmps55
  go_upto_region 1 with (fail)
  rw [HW.out.1, HW.out.2]
  have hs := HF.out.1
  have hR2 := HR2.out
  rw [hs] at hR2
  have c0 : w2.cell? ⟨w.heap.size, 0, none⟩ = some (.map (some b1)) := blk_get HG2.out 0 _ rfl
  have R := recAt (f := fun j => w2.cell? ⟨w.heap.size + 1, j, none⟩) HK.out.len (blk_get hR2)
  have r10 : w2.cell? ⟨w.heap.size + 1, 10, none⟩ = some (.int .i64 x.ver) := R.ver
  have r11 : w2.cell? ⟨w.heap.size + 1, 11, none⟩ = some (.string x.val) := R.val
  have HSeg : Aside0 (SegAt w2 (w.heap.size + 1) 2 (encK x.key)) := ⟨fun j v hv => R.key j v hv⟩
  have HLK : Aside0 ((encK x.key).length = 8) := ⟨encK_len HK.out.len⟩
  have HBU := Aside0.mk (builtC HK.out.len x.ver x.val)
  obtain ⟨ks, hks⟩ : ∃ ks, encK x.key = ks := ⟨_, rfl⟩
  have HQ2 : Aside0 (keyOf Tryd.prog 28 (.agg ks.toArray) = some q) := ⟨hks ▸ HQ.out⟩
  have HBU2 : Aside0 (Tryd.prog.built 45 [(0, .agg ks.toArray), (1, .int .i64 x.ver), (2, .string x.val)] = some (encC x.cel).toArray) := ⟨hks ▸ HBU.out⟩
  rw [hks] at HSeg HLK
  have HKS := Aside0.mk hks
  clear hks R hR2 HBU hs
  go_upto_region 2 with (first
    | ((with_reducible refine gate_dst (N := 7) rfl ?_); refine wpList_seg (P := Tryd.prog) rfl 28 (.tmp 6) rfl (w.heap.size + 1) 2 rfl ks (by rw [HLK.out]; exact aggK) HSeg.out ?_)
    | ((with_reducible refine gate_dst (N := 9) rfl ?_); refine wpList_seg (P := Tryd.prog) rfl 28 (.tmp 8) rfl (w.heap.size + 1) 2 rfl ks (by rw [HLK.out]; exact aggK) HSeg.out ?_)
    | ((with_reducible refine gate_dst (N := 14) rfl ?_); go_must (refine wpList_built (P := Tryd.prog) rfl 45 _ rfl [(0, .agg ks.toArray), (1, .int .i64 x.ver), (2, .string x.val)] (by simp only [List.map_toArray, List.map_cons, List.map_nil]; rfl) _ HBU2.out ?_))
    | ((with_reducible refine gate_ (.mapUpdate 81 (.tmp 5) (.tmp 7) (.tmp 14)) rfl ?_); refine wpList_mapPut (P := Tryd.prog) rfl (.tmp 5) (.tmp 7) (.tmp 14) 81 rfl 28 45 keyedK mapC b1 _ rfl HS2.out.c (.agg ks.toArray) (vC x.cel) q rfl rfl HQ2.out ?_; intro w3 r1 r2 r3))
  have lb1 := HF.out.2.1
  have lb2 := HF.out.2.2
  have hz2 : w.heap.size < w2.heap.size := (Array.getElem?_eq_some_iff.1 HG2.out).1
  have hz3 : w.heap.size + 1 < w2.heap.size := HF.out.1 ▸ (Array.getElem?_eq_some_iff.1 HR2.out).1
  have hG3 : w3.heap[w.heap.size]? = some (.cells [.map (some b1), .map (some b2)].toArray 84) := (r1.block _ hz2 (fun e => by injection e with e; omega)).trans HG2.out
  have hR3 : w3.heap[w.heap.size + 1]? = some (.cells (encR x).toArray 32) := (r1.block _ hz3 (fun e => by injection e with e; omega)).trans (HF.out.1 ▸ HR2.out)
  have c1 : w3.cell? ⟨w.heap.size, 1, none⟩ = some (.map (some b2)) := blk_get hG3 1 _ rfl
  have R := recAt (f := fun j => w3.cell? ⟨w.heap.size + 1, j, none⟩) HK.out.len (blk_get hR3)
  have q10 : w3.cell? ⟨w.heap.size + 1, 10, none⟩ = some (.int .i64 x.ver) := R.ver
  have q12 : w3.cell? ⟨w.heap.size + 1, 12, none⟩ = some (.int .i64 x.client) := R.client
  have q13 : w3.cell? ⟨w.heap.size + 1, 13, none⟩ = some (.int .i64 x.seq) := R.seq
  have HD3 : Aside0 (IsDs w3 b2 t.done) := ⟨IsMap.same HS2.out.d (r1.block b2 (HS2.out.lt.2) (fun e => HN.out (by injection e with e; exact e.symm)))⟩
  have HBD := Aside0.mk (builtD x.client x.seq x.ver)
  have HKI : Aside0 (keyOf Tryd.prog 3 (.int .i64 x.client) = some (.int .i64 x.client)) := ⟨Maps.keyOf_int_mk Tryd.underlying3 HC.out⟩
  have R1 := Aside0.mk r1
  have R3 := Aside0.mk r3
  clear r1 r2 r3 hG3 hR3 R c0 r10 r11 lb1 lb2 hz2 hz3
  go_wp2_with (first
    | ((with_reducible refine gate_dst (N := 28) rfl ?_); go_must (refine wpList_built (P := Tryd.prog) rfl 58 _ rfl [(0, .int .i64 x.client), (1, .int .i64 x.seq), (2, .int .i64 x.ver)] (by simp only [List.map_toArray, List.map_cons, List.map_nil]; rfl) _ HBD.out ?_))
    | ((with_reducible refine gate_ (.mapUpdate 82 (.tmp 16) (.tmp 19) (.tmp 28)) rfl ?_); go_must (refine wpList_mapPut (P := Tryd.prog) rfl (.tmp 16) (.tmp 19) (.tmp 28) 82 rfl 3 58 keyedI mapD b2 _ rfl HD3.out (.int .i64 x.client) (vD x.don) _ rfl rfl HKI.out ?_); intro w4 s1 s2 s3))
  go_end0
  have hks := HKS.out
  subst hks
  have hc3 : IsCs w3 b1 (insC x.cel t.cells) := IsCs.put HU.out.1 R3.out
  have hd4 : IsDs w4 b2 (insD x.don t.done) := IsDs.put HU.out.2 s3
  have hc4 : IsCs w4 b1 (insC x.cel t.cells) := IsMap.same hc3 (s1.block b1 (IsMap.lt hc3) (fun e => HN.out (by injection e)))
  have k1 : Ws (fun b => b = b1 ∨ b = b2) w w2 := Ws.of_below HB2.out
  have k2 : Ws (fun b => b = b1 ∨ b = b2) w2 w3 := Ws.of_grown R1.out (.inl rfl)
  have k3 : Ws (fun b => b = b1 ∨ b = b2) w3 w4 := Ws.of_grown s1 (.inr rfl)
  exact ⟨rfl, (k1.trans k2).trans k3, ⟨hc4, hd4⟩⟩
end Go.Proofs.YtgmaedngkhidlaaDoor.Sf
-- SfZ
namespace Go.Proofs.YtgmaedngkhidlaaDoor.Sf
open Go Go.RowKit Go.ChangeMaps Go.MapKept Go.Proofs.YtgmaedngkhidlaaDoorW.PrintWords Go.Proofs.YtgmaedngkhidlaaDoorW.PrintLast Go.Proofs.YtgmaedngkhidlaaDoorW.PrintMore
open Go.Maps (Keyed)
set_option linter.unusedVariables false
set_option linter.unusedSimpArgs false
end Go.Proofs.YtgmaedngkhidlaaDoor.Sf
-- SgS
namespace Go.Proofs.YtgmaedngkhidlaaDoor.Sf
open Go Go.RowKit Go.ChangeMaps Go.MapKept Go.Proofs.YtgmaedngkhidlaaDoorW.PrintWords Go.Proofs.YtgmaedngkhidlaaDoorW.PrintLast Go.Proofs.YtgmaedngkhidlaaDoorW.PrintMore
open Go.Maps (Keyed)
set_option linter.unusedVariables false
set_option linter.unusedSimpArgs false
section
variable {P : Program} {o : Oper} {a : Act} {w : World}
theorem exec_seg (ty : TypeId) (x : Operand) (ho : o.op = .load ty x) (g f : Nat) (hx : a.eval x = .pointer (some ⟨g, f, none⟩)) (cs : List Value) (hA : AggT P ty cs.length) (hc : SegAt w g f cs) : (execOp a.eval o).run P w = .ok (.value (.agg cs.toArray)) w := by
  unfold execOp
  simp only [ho, hx, loadAt_agg hA (fun j v hj => by rw [add_off]; exact hc j v hj), Sem.run_bind, Sem.run_pure, Result.andThen_ok]
theorem exec_at (ty : TypeId) (x : Operand) (ho : o.op = .load ty x) (p : Addr) (hx : a.eval x = .pointer (some p)) (cs : List Value) (hA : AggT P ty cs.length) (hc : ∀ j v, cs[j]? = some v → w.cell? (p.add j) = some v) : (execOp a.eval o).run P w = .ok (.value (.agg cs.toArray)) w := by
  unfold execOp
  simp only [ho, hx, loadAt_agg hA hc, Sem.run_bind, Sem.run_pure, Result.andThen_ok]
theorem exec_look (t : TypeId) (m k : Operand) (ok : Bool) (ho : o.op = .lookup t m k ok) (mv kv v : Value) (hm : a.eval m = mv) (hk : a.eval k = kv) (hr : (Instr.lookup t mv kv ok).run P w = .ok v w) : (execOp a.eval o).run P w = .ok (.value v) w := by
  unfold execOp
  simp only [ho, hm, hk, hr, Sem.run_bind, Sem.run_pure, Result.andThen_ok]
theorem exec_built (t : TypeId) (parts : Array (Nat × Operand)) (ho : o.op = .build t parts) (ps : List (Nat × Value)) (hp : (parts.map fun (i, x) => (i, a.eval x)).toList = ps) (cs : Array Value) (hf : P.built t ps = some cs) : (execOp a.eval o).run P w = .ok (.value (.agg cs)) w := by
  unfold execOp
  have := run_build (P := P) w t (parts.map fun (i, x) => (i, a.eval x)) cs (by rw [hp]; exact hf)
  simp only [ho, this, Sem.run_bind, Sem.run_pure, Result.andThen_ok]
theorem exec_row (ty : TypeId) (x y : Operand) (ho : o.op = .store ty x y) (g : Nat) (zs : Array Value) (t : TypeId) (hb : w.heap[g]? = some (.cells zs t (0, 0))) (cs : List Value) (hx : a.eval x = .pointer (some ⟨g, 0, none⟩)) (hy : a.eval y = .agg cs.toArray) (hA : AggT P ty cs.length) (hz : zs.size = cs.length) (h1 : ∀ v ∈ cs, v.oneCell' = true) :
    ∃ w', (execOp a.eval o).run P w = .ok .skip w' ∧ w.grownBy w' (some g) ∧ w'.heap.size = w.heap.size ∧ w'.heap[g]? = some (.cells cs.toArray t (0, 0)) := by
  have hst := run_storeCells_at P g 0 t cs 0 zs w hb (by omega) h1
  have he : (zs.toList.take (0 + 0) ++ cs ++ zs.toList.drop (0 + 0 + cs.length)).toArray = cs.toArray := by
    rw [List.drop_of_length_le (by simp; omega)]
    simp
  rw [he] at hst
  have hrun : (Instr.storeAt ty (.pointer (some ⟨g, 0, none⟩)) (.agg cs.toArray)).run P w = .ok () (w.setRow g cs.toArray) := by
    have hi := hA.size
    cases hq : P.info? ty with
    | none => simp [hq] at hi
    | some i =>
      have hs : cs.length = i.size := by simp [hq] at hi; omega
      simp [Instr.storeAt, Instr.sureAddr, storeVar, sizeOf, typeInfo, hq, Value.cells, ← hs, hst]
  refine ⟨w.setRow g cs.toArray, ?_, ⟨rfl, rfl, rfl, by simp, fun i _ hi => setRow_other w g i _ (fun e => hi (by rw [e]))⟩, by simp, setRow_heap w g zs cs.toArray t (0, 0) hb⟩
  unfold execOp
  simp only [ho, hx, hy, Sem.run_bind, Sem.run_pure, Result.andThen_ok, hrun]
theorem skip_row {ops : Array Oper} {Q : Exit → Act → World → Prop} {K : Act → World → Prop} (hw : Region.wanted o (yielded ops a.tmps) = true) (hN : o.dst = none) (ty : TypeId) (x y : Operand) (ho : o.op = .store ty x y) (g : Nat) (zs : Array Value) (t : TypeId) (hb : w.heap[g]? = some (.cells zs t (0, 0))) (cs : List Value) (hx : a.eval x = .pointer (some ⟨g, 0, none⟩)) (hy : a.eval y = .agg cs.toArray) (hA : AggT P ty cs.length) (hz : zs.size = cs.length) (h1 : ∀ v ∈ cs, v.oneCell' = true)
    (h : ∀ w', w.grownBy w' (some g) → w'.heap.size = w.heap.size → w'.heap[g]? = some (.cells cs.toArray t (0, 0)) → K a w') : if Region.wanted o (yielded ops a.tmps) = true then Oper.wp P o a w K Q else K (a.put none undef) w := by
  obtain ⟨w1, hr, q1, q2, q3⟩ := exec_row (P := P) (a := a) (o := o) ty x y ho g zs t hb cs hx hy hA hz h1
  exact skip_ hw hN hr (h w1 q1 q2 q3)
end
theorem lookC_len {m : List Cel} {k : List Int} (hk : k.length = 8) : (lookC m k).key.length = 8 := by
  unfold lookC
  cases hg : getC m k with
  | none => rfl
  | some c =>
    have := List.find?_some hg
    simp at this
    show c.key.length = 8
    rw [this]; exact hk
theorem field_D1 (a b c : Int) (w : World) : (Instr.field 58 (.agg #[.int .i64 a, .int .i64 b, .int .i64 c]) 1).run Tryd.prog w = .ok (.int .i64 b) w := by kernel_rfl
theorem field_C1 {k : List Int} (hk : k.length = 8) (v : Int) (s : ByteArray) (w : World) : (Instr.field 45 (vC ⟨k, v, s⟩) 1).run Tryd.prog w = .ok (.int .i64 v) w := by
  obtain ⟨a0, a1, a2, a3, a4, a5, a6, a7, rfl⟩ := key8 hk
  kernel_rfl
theorem field_C2 {k : List Int} (hk : k.length = 8) (v : Int) (s : ByteArray) (w : World) : (Instr.field 45 (vC ⟨k, v, s⟩) 2).run Tryd.prog w = .ok (.string s) w := by
  obtain ⟨a0, a1, a2, a3, a4, a5, a6, a7, rfl⟩ := key8 hk
  kernel_rfl
theorem lookC_ver {t : Tab} (h : TabOk t) (k : List Int) : 0 ≤ (lookC t.cells k).ver ∧ (lookC t.cells k).ver ≤ 1099511627776 := by
  unfold lookC
  cases hg : getC t.cells k with
  | none => exact ⟨Int.le_refl 0, by decide⟩
  | some c =>
    have hm := List.mem_of_find?_eq_some hg
    have := (h.cell c hm).2
    have := h.idx
    show 0 ≤ c.ver ∧ c.ver ≤ _
    omega
end Go.Proofs.YtgmaedngkhidlaaDoor.Sf
-- SgA
namespace Go.Proofs.YtgmaedngkhidlaaDoor.Sf
open Go Go.RowKit Go.ChangeMaps Go.MapKept Go.Proofs.YtgmaedngkhidlaaDoorW.PrintWords Go.Proofs.YtgmaedngkhidlaaDoorW.PrintLast Go.Proofs.YtgmaedngkhidlaaDoorW.PrintMore
open Go.Maps (Keyed)
set_option linter.unusedVariables false
set_option linter.unusedSimpArgs false
section
variable {F G : Nat → Prop} {p : Nat} {s : Sh}
set_option maxHeartbeats 8000000 in
set_option maxRecDepth 100000 in
theorem may_calls (x : Rc) (w : World) (h : IsS F G w p s) (hw : Wf s) (hk : KeyL x.key) (hv : x.val.size ≤ 9223372036854775807) (hcl : (Lit.int .i64 x.client).wf = true) (hT : Tabs w) :
    Calls Tryd.prog 53 #[.pointer (some ⟨p, 0, none⟩), vR x] w fun e w' => e = .returned (.int .i64 (mayP (lastT s) x)) ∧ Below w.heap.size w w' := by
  obtain ⟨cs, hcs⟩ : ∃ cs, encR x = cs := ⟨_, rfl⟩
  change Calls Tryd.prog 53 #[.pointer (some ⟨p, 0, none⟩), .agg (encR x).toArray] w _
  rw [hcs]
  obtain ⟨out, hout⟩ : ∃ out, mayP (lastT s) x = out := ⟨_, rfl⟩
  rw [hout]
  obtain ⟨hT1, hidx⟩ := hw.last
  have hlen := hw.len
  have hti := hw.tab.idx
  unfold mayP at hout
  rw [hidx] at hout
  obtain ⟨g, hg⟩ : ∃ g, w.heap.size = g := ⟨_, rfl⟩
  obtain ⟨w1, hw1⟩ : ∃ w1, w.alloc (.cells cs.toArray 32) = w1 := ⟨_, rfl⟩
  have hb1 : Below w.heap.size w w1 := hw1 ▸ below_alloc (Below.refl _ _) _
  have hR1 : w1.heap[g]? = some (.cells cs.toArray 32) := hg ▸ hw1 ▸ at_alloc w _
  have h1 := h.below hb1
  have RR := recAt (f := fun j => w1.cell? ⟨g, j, none⟩) hk.len (hcs ▸ blk_get hR1)
  have r0 : w1.cell? ⟨g, 0, none⟩ = some (.int .i64 x.idx) := RR.idx
  have r1 : w1.cell? ⟨g, 1, none⟩ = some (.int .i64 x.epoch) := RR.epoch
  have hE : ∀ n, Calls Tryd.prog 52 #[.pointer (some ⟨p, 0, none⟩)] (w1.drewN n) fun e w' => e = .returned (.int .i64 (endI s)) ∧ Drawn0 (w1.drewN n) w' := fun n => end_calls (h1.drew n) hw
  have hEra : ∀ n, Calls Tryd.prog 69 #[.pointer (some ⟨p, 0, none⟩)] (w1.drewN n) fun e w' => e = .returned (.int .i64 (lastT s).epoch) ∧ Drawn0 (w1.drewN n) w' := fun n => era_calls (h1.drew n) hw
  have hwr : IntKind.i64.wrap (endI s + 1) = endI s + 1 := IntWalk.i64_in _ (by unfold endI; omega)
  obtain ⟨E, hE0⟩ : ∃ E, endI s = E := ⟨_, rfl⟩
  rw [hE0] at hE hout hwr hidx
  obtain ⟨ep, hep⟩ : ∃ ep, (lastT s).epoch = ep := ⟨_, rfl⟩
  rw [hep] at hEra hout
  have HE := Aside0.mk hE
  have HEra := Aside0.mk hEra
  have HOut := Aside0.mk hout
  have HW1 := Aside0.mk hw1
  have HH := Aside0.mk h1
  have HR := Aside0.mk hR1
  have HB1 := Aside0.mk hb1
  have HWf := Aside0.mk hw
  have HK := Aside0.mk hk
  have HV := Aside0.mk hv
  have HCL := Aside0.mk hcl
  have HT := Aside0.mk (hT.below hb1)
  have HTL := Aside0.mk hT1
  have HCS := Aside0.mk hcs
  clear hE hEra hout hw1 h1 hR1 hb1 hw hk hv hcl hT hT1 hcs RR hidx hlen hti hE0 hep h
  go_enter Tryd.func53, Tryd.ntmps53
  go_upto_region 1 with (fail)
  rw [HW1.out]
  by_cases c1 : x.idx = E + 1
  · have d1 : (x.idx != E + 1) = false := by simpa using c1
    have ho := HOut.out
    by_cases c2 : 1099511627776 < x.idx
    · have d2 : decide (x.idx > 1099511627776) = true := decide_eq_true c2
      have d2' : decide (1099511627776 < x.idx) = true := decide_eq_true c2
      rw [if_pos (.inr c2)] at ho
      subst ho
      clear c1 c2
      go_quiet ((go_at_call 52; exact Calls.quiet_of ((HE.out _).mono (fun _ _ h_ => ⟨h_.1, h_.2.out⟩))))
      go_wp2_with (fail)
      go_ret
      exact ⟨rfl, hg ▸ pw_below_drewN HB1.out _⟩
    rw [if_neg (fun h => h.elim (fun h => h c1) c2)] at ho
    have d2 : decide (x.idx > 1099511627776) = false := decide_eq_false c2
    have d2' : decide (1099511627776 < x.idx) = false := decide_eq_false c2
    have HO := Aside0.mk ho
    clear HOut ho c1 c2
    go_quiet ((go_at_call 52; exact Calls.quiet_of ((HE.out _).mono (fun _ _ h_ => ⟨h_.1, h_.2.out⟩))))
    go_upto_region 3 with (fail)
    obtain ⟨w2, hw2⟩ : ∃ w2, w1.drewN nq = w2 := ⟨_, rfl⟩
    have hb2 : Below w1.heap.size w1 w2 := hw2 ▸ pw_below_drewN (Below.refl _ _) _
    have HB2 := Aside0.mk (below_then HB1.out HB1.out.size hb2)
    have HH2 := Aside0.mk (HH.out.below hb2)
    have hR2 := blk_below HR.out hb2
    have HR2 := Aside0.mk hR2
    have HT2 := Aside0.mk (HT.out.below hb2)
    have RR := recAt (f := fun j => w2.cell? ⟨g, j, none⟩) HK.out.len (HCS.out ▸ blk_get hR2)
    have r1 : w2.cell? ⟨g, 1, none⟩ = some (.int .i64 x.epoch) := RR.epoch
    have r11 : w2.cell? ⟨g, 11, none⟩ = some (.string x.val) := RR.val
    have HEra2 : Aside0 (∀ n, Calls Tryd.prog 69 #[.pointer (some ⟨p, 0, none⟩)] (w2.drewN n) fun e w' => e = .returned (.int .i64 ep) ∧ Drawn0 (w2.drewN n) w') := ⟨fun n => by
      have := HEra.out (nq + n)
      rw [← World.drewN_drewN, hw2] at this
      exact this⟩
    rw [hw2]
    clear hw2 hb2 hR2 RR HB1 HH HR HT HE HEra
    by_cases c3 : x.epoch < 1
    · have d3 : decide (x.epoch < 1) = true := decide_eq_true c3
      have ho := HO.out
      rw [if_pos (.inl c3)] at ho
      subst ho
      clear c3
      go_quiet (fail)
      go_wp2_with (fail)
      go_ret
      exact ⟨rfl, hg ▸ pw_below_drewN HB2.out _⟩
    have d3 : decide (x.epoch < 1) = false := decide_eq_false c3
    by_cases c4 : 1099511627776 < x.epoch
    · have d4 : decide (x.epoch > 1099511627776) = true := decide_eq_true c4
      have d4' : decide (1099511627776 < x.epoch) = true := decide_eq_true c4
      have ho := HO.out
      rw [if_pos (.inr (.inl c4))] at ho
      subst ho
      clear c3 c4
      go_quiet (fail)
      go_wp2_with (fail)
      go_ret
      exact ⟨rfl, hg ▸ pw_below_drewN HB2.out _⟩
    have d4 : decide (x.epoch > 1099511627776) = false := decide_eq_false c4
    have d4' : decide (1099511627776 < x.epoch) = false := decide_eq_false c4
    by_cases c5 : x.epoch < ep
    · have d5 : decide (x.epoch < ep) = true := decide_eq_true c5
      have ho := HO.out
      rw [if_pos (.inr (.inr c5))] at ho
      subst ho
      clear c3 c4 c5
      go_quiet ((go_at_call 69; exact Calls.quiet_of ((HEra2.out _).mono (fun _ _ h_ => ⟨h_.1, h_.2.out⟩))))
      go_wp2_with (fail)
      go_ret
      exact ⟨rfl, hg ▸ pw_below_drewN HB2.out _⟩
    have d5 : decide (x.epoch < ep) = false := decide_eq_false c5
    have ho := HO.out
    rw [if_neg (fun h => h.elim c3 (fun h => h.elim c4 c5))] at ho
    have HO3 := Aside0.mk ho
    clear ho HO c3 c4 c5
    go_quiet ((go_at_call 69; exact Calls.quiet_of ((HEra2.out _).mono (fun _ _ h_ => ⟨h_.1, h_.2.out⟩))))
    go_upto_region 5 with (fail)
    obtain ⟨w3, hw3⟩ : ∃ w3, w2.drewN nq = w3 := ⟨_, rfl⟩
    have hb3 : Below w2.heap.size w2 w3 := hw3 ▸ pw_below_drewN (Below.refl _ _) _
    have HB3 := Aside0.mk (below_then HB2.out HB2.out.size hb3)
    have HH3 := Aside0.mk (HH2.out.below hb3)
    have HR3 := Aside0.mk (blk_below HR2.out hb3)
    have HT3 := Aside0.mk (HT2.out.below hb3)
    rw [hw3]
    obtain ⟨ks, hks⟩ : ∃ ks, encK x.key = ks := ⟨_, rfl⟩
    have HLK : Aside0 (ks.length = 8) := ⟨hks ▸ encK_len HK.out.len⟩
    have HSEG : Aside0 (∀ w' : World, w'.heap[g]? = some (.cells cs.toArray 32) → SegAt w' g 2 ks) := ⟨fun w' hb j v hj => (recAt (f := fun j => w'.cell? ⟨g, j, none⟩) HK.out.len (HCS.out ▸ blk_get hb)).key j v (hks ▸ hj)⟩
    have HRT : Aside0 (Calls Tryd.prog 45 #[.agg ks.toArray, .string x.val] w3 fun e w' => e = .returned (.int .i64 (if rightB x.key x.val = true then 0 else 91)) ∧ Below w3.heap.size w3 w') := ⟨hks ▸ Right_calls x.key x.val w3 HK.out HV.out HT3.out⟩
    have r11 : w3.cell? ⟨g, 11, none⟩ = some (.string x.val) := (recAt (f := fun j => w3.cell? ⟨g, j, none⟩) HK.out.len (HCS.out ▸ blk_get HR3.out)).val
    have HKS := Aside0.mk hks
    clear hw3 hb3 HB2 HH2 HR2 HT2 HEra2 hks r0 r1
    by_cases c6 : rightB x.key x.val = true
    · rw [if_pos c6] at HRT
      have ho := HO3.out
      rw [if_neg (by rw [c6]; decide)] at ho
      have HO4 := Aside0.mk ho
      clear ho HO3 c6
      go_upto_region 8 with (first
        | ((with_reducible refine gate_dst (N := 37) rfl ?_); go_must (refine wpList_seg (P := Tryd.prog) rfl 28 (.tmp 36) rfl g 2 rfl ks (by rw [HLK.out]; exact aggK) (HSEG.out _ HR3.out) ?_))
        | (go_at_call 45; refine HRT.out.mono ?_; rintro e w5 ⟨rfl, hb5⟩))
      have HB5 := Aside0.mk (below_then HB3.out HB3.out.size hb5)
      have hI5 := HH3.out.below hb5
      have HG5 := Aside0.mk (blk_below HR3.out hb5)
      obtain ⟨b1, b2, b3, b4, rv, hp5, hf5, hn5, hs1, hs2, hrv⟩ := hI5.ex
      have HP5 := Aside0.mk hp5
      have HS5 := Aside0.mk hs2
      have HN5 : Aside0 (p < w5.heap.size ∧ p ≠ g ∧ b3 ≠ g ∧ b4 ≠ g) := ⟨blk_lt hp5, (fun e => by
        rw [e, HG5.out] at hp5
        injection hp5 with hp5
        injection hp5 with _ h2
        cases h2), fun e => IsMap.ne_cells hs2.c HG5.out e.symm, fun e => IsMap.ne_cells hs2.d HG5.out e.symm⟩
      have HLOOK : Aside0 (∀ w' : World, IsCs w' b3 (lastT s).cells → (Instr.lookup 81 (.map (some b3)) (.agg ks.toArray) true).run Tryd.prog w' = .ok (.tuple #[.agg (encC (lookC (lastT s).cells x.key)).toArray, .bool (getC (lastT s).cells x.key).isSome]) w') := ⟨fun w' hc => HKS.out ▸ IsCs.look hc HTL.out.up HK.out true⟩
      have HDL : Aside0 ((encC (lookC (lastT s).cells x.key)).length = 10) := ⟨encC_len (lookC_len HK.out.len)⟩
      have HD1 := Aside0.mk (encC_one (lookC (lastT s).cells x.key))
      obtain ⟨ds, hds⟩ : ∃ ds, encC (lookC (lastT s).cells x.key) = ds := ⟨_, rfl⟩
      obtain ⟨th, hth⟩ : ∃ th, (getC (lastT s).cells x.key).isSome = th := ⟨_, rfl⟩
      rw [hds, hth] at HLOOK
      rw [hds] at HDL HD1
      have HDS := Aside0.mk hds
      have HTH := Aside0.mk hth
      clear hb5 hI5 hp5 hf5 hn5 hs1 hs2 hrv hds hth HB3 HR3 HT3 HH3 HRT r11
      refine start_ (n := 14) (S := fun w' => w'.heap[p]? = some (.cells (shCells b1 b2 b3 b4 s.T.idx s.T.epoch rv s.C) 86 (0, 0)) ∧ w'.heap[g]? = some (.cells cs.toArray 32 (0, 0)) ∧ St2 w' b3 b4 (lastT s) ∧ Below w.heap.size w w') (ds := [12]) #[false, false, false, false, false, false, false, false, false, false, false, false, false, false] (by kernel_rfl) rfl rfl ⟨HP5.out, HG5.out, HS5.out.below (below_drew1 (Below.refl _ _)), below_drew1 HB5.out⟩ (fun hHeld => ?_)
      refine pure_ (i := 0) (N := some 45) (v := ?_) (a' := ?_) #[true, false, false, false, false, false, false, false, false, false, false, false, false, false] rfl rfl (by kernel_rfl) (fun _ _ _ h => h) (Or.inl ⟨by rfl, ?_⟩) ?_ ?_
      rotate_left
      · intro w'
        go_simp
        with_reducible rfl
      rotate_left
      · simp only [Act.put, List.setIfInBounds_toArray, List.set_cons_zero, List.set_cons_succ, i64_w, i32_w]
        rfl
      refine pure_ (i := 1) (N := some 46) (v := ?_) (a' := ?_) #[true, true, false, false, false, false, false, false, false, false, false, false, false, false] rfl rfl (by kernel_rfl) (fun _ _ _ h => h) (Or.inl ⟨by rfl, ?_⟩) ?_ ?_
      rotate_left
      · intro w'
        go_simp
        with_reducible rfl
      rotate_left
      · simp only [Act.put, List.setIfInBounds_toArray, List.set_cons_zero, List.set_cons_succ, i64_w, i32_w]
        rfl
      refine pure_ (i := 2) (N := some 47) (v := ?_) (a' := ?_) #[true, true, true, false, false, false, false, false, false, false, false, false, false, false] rfl rfl (by kernel_rfl) (fun _ _ _ h => h) (Or.inl ⟨by rfl, ?_⟩) ?_ ?_
      rotate_left
      · intro w'
        go_simp
        with_reducible rfl
      rotate_left
      · simp only [Act.put, List.setIfInBounds_toArray, List.set_cons_zero, List.set_cons_succ, i64_w, i32_w]
        rfl
      refine pure_ (i := 3) (N := some 48) (v := ?_) (a' := ?_) #[true, true, true, true, false, false, false, false, false, false, false, false, false, false] rfl rfl (by kernel_rfl) (fun _ _ _ h => h) (Or.inl ⟨by rfl, ?_⟩) ?_ ?_
      rotate_left
      · intro w'
        go_simp
        with_reducible rfl
      rotate_left
      · simp only [Act.put, List.setIfInBounds_toArray, List.set_cons_zero, List.set_cons_succ, i64_w, i32_w]
        rfl
      refine pure_ (i := 5) (N := some 50) (v := ?_) (a' := ?_) #[true, true, true, true, false, true, false, false, false, false, false, false, false, false] rfl rfl (by kernel_rfl) (fun _ _ _ h => h) (Or.inl ⟨by rfl, ?_⟩) ?_ ?_
      rotate_left
      · intro w'
        go_simp
        with_reducible rfl
      rotate_left
      · simp only [Act.put, List.setIfInBounds_toArray, List.set_cons_zero, List.set_cons_succ, i64_w, i32_w]
        rfl
      refine take_ (i := 4) (N := some 49) (v := ?_) (a' := ?_) #[true, true, true, true, true, true, false, false, false, false, false, false, false, false] rfl rfl (by kernel_rfl) (fun _ _ _ h => h) (Or.inl ⟨by rfl, ?_⟩) hHeld ?_ ?_
      rotate_left
      · rintro w' ⟨s0, s1, s2, s3⟩
        have d2_ := (blk_cell s0 2).trans (show _ = some (.map (some b3)) from rfl)
        go_simp
        with_reducible rfl
      rotate_left
      · simp only [Act.put, List.setIfInBounds_toArray, List.set_cons_zero, List.set_cons_succ, i64_w, i32_w]
        rfl
      refine take_ (i := 6) (N := some 51) (v := ?_) (a' := ?_) #[true, true, true, true, true, true, true, false, false, false, false, false, false, false] rfl rfl (by kernel_rfl) (fun _ _ _ h => h) (Or.inl ⟨by rfl, ?_⟩) hHeld ?_ ?_
      rotate_left
      · rintro w' ⟨s0, s1, s2, s3⟩
        refine Eq.trans (exec_seg (P := Tryd.prog) 28 (.tmp 50) rfl g 2 rfl ks (by rw [HLK.out]; exact aggK) (HSEG.out _ s1)) ?_
        with_reducible rfl
      rotate_left
      · simp only [Act.put, List.setIfInBounds_toArray, List.set_cons_zero, List.set_cons_succ, i64_w, i32_w]
        rfl
      refine take_ (i := 7) (N := some 52) (v := ?_) (a' := ?_) #[true, true, true, true, true, true, true, true, false, false, false, false, false, false] rfl rfl (by kernel_rfl) (fun _ _ _ h => h) (Or.inl ⟨by rfl, ?_⟩) hHeld ?_ ?_
      rotate_left
      · rintro w' ⟨s0, s1, s2, s3⟩
        refine Eq.trans (exec_look (P := Tryd.prog) 81 (.tmp 49) (.tmp 51) true rfl (.map (some b3)) (.agg ks.toArray) _ rfl rfl (HLOOK.out _ s2.c)) ?_
        with_reducible rfl
      rotate_left
      · simp only [Act.put, List.setIfInBounds_toArray, List.set_cons_zero, List.set_cons_succ, i64_w, i32_w]
        rfl
      refine pure_ (i := 8) (N := some 44) (v := ?_) (a' := ?_) #[true, true, true, true, true, true, true, true, true, false, false, false, false, false] rfl rfl (by kernel_rfl) (fun _ _ _ h => h) (Or.inl ⟨by rfl, ?_⟩) ?_ ?_
      rotate_left
      · intro w'
        go_simp
        with_reducible rfl
      rotate_left
      · simp only [Act.put, List.setIfInBounds_toArray, List.set_cons_zero, List.set_cons_succ, i64_w, i32_w]
        rfl
      refine pure_ (i := 9) (N := some 53) (v := ?_) (a' := ?_) #[true, true, true, true, true, true, true, true, true, true, false, false, false, false] rfl rfl (by kernel_rfl) (fun _ _ _ h => h) (Or.inl ⟨by rfl, ?_⟩) ?_ ?_
      rotate_left
      · intro w'
        go_simp
        with_reducible rfl
      rotate_left
      · simp only [Act.put, List.setIfInBounds_toArray, List.set_cons_zero, List.set_cons_succ, i64_w, i32_w]
        rfl
      refine pure_ (i := 10) (N := some 54) (v := ?_) (a' := ?_) #[true, true, true, true, true, true, true, true, true, true, true, false, false, false] rfl rfl (by kernel_rfl) (fun _ _ _ h => h) (Or.inl ⟨by rfl, ?_⟩) ?_ ?_
      rotate_left
      · intro w'
        go_simp
        with_reducible rfl
      rotate_left
      · simp only [Act.put, List.setIfInBounds_toArray, List.set_cons_zero, List.set_cons_succ, i64_w, i32_w]
        rfl
      refine one_ (i := 11) (N := some 6) #[true, true, true, true, true, true, true, true, true, true, true, true, false, false] rfl rfl (by kernel_rfl) (by decide) (fun K hK => ?_)
      refine box_step (by rfl) (N := 6) rfl (cs := #[.int .u8 0, .int .u8 0, .int .u8 0, .int .u8 0, .int .u8 0, .int .u8 0, .int .u8 0, .int .u8 0, .int .i64 0, .string ⟨#[]⟩]) (t := 45) ?hr ?_
      case hr => first | (go_simp; done) | (go_simp; rfl)
      intro b9 hb9 w9 hblk9 hbel9
      have HA9 := Aside0.mk hblk9
      have HG9 := Aside0.mk (show g < b9 from hb9 ▸ blk_lt hHeld.2.1)
      have HP9 := Aside0.mk (show p < b9 from hb9 ▸ blk_lt hHeld.1)
      have HM9 := Aside0.mk (show b3 < b9 ∧ b4 < b9 from hb9 ▸ hHeld.2.2.1.lt)
      clear hblk9 hb9
      refine hK.out _ _ ⟨blk_below hHeld.1 hbel9, blk_below hHeld.2.1 hbel9, hHeld.2.2.1.below hbel9, below_step hHeld.2.2.2 hbel9⟩ (fun hHeld => ?_)
      clear hK K
      refine norm_ (a' := ?_) ?_ ?_
      rotate_left
      · show Act.put _ (some 6) _ = _
        simp only [Act.put, List.setIfInBounds_toArray, List.set_cons_zero, List.set_cons_succ, i64_w, i32_w]
        rfl
      refine last_ (i := 12) (N := none) #[true, true, true, true, true, true, true, true, true, true, true, true, true, false] rfl rfl (by kernel_rfl) (by decide) (fun K hK => ?_)
      refine skip_row (P := Tryd.prog) (by rfl) rfl 45 (.tmp 6) (.tmp 53) rfl b9 _ 45 HA9.out ds rfl rfl (by rw [HDL.out]; exact aggC) (by rw [HDL.out]; rfl) HD1.out ?_
      intro w10 q1 q2 q3
      refine hK.out _ _ ?_
      clear hK K
      refine pure_ (i := 13) (N := some 7) (v := ?_) (a' := ?_) #[true, true, true, true, true, true, true, true, true, true, true, true, true, true] rfl rfl (by kernel_rfl) (fun _ _ _ h => h) (Or.inl ⟨by rfl, ?_⟩) ?_ ?_
      rotate_left
      · intro w'
        go_simp
        with_reducible rfl
      rotate_left
      · simp only [Act.put, List.setIfInBounds_toArray, List.set_cons_zero, List.set_cons_succ, i64_w, i32_w]
        rfl
      refine done_ (by kernel_rfl) ?_
      have hgb := HG9.out
      have hpb := HP9.out
      have hmb := HM9.out
      have hne : ∀ k, k < b9 → some k ≠ some b9 := fun k h e => by injection e with e; omega
      have HP10 := Aside0.mk ((q1.block p (blk_lt hHeld.1) (hne p hpb)).trans hHeld.1)
      have HG10 := Aside0.mk ((q1.block g (blk_lt hHeld.2.1) (hne g hgb)).trans hHeld.2.1)
      have HS10 := Aside0.mk (hHeld.2.2.1.same (q1.block b3 hHeld.2.2.1.lt.1 (hne b3 hmb.1)) (q1.block b4 hHeld.2.2.1.lt.2 (hne b4 hmb.2)))
      have HB10 := Aside0.mk (pw_below_grown hHeld.2.2.2 _ hHeld.2.2.2.size q1 (fun k e => by injection e with e; omega))
      have HD10 := Aside0.mk q3
      have HSEQ : Aside0 (∀ w' : World, w'.heap[g]? = some (.cells cs.toArray 32) → w'.cell? ⟨g, 13, none⟩ = some (.int .i64 x.seq)) := ⟨fun w' hb => (recAt (f := fun j => w'.cell? ⟨g, j, none⟩) HK.out.len (HCS.out ▸ blk_get hb)).seq⟩
      have HCLI : Aside0 (∀ w' : World, w'.heap[g]? = some (.cells cs.toArray 32) → w'.cell? ⟨g, 12, none⟩ = some (.int .i64 x.client)) := ⟨fun w' hb => (recAt (f := fun j => w'.cell? ⟨g, j, none⟩) HK.out.len (HCS.out ▸ blk_get hb)).client⟩
      have HVER : Aside0 (∀ w' : World, w'.heap[g]? = some (.cells cs.toArray 32) → w'.cell? ⟨g, 10, none⟩ = some (.int .i64 x.ver)) := ⟨fun w' hb => (recAt (f := fun j => w'.cell? ⟨g, j, none⟩) HK.out.len (HCS.out ▸ blk_get hb)).ver⟩
      have HREQ : Aside0 (SegAt w10 g 12 [.int .i64 x.client, .int .i64 x.seq]) := ⟨fun j v hj => by
        rcases j with _ | _ | j
        · simp at hj; subst hj; exact HCLI.out _ HG10.out
        · simp at hj; subst hj; exact HSEQ.out _ HG10.out
        · simp at hj⟩
      have HLD : Aside0 (∀ w' : World, IsDs w' b4 (lastT s).done → (Instr.lookup 82 (.map (some b4)) (.int .i64 x.client) false).run Tryd.prog w' = .ok (.agg #[.int .i64 (lookD (lastT s).done x.client).client, .int .i64 (lookD (lastT s).done x.client).seq, .int .i64 (lookD (lastT s).done x.client).ver]) w') := ⟨fun w' hc => IsDs.look hc HTL.out.upd HCL.out false⟩
      obtain ⟨dd, hdd⟩ : ∃ dd, lookD (lastT s).done x.client = dd := ⟨_, rfl⟩
      rw [hdd] at HLD
      have HRQ := Aside0.mk (request_calls x.client x.seq w10)
      have HO5 := HO4.out
      rw [hdd] at HO5
      have HO5 := Aside0.mk HO5
      have HDD := Aside0.mk hdd
      clear hHeld q1 q2 q3 hgb hpb hmb hne hdd HO4 HLOOK HA9 HP5 HG5 HS5 HB5
      by_cases c7 : reqB x.client x.seq = true
      · rw [c7] at HRQ
        have ho := HO5.out
        rw [if_neg (by rw [c7]; decide)] at ho
        have HO6 := Aside0.mk ho
        clear ho HO5 c7
        go_upto_region 11 with (first
          | ((with_reducible refine gate_dst (N := 57) rfl ?_); go_must (refine wpList_seg (P := Tryd.prog) rfl 30 (.tmp 56) rfl g 12 rfl [.int .i64 x.client, .int .i64 x.seq] aggQ HREQ.out ?_))
          | (go_at_call 47; refine HRQ.out.mono ?_; rintro e w11 ⟨rfl, hb11⟩))
        have HP11 := Aside0.mk (blk_below HP10.out hb11)
        have HG11 := Aside0.mk (blk_below HG10.out hb11)
        have HS11 := Aside0.mk (HS10.out.below hb11)
        have HD11 := Aside0.mk (blk_below HD10.out hb11)
        have HB11 := Aside0.mk (below_then HB10.out HB10.out.size hb11)
        clear hb11 HP10 HG10 HS10 HD10 HB10 HREQ HRQ
        by_cases c8 : x.seq ≤ dd.seq
        · have d8 : decide (x.seq ≤ dd.seq) = true := decide_eq_true c8
          have ho := HO6.out
          rw [if_pos c8] at ho
          subst ho
          clear c8
          refine start_ (n := 15) (S := fun w' => w'.heap[p]? = some (.cells (shCells b1 b2 b3 b4 s.T.idx s.T.epoch rv s.C) 86 (0, 0)) ∧ w'.heap[g]? = some (.cells cs.toArray 32 (0, 0)) ∧ St2 w' b3 b4 (lastT s) ∧ w'.heap[b9]? = some (.cells ds.toArray 45 (0, 0)) ∧ Below w.heap.size w w') (ds := []) #[false, false, false, false, false, false, false, false, false, false, false, false, false, false, false] (by kernel_rfl) rfl rfl ⟨HP11.out, HG11.out, HS11.out.below (below_drew1 (Below.refl _ _)), HD11.out, below_drew1 HB11.out⟩ (fun hHeld => ?_)
          refine pure_ (i := 0) (N := some 61) (v := ?_) (a' := ?_) #[true, false, false, false, false, false, false, false, false, false, false, false, false, false, false] rfl rfl (by kernel_rfl) (fun _ _ _ h => h) (Or.inl ⟨by rfl, ?_⟩) ?_ ?_
          rotate_left
          · intro w'
            go_simp
            with_reducible rfl
          rotate_left
          · simp only [Act.put, List.setIfInBounds_toArray, List.set_cons_zero, List.set_cons_succ, i64_w, i32_w]
            rfl
          refine pure_ (i := 1) (N := some 62) (v := ?_) (a' := ?_) #[true, true, false, false, false, false, false, false, false, false, false, false, false, false, false] rfl rfl (by kernel_rfl) (fun _ _ _ h => h) (Or.inl ⟨by rfl, ?_⟩) ?_ ?_
          rotate_left
          · intro w'
            go_simp
            with_reducible rfl
          rotate_left
          · simp only [Act.put, List.setIfInBounds_toArray, List.set_cons_zero, List.set_cons_succ, i64_w, i32_w]
            rfl
          refine pure_ (i := 3) (N := some 64) (v := ?_) (a' := ?_) #[true, true, false, true, false, false, false, false, false, false, false, false, false, false, false] rfl rfl (by kernel_rfl) (fun _ _ _ h => h) (Or.inl ⟨by rfl, ?_⟩) ?_ ?_
          rotate_left
          · intro w'
            go_simp
            with_reducible rfl
          rotate_left
          · simp only [Act.put, List.setIfInBounds_toArray, List.set_cons_zero, List.set_cons_succ, i64_w, i32_w]
            rfl
          refine pure_ (i := 4) (N := some 65) (v := ?_) (a' := ?_) #[true, true, false, true, true, false, false, false, false, false, false, false, false, false, false] rfl rfl (by kernel_rfl) (fun _ _ _ h => h) (Or.inl ⟨by rfl, ?_⟩) ?_ ?_
          rotate_left
          · intro w'
            go_simp
            with_reducible rfl
          rotate_left
          · simp only [Act.put, List.setIfInBounds_toArray, List.set_cons_zero, List.set_cons_succ, i64_w, i32_w]
            rfl
          refine pure_ (i := 5) (N := some 66) (v := ?_) (a' := ?_) #[true, true, false, true, true, true, false, false, false, false, false, false, false, false, false] rfl rfl (by kernel_rfl) (fun _ _ _ h => h) (Or.inl ⟨by rfl, ?_⟩) ?_ ?_
          rotate_left
          · intro w'
            go_simp
            with_reducible rfl
          rotate_left
          · simp only [Act.put, List.setIfInBounds_toArray, List.set_cons_zero, List.set_cons_succ, i64_w, i32_w]
            rfl
          refine pure_ (i := 6) (N := some 67) (v := ?_) (a' := ?_) #[true, true, false, true, true, true, true, false, false, false, false, false, false, false, false] rfl rfl (by kernel_rfl) (fun _ _ _ h => h) (Or.inl ⟨by rfl, ?_⟩) ?_ ?_
          rotate_left
          · intro w'
            go_simp
            with_reducible rfl
          rotate_left
          · simp only [Act.put, List.setIfInBounds_toArray, List.set_cons_zero, List.set_cons_succ, i64_w, i32_w]
            rfl
          refine pure_ (i := 8) (N := some 69) (v := ?_) (a' := ?_) #[true, true, false, true, true, true, true, false, true, false, false, false, false, false, false] rfl rfl (by kernel_rfl) (fun _ _ _ h => h) (Or.inl ⟨by rfl, ?_⟩) ?_ ?_
          rotate_left
          · intro w'
            go_simp
            with_reducible rfl
          rotate_left
          · simp only [Act.put, List.setIfInBounds_toArray, List.set_cons_zero, List.set_cons_succ, i64_w, i32_w]
            rfl
          refine pure_ (i := 9) (N := some 70) (v := ?_) (a' := ?_) #[true, true, false, true, true, true, true, false, true, true, false, false, false, false, false] rfl rfl (by kernel_rfl) (fun _ _ _ h => h) (Or.inl ⟨by rfl, ?_⟩) ?_ ?_
          rotate_left
          · intro w'
            go_simp
            with_reducible rfl
          rotate_left
          · simp only [Act.put, List.setIfInBounds_toArray, List.set_cons_zero, List.set_cons_succ, i64_w, i32_w]
            rfl
          refine take_ (i := 2) (N := some 63) (v := ?_) (a' := ?_) #[true, true, true, true, true, true, true, false, true, true, false, false, false, false, false] rfl rfl (by kernel_rfl) (fun _ _ _ h => h) (Or.inl ⟨by rfl, ?_⟩) hHeld ?_ ?_
          rotate_left
          · rintro w' ⟨s0, s1, s2, s3, s4⟩
            have d_ := HSEQ.out _ s1
            go_simp
            with_reducible rfl
          rotate_left
          · simp only [Act.put, List.setIfInBounds_toArray, List.set_cons_zero, List.set_cons_succ, i64_w, i32_w]
            rfl
          refine take_ (i := 7) (N := some 68) (v := ?_) (a' := ?_) #[true, true, true, true, true, true, true, true, true, true, false, false, false, false, false] rfl rfl (by kernel_rfl) (fun _ _ _ h => h) (Or.inl ⟨by rfl, ?_⟩) hHeld ?_ ?_
          rotate_left
          · rintro w' ⟨s0, s1, s2, s3, s4⟩
            have d3_ := (blk_cell s0 3).trans (show _ = some (.map (some b4)) from rfl)
            go_simp
            with_reducible rfl
          rotate_left
          · simp only [Act.put, List.setIfInBounds_toArray, List.set_cons_zero, List.set_cons_succ, i64_w, i32_w]
            rfl
          refine take_ (i := 10) (N := some 71) (v := ?_) (a' := ?_) #[true, true, true, true, true, true, true, true, true, true, true, false, false, false, false] rfl rfl (by kernel_rfl) (fun _ _ _ h => h) (Or.inl ⟨by rfl, ?_⟩) hHeld ?_ ?_
          rotate_left
          · rintro w' ⟨s0, s1, s2, s3, s4⟩
            have d_ := HCLI.out _ s1
            go_simp
            with_reducible rfl
          rotate_left
          · simp only [Act.put, List.setIfInBounds_toArray, List.set_cons_zero, List.set_cons_succ, i64_w, i32_w]
            rfl
          refine take_ (i := 11) (N := some 72) (v := ?_) (a' := ?_) #[true, true, true, true, true, true, true, true, true, true, true, true, false, false, false] rfl rfl (by kernel_rfl) (fun _ _ _ h => h) (Or.inl ⟨by rfl, ?_⟩) hHeld ?_ ?_
          rotate_left
          · rintro w' ⟨s0, s1, s2, s3, s4⟩
            refine Eq.trans (exec_look (P := Tryd.prog) 82 (.tmp 68) (.tmp 71) false rfl (.map (some b4)) (.int .i64 x.client) _ rfl rfl (HLD.out _ s2.d)) ?_
            with_reducible rfl
          rotate_left
          · simp only [Act.put, List.setIfInBounds_toArray, List.set_cons_zero, List.set_cons_succ, i64_w, i32_w]
            rfl
          refine pure_ (i := 12) (N := some 73) (v := ?_) (a' := ?_) #[true, true, true, true, true, true, true, true, true, true, true, true, true, false, false] rfl rfl (by kernel_rfl) (fun _ _ _ h => h) (Or.inl ⟨by rfl, ?_⟩) ?_ ?_
          rotate_left
          · intro w'
            go_simp
            rw [field_D1]
            try rfl
          rotate_left
          · simp only [Act.put, List.setIfInBounds_toArray, List.set_cons_zero, List.set_cons_succ, i64_w, i32_w]
            rfl
          refine pure_ (i := 13) (N := some 74) (v := ?_) (a' := ?_) #[true, true, true, true, true, true, true, true, true, true, true, true, true, true, false] rfl rfl (by kernel_rfl) (fun _ _ _ h => h) (Or.inl ⟨by rfl, ?_⟩) ?_ ?_
          rotate_left
          · intro w'
            go_simp
            with_reducible rfl
          rotate_left
          · simp only [Act.put, List.setIfInBounds_toArray, List.set_cons_zero, List.set_cons_succ, i64_w, i32_w]
            rfl
          refine pure_ (i := 14) (N := some 60) (v := ?_) (a' := ?_) #[true, true, true, true, true, true, true, true, true, true, true, true, true, true, true] rfl rfl (by kernel_rfl) (fun _ _ _ h => h) (Or.inl ⟨by rfl, ?_⟩) ?_ ?_
          rotate_left
          · intro w'
            go_simp
            with_reducible rfl
          rotate_left
          · simp only [Act.put, List.setIfInBounds_toArray, List.set_cons_zero, List.set_cons_succ, i64_w, i32_w]
            rfl
          refine done_ (by kernel_rfl) ?_
          go_wp2_with (fail)
          go_ret
          exact ⟨rfl, hHeld.2.2.2.2⟩
        · have d8 : decide (x.seq ≤ dd.seq) = false := decide_eq_false c8
          have ho := HO6.out
          rw [if_neg c8] at ho
          have HO7 := Aside0.mk ho
          clear ho HO6 c8
          refine start_ (n := 15) (S := fun w' => w'.heap[p]? = some (.cells (shCells b1 b2 b3 b4 s.T.idx s.T.epoch rv s.C) 86 (0, 0)) ∧ w'.heap[g]? = some (.cells cs.toArray 32 (0, 0)) ∧ St2 w' b3 b4 (lastT s) ∧ w'.heap[b9]? = some (.cells ds.toArray 45 (0, 0)) ∧ Below w.heap.size w w') (ds := []) #[false, false, false, false, false, false, false, false, false, false, false, false, false, false, false] (by kernel_rfl) rfl rfl ⟨HP11.out, HG11.out, HS11.out.below (below_drew1 (Below.refl _ _)), HD11.out, below_drew1 HB11.out⟩ (fun hHeld => ?_)
          refine pure_ (i := 0) (N := some 61) (v := ?_) (a' := ?_) #[true, false, false, false, false, false, false, false, false, false, false, false, false, false, false] rfl rfl (by kernel_rfl) (fun _ _ _ h => h) (Or.inl ⟨by rfl, ?_⟩) ?_ ?_
          rotate_left
          · intro w'
            go_simp
            with_reducible rfl
          rotate_left
          · simp only [Act.put, List.setIfInBounds_toArray, List.set_cons_zero, List.set_cons_succ, i64_w, i32_w]
            rfl
          refine pure_ (i := 1) (N := some 62) (v := ?_) (a' := ?_) #[true, true, false, false, false, false, false, false, false, false, false, false, false, false, false] rfl rfl (by kernel_rfl) (fun _ _ _ h => h) (Or.inl ⟨by rfl, ?_⟩) ?_ ?_
          rotate_left
          · intro w'
            go_simp
            with_reducible rfl
          rotate_left
          · simp only [Act.put, List.setIfInBounds_toArray, List.set_cons_zero, List.set_cons_succ, i64_w, i32_w]
            rfl
          refine pure_ (i := 3) (N := some 64) (v := ?_) (a' := ?_) #[true, true, false, true, false, false, false, false, false, false, false, false, false, false, false] rfl rfl (by kernel_rfl) (fun _ _ _ h => h) (Or.inl ⟨by rfl, ?_⟩) ?_ ?_
          rotate_left
          · intro w'
            go_simp
            with_reducible rfl
          rotate_left
          · simp only [Act.put, List.setIfInBounds_toArray, List.set_cons_zero, List.set_cons_succ, i64_w, i32_w]
            rfl
          refine pure_ (i := 4) (N := some 65) (v := ?_) (a' := ?_) #[true, true, false, true, true, false, false, false, false, false, false, false, false, false, false] rfl rfl (by kernel_rfl) (fun _ _ _ h => h) (Or.inl ⟨by rfl, ?_⟩) ?_ ?_
          rotate_left
          · intro w'
            go_simp
            with_reducible rfl
          rotate_left
          · simp only [Act.put, List.setIfInBounds_toArray, List.set_cons_zero, List.set_cons_succ, i64_w, i32_w]
            rfl
          refine pure_ (i := 5) (N := some 66) (v := ?_) (a' := ?_) #[true, true, false, true, true, true, false, false, false, false, false, false, false, false, false] rfl rfl (by kernel_rfl) (fun _ _ _ h => h) (Or.inl ⟨by rfl, ?_⟩) ?_ ?_
          rotate_left
          · intro w'
            go_simp
            with_reducible rfl
          rotate_left
          · simp only [Act.put, List.setIfInBounds_toArray, List.set_cons_zero, List.set_cons_succ, i64_w, i32_w]
            rfl
          refine pure_ (i := 6) (N := some 67) (v := ?_) (a' := ?_) #[true, true, false, true, true, true, true, false, false, false, false, false, false, false, false] rfl rfl (by kernel_rfl) (fun _ _ _ h => h) (Or.inl ⟨by rfl, ?_⟩) ?_ ?_
          rotate_left
          · intro w'
            go_simp
            with_reducible rfl
          rotate_left
          · simp only [Act.put, List.setIfInBounds_toArray, List.set_cons_zero, List.set_cons_succ, i64_w, i32_w]
            rfl
          refine pure_ (i := 8) (N := some 69) (v := ?_) (a' := ?_) #[true, true, false, true, true, true, true, false, true, false, false, false, false, false, false] rfl rfl (by kernel_rfl) (fun _ _ _ h => h) (Or.inl ⟨by rfl, ?_⟩) ?_ ?_
          rotate_left
          · intro w'
            go_simp
            with_reducible rfl
          rotate_left
          · simp only [Act.put, List.setIfInBounds_toArray, List.set_cons_zero, List.set_cons_succ, i64_w, i32_w]
            rfl
          refine pure_ (i := 9) (N := some 70) (v := ?_) (a' := ?_) #[true, true, false, true, true, true, true, false, true, true, false, false, false, false, false] rfl rfl (by kernel_rfl) (fun _ _ _ h => h) (Or.inl ⟨by rfl, ?_⟩) ?_ ?_
          rotate_left
          · intro w'
            go_simp
            with_reducible rfl
          rotate_left
          · simp only [Act.put, List.setIfInBounds_toArray, List.set_cons_zero, List.set_cons_succ, i64_w, i32_w]
            rfl
          refine take_ (i := 2) (N := some 63) (v := ?_) (a' := ?_) #[true, true, true, true, true, true, true, false, true, true, false, false, false, false, false] rfl rfl (by kernel_rfl) (fun _ _ _ h => h) (Or.inl ⟨by rfl, ?_⟩) hHeld ?_ ?_
          rotate_left
          · rintro w' ⟨s0, s1, s2, s3, s4⟩
            have d_ := HSEQ.out _ s1
            go_simp
            with_reducible rfl
          rotate_left
          · simp only [Act.put, List.setIfInBounds_toArray, List.set_cons_zero, List.set_cons_succ, i64_w, i32_w]
            rfl
          refine take_ (i := 7) (N := some 68) (v := ?_) (a' := ?_) #[true, true, true, true, true, true, true, true, true, true, false, false, false, false, false] rfl rfl (by kernel_rfl) (fun _ _ _ h => h) (Or.inl ⟨by rfl, ?_⟩) hHeld ?_ ?_
          rotate_left
          · rintro w' ⟨s0, s1, s2, s3, s4⟩
            have d3_ := (blk_cell s0 3).trans (show _ = some (.map (some b4)) from rfl)
            go_simp
            with_reducible rfl
          rotate_left
          · simp only [Act.put, List.setIfInBounds_toArray, List.set_cons_zero, List.set_cons_succ, i64_w, i32_w]
            rfl
          refine take_ (i := 10) (N := some 71) (v := ?_) (a' := ?_) #[true, true, true, true, true, true, true, true, true, true, true, false, false, false, false] rfl rfl (by kernel_rfl) (fun _ _ _ h => h) (Or.inl ⟨by rfl, ?_⟩) hHeld ?_ ?_
          rotate_left
          · rintro w' ⟨s0, s1, s2, s3, s4⟩
            have d_ := HCLI.out _ s1
            go_simp
            with_reducible rfl
          rotate_left
          · simp only [Act.put, List.setIfInBounds_toArray, List.set_cons_zero, List.set_cons_succ, i64_w, i32_w]
            rfl
          refine take_ (i := 11) (N := some 72) (v := ?_) (a' := ?_) #[true, true, true, true, true, true, true, true, true, true, true, true, false, false, false] rfl rfl (by kernel_rfl) (fun _ _ _ h => h) (Or.inl ⟨by rfl, ?_⟩) hHeld ?_ ?_
          rotate_left
          · rintro w' ⟨s0, s1, s2, s3, s4⟩
            refine Eq.trans (exec_look (P := Tryd.prog) 82 (.tmp 68) (.tmp 71) false rfl (.map (some b4)) (.int .i64 x.client) _ rfl rfl (HLD.out _ s2.d)) ?_
            with_reducible rfl
          rotate_left
          · simp only [Act.put, List.setIfInBounds_toArray, List.set_cons_zero, List.set_cons_succ, i64_w, i32_w]
            rfl
          refine pure_ (i := 12) (N := some 73) (v := ?_) (a' := ?_) #[true, true, true, true, true, true, true, true, true, true, true, true, true, false, false] rfl rfl (by kernel_rfl) (fun _ _ _ h => h) (Or.inl ⟨by rfl, ?_⟩) ?_ ?_
          rotate_left
          · intro w'
            go_simp
            rw [field_D1]
            try rfl
          rotate_left
          · simp only [Act.put, List.setIfInBounds_toArray, List.set_cons_zero, List.set_cons_succ, i64_w, i32_w]
            rfl
          refine pure_ (i := 13) (N := some 74) (v := ?_) (a' := ?_) #[true, true, true, true, true, true, true, true, true, true, true, true, true, true, false] rfl rfl (by kernel_rfl) (fun _ _ _ h => h) (Or.inl ⟨by rfl, ?_⟩) ?_ ?_
          rotate_left
          · intro w'
            go_simp
            with_reducible rfl
          rotate_left
          · simp only [Act.put, List.setIfInBounds_toArray, List.set_cons_zero, List.set_cons_succ, i64_w, i32_w]
            rfl
          refine pure_ (i := 14) (N := some 60) (v := ?_) (a' := ?_) #[true, true, true, true, true, true, true, true, true, true, true, true, true, true, true] rfl rfl (by kernel_rfl) (fun _ _ _ h => h) (Or.inl ⟨by rfl, ?_⟩) ?_ ?_
          rotate_left
          · intro w'
            go_simp
            with_reducible rfl
          rotate_left
          · simp only [Act.put, List.setIfInBounds_toArray, List.set_cons_zero, List.set_cons_succ, i64_w, i32_w]
            rfl
          refine done_ (by kernel_rfl) ?_
          go_upto_region 13 with (fail)
          obtain ⟨w12, hw12⟩ : ∃ w12, w11.drew = w12 := ⟨_, rfl⟩
          rw [hw12] at hHeld ⊢
          obtain ⟨k0, k1, k2, k3, k4⟩ := hHeld
          have r10 := HVER.out _ k1
          have CC := celAt (f := fun j => w12.cell? ⟨b9, j, none⟩) (x := lookC (lastT s).cells x.key) (lookC_len HK.out.len) (HDS.out ▸ blk_get k3)
          obtain ⟨cv, hcv⟩ : ∃ cv, (lookC (lastT s).cells x.key).ver = cv := ⟨_, rfl⟩
          have r8 : w12.cell? ⟨b9, 8, none⟩ = some (.int .i64 cv) := hcv ▸ CC.ver
          have hcb := lookC_ver HTL.out x.key
          rw [hcv] at hcb
          have hwc : wrap64 (cv + 1) = cv + 1 := by unfold wrap64; omega
          have hwd : IntKind.i64.wrap (cv + 1) = cv + 1 := IntWalk.i64_in _ (by omega)
          have k2m := (blk_cell k0 2).trans (show _ = some (Value.map (some b3)) from rfl)
          have hlen := IsMap.len k2.c mapC
          rw [List.length_map] at hlen
          have HLEN : Aside0 (∀ ty, (Builtin.len_ #[81] ty #[.map (some b3)]).run Tryd.prog w12 = .ok (.int .i64 ((lastT s).cells.length : Int)) w12) := ⟨hlen⟩
          obtain ⟨nl, hnl⟩ : ∃ nl, (lastT s).cells.length = nl := ⟨_, rfl⟩
          rw [hnl] at HLEN
          have ho := HO7.out
          rw [hcv, HTH.out, hnl] at ho
          have HO8 := Aside0.mk ho
          have K4 := Aside0.mk k4
          have HTL2 := HTL.out.many
          clear hw12 k0 k1 k2 k3 k4 CC hcv hcb hlen hnl ho HO7 HP11 HG11 HS11 HD11 HB11 HTL2
          by_cases c9 : x.ver = cv + 1
          · have d9 : (x.ver != cv + 1) = false := by simpa using c9
            have ho := HO8.out
            rw [if_neg (fun h => h c9)] at ho
            have HO9 := Aside0.mk ho
            clear ho HO8 c9
            cases th with
            | true =>
              have ho := HO9.out
              rw [if_neg (fun h => by cases h.1)] at ho
              subst ho
              go_wp2_with (fail)
              go_ret
              exact ⟨rfl, K4.out⟩
            | false =>
              by_cases c10 : 12 ≤ nl
              · have d10 : decide ((nl : Int) ≥ 12) = true := decide_eq_true (by omega)
                have d11 : decide ((12 : Int) ≤ (nl : Int)) = true := decide_eq_true (by omega)
                have ho := HO9.out
                rw [if_pos ⟨rfl, c10⟩] at ho
                subst ho
                clear c10
                go_wp2_with (rw [HLEN.out]; simp only [Result.andThen]; rw [Oper.upon_value])
                go_ret
                exact ⟨rfl, hg ▸ K4.out⟩
              · have d10 : decide ((nl : Int) ≥ 12) = false := decide_eq_false (by omega)
                have d11 : decide ((12 : Int) ≤ (nl : Int)) = false := decide_eq_false (by omega)
                have ho := HO9.out
                rw [if_neg (fun h => c10 h.2)] at ho
                subst ho
                clear c10
                go_wp2_with (rw [HLEN.out]; simp only [Result.andThen]; rw [Oper.upon_value])
                go_ret
                exact ⟨rfl, hg ▸ K4.out⟩
          · have d9 : (x.ver != cv + 1) = true := by simpa using c9
            have ho := HO8.out
            rw [if_pos c9] at ho
            subst ho
            clear c9
            go_wp2_with (fail)
            go_ret
            exact ⟨rfl, K4.out⟩
      · have c7' : reqB x.client x.seq = false := by simpa using c7
        rw [c7'] at HRQ
        have ho := HO5.out
        rw [if_pos c7'] at ho
        subst ho
        clear c7 c7'
        go_wp2_with (first
          | ((with_reducible refine gate_dst (N := 57) rfl ?_); go_must (refine wpList_seg (P := Tryd.prog) rfl 30 (.tmp 56) rfl g 12 rfl [.int .i64 x.client, .int .i64 x.seq] aggQ HREQ.out ?_))
          | (go_at_call 47; refine HRQ.out.mono ?_; rintro e w11 ⟨rfl, hb11⟩))
        go_ret
        exact ⟨rfl, below_then HB10.out HB10.out.size hb11⟩
    · rw [if_neg c6] at HRT
      have ho := HO3.out
      rw [if_pos (by simpa using c6)] at ho
      subst ho
      clear c6
      go_wp2_with (first
        | ((with_reducible refine gate_dst (N := 37) rfl ?_); go_must (refine wpList_seg (P := Tryd.prog) rfl 28 (.tmp 36) rfl g 2 rfl ks (by rw [HLK.out]; exact aggK) (HSEG.out _ HR3.out) ?_))
        | (go_at_call 45; refine HRT.out.mono ?_; rintro e w5 ⟨rfl, hb5⟩))
      go_ret
      exact ⟨rfl, below_then HB3.out HB3.out.size hb5⟩
  · have d1 : (x.idx != E + 1) = true := by simpa using c1
    have ho := HOut.out
    rw [if_pos (.inl c1)] at ho
    subst ho
    clear c1
    go_quiet ((go_at_call 52; exact Calls.quiet_of ((HE.out _).mono (fun _ _ h_ => ⟨h_.1, h_.2.out⟩))))
    go_wp2_with (fail)
    go_ret
    exact ⟨rfl, hg ▸ pw_below_drewN HB1.out _⟩
end
end Go.Proofs.YtgmaedngkhidlaaDoor.Sf
-- SgB
namespace Go.Proofs.YtgmaedngkhidlaaDoor.Sf
open Go Go.RowKit Go.ChangeMaps Go.MapKept Go.Proofs.YtgmaedngkhidlaaDoorW.PrintWords Go.Proofs.YtgmaedngkhidlaaDoorW.PrintLast Go.Proofs.YtgmaedngkhidlaaDoorW.PrintMore
open Go.Maps (Keyed)
set_option linter.unusedVariables false
set_option linter.unusedSimpArgs false
theorem builtR {k : List Int} (hk : k.length = 8) (i e n c q : Int) (v : ByteArray) : Tryd.prog.built 32 [(0, .int .i64 i), (1, .int .i64 e), (2, vK k), (3, .int .i64 n), (4, .string v), (5, vQ c q)] = some (encR ⟨i, e, k, n, v, c, q⟩).toArray := by
  obtain ⟨a0, a1, a2, a3, a4, a5, a6, a7, rfl⟩ := key8 hk
  kernel_rfl
abbrev zRow : List Value := [.int .i64 0, .int .i64 0, .int .u8 0, .int .u8 0, .int .u8 0, .int .u8 0, .int .u8 0, .int .u8 0, .int .u8 0, .int .u8 0, .int .i64 0, .string ⟨#[]⟩, .int .i64 0, .int .i64 0]
theorem zRow_eq : encR zR = zRow := rfl
section
variable {F G : Nat → Prop} {p : Nat} {s : Sh}
set_option maxHeartbeats 8000000 in
set_option maxRecDepth 100000 in
theorem Next_calls (ep : Int) (k : List Int) (v : ByteArray) (c sq : Int) (w : World) (h : IsS F G w p s) (hw : Wf s) (hk : KeyL k) (hv : v.size ≤ 9223372036854775807) (hcl : (Lit.int .i64 c).wf = true) (hT : Tabs w) :
    Calls Tryd.prog 17 #[.pointer (some ⟨p, 0, none⟩), .int .i64 ep, vK k, .string v, vQ c sq] w fun e w' => e = .returned (.tuple #[vR (nextP s ep k v c sq).1, .int .i64 (nextP s ep k v c sq).2]) ∧ Below w.heap.size w w' := by
  obtain ⟨ks, hks⟩ : ∃ ks, encK k = ks := ⟨_, rfl⟩
  change Calls Tryd.prog 17 #[.pointer (some ⟨p, 0, none⟩), .int .i64 ep, .agg (encK k).toArray, .string v, vQ c sq] w _
  rw [hks]
  obtain ⟨out, hout⟩ : ∃ out, nextP s ep k v c sq = out := ⟨_, rfl⟩
  rw [hout]
  unfold nextP at hout
  obtain ⟨x, hx⟩ : ∃ x, nextR s ep k v c sq = x := ⟨_, rfl⟩
  rw [hx] at hout
  obtain ⟨hT1, hidx⟩ := hw.last
  have hlen := hw.len
  have hti := hw.tab.idx
  have hlo := hw.lo
  have hhi := hw.hi
  have hlk := encK_len hk.len
  rw [hks] at hlk
  obtain ⟨g, hg⟩ : ∃ g, w.heap.size = g := ⟨_, rfl⟩
  obtain ⟨w1, hw1⟩ : ∃ w1, w.alloc (.cells ks.toArray 28) = w1 := ⟨_, rfl⟩
  have hs1 : w1.heap.size = g + 1 := by rw [← hw1, ← hg]; simp
  obtain ⟨w2, hw2⟩ : ∃ w2, w1.alloc (.cells #[.int .i64 c, .int .i64 sq] 30) = w2 := ⟨_, rfl⟩
  have hs2 : w2.heap.size = g + 2 := by rw [← hw2]; simp [hs1]
  obtain ⟨w3, hw3⟩ : ∃ w3, w2.alloc (.cells zRow.toArray 32) = w3 := ⟨_, rfl⟩
  have hb1 : Below w.heap.size w w1 := hw1 ▸ below_alloc (Below.refl _ _) _
  have hb2 : Below w.heap.size w w2 := below_then hb1 hb1.size (hw2 ▸ below_alloc (Below.refl _ _) _)
  have hb3 : Below w.heap.size w w3 := below_then hb2 hb2.size (hw3 ▸ below_alloc (Below.refl _ _) _)
  have hK1 : w1.heap[g]? = some (.cells ks.toArray 28) := hg ▸ hw1 ▸ at_alloc w _
  have hK3 : w3.heap[g]? = some (.cells ks.toArray 28) := hw3 ▸ under_alloc (hw2 ▸ under_alloc hK1 _) _
  have hQ3 : w3.heap[g + 1]? = some (.cells [.int .i64 c, .int .i64 sq].toArray 30) := hw3 ▸ under_alloc (hs1 ▸ hw2 ▸ at_alloc w1 _) _
  have hZ3 : w3.heap[g + 2]? = some (.cells zRow.toArray 32) := hs2 ▸ hw3 ▸ at_alloc w2 _
  have h3 := h.below hb3
  obtain ⟨b1, b2, b3, b4, rv, hp3, hf3, hn3, hs31, hs32, hrv⟩ := h3.ex
  have HP3 := Aside0.mk hp3
  have HS3 := Aside0.mk hs32
  have HH3 := Aside0.mk h3
  have HK3 := Aside0.mk hK3
  have HQ3 := Aside0.mk hQ3
  have HZ3 := Aside0.mk hZ3
  have HB3 := Aside0.mk hb3
  have HT3 := Aside0.mk (hT.below hb3)
  have HW := Aside0.mk (And.intro hw1 (And.intro hw2 hw3))
  have HLOOK : Aside0 (∀ w' : World, IsCs w' b3 (lastT s).cells → (Instr.lookup 81 (.map (some b3)) (.agg ks.toArray) false).run Tryd.prog w' = .ok (.agg (encC (lookC (lastT s).cells k)).toArray) w') := ⟨fun w' hc => hks ▸ IsCs.look hc hT1.up hk false⟩
  have HFLD : Aside0 (∀ w' : World, (Instr.field 45 (.agg (encC (lookC (lastT s).cells k)).toArray) 1).run Tryd.prog w' = .ok (.int .i64 (lookC (lastT s).cells k).ver) w') := ⟨fun w' => field_C1 (lookC_len hk.len) _ _ w'⟩
  have hcb := lookC_ver hT1 k
  have HBU := Aside0.mk (builtR hk.len (endI s + 1) ep ((lookC (lastT s).cells k).ver + 1) c sq v)
  have hxe : (⟨endI s + 1, ep, k, (lookC (lastT s).cells k).ver + 1, v, c, sq⟩ : Rc) = x := hx
  rw [hxe] at HBU
  dsimp only [vK] at HBU
  rw [hks] at HBU
  obtain ⟨cd, hcd⟩ : ∃ cd, encC (lookC (lastT s).cells k) = cd := ⟨_, rfl⟩
  rw [hcd] at HLOOK HFLD
  obtain ⟨cv, hcv⟩ : ∃ cv, (lookC (lastT s).cells k).ver = cv := ⟨_, rfl⟩
  rw [hcv] at HFLD hcb HBU
  obtain ⟨E, hE0⟩ : ∃ E, endI s = E := ⟨_, rfl⟩
  have hEb : -1 ≤ E ∧ E ≤ 1099511627900 ∧ s.C ≤ E ∧ 0 ≤ s.C := by rw [← hE0]; unfold endI; unfold endI at hhi; omega
  rw [hE0] at HBU hout
  have hxk : x.key = k := by rw [← hx]; rfl
  have hxv : x.val = v := by rw [← hx]; rfl
  have hxc : x.client = c := by rw [← hx]; rfl
  have HXL : Aside0 ((encR x).length = 14) := ⟨encR_len (by rw [hxk]; exact hk.len)⟩
  have HX1 := Aside0.mk (encR_one x)
  have HMAY : Aside0 (∀ w' : World, IsS F G w' p s → Tabs w' → Calls Tryd.prog 53 #[.pointer (some ⟨p, 0, none⟩), .agg (encR x).toArray] w' fun e w'' => e = .returned (.int .i64 (mayP (lastT s) x)) ∧ Below w'.heap.size w' w'') := ⟨fun w' h' hT' => may_calls x w' h' hw (by rw [hxk]; exact hk) (by rw [hxv]; exact hv) (by rw [hxc]; exact hcl) hT'⟩
  obtain ⟨xs, hxs⟩ : ∃ xs, encR x = xs := ⟨_, rfl⟩
  rw [hxs] at HBU HXL HX1 HMAY
  have hwr : IntKind.i64.wrap (E + 1) = E + 1 := IntWalk.i64_in _ (by omega)
  have hwc : IntKind.i64.wrap (cv + 1) = cv + 1 := IntWalk.i64_in _ (by omega)
  obtain ⟨m, hm⟩ : ∃ m, mayP (lastT s) x = m := ⟨_, rfl⟩
  rw [hm] at hout HMAY
  have HOut := Aside0.mk hout
  have HWf := Aside0.mk hw
  have HE0 := Aside0.mk hE0
  have HXS := Aside0.mk hxs
  have HLK := Aside0.mk hlk
  have HSZ := Aside0.mk (And.intro hg (And.intro hs1 hs2))
  have HEB := Aside0.mk hEb
  have HPL : Aside0 (p < g) := ⟨hg ▸ h.lt p h.fp⟩
  have HH0 := Aside0.mk h
  have HT0 := Aside0.mk hT
  clear hlen hti hlo hhi hlk hw1 hw2 hw3 hs1 hs2 hb1 hb2 hb3 hK1 hK3 hQ3 hZ3 h3 hp3 hf3 hn3 hs31 hs32 hrv hcb hxe hcd hcv hE0 hEb hxk hxv hxc hxs hm hout hw hk hv hcl hT hT1 hidx h hks hx
  go_enter Tryd.func17, Tryd.ntmps17
  go_upto_region 1 with (fail)
  rw [HW.out.1, HW.out.2.1]
  rw [HW.out.2.2]
  rw [show g + 1 + 1 = g + 2 from rfl]
  go_upto_region 3 with (go_at_call 51; refine (dead_calls HH3.out).mono ?_; rintro e w' ⟨rfl, rfl⟩)
  refine start_ (n := 19) (S := fun w' => w'.heap[p]? = some (.cells (shCells b1 b2 b3 b4 s.T.idx s.T.epoch rv s.C) 86 (0, 0)) ∧ IsS F G w' p s ∧ w'.heap[g]? = some (.cells ks.toArray 28 (0, 0)) ∧ w'.heap[g + 1]? = some (.cells [.int .i64 c, .int .i64 sq].toArray 30 (0, 0)) ∧ w'.heap[g + 2]? = some (.cells zRow.toArray 32 (0, 0)) ∧ St2 w' b3 b4 (lastT s) ∧ Below w.heap.size w w') (ds := [18]) #[false, false, false, false, false, false, false, false, false, false, false, false, false, false, false, false, false, false, false] (by kernel_rfl) rfl rfl ⟨HP3.out, HH3.out.below (below_drew1 (Below.refl _ _)), HK3.out, HQ3.out, HZ3.out, HS3.out.below (below_drew1 (Below.refl _ _)), below_drew1 HB3.out⟩ (fun hHeld => ?_)
  refine pure_ (i := 0) (N := some 17) (v := ?_) (a' := ?_) #[true, false, false, false, false, false, false, false, false, false, false, false, false, false, false, false, false, false, false] rfl rfl (by kernel_rfl) (fun _ _ _ h => h) (Or.inl ⟨by rfl, ?_⟩) ?_ ?_
  rotate_left
  · intro w'
    go_simp
    with_reducible rfl
  rotate_left
  · simp only [Act.put, List.setIfInBounds_toArray, List.set_cons_zero, List.set_cons_succ, i64_w, i32_w]
    rfl
  refine pure_ (i := 3) (N := some 20) (v := ?_) (a' := ?_) #[true, false, false, true, false, false, false, false, false, false, false, false, false, false, false, false, false, false, false] rfl rfl (by kernel_rfl) (fun _ _ _ h => h) (Or.inl ⟨by rfl, ?_⟩) ?_ ?_
  rotate_left
  · intro w'
    go_simp
    with_reducible rfl
  rotate_left
  · simp only [Act.put, List.setIfInBounds_toArray, List.set_cons_zero, List.set_cons_succ, i64_w, i32_w]
    rfl
  refine pure_ (i := 5) (N := some 22) (v := ?_) (a' := ?_) #[true, false, false, true, false, true, false, false, false, false, false, false, false, false, false, false, false, false, false] rfl rfl (by kernel_rfl) (fun _ _ _ h => h) (Or.inl ⟨by rfl, ?_⟩) ?_ ?_
  rotate_left
  · intro w'
    go_simp
    with_reducible rfl
  rotate_left
  · simp only [Act.put, List.setIfInBounds_toArray, List.set_cons_zero, List.set_cons_succ, i64_w, i32_w]
    rfl
  refine pure_ (i := 6) (N := some 23) (v := ?_) (a' := ?_) #[true, false, false, true, false, true, true, false, false, false, false, false, false, false, false, false, false, false, false] rfl rfl (by kernel_rfl) (fun _ _ _ h => h) (Or.inl ⟨by rfl, ?_⟩) ?_ ?_
  rotate_left
  · intro w'
    go_simp
    with_reducible rfl
  rotate_left
  · simp only [Act.put, List.setIfInBounds_toArray, List.set_cons_zero, List.set_cons_succ, i64_w, i32_w]
    rfl
  refine pure_ (i := 7) (N := some 24) (v := ?_) (a' := ?_) #[true, false, false, true, false, true, true, true, false, false, false, false, false, false, false, false, false, false, false] rfl rfl (by kernel_rfl) (fun _ _ _ h => h) (Or.inl ⟨by rfl, ?_⟩) ?_ ?_
  rotate_left
  · intro w'
    go_simp
    with_reducible rfl
  rotate_left
  · simp only [Act.put, List.setIfInBounds_toArray, List.set_cons_zero, List.set_cons_succ, i64_w, i32_w]
    rfl
  refine pure_ (i := 8) (N := some 25) (v := ?_) (a' := ?_) #[true, false, false, true, false, true, true, true, true, false, false, false, false, false, false, false, false, false, false] rfl rfl (by kernel_rfl) (fun _ _ _ h => h) (Or.inl ⟨by rfl, ?_⟩) ?_ ?_
  rotate_left
  · intro w'
    go_simp
    with_reducible rfl
  rotate_left
  · simp only [Act.put, List.setIfInBounds_toArray, List.set_cons_zero, List.set_cons_succ, i64_w, i32_w]
    rfl
  refine pure_ (i := 14) (N := some 31) (v := ?_) (a' := ?_) #[true, false, false, true, false, true, true, true, true, false, false, false, false, false, true, false, false, false, false] rfl rfl (by kernel_rfl) (fun _ _ _ h => h) (Or.inl ⟨by rfl, ?_⟩) ?_ ?_
  rotate_left
  · intro w'
    go_simp
    with_reducible rfl
  rotate_left
  · simp only [Act.put, List.setIfInBounds_toArray, List.set_cons_zero, List.set_cons_succ, i64_w, i32_w]
    rfl
  refine take_ (i := 4) (N := some 21) (v := ?_) (a' := ?_) #[true, false, false, true, true, true, true, true, true, false, false, false, false, false, true, false, false, false, false] rfl rfl (by kernel_rfl) (fun _ _ _ h => h) (Or.inl ⟨by rfl, ?_⟩) hHeld ?_ ?_
  rotate_left
  · rintro w' ⟨s0, s1, s2, s3, s4, s5, s6⟩
    refine Eq.trans (exec_seg (P := Tryd.prog) 28 (.tmp 7) rfl g 0 rfl ks (by rw [HLK.out]; exact aggK) (SegAt.blk (t := 28) (fr := (0, 0)) s2)) ?_
    with_reducible rfl
  rotate_left
  · simp only [Act.put, List.setIfInBounds_toArray, List.set_cons_zero, List.set_cons_succ, i64_w, i32_w]
    rfl
  refine take_ (i := 9) (N := some 26) (v := ?_) (a' := ?_) #[true, false, false, true, true, true, true, true, true, true, false, false, false, false, true, false, false, false, false] rfl rfl (by kernel_rfl) (fun _ _ _ h => h) (Or.inl ⟨by rfl, ?_⟩) hHeld ?_ ?_
  rotate_left
  · rintro w' ⟨s0, s1, s2, s3, s4, s5, s6⟩
    have d2_ := (blk_cell s0 2).trans (show _ = some (.map (some b3)) from rfl)
    go_simp
    with_reducible rfl
  rotate_left
  · simp only [Act.put, List.setIfInBounds_toArray, List.set_cons_zero, List.set_cons_succ, i64_w, i32_w]
    rfl
  refine take_ (i := 10) (N := some 27) (v := ?_) (a' := ?_) #[true, false, false, true, true, true, true, true, true, true, true, false, false, false, true, false, false, false, false] rfl rfl (by kernel_rfl) (fun _ _ _ h => h) (Or.inl ⟨by rfl, ?_⟩) hHeld ?_ ?_
  rotate_left
  · rintro w' ⟨s0, s1, s2, s3, s4, s5, s6⟩
    refine Eq.trans (exec_seg (P := Tryd.prog) 28 (.tmp 7) rfl g 0 rfl ks (by rw [HLK.out]; exact aggK) (SegAt.blk (t := 28) (fr := (0, 0)) s2)) ?_
    with_reducible rfl
  rotate_left
  · simp only [Act.put, List.setIfInBounds_toArray, List.set_cons_zero, List.set_cons_succ, i64_w, i32_w]
    rfl
  refine take_ (i := 11) (N := some 28) (v := ?_) (a' := ?_) #[true, false, false, true, true, true, true, true, true, true, true, true, false, false, true, false, false, false, false] rfl rfl (by kernel_rfl) (fun _ _ _ h => h) (Or.inl ⟨by rfl, ?_⟩) hHeld ?_ ?_
  rotate_left
  · rintro w' ⟨s0, s1, s2, s3, s4, s5, s6⟩
    refine Eq.trans (exec_look (P := Tryd.prog) 81 (.tmp 26) (.tmp 27) false rfl (.map (some b3)) (.agg ks.toArray) _ rfl rfl (HLOOK.out _ s5.c)) ?_
    with_reducible rfl
  rotate_left
  · simp only [Act.put, List.setIfInBounds_toArray, List.set_cons_zero, List.set_cons_succ, i64_w, i32_w]
    rfl
  refine pure_ (i := 12) (N := some 29) (v := ?_) (a' := ?_) #[true, false, false, true, true, true, true, true, true, true, true, true, true, false, true, false, false, false, false] rfl rfl (by kernel_rfl) (fun _ _ _ h => h) (Or.inl ⟨by rfl, ?_⟩) ?_ ?_
  rotate_left
  · intro w'
    go_simp
    rw [HFLD.out]
    try rfl
  rotate_left
  · simp only [Act.put, List.setIfInBounds_toArray, List.set_cons_zero, List.set_cons_succ, i64_w, i32_w]
    rfl
  refine pure_ (i := 13) (N := some 30) (v := ?_) (a' := ?_) #[true, false, false, true, true, true, true, true, true, true, true, true, true, true, true, false, false, false, false] rfl rfl (by kernel_rfl) (fun _ _ _ h => h) (Or.inl ⟨by rfl, ?_⟩) ?_ ?_
  rotate_left
  · intro w'
    go_simp
    with_reducible rfl
  rotate_left
  · simp only [Act.put, List.setIfInBounds_toArray, List.set_cons_zero, List.set_cons_succ, i64_w, i32_w]
    rfl
  refine take_ (i := 15) (N := some 32) (v := ?_) (a' := ?_) #[true, false, false, true, true, true, true, true, true, true, true, true, true, true, true, true, false, false, false] rfl rfl (by kernel_rfl) (fun _ _ _ h => h) (Or.inl ⟨by rfl, ?_⟩) hHeld ?_ ?_
  rotate_left
  · rintro w' ⟨s0, s1, s2, s3, s4, s5, s6⟩
    refine Eq.trans (exec_seg (P := Tryd.prog) 30 (.tmp 9) rfl (g + 1) 0 rfl [.int .i64 c, .int .i64 sq] aggQ (SegAt.blk (t := 30) (fr := (0, 0)) s3)) ?_
    with_reducible rfl
  rotate_left
  · simp only [Act.put, List.setIfInBounds_toArray, List.set_cons_zero, List.set_cons_succ, i64_w, i32_w]
    rfl
  refine join_ (σ := Nat) 1 #[true, true, true, true, true, true, true, true, true, true, true, true, true, true, true, true, true, true, false] (fun s => [(12, .pointer (some ⟨s, 0, none⟩)), (18, .int .i64 E), (19, .int .i64 (E + 1)), (33, .agg xs.toArray)]) (fun b w' => w'.heap[b]? = some (.cells #[.int .i64 0, .int .i64 0, .int .u8 0, .int .u8 0, .int .u8 0, .int .u8 0, .int .u8 0, .int .u8 0, .int .u8 0, .int .u8 0, .int .i64 0, .string ⟨#[]⟩, .int .i64 0, .int .i64 0] 32 (0, 0)) ∧ g + 2 < b ∧ w'.heap[p]? = some (.cells (shCells b1 b2 b3 b4 s.T.idx s.T.epoch rv s.C) 86 (0, 0)) ∧ IsS F G w' p s ∧ w'.heap[g]? = some (.cells ks.toArray 28 (0, 0)) ∧ w'.heap[g + 1]? = some (.cells [.int .i64 c, .int .i64 sq].toArray 30 (0, 0)) ∧ w'.heap[g + 2]? = some (.cells zRow.toArray 32 (0, 0)) ∧ St2 w' b3 b4 (lastT s) ∧ Below w.heap.size w w') ?_ ?_
  rotate_left
  · intro hCont
    refine two_ (i := 1) (j := 17) (Ni := some 18) (Nj := some 12) #[true, true, false, true, true, true, true, true, true, true, true, true, true, true, true, true, false, false, false] #[true, false, false, true, true, true, true, true, true, true, true, true, true, true, true, true, false, true, false] rfl rfl rfl rfl (by kernel_rfl) (by decide) (by decide) (fun K hK => ?_) (fun K hK => ?_)
    · skip
      refine goes_ Tryd.func52 (by kernel_rfl) rfl #[.pointer (some ⟨p, 0, none⟩)] (by rfl) rfl rfl (by first | rfl | (simp; done) | (simp only [List.map_toArray, List.map_cons, List.map_nil]; rfl)) ?_
      with_reducible refine (end_calls hHeld.2.1 HWf.out).mono ?_
      rintro e w6 ⟨rfl, hdr⟩
      refine ⟨_, rfl, ?_⟩
      rw [HE0.out]
      have hb := hdr.below
      refine hK.out _ _ ⟨blk_below hHeld.1 hb, hHeld.2.1.below hb, blk_below hHeld.2.2.1 hb, blk_below hHeld.2.2.2.1 hb, blk_below hHeld.2.2.2.2.1 hb, hHeld.2.2.2.2.2.1.below hb, below_step hHeld.2.2.2.2.2.2 hb⟩ (fun hHeld => ?_)
      clear hK K
      refine norm_ (a' := ?_) ?_ ?_
      rotate_left
      · show Act.put _ (some 18) _ = _
        simp only [Act.put, List.setIfInBounds_toArray, List.set_cons_zero, List.set_cons_succ, i64_w, i32_w]
        rfl
      refine pure_ (i := 2) (N := some 19) (v := ?_) (a' := ?_) #[true, true, true, true, true, true, true, true, true, true, true, true, true, true, true, true, false, false, false] rfl rfl (by kernel_rfl) (fun _ _ _ h => h) (Or.inl ⟨by rfl, ?_⟩) ?_ ?_
      rotate_left
      · intro w'
        go_simp
        with_reducible rfl
      rotate_left
      · simp only [Act.put, List.setIfInBounds_toArray, List.set_cons_zero, List.set_cons_succ, i64_w, i32_w]
        rfl
      refine pure_ (i := 16) (N := some 33) (v := ?_) (a' := ?_) #[true, true, true, true, true, true, true, true, true, true, true, true, true, true, true, true, true, false, false] rfl rfl (by kernel_rfl) (fun _ _ _ h => h) (Or.inl ⟨by rfl, ?_⟩) ?_ ?_
      rotate_left
      · intro w'
        refine Eq.trans (exec_built (P := Tryd.prog) 32 _ rfl [(0, .int .i64 (E + 1)), (1, .int .i64 ep), (2, .agg ks.toArray), (3, .int .i64 (cv + 1)), (4, .string v), (5, vQ c sq)] (by first | rfl | (simp; done) | (simp only [List.map_toArray, List.map_cons, List.map_nil]; rfl)) _ HBU.out) ?_
        with_reducible rfl
      rotate_left
      · simp only [Act.put, List.setIfInBounds_toArray, List.set_cons_zero, List.set_cons_succ, i64_w, i32_w]
        rfl
      refine one_ (i := 17) (N := some 12) #[true, true, true, true, true, true, true, true, true, true, true, true, true, true, true, true, true, true, false] rfl rfl (by kernel_rfl) (by decide) (fun K hK => ?_)
      refine box_step (by rfl) (N := 12) rfl (cs := #[.int .i64 0, .int .i64 0, .int .u8 0, .int .u8 0, .int .u8 0, .int .u8 0, .int .u8 0, .int .u8 0, .int .u8 0, .int .u8 0, .int .i64 0, .string ⟨#[]⟩, .int .i64 0, .int .i64 0]) (t := 32) ?hr ?_
      case hr => first | (go_simp; done) | (go_simp; rfl)
      intro b9 hb9 w9 hblk9 hbel9
      have HA9 := Aside0.mk hblk9
      have HG9 := Aside0.mk (show g + 2 < b9 from hb9 ▸ blk_lt hHeld.2.2.2.2.1)
      clear hblk9 hb9
      refine hK.out _ _ ⟨blk_below hHeld.1 hbel9, hHeld.2.1.below hbel9, blk_below hHeld.2.2.1 hbel9, blk_below hHeld.2.2.2.1 hbel9, blk_below hHeld.2.2.2.2.1 hbel9, hHeld.2.2.2.2.2.1.below hbel9, below_step hHeld.2.2.2.2.2.2 hbel9⟩ (fun hHeld => ?_)
      clear hK K
      refine norm_ (a' := ?_) ?_ ?_
      rotate_left
      · show Act.put _ (some 12) _ = _
        simp only [Act.put, List.setIfInBounds_toArray, List.set_cons_zero, List.set_cons_succ, i64_w, i32_w]
        rfl
      exact norm_ (by simp only [putAll, Act.put, List.setIfInBounds_toArray, List.set_cons_zero, List.set_cons_succ]) (hCont b9 _ ⟨HA9.out, HG9.out, hHeld⟩)
    · skip
      refine box_step (by rfl) (N := 12) rfl (cs := #[.int .i64 0, .int .i64 0, .int .u8 0, .int .u8 0, .int .u8 0, .int .u8 0, .int .u8 0, .int .u8 0, .int .u8 0, .int .u8 0, .int .i64 0, .string ⟨#[]⟩, .int .i64 0, .int .i64 0]) (t := 32) ?hr ?_
      case hr => first | (go_simp; done) | (go_simp; rfl)
      intro b9 hb9 w9 hblk9 hbel9
      have HA9 := Aside0.mk hblk9
      have HG9 := Aside0.mk (show g + 2 < b9 from hb9 ▸ blk_lt hHeld.2.2.2.2.1)
      clear hblk9 hb9
      refine hK.out _ _ ⟨blk_below hHeld.1 hbel9, hHeld.2.1.below hbel9, blk_below hHeld.2.2.1 hbel9, blk_below hHeld.2.2.2.1 hbel9, blk_below hHeld.2.2.2.2.1 hbel9, hHeld.2.2.2.2.2.1.below hbel9, below_step hHeld.2.2.2.2.2.2 hbel9⟩ (fun hHeld => ?_)
      clear hK K
      refine norm_ (a' := ?_) ?_ ?_
      rotate_left
      · show Act.put _ (some 12) _ = _
        simp only [Act.put, List.setIfInBounds_toArray, List.set_cons_zero, List.set_cons_succ, i64_w, i32_w]
        rfl
      refine one_ (i := 1) (N := some 18) #[true, true, false, true, true, true, true, true, true, true, true, true, true, true, true, true, false, true, false] rfl rfl (by kernel_rfl) (by decide) (fun K hK => ?_)
      refine goes_ Tryd.func52 (by kernel_rfl) rfl #[.pointer (some ⟨p, 0, none⟩)] (by rfl) rfl rfl (by first | rfl | (simp; done) | (simp only [List.map_toArray, List.map_cons, List.map_nil]; rfl)) ?_
      with_reducible refine (end_calls hHeld.2.1 HWf.out).mono ?_
      rintro e w6 ⟨rfl, hdr⟩
      refine ⟨_, rfl, ?_⟩
      rw [HE0.out]
      have hb := hdr.below
      have n0_ := Aside0.mk (blk_below HA9.out hb)
      clear HA9
      have HA9 := n0_
      clear n0_
      refine hK.out _ _ ⟨blk_below hHeld.1 hb, hHeld.2.1.below hb, blk_below hHeld.2.2.1 hb, blk_below hHeld.2.2.2.1 hb, blk_below hHeld.2.2.2.2.1 hb, hHeld.2.2.2.2.2.1.below hb, below_step hHeld.2.2.2.2.2.2 hb⟩ (fun hHeld => ?_)
      clear hK K
      refine norm_ (a' := ?_) ?_ ?_
      rotate_left
      · show Act.put _ (some 18) _ = _
        simp only [Act.put, List.setIfInBounds_toArray, List.set_cons_zero, List.set_cons_succ, i64_w, i32_w]
        rfl
      refine pure_ (i := 2) (N := some 19) (v := ?_) (a' := ?_) #[true, true, true, true, true, true, true, true, true, true, true, true, true, true, true, true, false, true, false] rfl rfl (by kernel_rfl) (fun _ _ _ h => h) (Or.inl ⟨by rfl, ?_⟩) ?_ ?_
      rotate_left
      · intro w'
        go_simp
        with_reducible rfl
      rotate_left
      · simp only [Act.put, List.setIfInBounds_toArray, List.set_cons_zero, List.set_cons_succ, i64_w, i32_w]
        rfl
      refine pure_ (i := 16) (N := some 33) (v := ?_) (a' := ?_) #[true, true, true, true, true, true, true, true, true, true, true, true, true, true, true, true, true, true, false] rfl rfl (by kernel_rfl) (fun _ _ _ h => h) (Or.inl ⟨by rfl, ?_⟩) ?_ ?_
      rotate_left
      · intro w'
        refine Eq.trans (exec_built (P := Tryd.prog) 32 _ rfl [(0, .int .i64 (E + 1)), (1, .int .i64 ep), (2, .agg ks.toArray), (3, .int .i64 (cv + 1)), (4, .string v), (5, vQ c sq)] (by first | rfl | (simp; done) | (simp only [List.map_toArray, List.map_cons, List.map_nil]; rfl)) _ HBU.out) ?_
        with_reducible rfl
      rotate_left
      · simp only [Act.put, List.setIfInBounds_toArray, List.set_cons_zero, List.set_cons_succ, i64_w, i32_w]
        rfl
      exact norm_ (by simp only [putAll, Act.put, List.setIfInBounds_toArray, List.set_cons_zero, List.set_cons_succ]) (hCont b9 _ ⟨HA9.out, HG9.out, hHeld⟩)
  rintro b9 w5 ⟨h9, hg9, hHeld⟩
  have HA9 := Aside0.mk h9
  have HG9 := Aside0.mk hg9
  clear h9 hg9
  refine norm_ (a' := ?_) ?_ ?_
  rotate_left
  · simp only [putAll, Act.put, List.setIfInBounds_toArray, List.set_cons_zero, List.set_cons_succ]
    rfl
  refine last_ (i := 18) (N := none) #[true, true, true, true, true, true, true, true, true, true, true, true, true, true, true, true, true, true, true] rfl rfl (by kernel_rfl) (by decide) (fun K hK => ?_)
  refine skip_row (P := Tryd.prog) (by rfl) rfl 32 (.tmp 12) (.tmp 33) rfl b9 _ 32 HA9.out xs rfl rfl (by rw [HXL.out]; exact aggR) (by rw [HXL.out]; rfl) HX1.out ?_
  intro w10 q1 q2 q3
  refine hK.out _ _ ?_
  clear hK K
  refine done_ (by kernel_rfl) ?_
  have hgb := HG9.out
  have hne : ∀ k, k < b9 → some k ≠ some b9 := fun k h e => by injection e with e; omega
  have hbz : Below w.heap.size w w10 := pw_below_grown hHeld.2.2.2.2.2.2 _ hHeld.2.2.2.2.2.2.size q1 (fun k e => by injection e with e; omega)
  have HB10 := Aside0.mk hbz
  have HZ10 := Aside0.mk ((q1.block (g + 2) (blk_lt hHeld.2.2.2.2.1) (hne _ hgb)).trans hHeld.2.2.2.2.1)
  have HX10 := Aside0.mk q3
  have HM10 := Aside0.mk (HMAY.out w10 (HH0.out.below hbz) (HT0.out.below hbz))
  clear hHeld q1 q2 q3 hgb hne hbz HLOOK HFLD HBU HMAY HP3 HS3 HH3 HK3 HQ3 HZ3 HB3 HT3 HW
  go_upto_region 5 with (first
    | ((with_reducible refine gate_dst (N := 35) rfl ?_); go_must (refine wpList_seg (P := Tryd.prog) rfl 32 (.tmp 12) rfl b9 0 rfl xs (by rw [HXL.out]; exact aggR) (SegAt.blk (t := 32) (fr := (0, 0)) HX10.out) ?_))
    | (go_at_call 53; refine HM10.out.mono ?_; rintro e w11 ⟨rfl, hb11⟩))
  have HB11 := Aside0.mk (below_then HB10.out HB10.out.size hb11)
  have HZ11 := Aside0.mk (blk_below HZ10.out hb11)
  have HX11 := Aside0.mk (blk_below HX10.out hb11)
  have HBZ : Aside0 (Tryd.prog.built 32 [] = some zRow.toArray) := ⟨by kernel_rfl⟩
  clear hb11 HB10 HZ10 HX10 HM10
  by_cases cm : m = 0
  · have ho := HOut.out
    rw [if_neg (fun h => h cm)] at ho
    have HO2 := Aside0.mk ho
    subst cm
    clear ho HOut
    have HDI := Aside0.mk (Dirty_calls (HH0.out.below HB11.out) HWf.out)
    rw [HE0.out] at HDI
    obtain ⟨df, hdf⟩ : ∃ df, E - s.C = df := ⟨_, rfl⟩
    rw [hdf] at HDI HO2
    clear hdf
    by_cases c8 : 8 ≤ df
    · have d8 : decide (df ≥ 8) = true := decide_eq_true c8
      have d8' : decide (8 ≤ df) = true := decide_eq_true c8
      have ho := HO2.out
      rw [if_pos c8] at ho
      subst ho
      clear c8
      go_wp2_with (first
        | (go_at_call 36; refine HDI.out.mono ?_; rintro e w12 ⟨rfl, ⟨nd, rfl⟩⟩)
        | ((with_reducible refine gate_dst (N := 44) rfl ?_); go_must (refine wpList_built (P := Tryd.prog) rfl 32 _ rfl [] (by simp) _ HBZ.out ?_))
        | ((with_reducible refine gate_ (.store 32 (.tmp 10) (.tmp 44)) rfl ?_); go_must (refine wpList_row (P := Tryd.prog) rfl 32 (.tmp 10) (.tmp 44) rfl (g + 2) _ 32 HZ11.out zRow rfl rfl aggR rfl (zRow_eq ▸ encR_one zR) ?_); intro w13 r1 r2 r3))
      refine bodyPost_ret (results_ct rfl _ _ (g + 2) 32 zRow.toArray (0, 0) _ (by rfl) r3 Tryd.underlying32 rfl (by kernel_rfl)) rfl ?_
      have hb12 := pw_below_drewN HB11.out nd
      exact ⟨rfl, by
        have := pw_below_grown hb12 _ hb12.size r1 (fun k e => by injection e with e; have := HSZ.out.1; omega)
        rw [HSZ.out.1] at this
        exact this⟩
    · have d8 : decide (df ≥ 8) = false := decide_eq_false c8
      have d8' : decide (8 ≤ df) = false := decide_eq_false c8
      have ho := HO2.out
      rw [if_neg c8] at ho
      subst ho
      clear c8
      go_wp2_with (first
        | (go_at_call 36; refine HDI.out.mono ?_; rintro e w12 ⟨rfl, ⟨nd, rfl⟩⟩)
        | ((with_reducible refine gate_dst (N := 45) rfl ?_); go_must (refine wpList_seg (P := Tryd.prog) rfl 32 (.tmp 12) rfl b9 0 rfl xs (by rw [HXL.out]; exact aggR) (SegAt.blk (t := 32) (fr := (0, 0)) HX11.out) ?_))
        | ((with_reducible refine gate_ (.store 32 (.tmp 10) (.tmp 45)) rfl ?_); go_must (refine wpList_row (P := Tryd.prog) rfl 32 (.tmp 10) (.tmp 45) rfl (g + 2) _ 32 HZ11.out xs rfl rfl (by rw [HXL.out]; exact aggR) (by rw [HXL.out]; rfl) HX1.out ?_); intro w13 r1 r2 r3))
      refine bodyPost_ret (results_ct rfl _ _ (g + 2) 32 xs.toArray (0, 0) _ (by rfl) r3 Tryd.underlying32 rfl (by rw [List.size_toArray, HXL.out]; kernel_rfl)) rfl ?_
      have hb12 := pw_below_drewN HB11.out nd
      have hb13 := pw_below_grown hb12 _ hb12.size r1 (fun k e => by injection e with e; have := HSZ.out.1; omega)
      rw [HSZ.out.1] at hb13
      dsimp only [vR]
      rw [HXS.out]
      exact ⟨rfl, hb13⟩
  · have ho := HOut.out
    rw [if_pos cm] at ho
    subst ho
    have d1 : (m != 0) = true := by simpa using cm
    clear cm
    go_wp2_with (first
      | ((with_reducible refine gate_dst (N := 39) rfl ?_); go_must (refine wpList_built (P := Tryd.prog) rfl 32 _ rfl [] (by simp) _ HBZ.out ?_))
      | ((with_reducible refine gate_ (.store 32 (.tmp 10) (.tmp 39)) rfl ?_); go_must (refine wpList_row (P := Tryd.prog) rfl 32 (.tmp 10) (.tmp 39) rfl (g + 2) _ 32 HZ11.out zRow rfl rfl aggR rfl (zRow_eq ▸ encR_one zR) ?_); intro w13 r1 r2 r3))
    refine bodyPost_ret (results_ct rfl _ _ (g + 2) 32 zRow.toArray (0, 0) _ (by rfl) r3 Tryd.underlying32 rfl (by kernel_rfl)) rfl ?_
    exact ⟨rfl, by
      have := pw_below_grown HB11.out _ HB11.out.size r1 (fun k e => by injection e with e; have := HSZ.out.1; omega)
      rw [HSZ.out.1] at this
      exact this⟩
end
end Go.Proofs.YtgmaedngkhidlaaDoor.Sf
