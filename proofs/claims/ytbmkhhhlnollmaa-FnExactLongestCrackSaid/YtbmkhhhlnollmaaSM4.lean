/-
slices.Grow on nothing, slices.Concat of two rows of cells. Conditions: the rows are short.
-/
import Derived.Test.YtbmkhhhlnollmaaSM3
set_option linter.unusedVariables false
set_option linter.unusedSimpArgs false
set_option maxRecDepth 100000
namespace Go.Proofs.Ytbmkhhhlnollmaa
open Go.RowKit
theorem own_spare (W : World) (B g n cap : Nat) (cur : Array Value) (hB : B ≤ g) (hh : W.heap[g]? = some (.cells cur 36 (0, 0))) (hm : cap ≤ maxLen) (hs : cur.size = cap * 2) : Own W B 36 Cell.c 2 (.slice (some ⟨g, 0, none⟩) 0 cap) [] :=
  ⟨by simp, .inr ⟨g, cap, cur, rfl, hB, hh, Nat.zero_le _, hm, hs, by simp⟩⟩
set_option maxHeartbeats 1000000 in
theorem growNil_calls (n : Nat) (hn : n ≤ 4194304) (W : World) :
    Calls Try.prog 120 #[.slice none 0 0, .int .i64 (n : Int)] W fun e w' => ∃ v, e = .returned v ∧ Own w' W.heap.size 36 Cell.c 2 v [] ∧ Below W.heap.size W w' := by
  obtain ⟨i, hi, hz⟩ := Option.map_eq_some_iff.1 (show (Try.prog.info? 36).map (fun i => (i.zero, i.size, i.bytes)) = some (some (.agg #[.int .i8 0, .int .i8 0]), 2, 2) from by kernel_rfl)
  simp only [Prod.mk.injEq] at hz
  obtain ⟨hz0, hz1, hz2⟩ := hz
  by_cases h0 : n = 0
  · subst h0
    go_enter Try.func120, Try.ntmps120
    go_wp2_with fail
    go_ret
    exact ⟨_, rfl, Own.nil_ _ _ _ _ _, Below.refl _ _⟩
  · have happ := Lib.hid (Lib.run_append_nil_zeros (P := Try.prog) W 47 3 47 36 i _ .i64 _ Try.underlying47 Try.underlying3 hi hz0 n (by omega) (by omega) (by omega) (by rw [hz2]; omega))
    have hge := grownCap_ge W n 0 36
    have hle := grownCap_le_maxLen W n 0 36 (by unfold maxLen; omega)
    have hZs : (Builtin.zeroCells (Value.agg #[.int .i8 0, .int .i8 0]).cells n ++ Builtin.zeroCells (Value.agg #[.int .i8 0, .int .i8 0]).cells (grownCap W n 0 36 - n)).size = grownCap W n 0 36 * 2 := by
      simp [size_zeroCells, Value.cells]; omega
    generalize (Builtin.zeroCells (Value.agg #[.int .i8 0, .int .i8 0]).cells n ++ Builtin.zeroCells (Value.agg #[.int .i8 0, .int .i8 0]).cells (grownCap W n 0 36 - n)) = Z at *
    generalize grownCap W n 0 36 = cap at *
    have hO := Lib.hid (show Own (W.alloc (.cells Z 36)) W.heap.size 36 Cell.c 2 (.slice (some ⟨W.heap.size, 0, none⟩) 0 cap) [] from own_spare _ _ _ n cap Z (Nat.le_refl _) (heap_alloc_new W _) hle hZs)
    have hpos : (0 : Int) < (n : Int) := by omega
    have hcap : cap ≤ 9223372036854775807 := by have := hle; unfold maxLen at this; omega
    clear hZs hle
    go_enter Try.func120, Try.ntmps120
    go_wp2_with (at_builtin; refine Lib.wpList_append_run _ rfl _ _ _ _ rfl _ _ rfl rfl _ _ happ.out ?_)
    go_ret
    exact ⟨_, rfl, by first | exact hO.out.ext ((Below.refl _ _).drew) | exact hO.out, by first | exact ((Below.refl _ _).alloc (Nat.le_refl _) _).drew | exact ((Below.refl _ _).drew).alloc (Nat.le_refl _) _⟩
set_option maxHeartbeats 2000000 in
theorem concat_calls (xs ys : List Cell) (v u : Value) (g : Nat) (W : World) (hs : Sl W W.heap.size Cell.c 2 v xs) (ht : Sl W W.heap.size Cell.c 2 u ys) (hk : Bk W g 47 #[v, u]) (hn : xs.length ≤ 1048576) (hm : ys.length ≤ 1048576) :
    Calls Try.prog 67 #[.slice (some ⟨g, 0, none⟩) 2 2] W fun e w' => ∃ v', e = .returned v' ∧ Own w' W.heap.size 36 Cell.c 2 v' (xs ++ ys) ∧ Below W.heap.size W w' := by
  have HS := Lib.hid hs
  have HT := Lib.hid ht
  have K := Lib.hid hk
  obtain ⟨A, cap, rfl, -, -, -⟩ := hs.cell
  obtain ⟨A2, cap2, rfl, -, -, -⟩ := ht.cell
  clear hs ht hk
  go_enter Try.func67, Try.ntmps67
  go_wp2_with fail
  go_loopw [3, 5, 11] (fun s _ i wr => ∃ k : Nat, k ≤ 2 ∧ i = .int .i64 k ∧ s = .int .i64 (if k = 0 then 0 else if k = 1 then (xs.length : Int) else (xs.length : Int) + ys.length) ∧ wr = W) (fun _ _ i _ => 2 - (intOf i).toNat)
  case atStart => exact ⟨0, by omega, rfl, rfl, rfl⟩
  case round =>
    obtain ⟨k, hk, rfl, rfl, hW⟩ := hrel
    have hW2 := hW.symm
    clear hW
    subst hW2
    have k0 := K.out.cell 0 _ rfl
    have k1 := K.out.cell 1 _ rfl
    rcases (show k = 0 ∨ k = 1 ∨ k = 2 by omega) with rfl | rfl | rfl
    · go_wp2_with fail
      go_roundw
      case rel => exact ⟨1, by omega, rfl, by first | rfl | simp, by first | trivial | rfl⟩
      case measure => simp [intOf]
    · go_wp2_with fail
      go_roundw
      case rel => exact ⟨2, by omega, rfl, by first | rfl | simp, by first | trivial | rfl⟩
      case measure => simp [intOf]
    · have qg := Lib.hid (growNil_calls (xs.length + ys.length) (by omega) W)
      go_wp2_with fail
      refine qg.out.mono ?_
      rintro e w1 ⟨vg, rfl, hO, hb1⟩
      have HO := Lib.hid hO
      have HB1 := Lib.hid hb1
      clear hO hb1
      go_wp2_with fail
      go_loopw [6, 8, 27] (fun a _ i w2 => ∃ k : Nat, k ≤ 2 ∧ i = .int .i64 k ∧ Own w2 W.heap.size 36 Cell.c 2 a (if k = 0 then [] else if k = 1 then xs else xs ++ ys) ∧ Below W.heap.size W w2) (fun _ _ i _ => 2 - (intOf i).toNat)
      case atStart => exact ⟨0, by omega, rfl, HO.out, HB1.out⟩
      case round =>
        obtain ⟨k, hk, rfl, hO2, hb2⟩ := hrel
        have HO2 := Lib.hid hO2
        have HB2 := Lib.hid hb2
        have K2 := K.out.ext hb2
        have k0 := K2.cell 0 _ rfl
        have k1 := K2.cell 1 _ rfl
        clear hO2 hb2 K2
        rcases (show k = 0 ∨ k = 1 ∨ k = 2 by omega) with rfl | rfl | rfl
        · have hO3 := Lib.hid (show Own _ W.heap.size 36 Cell.c 2 _ [] from HO2.out)
          go_wp2_with (at_builtin; refine push_cells rfl _ _ rfl W.heap.size [] xs _ _ rfl rfl hO3.out (HS.out.ext HB2.out) (by simp) (by omega) HB2.out.size ?_)
          intro v3 w3 hO4 hG hat
          have hb3 := Lib.hid (HB2.out.grown hG HB2.out.size (fun j hj => hO3.out.base j hj))
          have hO4 := Lib.hid hO4
          clear hG hat
          go_wp2_with fail
          go_roundw
          case rel => exact ⟨1, by omega, rfl, by simpa using hO4.out, hb3.out⟩
          case measure => simp [intOf]
        · have hO3 := Lib.hid (show Own _ W.heap.size 36 Cell.c 2 _ xs from HO2.out)
          go_wp2_with (at_builtin; refine push_cells rfl _ _ rfl W.heap.size xs ys _ _ rfl rfl hO3.out (HT.out.ext HB2.out) (by omega) (by omega) HB2.out.size ?_)
          intro v3 w3 hO4 hG hat
          have hb3 := Lib.hid (HB2.out.grown hG HB2.out.size (fun j hj => hO3.out.base j hj))
          have hO4 := Lib.hid hO4
          clear hG hat
          go_wp2_with fail
          go_roundw
          case rel => exact ⟨2, by omega, rfl, by simpa using hO4.out, hb3.out⟩
          case measure => simp [intOf]
        · have hO3 := Lib.hid (show Own _ W.heap.size 36 Cell.c 2 _ (xs ++ ys) from HO2.out)
          go_wp2_with fail
          go_ret
          exact ⟨_, rfl, hO3.out, HB2.out⟩
end Go.Proofs.Ytbmkhhhlnollmaa
