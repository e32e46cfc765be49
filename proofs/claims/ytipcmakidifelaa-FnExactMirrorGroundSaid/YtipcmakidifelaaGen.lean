/-
The generic functions of Go's library that the seat reaches (slices.IndexFunc, ContainsFunc and so on), and the program's smallest functions, each by a contract. Conditions stand in the contracts.
-/
import Derived.Test.YtipcmakidifelaaVoc
set_option linter.unusedVariables false
set_option linter.unusedSimpArgs false
set_option maxRecDepth 100000
namespace Go.Proofs.Ytipcmakidifelaa
open Go.RowKit

theorem within_calls (n lo hi : Int) (w : World) : Calls Try.prog 44 #[.int .i64 n, .int .i64 lo, .int .i64 hi] w fun e w' => e = .returned (.bool (inB n lo hi)) ∧ w = w' := by
  go_enter Try.func44, Try.ntmps44
  go_wp2
  all_goals (go_ret; refine ⟨?_, rfl⟩; simp [inB, *]; try omega)
theorem in_calls (n lo hi : Int) (w : World) : Calls Try.prog 40 #[.int .i64 n, .int .i64 lo, .int .i64 hi] w fun e w' => e = .returned (.bool (inB n lo hi)) ∧ w = w' := by
  go_enter Try.func40, Try.ntmps40
  go_wp2
  all_goals (go_ret; refine ⟨?_, rfl⟩; simp [inB, *]; try omega)
theorem bit_calls (b : Bool) (w : World) : Calls Try.prog 77 #[.bool b] w fun e w' => e = .returned (.int .i64 (if b then 1 else 0)) ∧ w = w' := by
  cases b
  all_goals
    go_enter Try.func77, Try.ntmps77
    go_wp2
    go_ret
    exact ⟨rfl, rfl⟩
theorem unless_calls (b : Bool) (c : Int) (w : World) : Calls Try.prog 64 #[.bool b, .int .i64 c] w fun e w' => e = .returned (.int .i64 (if b then 0 else c)) ∧ w = w' := by
  cases b
  all_goals
    go_enter Try.func64, Try.ntmps64
    go_wp2
    go_ret
    exact ⟨rfl, rfl⟩
theorem max_calls (a b : Int) (w : World) : Calls Try.prog 72 #[.int .i64 a, .int .i64 b] w fun e w' => e = .returned (.int .i64 (max a b)) ∧ w = w' := by
  by_cases h : b < a
  all_goals
    have hE := Lib.hid (show max a b = _ from Int.max_def a b)
    go_enter Try.func72, Try.ntmps72
    go_wp2
    go_ret
    exact ⟨ret_int (by rw [hE.out]; split <;> omega), rfl⟩
theorem indexFuncCell (xs : List Cell) (v : Value) (w : World) (hs : Sl w w.heap.size Cell.c 2 v xs) (g : FuncId) (lb : Array Value) (p : Cell → Bool) (eg : Enters Try.prog g)
    (hg : ∀ x ∈ xs, Tells Try.prog g lb Cell.v p w x) :
    Calls Try.prog 108 #[v, .func (.func g) #[] lb] w fun e w' => e = .returned (.int .i64 (findI p xs)) ∧ Below w.heap.size w w' := by
  obtain ⟨A, cap, rfl, hl, hm, hcell⟩ := hs.cell
  clear hs
  go_enter Try.func108, Try.ntmps108
  go_wp2_with fail
  go_loopw [5, 8] (fun _ i wr => ∃ k : Nat, k ≤ xs.length ∧ i = .int .i64 k ∧ Below w.heap.size w wr ∧ (xs.take k).all (fun x => !p x) = true) (fun _ i _ => xs.length - (intOf i).toNat)
  case atStart => exact ⟨0, by omega, rfl, Below.refl _ _, rfl⟩
  case round =>
    obtain ⟨k, hk, rfl, hb, hall⟩ := hrel
    have HA := Lib.hid hall
    clear hall
    by_cases hlt : k < xs.length
    · obtain ⟨b, o, rfl, hbb, h0, h1⟩ := hcell k hlt
      clear hcell
      have hx := Lib.hid (hg xs[k] (List.getElem_mem hlt) _ hb)
      obtain ⟨hcr, hfr⟩ := bcell hb
      go_wp2_with fail
      rw [eg, Oper.upon_enter]
      refine hx.out.mono ?_
      rintro e w1 ⟨rfl, hb1⟩
      have hb2 := hb.trans (hb1.mono hb.size)
      clear hcr hfr
      cases hp : p xs[k]
      · have HP := Lib.hid hp
        clear hp
        go_wp2_with fail
        go_roundw
        case rel => exact ⟨k + 1, by omega, by go_num, hb2, take_all_succ _ _ _ hlt HA.out (by simp [HP.out])⟩
        case measure => simp [intOf]; omega
      · have HP := Lib.hid hp
        clear hp
        go_wp2_with fail
        go_ret
        exact ⟨ret_int (findI_at p xs k hlt HA.out HP.out).symm, hb2⟩
    · have hf := Lib.hid (findI_none p xs (all_of_take _ xs k (by omega) HA.out))
      go_wp2_with fail
      go_ret
      exact ⟨ret_int hf.out.symm, hb⟩
end Go.Proofs.Ytipcmakidifelaa
