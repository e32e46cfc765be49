/-
The generic functions of Go's library that the seat reaches (slices.IndexFunc, ContainsFunc and so on), and the program's smallest functions, each by a contract. Conditions stand in the contracts.
-/
import Derived.Test.YtgifakacnneleaaVoc
set_option linter.unusedVariables false
set_option linter.unusedSimpArgs false
set_option maxRecDepth 100000
namespace Go.Proofs.Ytgifakacnneleaa
open Go.RowKit

theorem within_calls (n lo hi : Int) (w : World) : Calls Try.prog 43 #[.int .i64 n, .int .i64 lo, .int .i64 hi] w fun e w' => e = .returned (.bool (inB n lo hi)) ∧ w = w' := by
  go_enter Try.func43, Try.ntmps43
  go_wp2
  all_goals (go_ret; refine ⟨?_, rfl⟩; simp [inB, *]; try omega)
theorem in_calls (n lo hi : Int) (w : World) : Calls Try.prog 41 #[.int .i64 n, .int .i64 lo, .int .i64 hi] w fun e w' => e = .returned (.bool (inB n lo hi)) ∧ w = w' := by
  go_enter Try.func41, Try.ntmps41
  go_wp2
  all_goals (go_ret; refine ⟨?_, rfl⟩; simp [inB, *]; try omega)
theorem bit_calls (b : Bool) (w : World) : Calls Try.prog 51 #[.bool b] w fun e w' => e = .returned (.int .i64 (if b then 1 else 0)) ∧ w = w' := by
  cases b
  all_goals
    go_enter Try.func51, Try.ntmps51
    go_wp2
    go_ret
    exact ⟨rfl, rfl⟩
theorem unless_calls (b : Bool) (c : Int) (w : World) : Calls Try.prog 42 #[.bool b, .int .i64 c] w fun e w' => e = .returned (.int .i64 (if b then 0 else c)) ∧ w = w' := by
  cases b
  all_goals
    go_enter Try.func42, Try.ntmps42
    go_wp2
    go_ret
    exact ⟨rfl, rfl⟩
theorem indexFunci16 (xs : List Int) (v : Value) (w : World) (hs : Sl w w.heap.size i16c 1 v xs) (g : FuncId) (lb : Array Value) (p : Int → Bool) (eg : Enters Try.prog g)
    (hg : ∀ x ∈ xs, Tells Try.prog g lb i16v p w x) :
    Calls Try.prog 58 #[v, .func (.func g) #[] lb] w fun e w' => e = .returned (.int .i64 (findI p xs)) ∧ Below w.heap.size w w' := by
  obtain ⟨A, cap, rfl, hl, hm, hcell⟩ := hs.i16
  clear hs
  go_enter Try.func58, Try.ntmps58
  go_wp2_with fail
  go_loopw [5, 8] (fun _ i wr => ∃ k : Nat, k ≤ xs.length ∧ i = .int .i64 k ∧ Below w.heap.size w wr ∧ (xs.take k).all (fun x => !p x) = true) (fun _ i _ => xs.length - (intOf i).toNat)
  case atStart => exact ⟨0, by omega, rfl, Below.refl _ _, rfl⟩
  case round =>
    obtain ⟨k, hk, rfl, hb, hall⟩ := hrel
    have HA := Lib.hid hall
    clear hall
    by_cases hlt : k < xs.length
    · obtain ⟨b, o, rfl, hbb, h0⟩ := hcell k hlt
      clear hcell
      have hx := Lib.hid (hg xs[k] (List.getElem_mem hlt) _ hb)
      obtain ⟨hcr, hfr⟩ := bcell hb
      go_wp2_with fail
      rw [eg, Oper.upon_enter]
      refine hx.out.mono ?_
      rintro e w1 ⟨rfl, hb1⟩
      have hb2 := hb.trans (hb1.mono hb.size)
      clear hcr hfr
      cases hp : p xs[k]
      · have HP := Lib.hid hp
        clear hp
        go_wp2_with fail
        go_roundw
        case rel => exact ⟨k + 1, by omega, by go_num, hb2, take_all_succ _ _ _ hlt HA.out (by simp [HP.out])⟩
        case measure => simp [intOf]; omega
      · have HP := Lib.hid hp
        clear hp
        go_wp2_with fail
        go_ret
        exact ⟨ret_int (findI_at p xs k hlt HA.out HP.out).symm, hb2⟩
    · have hf := Lib.hid (findI_none p xs (all_of_take _ xs k (by omega) HA.out))
      go_wp2_with fail
      go_ret
      exact ⟨ret_int hf.out.symm, hb⟩
theorem indexFuncMix (xs : List Mix) (v : Value) (w : World) (hs : Sl w w.heap.size Mix.c 3 v xs) (g : FuncId) (lb : Array Value) (p : Mix → Bool) (eg : Enters Try.prog g)
    (hg : ∀ x ∈ xs, Tells Try.prog g lb Mix.v p w x) :
    Calls Try.prog 56 #[v, .func (.func g) #[] lb] w fun e w' => e = .returned (.int .i64 (findI p xs)) ∧ Below w.heap.size w w' := by
  obtain ⟨A, cap, rfl, hl, hm, hcell⟩ := hs.mix
  clear hs
  go_enter Try.func56, Try.ntmps56
  go_wp2_with fail
  go_loopw [5, 8] (fun _ i wr => ∃ k : Nat, k ≤ xs.length ∧ i = .int .i64 k ∧ Below w.heap.size w wr ∧ (xs.take k).all (fun x => !p x) = true) (fun _ i _ => xs.length - (intOf i).toNat)
  case atStart => exact ⟨0, by omega, rfl, Below.refl _ _, rfl⟩
  case round =>
    obtain ⟨k, hk, rfl, hb, hall⟩ := hrel
    have HA := Lib.hid hall
    clear hall
    by_cases hlt : k < xs.length
    · obtain ⟨b, o, rfl, hbb, h0, h1, h2⟩ := hcell k hlt
      clear hcell
      have hx := Lib.hid (hg xs[k] (List.getElem_mem hlt) _ hb)
      obtain ⟨hcr, hfr⟩ := bcell hb
      go_wp2_with fail
      rw [eg, Oper.upon_enter]
      refine hx.out.mono ?_
      rintro e w1 ⟨rfl, hb1⟩
      have hb2 := hb.trans (hb1.mono hb.size)
      clear hcr hfr
      cases hp : p xs[k]
      · have HP := Lib.hid hp
        clear hp
        go_wp2_with fail
        go_roundw
        case rel => exact ⟨k + 1, by omega, by go_num, hb2, take_all_succ _ _ _ hlt HA.out (by simp [HP.out])⟩
        case measure => simp [intOf]; omega
      · have HP := Lib.hid hp
        clear hp
        go_wp2_with fail
        go_ret
        exact ⟨ret_int (findI_at p xs k hlt HA.out HP.out).symm, hb2⟩
    · have hf := Lib.hid (findI_none p xs (all_of_take _ xs k (by omega) HA.out))
      go_wp2_with fail
      go_ret
      exact ⟨ret_int hf.out.symm, hb⟩
theorem containsFunci16 (xs : List Int) (v : Value) (w : World) (hs : Sl w w.heap.size i16c 1 v xs) (g : FuncId) (lb : Array Value) (p : Int → Bool) (eg : Enters Try.prog g)
    (hg : ∀ x ∈ xs, Tells Try.prog g lb i16v p w x) :
    Calls Try.prog 48 #[v, .func (.func g) #[] lb] w fun e w' => e = .returned (.bool (xs.any p)) ∧ Below w.heap.size w w' := by
  have hf := Lib.hid (findI_ge p xs)
  go_enter Try.func48, Try.ntmps48
  go_wp2_with fail
  refine (indexFunci16 xs v w hs g lb p eg hg).mono ?_
  rintro e w1 ⟨rfl, hb1⟩
  go_wp2_with fail
  go_ret
  exact ⟨ret_bool hf.out, hb1⟩
theorem containsFuncMix (xs : List Mix) (v : Value) (w : World) (hs : Sl w w.heap.size Mix.c 3 v xs) (g : FuncId) (lb : Array Value) (p : Mix → Bool) (eg : Enters Try.prog g)
    (hg : ∀ x ∈ xs, Tells Try.prog g lb Mix.v p w x) :
    Calls Try.prog 44 #[v, .func (.func g) #[] lb] w fun e w' => e = .returned (.bool (xs.any p)) ∧ Below w.heap.size w w' := by
  have hf := Lib.hid (findI_ge p xs)
  go_enter Try.func44, Try.ntmps44
  go_wp2_with fail
  refine (indexFuncMix xs v w hs g lb p eg hg).mono ?_
  rintro e w1 ⟨rfl, hb1⟩
  go_wp2_with fail
  go_ret
  exact ⟨ret_bool hf.out, hb1⟩
end Go.Proofs.Ytgifakacnneleaa
