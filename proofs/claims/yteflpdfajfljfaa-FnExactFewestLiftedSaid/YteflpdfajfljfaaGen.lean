/-
The generic functions of Go's library that the seat reaches (slices.IndexFunc, ContainsFunc and so on), and the program's smallest functions, each by a contract. Conditions stand in the contracts.
-/
import Derived.Test.YteflpdfajfljfaaVoc
set_option linter.unusedVariables false
set_option linter.unusedSimpArgs false
set_option maxRecDepth 100000
namespace Go.Proofs.Yteflpdfajfljfaa
open Go.RowKit

theorem within_calls (n lo hi : Int) (w : World) : Calls Try.prog 113 #[.int .i64 n, .int .i64 lo, .int .i64 hi] w fun e w' => e = .returned (.bool (inB n lo hi)) ∧ w = w' := by
  go_enter Try.func113, Try.ntmps113
  go_wp2
  all_goals (go_ret; refine ⟨?_, rfl⟩; simp [inB, *]; try omega)
theorem in_calls (n lo hi : Int) (w : World) : Calls Try.prog 110 #[.int .i64 n, .int .i64 lo, .int .i64 hi] w fun e w' => e = .returned (.bool (inB n lo hi)) ∧ w = w' := by
  go_enter Try.func110, Try.ntmps110
  go_wp2
  all_goals (go_ret; refine ⟨?_, rfl⟩; simp [inB, *]; try omega)
theorem bit_calls (b : Bool) (w : World) : Calls Try.prog 192 #[.bool b] w fun e w' => e = .returned (.int .i64 (if b then 1 else 0)) ∧ w = w' := by
  cases b
  all_goals
    go_enter Try.func192, Try.ntmps192
    go_wp2
    go_ret
    exact ⟨rfl, rfl⟩
theorem unless_calls (b : Bool) (c : Int) (w : World) : Calls Try.prog 103 #[.bool b, .int .i64 c] w fun e w' => e = .returned (.int .i64 (if b then 0 else c)) ∧ w = w' := by
  cases b
  all_goals
    go_enter Try.func103, Try.ntmps103
    go_wp2
    go_ret
    exact ⟨rfl, rfl⟩
theorem max_calls (a b : Int) (w : World) : Calls Try.prog 162 #[.int .i64 a, .int .i64 b] w fun e w' => e = .returned (.int .i64 (max a b)) ∧ w = w' := by
  by_cases h : b < a
  all_goals
    have hE := Lib.hid (show max a b = _ from Int.max_def a b)
    go_enter Try.func162, Try.ntmps162
    go_wp2
    go_ret
    exact ⟨ret_int (by rw [hE.out]; split <;> omega), rfl⟩
theorem min_calls (a b : Int) (w : World) : Calls Try.prog 187 #[.int .i64 a, .int .i64 b] w fun e w' => e = .returned (.int .i64 (min a b)) ∧ w = w' := by
  by_cases h : a < b
  all_goals
    have hE := Lib.hid (show min a b = _ from Int.min_def a b)
    go_enter Try.func187, Try.ntmps187
    go_wp2
    go_ret
    exact ⟨ret_int (by rw [hE.out]; split <;> omega), rfl⟩
theorem indexFuncCell (xs : List Cell) (v : Value) (w : World) (hs : Sl w w.heap.size Cell.c 2 v xs) (g : FuncId) (lb : Array Value) (p : Cell → Bool) (eg : Enters Try.prog g)
    (hg : ∀ x ∈ xs, Tells Try.prog g lb Cell.v p w x) :
    Calls Try.prog 87 #[v, .func (.func g) #[] lb] w fun e w' => e = .returned (.int .i64 (findI p xs)) ∧ Below w.heap.size w w' := by
  obtain ⟨A, cap, rfl, hl, hm, hcell⟩ := hs.cell
  clear hs
  go_enter Try.func87, Try.ntmps87
  go_wp2_with fail
  go_loopw [5, 8] (fun _ i wr => ∃ k : Nat, k ≤ xs.length ∧ i = .int .i64 k ∧ Below w.heap.size w wr ∧ (xs.take k).all (fun x => !p x) = true) (fun _ i _ => xs.length - (intOf i).toNat)
  case atStart => exact ⟨0, by omega, rfl, Below.refl _ _, rfl⟩
  case round =>
    obtain ⟨k, hk, rfl, hb, hall⟩ := hrel
    have HA := Lib.hid hall
    clear hall
    by_cases hlt : k < xs.length
    · obtain ⟨b, o, rfl, hbb, h0, h1⟩ := hcell k hlt
      clear hcell
      have hx := Lib.hid (hg xs[k] (List.getElem_mem hlt) _ hb)
      obtain ⟨hcr, hfr⟩ := bcell hb
      go_wp2_with fail
      rw [eg, Oper.upon_enter]
      refine hx.out.mono ?_
      rintro e w1 ⟨rfl, hb1⟩
      have hb2 := hb.trans (hb1.mono hb.size)
      clear hcr hfr
      cases hp : p xs[k]
      · have HP := Lib.hid hp
        clear hp
        go_wp2_with fail
        go_roundw
        case rel => exact ⟨k + 1, by omega, by go_num, hb2, take_all_succ _ _ _ hlt HA.out (by simp [HP.out])⟩
        case measure => simp [intOf]; omega
      · have HP := Lib.hid hp
        clear hp
        go_wp2_with fail
        go_ret
        exact ⟨ret_int (findI_at p xs k hlt HA.out HP.out).symm, hb2⟩
    · have hf := Lib.hid (findI_none p xs (all_of_take _ xs k (by omega) HA.out))
      go_wp2_with fail
      go_ret
      exact ⟨ret_int hf.out.symm, hb⟩
theorem indexFuncSlab (xs : List Slab) (v : Value) (w : World) (hs : Sl w w.heap.size Slab.c 4 v xs) (g : FuncId) (lb : Array Value) (p : Slab → Bool) (eg : Enters Try.prog g)
    (hg : ∀ x ∈ xs, Tells Try.prog g lb Slab.v p w x) :
    Calls Try.prog 163 #[v, .func (.func g) #[] lb] w fun e w' => e = .returned (.int .i64 (findI p xs)) ∧ Below w.heap.size w w' := by
  obtain ⟨A, cap, rfl, hl, hm, hcell⟩ := hs.slab
  clear hs
  go_enter Try.func163, Try.ntmps163
  go_wp2_with fail
  go_loopw [5, 8] (fun _ i wr => ∃ k : Nat, k ≤ xs.length ∧ i = .int .i64 k ∧ Below w.heap.size w wr ∧ (xs.take k).all (fun x => !p x) = true) (fun _ i _ => xs.length - (intOf i).toNat)
  case atStart => exact ⟨0, by omega, rfl, Below.refl _ _, rfl⟩
  case round =>
    obtain ⟨k, hk, rfl, hb, hall⟩ := hrel
    have HA := Lib.hid hall
    clear hall
    by_cases hlt : k < xs.length
    · obtain ⟨b, o, rfl, hbb, h0, h1, h2, h3⟩ := hcell k hlt
      clear hcell
      have hx := Lib.hid (hg xs[k] (List.getElem_mem hlt) _ hb)
      obtain ⟨hcr, hfr⟩ := bcell hb
      go_wp2_with fail
      rw [eg, Oper.upon_enter]
      refine hx.out.mono ?_
      rintro e w1 ⟨rfl, hb1⟩
      have hb2 := hb.trans (hb1.mono hb.size)
      clear hcr hfr
      cases hp : p xs[k]
      · have HP := Lib.hid hp
        clear hp
        go_wp2_with fail
        go_roundw
        case rel => exact ⟨k + 1, by omega, by go_num, hb2, take_all_succ _ _ _ hlt HA.out (by simp [HP.out])⟩
        case measure => simp [intOf]; omega
      · have HP := Lib.hid hp
        clear hp
        go_wp2_with fail
        go_ret
        exact ⟨ret_int (findI_at p xs k hlt HA.out HP.out).symm, hb2⟩
    · have hf := Lib.hid (findI_none p xs (all_of_take _ xs k (by omega) HA.out))
      go_wp2_with fail
      go_ret
      exact ⟨ret_int hf.out.symm, hb⟩
theorem indexFunci64 (xs : List Int) (v : Value) (w : World) (hs : Sl w w.heap.size i64c 1 v xs) (g : FuncId) (lb : Array Value) (p : Int → Bool) (eg : Enters Try.prog g)
    (hg : ∀ x ∈ xs, Tells Try.prog g lb i64v p w x) :
    Calls Try.prog 116 #[v, .func (.func g) #[] lb] w fun e w' => e = .returned (.int .i64 (findI p xs)) ∧ Below w.heap.size w w' := by
  obtain ⟨A, cap, rfl, hl, hm, hcell⟩ := hs.i64
  clear hs
  go_enter Try.func116, Try.ntmps116
  go_wp2_with fail
  go_loopw [5, 8] (fun _ i wr => ∃ k : Nat, k ≤ xs.length ∧ i = .int .i64 k ∧ Below w.heap.size w wr ∧ (xs.take k).all (fun x => !p x) = true) (fun _ i _ => xs.length - (intOf i).toNat)
  case atStart => exact ⟨0, by omega, rfl, Below.refl _ _, rfl⟩
  case round =>
    obtain ⟨k, hk, rfl, hb, hall⟩ := hrel
    have HA := Lib.hid hall
    clear hall
    by_cases hlt : k < xs.length
    · obtain ⟨b, o, rfl, hbb, h0⟩ := hcell k hlt
      clear hcell
      have hx := Lib.hid (hg xs[k] (List.getElem_mem hlt) _ hb)
      obtain ⟨hcr, hfr⟩ := bcell hb
      go_wp2_with fail
      rw [eg, Oper.upon_enter]
      refine hx.out.mono ?_
      rintro e w1 ⟨rfl, hb1⟩
      have hb2 := hb.trans (hb1.mono hb.size)
      clear hcr hfr
      cases hp : p xs[k]
      · have HP := Lib.hid hp
        clear hp
        go_wp2_with fail
        go_roundw
        case rel => exact ⟨k + 1, by omega, by go_num, hb2, take_all_succ _ _ _ hlt HA.out (by simp [HP.out])⟩
        case measure => simp [intOf]; omega
      · have HP := Lib.hid hp
        clear hp
        go_wp2_with fail
        go_ret
        exact ⟨ret_int (findI_at p xs k hlt HA.out HP.out).symm, hb2⟩
    · have hf := Lib.hid (findI_none p xs (all_of_take _ xs k (by omega) HA.out))
      go_wp2_with fail
      go_ret
      exact ⟨ret_int hf.out.symm, hb⟩
theorem indexFuncPair (xs : List Pair) (v : Value) (w : World) (hs : Sl w w.heap.size Pair.c 2 v xs) (g : FuncId) (lb : Array Value) (p : Pair → Bool) (eg : Enters Try.prog g)
    (hg : ∀ x ∈ xs, Tells Try.prog g lb Pair.v p w x) :
    Calls Try.prog 184 #[v, .func (.func g) #[] lb] w fun e w' => e = .returned (.int .i64 (findI p xs)) ∧ Below w.heap.size w w' := by
  obtain ⟨A, cap, rfl, hl, hm, hcell⟩ := hs.pair
  clear hs
  go_enter Try.func184, Try.ntmps184
  go_wp2_with fail
  go_loopw [5, 8] (fun _ i wr => ∃ k : Nat, k ≤ xs.length ∧ i = .int .i64 k ∧ Below w.heap.size w wr ∧ (xs.take k).all (fun x => !p x) = true) (fun _ i _ => xs.length - (intOf i).toNat)
  case atStart => exact ⟨0, by omega, rfl, Below.refl _ _, rfl⟩
  case round =>
    obtain ⟨k, hk, rfl, hb, hall⟩ := hrel
    have HA := Lib.hid hall
    clear hall
    by_cases hlt : k < xs.length
    · obtain ⟨b, o, rfl, hbb, h0, h1⟩ := hcell k hlt
      clear hcell
      have hx := Lib.hid (hg xs[k] (List.getElem_mem hlt) _ hb)
      obtain ⟨hcr, hfr⟩ := bcell hb
      go_wp2_with fail
      rw [eg, Oper.upon_enter]
      refine hx.out.mono ?_
      rintro e w1 ⟨rfl, hb1⟩
      have hb2 := hb.trans (hb1.mono hb.size)
      clear hcr hfr
      cases hp : p xs[k]
      · have HP := Lib.hid hp
        clear hp
        go_wp2_with fail
        go_roundw
        case rel => exact ⟨k + 1, by omega, by go_num, hb2, take_all_succ _ _ _ hlt HA.out (by simp [HP.out])⟩
        case measure => simp [intOf]; omega
      · have HP := Lib.hid hp
        clear hp
        go_wp2_with fail
        go_ret
        exact ⟨ret_int (findI_at p xs k hlt HA.out HP.out).symm, hb2⟩
    · have hf := Lib.hid (findI_none p xs (all_of_take _ xs k (by omega) HA.out))
      go_wp2_with fail
      go_ret
      exact ⟨ret_int hf.out.symm, hb⟩
theorem containsFuncCell (xs : List Cell) (v : Value) (w : World) (hs : Sl w w.heap.size Cell.c 2 v xs) (g : FuncId) (lb : Array Value) (p : Cell → Bool) (eg : Enters Try.prog g)
    (hg : ∀ x ∈ xs, Tells Try.prog g lb Cell.v p w x) :
    Calls Try.prog 104 #[v, .func (.func g) #[] lb] w fun e w' => e = .returned (.bool (xs.any p)) ∧ Below w.heap.size w w' := by
  have hf := Lib.hid (findI_ge p xs)
  go_enter Try.func104, Try.ntmps104
  go_wp2_with fail
  refine (indexFuncCell xs v w hs g lb p eg hg).mono ?_
  rintro e w1 ⟨rfl, hb1⟩
  go_wp2_with fail
  go_ret
  exact ⟨ret_bool hf.out, hb1⟩
theorem containsFuncSlab (xs : List Slab) (v : Value) (w : World) (hs : Sl w w.heap.size Slab.c 4 v xs) (g : FuncId) (lb : Array Value) (p : Slab → Bool) (eg : Enters Try.prog g)
    (hg : ∀ x ∈ xs, Tells Try.prog g lb Slab.v p w x) :
    Calls Try.prog 159 #[v, .func (.func g) #[] lb] w fun e w' => e = .returned (.bool (xs.any p)) ∧ Below w.heap.size w w' := by
  have hf := Lib.hid (findI_ge p xs)
  go_enter Try.func159, Try.ntmps159
  go_wp2_with fail
  refine (indexFuncSlab xs v w hs g lb p eg hg).mono ?_
  rintro e w1 ⟨rfl, hb1⟩
  go_wp2_with fail
  go_ret
  exact ⟨ret_bool hf.out, hb1⟩
theorem containsFunci64 (xs : List Int) (v : Value) (w : World) (hs : Sl w w.heap.size i64c 1 v xs) (g : FuncId) (lb : Array Value) (p : Int → Bool) (eg : Enters Try.prog g)
    (hg : ∀ x ∈ xs, Tells Try.prog g lb i64v p w x) :
    Calls Try.prog 114 #[v, .func (.func g) #[] lb] w fun e w' => e = .returned (.bool (xs.any p)) ∧ Below w.heap.size w w' := by
  have hf := Lib.hid (findI_ge p xs)
  go_enter Try.func114, Try.ntmps114
  go_wp2_with fail
  refine (indexFunci64 xs v w hs g lb p eg hg).mono ?_
  rintro e w1 ⟨rfl, hb1⟩
  go_wp2_with fail
  go_ret
  exact ⟨ret_bool hf.out, hb1⟩
theorem containsFuncPair (xs : List Pair) (v : Value) (w : World) (hs : Sl w w.heap.size Pair.c 2 v xs) (g : FuncId) (lb : Array Value) (p : Pair → Bool) (eg : Enters Try.prog g)
    (hg : ∀ x ∈ xs, Tells Try.prog g lb Pair.v p w x) :
    Calls Try.prog 137 #[v, .func (.func g) #[] lb] w fun e w' => e = .returned (.bool (xs.any p)) ∧ Below w.heap.size w w' := by
  have hf := Lib.hid (findI_ge p xs)
  go_enter Try.func137, Try.ntmps137
  go_wp2_with fail
  refine (indexFuncPair xs v w hs g lb p eg hg).mono ?_
  rintro e w1 ⟨rfl, hb1⟩
  go_wp2_with fail
  go_ret
  exact ⟨ret_bool hf.out, hb1⟩
end Go.Proofs.Yteflpdfajfljfaa
