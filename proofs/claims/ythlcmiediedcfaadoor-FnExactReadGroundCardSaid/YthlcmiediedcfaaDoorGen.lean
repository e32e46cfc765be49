/-
The generic functions of Go's library that the seat reaches (slices.IndexFunc, ContainsFunc and so on), and the program's smallest functions, each by a contract. Conditions stand in the contracts.
-/
import Derived.Test.YthlcmiediedcfaaDoorVoc
set_option linter.unusedVariables false
set_option linter.unusedSimpArgs false
set_option maxRecDepth 100000
namespace Go.Proofs.YthlcmiediedcfaaDoor
open Go.RowKit

theorem within_calls (n lo hi : Int) (w : World) : Calls Tryd.prog 77 #[.int .i64 n, .int .i64 lo, .int .i64 hi] w fun e w' => e = .returned (.bool (inB n lo hi)) ∧ w = w' := by
  go_enter Tryd.func77, Tryd.ntmps77
  go_wp2
  all_goals (go_ret; refine ⟨?_, rfl⟩; simp [inB, *]; try omega)
theorem in_calls (n lo hi : Int) (w : World) : Calls Tryd.prog 75 #[.int .i64 n, .int .i64 lo, .int .i64 hi] w fun e w' => e = .returned (.bool (inB n lo hi)) ∧ w = w' := by
  go_enter Tryd.func75, Tryd.ntmps75
  go_wp2
  all_goals (go_ret; refine ⟨?_, rfl⟩; simp [inB, *]; try omega)
theorem indexFuncRow (xs : List Row) (v : Value) (w : World) (hs : Sl w w.heap.size Row.c 2 v xs) (g : FuncId) (lb : Array Value) (p : Row → Bool) (eg : Enters Tryd.prog g)
    (hg : ∀ x ∈ xs, Tells Tryd.prog g lb Row.v p w x) :
    Calls Tryd.prog 115 #[v, .func (.func g) #[] lb] w fun e w' => e = .returned (.int .i64 (findI p xs)) ∧ Below w.heap.size w w' := by
  obtain ⟨A, cap, rfl, hl, hm, hcell⟩ := hs.row
  clear hs
  go_enter Tryd.func115, Tryd.ntmps115
  go_wp2_with fail
  go_loopw [5, 8] (fun _ i wr => ∃ k : Nat, k ≤ xs.length ∧ i = .int .i64 k ∧ Below w.heap.size w wr ∧ (xs.take k).all (fun x => !p x) = true) (fun _ i _ => xs.length - (intOf i).toNat)
  case atStart => exact ⟨0, by omega, rfl, Below.refl _ _, rfl⟩
  case round =>
    obtain ⟨k, hk, rfl, hb, hall⟩ := hrel
    have HA := Lib.hid hall
    clear hall
    by_cases hlt : k < xs.length
    · obtain ⟨b, o, rfl, hbb, h0, h1⟩ := hcell k hlt
      clear hcell
      have hx := Lib.hid (hg xs[k] (List.getElem_mem hlt) _ hb)
      obtain ⟨hcr, hfr⟩ := bcell hb
      go_wp2_with fail
      rw [eg, Oper.upon_enter]
      refine hx.out.mono ?_
      rintro e w1 ⟨rfl, hb1⟩
      have hb2 := hb.trans (hb1.mono hb.size)
      clear hcr hfr
      cases hp : p xs[k]
      · have HP := Lib.hid hp
        clear hp
        go_wp2_with fail
        go_roundw
        case rel => exact ⟨k + 1, by omega, by go_num, hb2, take_all_succ _ _ _ hlt HA.out (by simp [HP.out])⟩
        case measure => simp [intOf]; omega
      · have HP := Lib.hid hp
        clear hp
        go_wp2_with fail
        go_ret
        exact ⟨ret_int (findI_at p xs k hlt HA.out HP.out).symm, hb2⟩
    · have hf := Lib.hid (findI_none p xs (all_of_take _ xs k (by omega) HA.out))
      go_wp2_with fail
      go_ret
      exact ⟨ret_int hf.out.symm, hb⟩
theorem indexFuncSlab (xs : List Slab) (v : Value) (w : World) (hs : Sl w w.heap.size Slab.c 4 v xs) (g : FuncId) (lb : Array Value) (p : Slab → Bool) (eg : Enters Tryd.prog g)
    (hg : ∀ x ∈ xs, Tells Tryd.prog g lb Slab.v p w x) :
    Calls Tryd.prog 133 #[v, .func (.func g) #[] lb] w fun e w' => e = .returned (.int .i64 (findI p xs)) ∧ Below w.heap.size w w' := by
  obtain ⟨A, cap, rfl, hl, hm, hcell⟩ := hs.slab
  clear hs
  go_enter Tryd.func133, Tryd.ntmps133
  go_wp2_with fail
  go_loopw [5, 8] (fun _ i wr => ∃ k : Nat, k ≤ xs.length ∧ i = .int .i64 k ∧ Below w.heap.size w wr ∧ (xs.take k).all (fun x => !p x) = true) (fun _ i _ => xs.length - (intOf i).toNat)
  case atStart => exact ⟨0, by omega, rfl, Below.refl _ _, rfl⟩
  case round =>
    obtain ⟨k, hk, rfl, hb, hall⟩ := hrel
    have HA := Lib.hid hall
    clear hall
    by_cases hlt : k < xs.length
    · obtain ⟨b, o, rfl, hbb, h0, h1, h2, h3⟩ := hcell k hlt
      clear hcell
      have hx := Lib.hid (hg xs[k] (List.getElem_mem hlt) _ hb)
      obtain ⟨hcr, hfr⟩ := bcell hb
      go_wp2_with fail
      rw [eg, Oper.upon_enter]
      refine hx.out.mono ?_
      rintro e w1 ⟨rfl, hb1⟩
      have hb2 := hb.trans (hb1.mono hb.size)
      clear hcr hfr
      cases hp : p xs[k]
      · have HP := Lib.hid hp
        clear hp
        go_wp2_with fail
        go_roundw
        case rel => exact ⟨k + 1, by omega, by go_num, hb2, take_all_succ _ _ _ hlt HA.out (by simp [HP.out])⟩
        case measure => simp [intOf]; omega
      · have HP := Lib.hid hp
        clear hp
        go_wp2_with fail
        go_ret
        exact ⟨ret_int (findI_at p xs k hlt HA.out HP.out).symm, hb2⟩
    · have hf := Lib.hid (findI_none p xs (all_of_take _ xs k (by omega) HA.out))
      go_wp2_with fail
      go_ret
      exact ⟨ret_int hf.out.symm, hb⟩
theorem indexFunci64 (xs : List Int) (v : Value) (w : World) (hs : Sl w w.heap.size i64c 1 v xs) (g : FuncId) (lb : Array Value) (p : Int → Bool) (eg : Enters Tryd.prog g)
    (hg : ∀ x ∈ xs, Tells Tryd.prog g lb i64v p w x) :
    Calls Tryd.prog 147 #[v, .func (.func g) #[] lb] w fun e w' => e = .returned (.int .i64 (findI p xs)) ∧ Below w.heap.size w w' := by
  obtain ⟨A, cap, rfl, hl, hm, hcell⟩ := hs.i64
  clear hs
  go_enter Tryd.func147, Tryd.ntmps147
  go_wp2_with fail
  go_loopw [5, 8] (fun _ i wr => ∃ k : Nat, k ≤ xs.length ∧ i = .int .i64 k ∧ Below w.heap.size w wr ∧ (xs.take k).all (fun x => !p x) = true) (fun _ i _ => xs.length - (intOf i).toNat)
  case atStart => exact ⟨0, by omega, rfl, Below.refl _ _, rfl⟩
  case round =>
    obtain ⟨k, hk, rfl, hb, hall⟩ := hrel
    have HA := Lib.hid hall
    clear hall
    by_cases hlt : k < xs.length
    · obtain ⟨b, o, rfl, hbb, h0⟩ := hcell k hlt
      clear hcell
      have hx := Lib.hid (hg xs[k] (List.getElem_mem hlt) _ hb)
      obtain ⟨hcr, hfr⟩ := bcell hb
      go_wp2_with fail
      rw [eg, Oper.upon_enter]
      refine hx.out.mono ?_
      rintro e w1 ⟨rfl, hb1⟩
      have hb2 := hb.trans (hb1.mono hb.size)
      clear hcr hfr
      cases hp : p xs[k]
      · have HP := Lib.hid hp
        clear hp
        go_wp2_with fail
        go_roundw
        case rel => exact ⟨k + 1, by omega, by go_num, hb2, take_all_succ _ _ _ hlt HA.out (by simp [HP.out])⟩
        case measure => simp [intOf]; omega
      · have HP := Lib.hid hp
        clear hp
        go_wp2_with fail
        go_ret
        exact ⟨ret_int (findI_at p xs k hlt HA.out HP.out).symm, hb2⟩
    · have hf := Lib.hid (findI_none p xs (all_of_take _ xs k (by omega) HA.out))
      go_wp2_with fail
      go_ret
      exact ⟨ret_int hf.out.symm, hb⟩
theorem containsFuncRow (xs : List Row) (v : Value) (w : World) (hs : Sl w w.heap.size Row.c 2 v xs) (g : FuncId) (lb : Array Value) (p : Row → Bool) (eg : Enters Tryd.prog g)
    (hg : ∀ x ∈ xs, Tells Tryd.prog g lb Row.v p w x) :
    Calls Tryd.prog 82 #[v, .func (.func g) #[] lb] w fun e w' => e = .returned (.bool (xs.any p)) ∧ Below w.heap.size w w' := by
  have hf := Lib.hid (findI_ge p xs)
  go_enter Tryd.func82, Tryd.ntmps82
  go_wp2_with fail
  refine (indexFuncRow xs v w hs g lb p eg hg).mono ?_
  rintro e w1 ⟨rfl, hb1⟩
  go_wp2_with fail
  go_ret
  exact ⟨ret_bool hf.out, hb1⟩
theorem containsFuncSlab (xs : List Slab) (v : Value) (w : World) (hs : Sl w w.heap.size Slab.c 4 v xs) (g : FuncId) (lb : Array Value) (p : Slab → Bool) (eg : Enters Tryd.prog g)
    (hg : ∀ x ∈ xs, Tells Tryd.prog g lb Slab.v p w x) :
    Calls Tryd.prog 107 #[v, .func (.func g) #[] lb] w fun e w' => e = .returned (.bool (xs.any p)) ∧ Below w.heap.size w w' := by
  have hf := Lib.hid (findI_ge p xs)
  go_enter Tryd.func107, Tryd.ntmps107
  go_wp2_with fail
  refine (indexFuncSlab xs v w hs g lb p eg hg).mono ?_
  rintro e w1 ⟨rfl, hb1⟩
  go_wp2_with fail
  go_ret
  exact ⟨ret_bool hf.out, hb1⟩
theorem containsFunci64 (xs : List Int) (v : Value) (w : World) (hs : Sl w w.heap.size i64c 1 v xs) (g : FuncId) (lb : Array Value) (p : Int → Bool) (eg : Enters Tryd.prog g)
    (hg : ∀ x ∈ xs, Tells Tryd.prog g lb i64v p w x) :
    Calls Tryd.prog 118 #[v, .func (.func g) #[] lb] w fun e w' => e = .returned (.bool (xs.any p)) ∧ Below w.heap.size w w' := by
  have hf := Lib.hid (findI_ge p xs)
  go_enter Tryd.func118, Tryd.ntmps118
  go_wp2_with fail
  refine (indexFunci64 xs v w hs g lb p eg hg).mono ?_
  rintro e w1 ⟨rfl, hb1⟩
  go_wp2_with fail
  go_ret
  exact ⟨ret_bool hf.out, hb1⟩
end Go.Proofs.YthlcmiediedcfaaDoor
