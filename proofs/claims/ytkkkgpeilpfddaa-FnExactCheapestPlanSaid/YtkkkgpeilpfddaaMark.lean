/-
Marks on own rows of structs. Conditions: the row is the call's own.
-/
import Derived.Test.YtkkkgpeilpfddaaApp
set_option linter.unusedVariables false
set_option linter.unusedSimpArgs false
set_option maxRecDepth 100000
namespace Go.Proofs.Ytkkkgpeilpfddaa
open Go.RowKit
theorem markRowS_calls (xs : List Row) (v : Value) (w : World) (B : Nat) (hB : B ≤ w.heap.size) (hO : Own w B 65 Row.c 2 v xs) (k : Int) (hk0 : 0 ≤ k) (hk1 : k ≤ 10000000) (hn : xs.length ≤ 1048576) :
    Calls Try.prog 22 #[v, .int .i64 k] w fun e w' => e = .returned (.int .i64 (k + 2 * xs.length)) ∧ (∃ ys : List Row, ys.length = xs.length ∧ Own w' B 65 Row.c 2 v ys) ∧ Below B w w' ∧ w.grownBy w' v.ownBlock := by
  obtain ⟨A, cap, rfl, hl, hm, _⟩ := (hO.sl Row.c_len).row
  have HO := Lib.hid hO
  clear hO
  go_enter Try.func22, Try.ntmps22
  go_wp2_with fail
  go_loopw [1, 5] (fun t i wr => ∃ (j : Nat) (ys : List Row), j ≤ xs.length ∧ i = .int .i64 j ∧ t = .int .i64 (k + 2 * j) ∧ ys.length = xs.length ∧ Own wr B 65 Row.c 2 (.slice A xs.length cap) ys ∧ Below B w wr ∧ w.grownBy wr (Value.slice A xs.length cap).ownBlock) (fun _ i _ => xs.length - (intOf i).toNat)
  case atStart => exact ⟨0, xs, by omega, rfl, by simp, rfl, HO.out, Below.refl _ _, World.grownBy.refl _ _⟩
  case round =>
    obtain ⟨j, ys, hj, rfl, rfl, hyl, hO, hb, hgr⟩ := hrel
    have HY := Lib.hid hyl
    have HO2 := Lib.hid hO
    clear hyl hO
    by_cases hlt : j < xs.length
    · obtain ⟨g, cap', hv, hBg, hgl, _, _, hce, hfz⟩ := HO2.out.room Row.c_len (by have := HY.out; omega)
      obtain ⟨rfl, _, rfl⟩ : A = some ⟨g, 0, none⟩ ∧ xs.length = ys.length ∧ cap = cap' := by
        injection hv with e1 e2 e3
        exact ⟨e1, e2, e3⟩
      clear hv
      obtain ⟨y, hy⟩ : ∃ y, ys[j]? = some y := ⟨ys[j]'(by have := HY.out; omega), by rw [List.getElem?_eq_getElem]⟩
      have q0 : wr.cell? ⟨g, j * 2, none⟩ = some (.int .i8 y.n) := by simpa using hce j y hy 0 _ rfl
      have q1 : wr.cell? ⟨g, j * 2 + 1, none⟩ = some (.int .i16 y.w) := by simpa using hce j y hy 1 _ rfl
      clear hce hy
      go_wp2_with fail
      obtain ⟨hO3, hG⟩ := HO2.out.put Row.c_len j (by have := HY.out; omega) ⟨IntKind.i8.wrap (k + 2 * (j : Int)), IntKind.i16.wrap (k + 2 * (j : Int) + 1)⟩
      go_roundw
      case rel => exact ⟨j + 1, _, by omega, by go_num, by congr 1; omega, (List.length_set ..).trans HY.out, hO3, hb.grown hG (Nat.le_trans hB hb.size) (fun q hq => by injection hq with hq; omega), hgr.trans hG⟩
      case measure => simp [intOf]; omega
    · obtain rfl : j = xs.length := by omega
      go_wp2_with fail
      go_ret
      exact ⟨rfl, ⟨ys, HY.out, HO2.out⟩, hb, hgr⟩
theorem markGangS_calls (xs : List Gang) (v : Value) (w : World) (B : Nat) (hB : B ≤ w.heap.size) (hO : Own w B 69 Gang.c 5 v xs) (k : Int) (hk0 : 0 ≤ k) (hk1 : k ≤ 10000000) (hn : xs.length ≤ 1048576) :
    Calls Try.prog 23 #[v, .int .i64 k] w fun e w' => e = .returned (.int .i64 (k + 5 * xs.length)) ∧ (∃ ys : List Gang, ys.length = xs.length ∧ Own w' B 69 Gang.c 5 v ys) ∧ Below B w w' ∧ w.grownBy w' v.ownBlock := by
  obtain ⟨A, cap, rfl, hl, hm, _⟩ := (hO.sl Gang.c_len).gang
  have HO := Lib.hid hO
  clear hO
  go_enter Try.func23, Try.ntmps23
  go_wp2_with fail
  go_loopw [1, 5] (fun t i wr => ∃ (j : Nat) (ys : List Gang), j ≤ xs.length ∧ i = .int .i64 j ∧ t = .int .i64 (k + 5 * j) ∧ ys.length = xs.length ∧ Own wr B 69 Gang.c 5 (.slice A xs.length cap) ys ∧ Below B w wr ∧ w.grownBy wr (Value.slice A xs.length cap).ownBlock) (fun _ i _ => xs.length - (intOf i).toNat)
  case atStart => exact ⟨0, xs, by omega, rfl, by simp, rfl, HO.out, Below.refl _ _, World.grownBy.refl _ _⟩
  case round =>
    obtain ⟨j, ys, hj, rfl, rfl, hyl, hO, hb, hgr⟩ := hrel
    have HY := Lib.hid hyl
    have HO2 := Lib.hid hO
    clear hyl hO
    by_cases hlt : j < xs.length
    · obtain ⟨g, cap', hv, hBg, hgl, _, _, hce, hfz⟩ := HO2.out.room Gang.c_len (by have := HY.out; omega)
      obtain ⟨rfl, _, rfl⟩ : A = some ⟨g, 0, none⟩ ∧ xs.length = ys.length ∧ cap = cap' := by
        injection hv with e1 e2 e3
        exact ⟨e1, e2, e3⟩
      clear hv
      obtain ⟨y, hy⟩ : ∃ y, ys[j]? = some y := ⟨ys[j]'(by have := HY.out; omega), by rw [List.getElem?_eq_getElem]⟩
      have q0 : wr.cell? ⟨g, j * 5, none⟩ = some (.int .i8 y.s) := by simpa using hce j y hy 0 _ rfl
      have q1 : wr.cell? ⟨g, j * 5 + 1, none⟩ = some (.int .i8 y.p) := by simpa using hce j y hy 1 _ rfl
      have q2 : wr.cell? ⟨g, j * 5 + 2, none⟩ = some (.int .i8 y.k) := by simpa using hce j y hy 2 _ rfl
      have q3 : wr.cell? ⟨g, j * 5 + 3, none⟩ = some (.int .i8 y.r) := by simpa using hce j y hy 3 _ rfl
      have q4 : wr.cell? ⟨g, j * 5 + 4, none⟩ = some (.int .i16 y.g) := by simpa using hce j y hy 4 _ rfl
      clear hce hy
      go_wp2_with fail
      obtain ⟨hO3, hG⟩ := HO2.out.put Gang.c_len j (by have := HY.out; omega) ⟨IntKind.i8.wrap (k + 5 * (j : Int)), IntKind.i8.wrap (k + 5 * (j : Int) + 1), IntKind.i8.wrap (k + 5 * (j : Int) + 1 + 1), IntKind.i8.wrap (k + 5 * (j : Int) + 1 + 1 + 1), IntKind.i16.wrap (k + 5 * (j : Int) + 1 + 1 + 1 + 1)⟩
      go_roundw
      case rel => exact ⟨j + 1, _, by omega, by go_num, by congr 1; omega, (List.length_set ..).trans HY.out, hO3, hb.grown hG (Nat.le_trans hB hb.size) (fun q hq => by injection hq with hq; omega), hgr.trans hG⟩
      case measure => simp [intOf]; omega
    · obtain rfl : j = xs.length := by omega
      go_wp2_with fail
      go_ret
      exact ⟨rfl, ⟨ys, HY.out, HO2.out⟩, hb, hgr⟩
end Go.Proofs.Ytkkkgpeilpfddaa
