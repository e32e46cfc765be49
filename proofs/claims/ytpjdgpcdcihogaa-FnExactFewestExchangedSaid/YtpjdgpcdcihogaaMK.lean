/-
What the laws do with rows of pairs; marks, with what they leave alone. Conditions: the rows are the call's own.
-/
import Derived.Test.YtpjdgpcdcihogaaSQ13
set_option linter.unusedVariables false
set_option linter.unusedSimpArgs false
set_option maxRecDepth 100000
namespace Go.Proofs.Ytpjdgpcdcihogaa
open Go.RowKit
/-- Two rows do not share a block. -/
def Apart (r v : Value) : Prop := ∀ j, r.ownBlock = some j → v.ownBlock = some j → False
theorem markSquareG_calls (w h : Int) (z : Value) (xs : List Slab) (W : World) (B : Nat) (hB : B ≤ W.heap.size) (hO : Own W B 117 Slab.c 4 z xs) (k : Int) (hk0 : 0 ≤ k) (hk1 : k ≤ 1000000) (hn : xs.length ≤ 1048576) :
    Calls Try.prog 17 #[.agg #[.int .i8 w, .int .i8 h, z], .int .i64 k] W fun e w' => e = .returned (.int .i64 (k + 4 * xs.length)) ∧ W.grownBy w' z.ownBlock :=
  (markSquare_calls w h z xs W B hB hO k hk0 hk1 hn).mono fun e w' ⟨he, hb, hg⟩ => ⟨he, hb.os, hb.tape, hb.output, hb.size, fun k hk hne => hg k hk (fun e => hne e.symm)⟩
theorem markInt64G_calls (xs : List Int) (v : Value) (w : World) (B : Nat) (hB : B ≤ w.heap.size) (hO : Own w B 2 i64c 1 v xs) (k : Int) (hk0 : 0 ≤ k) (hk1 : k ≤ 10000000) (hn : xs.length ≤ 1048576) :
    Calls Try.prog 18 #[v, .int .i64 k] w fun e w' => e = .returned (.int .i64 (k + xs.length)) ∧ Own w' B 2 i64c 1 v (marks k xs.length) ∧ Below B w w' ∧ w.grownBy w' v.ownBlock := by
  obtain ⟨A, cap, rfl, hl, hm, _⟩ := (hO.sl i64c_len).i64
  have HO := Lib.hid hO
  clear hO
  go_enter Try.func18, Try.ntmps18
  go_wp2_with fail
  go_loopw [1, 5] (fun t i wr => ∃ (j : Nat) (ys : List Int), j ≤ xs.length ∧ i = .int .i64 j ∧ t = .int .i64 (k + j) ∧ ys.length = xs.length ∧ ys.take j = marks k j ∧ Own wr B 2 i64c 1 (.slice A xs.length cap) ys ∧ Below B w wr ∧ w.grownBy wr (Value.slice A xs.length cap).ownBlock) (fun _ i _ => xs.length - (intOf i).toNat)
  case atStart => exact ⟨0, xs, by omega, rfl, by simp, rfl, by simp [marks], HO.out, Below.refl _ _, World.grownBy.refl _ _⟩
  case round =>
    obtain ⟨j, ys, hj, rfl, rfl, hyl, hyt, hO, hb, hgr⟩ := hrel
    have HY := Lib.hid hyl
    have HT := Lib.hid hyt
    have HO2 := Lib.hid hO
    clear hyl hyt hO
    by_cases hlt : j < xs.length
    · obtain ⟨g, cap', hv, hBg, hgl, _, _, hce, hfz⟩ := HO2.out.room i64c_len (by have := HY.out; omega)
      obtain ⟨rfl, _, rfl⟩ : A = some ⟨g, 0, none⟩ ∧ xs.length = ys.length ∧ cap = cap' := by
        injection hv with e1 e2 e3
        exact ⟨e1, e2, e3⟩
      clear hv
      obtain ⟨y, hy⟩ : ∃ y, ys[j]? = some y := ⟨ys[j]'(by have := HY.out; omega), by rw [List.getElem?_eq_getElem]⟩
      have q0 : wr.cell? ⟨g, j, none⟩ = some (.int .i64 y) := by simpa using hce j y hy 0 _ rfl
      clear hce hy
      have hEQ := Lib.hid (take_set_mark ys k j (by have := HY.out; omega) HT.out)
      go_wp2_with fail
      obtain ⟨hO3, hG⟩ := HO2.out.put i64c_len j (by have := HY.out; omega) (k + (j : Int))
      rw [Nat.mul_one] at hO3 hG
      go_roundw
      case rel => exact ⟨j + 1, ys.set j (k + (j : Int)), by omega, by go_num, by congr 1; omega, by rw [List.length_set]; exact HY.out, hEQ.out, hO3, hb.grown hG (Nat.le_trans hB hb.size) (fun q hq => by injection hq with hq; omega), hgr.trans hG⟩
      case measure => simp [intOf]; omega
    · obtain rfl : j = xs.length := by omega
      have hEQ := Lib.hid (show ys = marks k xs.length from by have h1 := HT.out; rw [List.take_of_length_le (by have := HY.out; omega)] at h1; exact h1)
      go_wp2_with fail
      go_ret
      exact ⟨rfl, hEQ.out ▸ HO2.out, hb, hgr⟩
set_option maxHeartbeats 1000000 in
theorem eqPair_calls (a b : Pair) (w : World) :
    Calls Try.prog 67 #[a.v, b.v] w fun e w' => e = .returned (.bool (decide (a = b))) ∧ Below w.heap.size w w' := by
  have hb0 := Lib.hid (ext_alloc ((Below.refl w.heap.size w).alloc (Nat.le_refl _) (.cells #[.int .i64 a.a, .int .i64 a.b] 98)) (.cells #[.int .i64 b.a, .int .i64 b.b] 98))
  have hd := Lib.hid (show decide (a = b) = (decide (a.a = b.a) && decide (a.b = b.b)) from by
    cases a; cases b
    simp)
  unfold Pair.v
  go_enter Try.func67, Try.ntmps67
  go_wp2_with fail
  refine wp_loop_rounds 3 ?_
  rw [rounds_succ]
  go_wp2_with fail
  go_quiet (fail)
  go_wp2_with fail
  · go_ret
    exact ⟨ret_bool (by rw [hd.out]; simp_all), by first | exact ext_drewN (ext_drewN hb0.out _) _ | exact ext_drewN hb0.out _⟩
  rw [rounds_succ]
  go_wp2_with fail
  go_quiet (fail)
  go_wp2_with fail
  · go_ret
    exact ⟨ret_bool (by rw [hd.out]; simp_all), by first | exact ext_drewN (ext_drewN hb0.out _) _ | exact ext_drewN hb0.out _⟩
  rw [rounds_succ]
  go_wp2_with fail
  go_ret
  exact ⟨ret_bool (by rw [hd.out]; simp_all), by first | exact ext_drewN (ext_drewN hb0.out _) _ | exact ext_drewN hb0.out _⟩
theorem eqPairS_calls (xs ys : List Pair) (v u : Value) (w : World) (hs : Sl w w.heap.size Pair.c 2 v xs) (ht : Sl w w.heap.size Pair.c 2 u ys) :
    Calls Try.prog 32 #[v, u] w fun e w' => e = .returned (.bool (decide (xs = ys))) ∧ Below w.heap.size w w' := by
  obtain ⟨A, cap, rfl, hl, hm, hcell⟩ := hs.pair
  obtain ⟨A2, cap2, rfl, hl2, hm2, hcell2⟩ := ht.pair
  clear hs ht
  by_cases hlen : xs.length = ys.length
  · have hq : ((xs.length : Int) != (ys.length : Int)) = false := by simp [hlen]
    have HL := Lib.hid hlen
    clear hlen
    go_enter Try.func32, Try.ntmps32
    go_wp2_with fail
    go_loopw [5] (fun i wr => ∃ k : Nat, k ≤ xs.length ∧ i = .int .i64 k ∧ Below w.heap.size w wr ∧ xs.take k = ys.take k) (fun i _ => xs.length - (intOf i).toNat)
    case atStart => exact ⟨0, by omega, rfl, Below.refl _ _, rfl⟩
    case round =>
      obtain ⟨k, hk, rfl, hb, htk⟩ := hrel
      have HT := Lib.hid htk
      clear htk
      by_cases hlt : k < xs.length
      · have hlt2 : k < ys.length := by have := HL.out; omega
        obtain ⟨b, o, rfl, hbb, h0, h1⟩ := hcell k hlt
        obtain ⟨b2, o2, rfl, hbb2, g0, g1⟩ := hcell2 k hlt2
        clear hcell hcell2
        obtain ⟨hcr, hfr⟩ := bcell hb
        go_wp2_with fail
        go_still_tail 8, (by kernel_rfl)
        change wpList _ _ _ _ _ wr.drew
        go_wp2_with fail
        refine (eqPair_calls xs[k] ys[k] _).mono ?_
        rintro e w1 ⟨rfl, hb1⟩
        clear hcr hfr
        have hb2 := ext_trans hb.drew hb1
        by_cases he : xs[k] = ys[k]
        · have hE := Lib.hid (take_eq_succ xs ys k hlt hlt2 HT.out he)
          have hd : decide (xs[k] = ys[k]) = true := by simp [he]
          clear he
          go_wp2_with fail
          go_roundw
          case rel => exact ⟨k + 1, by omega, by go_num, hb2, hE.out⟩
          case measure => simp [intOf]; omega
        · have hE := Lib.hid (ne_of_at xs ys k hlt hlt2 he)
          have hd : decide (xs[k] = ys[k]) = false := by simp [he]
          clear he
          go_wp2_with fail
          go_ret
          exact ⟨ret_bool (by simp [hE.out]), hb2⟩
      · have hE := Lib.hid (show xs = ys from by
          have h := HT.out
          rwa [List.take_of_length_le (by omega), List.take_of_length_le (by have := HL.out; omega)] at h)
        go_wp2_with fail
        go_ret
        exact ⟨ret_bool (by simp [hE.out]), hb⟩
  · have hq : ((xs.length : Int) != (ys.length : Int)) = true := by rw [bne_iff_ne]; omega
    have hE := Lib.hid (show xs ≠ ys from fun e => hlen (by rw [e]))
    clear hlen
    go_enter Try.func32, Try.ntmps32
    go_wp2_with fail
    go_ret
    exact ⟨ret_bool (by simp [hE.out]), Below.refl _ _⟩
def pairMarks (k : Int) (n : Nat) : List Pair := (List.range n).map fun (i : Nat) => ⟨k + 2 * (i : Int), k + 2 * (i : Int) + 1⟩
theorem pairMarks_len (k : Int) (n : Nat) : (pairMarks k n).length = n := by simp [pairMarks]
theorem pairMarks_succ (k : Int) (n : Nat) : pairMarks k (n + 1) = pairMarks k n ++ [⟨k + 2 * (n : Int), k + 2 * (n : Int) + 1⟩] := by simp [pairMarks, List.range_succ]
theorem pairMarks_set (ys : List Pair) (k : Int) (j : Nat) (hj : j < ys.length) (h : ys.take j = pairMarks k j) : (ys.set j ⟨k + 2 * (j : Int), k + 2 * (j : Int) + 1⟩).take (j + 1) = pairMarks k (j + 1) := by
  rw [List.take_succ_eq_append_getElem (by rw [List.length_set]; omega), List.take_set_of_le (Nat.le_refl j), h, List.getElem_set_self, pairMarks_succ]
theorem pairMarks_get (k : Int) (n j : Nat) (hj : j < n) : (pairMarks k n)[j]'(by rw [pairMarks_len]; exact hj) = ⟨k + 2 * (j : Int), k + 2 * (j : Int) + 1⟩ := by simp [pairMarks]
set_option maxHeartbeats 1000000 in
theorem markPairG_calls (xs : List Pair) (v : Value) (w : World) (B : Nat) (hB : B ≤ w.heap.size) (hO : Own w B 98 Pair.c 2 v xs) (k : Int) (hk0 : 0 ≤ k) (hk1 : k ≤ 1000000) (hn : xs.length ≤ 1000000) :
    Calls Try.prog 33 #[v, .int .i64 k] w fun e w' => e = .returned (.int .i64 (k + 2 * xs.length)) ∧ Own w' B 98 Pair.c 2 v (pairMarks k xs.length) ∧ w.grownBy w' v.ownBlock := by
  obtain ⟨A, cap, rfl, hl, hm, _⟩ := (hO.sl Pair.c_len).pair
  have HO := Lib.hid hO
  clear hO
  go_enter Try.func33, Try.ntmps33
  go_wp2_with fail
  go_loopw [1, 5, 6] (fun t i _ wr => ∃ (j : Nat) (ys : List Pair), j ≤ xs.length ∧ i = .int .i64 j ∧ t = .int .i64 (k + 2 * j) ∧ ys.length = xs.length ∧ ys.take j = pairMarks k j ∧ Own wr B 98 Pair.c 2 (.slice A xs.length cap) ys ∧ w.grownBy wr (Value.slice A xs.length cap).ownBlock) (fun _ i _ _ => xs.length - (intOf i).toNat)
  case atStart => exact ⟨0, xs, by omega, rfl, by simp, rfl, by simp [pairMarks], HO.out, World.grownBy.refl _ _⟩
  case round =>
    obtain ⟨j, ys, hj, rfl, rfl, hyl, hyt, hO, hgr⟩ := hrel
    have HY := Lib.hid hyl
    have HT := Lib.hid hyt
    have HO2 := Lib.hid hO
    clear hyl hO hyt
    by_cases hlt : j < xs.length
    · obtain ⟨g, cap', hv, hBg, hgl, _, _, hce, hfz⟩ := HO2.out.room Pair.c_len (by have := HY.out; omega)
      obtain ⟨rfl, _, rfl⟩ : A = some ⟨g, 0, none⟩ ∧ xs.length = ys.length ∧ cap = cap' := by
        injection hv with e1 e2 e3
        exact ⟨e1, e2, e3⟩
      clear hv
      obtain ⟨y, hy⟩ : ∃ y, ys[j]? = some y := ⟨ys[j]'(by have := HY.out; omega), by rw [List.getElem?_eq_getElem]⟩
      have q0 : wr.cell? ⟨g, j * 2, none⟩ = some (.int .i64 y.a) := by simpa using hce j y hy 0 _ rfl
      have q1 : wr.cell? ⟨g, j * 2 + 1, none⟩ = some (.int .i64 y.b) := by simpa using hce j y hy 1 _ rfl
      have hEQ := Lib.hid (pairMarks_set ys k j (by have := HY.out; omega) HT.out)
      clear hce hy
      go_wp2_with fail
      refine wp_loop_rounds 3 ?_
      rw [rounds_succ]
      go_wp2_with fail
      rw [rounds_succ]
      go_wp2_with fail
      rw [rounds_succ]
      go_wp2_with fail
      obtain ⟨hO3, hG⟩ := HO2.out.put Pair.c_len j (by have := HY.out; omega) ⟨k + 2 * (j : Int), k + 2 * (j : Int) + 1⟩
      go_roundw
      case rel => exact ⟨j + 1, _, by omega, by go_num, by congr 1; omega, (List.length_set ..).trans HY.out, hEQ.out, hO3, hgr.trans hG⟩
      case measure => simp [intOf]; omega
    · obtain rfl : j = xs.length := by omega
      have hEQ := Lib.hid (show ys = pairMarks k xs.length from by have h1 := HT.out; rw [List.take_of_length_le (by have := HY.out; omega)] at h1; exact h1)
      go_wp2_with fail
      go_ret
      exact ⟨rfl, hEQ.out ▸ HO2.out, hgr⟩
set_option maxHeartbeats 1000000 in
theorem heldPair_calls (n : Nat) (v : Value) (w : World) (k : Int) (hs : Sl w w.heap.size Pair.c 2 v (pairMarks k n)) (hk0 : 0 ≤ k) (hk1 : k ≤ 1000000) (hn : n ≤ 1000000) :
    Calls Try.prog 34 #[v, .int .i64 k] w fun e w' => e = .returned (.int .i64 (k + 2 * n)) ∧ Below w.heap.size w w' := by
  obtain ⟨A, cap, rfl, hl, hm, hcell⟩ := hs.pair
  clear hs
  have hcell2 : ∀ j, j < n → ∃ b o, A = some ⟨b, o, none⟩ ∧ b < w.heap.size ∧ w.cell? ⟨b, o + j * 2, none⟩ = some (.int .i64 (k + 2 * (j : Int))) ∧ w.cell? ⟨b, o + j * 2 + 1, none⟩ = some (.int .i64 (k + 2 * (j : Int) + 1)) := fun j hj => by
    obtain ⟨b, o, h1, h2, h3, h4⟩ := hcell j (by rw [pairMarks_len]; exact hj)
    exact ⟨b, o, h1, h2, by rw [pairMarks_get k n j hj] at h3; exact h3, by rw [pairMarks_get k n j hj] at h4; exact h4⟩
  clear hcell
  rw [pairMarks_len] at hl ⊢
  go_enter Try.func34, Try.ntmps34
  go_wp2_with fail
  go_loopw [1, 5, 6] (fun t i _ wr => ∃ j : Nat, j ≤ n ∧ i = .int .i64 j ∧ t = .int .i64 (k + 2 * j) ∧ Below w.heap.size w wr) (fun _ i _ _ => n - (intOf i).toNat)
  case atStart => exact ⟨0, by omega, rfl, by simp, Below.refl _ _⟩
  case round =>
    obtain ⟨j, hj, rfl, rfl, hb⟩ := hrel
    by_cases hlt : j < n
    · obtain ⟨b, o, rfl, hbb, h0, h1⟩ := hcell2 j hlt
      have h0 := (hb.cell (p := ⟨b, _, none⟩) hbb).trans h0
      have h1 := (hb.cell (p := ⟨b, _, none⟩) hbb).trans h1
      clear hcell2
      have hne : ((k + 2 * (j : Int)) != (k + 2 * (j : Int))) = false := by simp
      have hne2 : ((k + 2 * (j : Int) + 1) != (k + 2 * (j : Int) + 1)) = false := by simp
      go_wp2_with fail
      refine wp_loop_rounds 3 ?_
      rw [rounds_succ]
      go_wp2_with fail
      rw [rounds_succ]
      go_wp2_with fail
      rw [rounds_succ]
      go_wp2_with fail
      go_roundw
      case rel => exact ⟨j + 1, by omega, by go_num, by congr 1; omega, hb⟩
      case measure => simp [intOf]; omega
    · obtain rfl : j = n := by omega
      go_wp2_with fail
      go_ret
      exact ⟨rfl, hb⟩
end Go.Proofs.Ytpjdgpcdcihogaa
