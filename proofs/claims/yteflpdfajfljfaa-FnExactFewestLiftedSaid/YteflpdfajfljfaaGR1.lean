/-
Searches for numbers and cells in lists; append of a cell. Conditions: slices can be read.
-/
import Derived.Test.YteflpdfajfljfaaGen
import Derived.Test.YteflpdfajfljfaaApp
import Derived.Maps.AppendAt
set_option linter.unusedVariables false
set_option linter.unusedSimpArgs false
set_option maxRecDepth 100000
namespace Go.Proofs.Yteflpdfajfljfaa
open Go.RowKit
theorem any_eq_mem {α : Type} [DecidableEq α] (xs : List α) (x : α) : xs.any (fun y => y == x) = decide (x ∈ xs) := by
  rw [Bool.eq_iff_iff]
  simp
theorem indexI64 (xs : List Int) (v : Value) (x : Int) (w : World) (hs : Sl w w.heap.size i64c 1 v xs) :
    Calls Try.prog 151 #[v, .int .i64 x] w fun e w' => e = .returned (.int .i64 (findI (fun y => y == x) xs)) ∧ w = w' := by
  obtain ⟨A, cap, rfl, hl, hm, hcell⟩ := hs.i64
  clear hs
  go_enter Try.func151, Try.ntmps151
  go_wp2_with fail
  go_loop [5, 8] (fun _ i => ∃ k : Nat, k ≤ xs.length ∧ i = .int .i64 k ∧ (xs.take k).all (fun y => !(y == x)) = true) (fun _ i => xs.length - (intOf i).toNat)
  case atStart => exact ⟨0, by omega, rfl, rfl⟩
  case round =>
    obtain ⟨k, hk, rfl, hall⟩ := hrel
    have HA := Lib.hid hall
    clear hall
    by_cases hlt : k < xs.length
    · obtain ⟨b, o, rfl, hbb, h0⟩ := hcell k hlt
      clear hcell
      by_cases he : xs[k] = x
      · have hE := Lib.hid (findI_at (fun y => y == x) xs k hlt HA.out (by simp [he]))
        have hq : (x == xs[k]) = true := by simp [he]
        clear he
        go_wp2_with fail
        go_ret
        exact ⟨ret_int hE.out.symm, rfl⟩
      · have hE := Lib.hid (take_all_succ _ xs k hlt HA.out (by simp [he]))
        have hq : (x == xs[k]) = false := by simp; omega
        clear he
        go_wp2_with fail
        go_round
        case rel => exact ⟨k + 1, by omega, by go_num, hE.out⟩
        case measure => simp [intOf]; omega
    · have hE := Lib.hid (findI_none _ xs (all_of_take _ xs k (by omega) HA.out))
      go_wp2_with fail
      go_ret
      exact ⟨ret_int hE.out.symm, rfl⟩
theorem containsI64 (xs : List Int) (v : Value) (x : Int) (w : World) (hs : Sl w w.heap.size i64c 1 v xs) :
    Calls Try.prog 85 #[v, .int .i64 x] w fun e w' => e = .returned (.bool (decide (x ∈ xs))) ∧ w = w' := by
  have hf := Lib.hid ((findI_ge (fun y => y == x) xs).trans (any_eq_mem xs x))
  go_enter Try.func85, Try.ntmps85
  go_wp2_with fail
  refine (indexI64 xs v x w hs).mono ?_
  rintro e w1 ⟨rfl, rfl⟩
  go_wp2_with fail
  go_ret
  exact ⟨ret_bool hf.out, rfl⟩
set_option maxHeartbeats 1000000 in
theorem indexCell (xs : List Cell) (v : Value) (x : Cell) (W : World) (hs : Sl W W.heap.size Cell.c 2 v xs) :
    Calls Try.prog 167 #[v, x.v] W fun e w' => e = .returned (.int .i64 (findI (fun y => y == x) xs)) ∧ Below W.heap.size W w' := by
  obtain ⟨A, cap, rfl, hl, hm, hcell⟩ := hs.cell
  have HB := Lib.hid ((Below.refl W.heap.size W).alloc (Nat.le_refl _) (.cells #[.int .i8 x.x, .int .i8 x.y] 36))
  have K := Lib.hid (Bk.new W 36 #[.int .i8 x.x, .int .i8 x.y] W.heap.size rfl)
  clear hs
  unfold Cell.v
  go_enter Try.func167, Try.ntmps167
  go_wp2_with fail
  generalize W.alloc (.cells #[.int .i8 x.x, .int .i8 x.y] 36) = W1 at *
  go_loopw [5, 8] (fun _ i wr => ∃ k : Nat, k ≤ xs.length ∧ i = .int .i64 k ∧ (xs.take k).all (fun y => !(y == x)) = true ∧ Below W1.heap.size W1 wr) (fun _ i _ => xs.length - (intOf i).toNat)
  case atStart => exact ⟨0, by omega, rfl, rfl, Below.refl _ _⟩
  case round =>
    obtain ⟨k, hk, rfl, hall, hb⟩ := hrel
    have HA := Lib.hid hall
    have HBo := Lib.hid (HB.out.trans (hb.mono HB.out.size))
    have H1 := Lib.hid hb
    have k0 := (K.out.ext hb).cell 0 _ rfl
    have k1 := (K.out.ext hb).cell 1 _ rfl
    clear hall
    by_cases hlt : k < xs.length
    · obtain ⟨b, o, rfl, hbb, h0, h1⟩ := hcell k hlt
      have h0 := (HBo.out.cell (p := ⟨b, _, none⟩) hbb).trans h0
      have h1 := (HBo.out.cell (p := ⟨b, _, none⟩) hbb).trans h1
      have hk8 : (0 : Int) ≤ (k : Int) := by omega
      have hk9 : (k : Int) < (xs.length : Int) := by omega
      clear hcell hb
      by_cases e1 : x.x = xs[k].x
      · by_cases e2 : x.y = xs[k].y
        · have hE := Lib.hid (findI_at (fun y => y == x) xs k hlt HA.out (by
            have : xs[k] = x := by cases hx : xs[k]; cases x; simp_all
            simp [this]))
          have q1 : (x.x == xs[k].x) = true := by simp [e1]
          have q2 : (x.y == xs[k].y) = true := by simp [e2]
          clear e1 e2
          go_wp2_with fail
          go_quiet (fail)
          go_wp2_with fail
          go_ret
          exact ⟨ret_int hE.out.symm, ext_drewN HBo.out _⟩
        · have hE := Lib.hid (take_all_succ _ xs k hlt HA.out (by
            have : ¬ xs[k] = x := by intro h; exact e2 (by rw [h])
            simp [this]))
          have q1 : (x.x == xs[k].x) = true := by simp [e1]
          have q2 : (x.y == xs[k].y) = false := by simp [e2]
          clear e1 e2
          go_wp2_with fail
          go_quiet (fail)
          go_wp2_with fail
          go_roundw
          case rel => exact ⟨k + 1, by omega, by go_num, hE.out, ext_drewN H1.out _⟩
          case measure => first | (simp [intOf]; done) | (simp [intOf]; omega)
      · have hE := Lib.hid (take_all_succ _ xs k hlt HA.out (by
          have : ¬ xs[k] = x := by intro h; exact e1 (by rw [h])
          simp [this]))
        have q1 : (x.x == xs[k].x) = false := by simp [e1]
        clear e1
        go_wp2_with fail
        go_quiet (fail)
        go_wp2_with fail
        go_roundw
        case rel => exact ⟨k + 1, by omega, by go_num, hE.out, ext_drewN H1.out _⟩
        case measure => first | (simp [intOf]; done) | (simp [intOf]; omega)
    · have hE := Lib.hid (findI_none _ xs (all_of_take _ xs k (by omega) HA.out))
      go_wp2_with fail
      go_ret
      exact ⟨ret_int hE.out.symm, HBo.out⟩
theorem containsCell (xs : List Cell) (v : Value) (x : Cell) (W : World) (hs : Sl W W.heap.size Cell.c 2 v xs) :
    Calls Try.prog 118 #[v, x.v] W fun e w' => e = .returned (.bool (decide (x ∈ xs))) ∧ Below W.heap.size W w' := by
  have hf := Lib.hid ((findI_ge (fun y => y == x) xs).trans (any_eq_mem xs x))
  have hB := (Below.refl W.heap.size W).alloc (Nat.le_refl _) (.cells #[.int .i8 x.x, .int .i8 x.y] 36)
  have HB := Lib.hid hB
  have qi := Lib.hid (indexCell xs v x _ (hs.ext hB))
  clear hB hs
  unfold Cell.v at *
  go_enter Try.func118, Try.ntmps118
  go_wp2_with fail
  refine qi.out.mono ?_
  rintro e w1 ⟨rfl, hb1⟩
  go_wp2_with fail
  go_ret
  exact ⟨ret_bool hf.out, ext_trans HB.out hb1⟩
theorem push_cellat {ops : Array Oper} {rest : List Oper} {o : Oper} {a : Act} {Q : Exit → Act → World → Prop} {W : World} (hgd : o.guard = none) (s x : Operand)
    (ho : o.op = .call { callee := .builtin .append, args := #[s, x], argTypes := #[43, 43] }) (B : Nat) (xs : List Cell) (v : Value) (hs : a.eval s = v)
    (hown : Own W B 36 Cell.c 2 v xs) (g0 : Nat) (p : Cell) (hx : a.eval x = .slice (some ⟨g0, 0, none⟩) 1 1) (hc : Bk W g0 36 #[.int .i8 p.x, .int .i8 p.y]) (hn : xs.length ≤ 1000000) (hB : B ≤ W.heap.size)
    (h : ∀ v' w', Own w' B 36 Cell.c 2 v' (xs ++ [p]) → W.grownBy w' v.ownBlock → (v'.ownBlock = v.ownBlock ∨ v'.ownBlock = some W.heap.size) → wpList Try.prog ops Q rest (a.put o.dst v') w') :
    wpList Try.prog ops Q (o :: rest) a W := by
  obtain ⟨i, hi, hz⟩ := Option.map_eq_some_iff.1 (show (Try.prog.info? 36).map (fun i => (i.zero, i.size, i.bytes)) = some (some (.agg #[.int .i8 0, .int .i8 0]), 2, 2) from by kernel_rfl)
  simp only [Prod.mk.injEq] at hz
  obtain ⟨hz0, hz1, hz2⟩ := hz
  refine wpList_append_own_at W hgd s x 43 ho B 36 i (.agg #[.int .i8 0, .int .i8 0]) 2 2 Try.underlying43 hi hz0 hz1 hz2 rfl (by omega) v xs.length _ hs hown.out ⟨g0, 0, none⟩ 1 1 (Cell.c p) hx rfl ?_ ?_ (by unfold maxLen; omega) (by omega) hB ?_
  · intro j u hj
    match j with
    | 0 => simp [Cell.c] at hj; subst hj; simpa [Addr.add] using hc.cell 0 _ rfl
    | 1 => simp [Cell.c] at hj; subst hj; simpa [Addr.add] using hc.cell 1 _ rfl
    | j + 2 => simp [Cell.c] at hj
  · intro u hu
    simp [Cell.c] at hu
    rcases hu with rfl | rfl <;> rfl
  · intro v' w' ho' hg _ hat
    exact h v' w' ⟨by simpa [Cell.c] using ho'⟩ hg hat
end Go.Proofs.Yteflpdfajfljfaa
