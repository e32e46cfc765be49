/-
Contracts of the laws' own helpers (to.., sz.., eq..), each over plain lists. Conditions: slices can be read, and are of at most 2^20 elements where they are copied.
-/
import Derived.Test.YteflpdfajfljfaaGen
import Derived.Laws.StructEq
set_option linter.unusedVariables false
set_option linter.unusedSimpArgs false
set_option maxRecDepth 100000
namespace Go.Proofs.Yteflpdfajfljfaa
open Go.RowKit

/-- A new slice is handed back, in a row of the call's own. -/
def RetOwn {α : Type} (w : World) (E : TypeId) (c : α → List Value) (sz : Nat) (xs : List α) (e : Ending) (w' : World) : Prop :=
  ∃ v, e = .returned v ∧ Own w' w.heap.size E c sz v xs ∧ Below w.heap.size w w'
theorem take_set_eq {α : Type} (ys xs : List α) (k : Nat) (hk : k < xs.length) (hl : ys.length = xs.length) (h : ys.take k = xs.take k) : (ys.set k xs[k]).take (k + 1) = xs.take (k + 1) := by
  rw [List.take_succ_eq_append_getElem (by rw [List.length_set]; omega), List.take_succ_eq_append_getElem hk, List.take_set_of_le (Nat.le_refl k), h, List.getElem_set_self]
theorem eq_of_take {α : Type} (ys xs : List α) (k : Nat) (hk : k = xs.length) (hl : ys.length = xs.length) (h : ys.take k = xs.take k) : ys = xs := by
  subst hk
  rw [List.take_of_length_le (by omega), List.take_of_length_le (by omega)] at h
  exact h
theorem toCell_calls (x : Cell) (w : World) :
    Calls Try.prog 13 #[x.v] w fun e w' => e = .returned x.v ∧ Below w.heap.size w w' := by
  unfold Cell.v
  go_enter Try.func13, Try.ntmps13
  go_wp2_with fail
  exact bodyPost_ret (v := .agg #[.int .i8 x.x, .int .i8 x.y]) (by simp [results, Try.results13, go_sem]) rfl ⟨rfl, (((Below.refl _ _).alloc (Nat.le_refl _) _).alloc (by simp) _).alloc (by simp; omega) _⟩
theorem toSlab_calls (x : Slab) (w : World) :
    Calls Try.prog 102 #[x.v] w fun e w' => e = .returned x.v ∧ Below w.heap.size w w' := by
  unfold Slab.v
  go_enter Try.func102, Try.ntmps102
  go_wp2_with fail
  exact bodyPost_ret (v := .agg #[.int .i8 x.x, .int .i8 x.y, .int .i8 x.w, .int .i8 x.h]) (by simp [results, Try.results102, go_sem]) rfl ⟨rfl, (((Below.refl _ _).alloc (Nat.le_refl _) _).alloc (by simp) _).alloc (by simp; omega) _⟩
theorem toCellS_calls (xs : List Cell) (v : Value) (w : World) (hs : Sl w w.heap.size Cell.c 2 v xs) (hn : xs.length ≤ 1048576) :
    Calls Try.prog 27 #[v] w (RetOwn w 36 Cell.c 2 xs) := by
  obtain ⟨A, cap, rfl, hl, hm, hcell⟩ := hs.cell
  clear hs
  have hmk := fun W => run_makeOf (P := Try.prog) 43 36 (.agg #[.int .i8 0, .int .i8 0]) 2 2 Try.underlying43 (by kernel_rfl) xs.length (by omega) (by omega) W
  go_enter Try.func27, Try.ntmps27
  go_wp2_with fail
  clear hmk
  go_loopw [4] (fun i wr => ∃ (k : Nat) (ys : List Cell), k ≤ xs.length ∧ i = .int .i64 k ∧ ys.length = xs.length ∧ ys.take k = xs.take k ∧ Own wr w.heap.size 36 Cell.c 2 (.slice (some ⟨w.heap.size, 0, none⟩) xs.length xs.length) ys ∧ Below w.heap.size w wr) (fun i _ => xs.length - (intOf i).toNat)
  case atStart => exact ⟨0, List.replicate xs.length ⟨0, 0⟩, by omega, rfl, by simp, rfl, Own.made Cell.c_len (by omega) w (Nat.le_refl _) (⟨0, 0⟩ : Cell) xs.length (by omega), (Below.refl _ _).alloc (Nat.le_refl _) _⟩
  case round =>
    obtain ⟨k, ys, hk, rfl, hyl, hyt, hO, hb⟩ := hrel
    have HY := Lib.hid hyl
    have HT := Lib.hid hyt
    have HO := Lib.hid hO
    clear hyl hyt hO
    by_cases hlt : k < xs.length
    · obtain ⟨b, o, rfl, hbb, h0, h1⟩ := hcell k hlt
      clear hcell
      obtain ⟨hcr, hfr⟩ := bcell hb
      go_wp2_with fail
      refine (toCell_calls xs[k] _).mono ?_
      rintro e w1 ⟨rfl, hb1⟩
      clear hcr hfr
      have HO1 := Lib.hid (HO.out.ext hb1)
      have hb2 := ext_trans hb hb1
      obtain ⟨hBg, hgl, hce, hfz⟩ := HO1.out.at_ Cell.c_len (by have := HY.out; omega)
      obtain ⟨y, hy⟩ : ∃ y, ys[k]? = some y := ⟨ys[k]'(by have := HY.out; omega), by rw [List.getElem?_eq_getElem]⟩
      have hce := fun j u => hce k y hy j u
      clear hy
      have q0 : w1.cell? ⟨w.heap.size, k * 2, none⟩ = some _ := hce 0 _ rfl
      have q1 : w1.cell? ⟨w.heap.size, k * 2 + 1, none⟩ = some _ := hce 1 _ rfl
      clear hce
      unfold Cell.v
      have hEQ := Lib.hid (take_set_eq ys xs k hlt HY.out HT.out)
      go_wp2_with fail
      obtain ⟨hO2, hG2⟩ := HO1.out.put Cell.c_len k (by have := HY.out; omega) xs[k]
      go_roundw
      case rel => exact ⟨k + 1, ys.set k xs[k], by omega, by go_num, by rw [List.length_set]; exact HY.out, hEQ.out, hO2, hb2.grown hG2 hb2.size (fun j hj => by injection hj with hj; omega)⟩
      case measure => simp [intOf]; omega
    · have hEQ := Lib.hid (eq_of_take ys xs k (by omega) HY.out HT.out)
      go_wp2_with fail
      go_ret
      exact ⟨_, rfl, by rw [← hEQ.out]; exact hEQ.out ▸ HO.out, hb⟩
theorem toSlabS_calls (xs : List Slab) (v : Value) (w : World) (hs : Sl w w.heap.size Slab.c 4 v xs) (hn : xs.length ≤ 1048576) :
    Calls Try.prog 48 #[v] w (RetOwn w 127 Slab.c 4 xs) := by
  obtain ⟨A, cap, rfl, hl, hm, hcell⟩ := hs.slab
  clear hs
  have hmk := fun W => run_makeOf (P := Try.prog) 32 127 (.agg #[.int .i8 0, .int .i8 0, .int .i8 0, .int .i8 0]) 4 4 Try.underlying32 (by kernel_rfl) xs.length (by omega) (by omega) W
  go_enter Try.func48, Try.ntmps48
  go_wp2_with fail
  clear hmk
  go_loopw [4] (fun i wr => ∃ (k : Nat) (ys : List Slab), k ≤ xs.length ∧ i = .int .i64 k ∧ ys.length = xs.length ∧ ys.take k = xs.take k ∧ Own wr w.heap.size 127 Slab.c 4 (.slice (some ⟨w.heap.size, 0, none⟩) xs.length xs.length) ys ∧ Below w.heap.size w wr) (fun i _ => xs.length - (intOf i).toNat)
  case atStart => exact ⟨0, List.replicate xs.length ⟨0, 0, 0, 0⟩, by omega, rfl, by simp, rfl, Own.made Slab.c_len (by omega) w (Nat.le_refl _) (⟨0, 0, 0, 0⟩ : Slab) xs.length (by omega), (Below.refl _ _).alloc (Nat.le_refl _) _⟩
  case round =>
    obtain ⟨k, ys, hk, rfl, hyl, hyt, hO, hb⟩ := hrel
    have HY := Lib.hid hyl
    have HT := Lib.hid hyt
    have HO := Lib.hid hO
    clear hyl hyt hO
    by_cases hlt : k < xs.length
    · obtain ⟨b, o, rfl, hbb, h0, h1, h2, h3⟩ := hcell k hlt
      clear hcell
      obtain ⟨hcr, hfr⟩ := bcell hb
      go_wp2_with fail
      refine (toSlab_calls xs[k] _).mono ?_
      rintro e w1 ⟨rfl, hb1⟩
      clear hcr hfr
      have HO1 := Lib.hid (HO.out.ext hb1)
      have hb2 := ext_trans hb hb1
      obtain ⟨hBg, hgl, hce, hfz⟩ := HO1.out.at_ Slab.c_len (by have := HY.out; omega)
      obtain ⟨y, hy⟩ : ∃ y, ys[k]? = some y := ⟨ys[k]'(by have := HY.out; omega), by rw [List.getElem?_eq_getElem]⟩
      have hce := fun j u => hce k y hy j u
      clear hy
      have q0 : w1.cell? ⟨w.heap.size, k * 4, none⟩ = some _ := hce 0 _ rfl
      have q1 : w1.cell? ⟨w.heap.size, k * 4 + 1, none⟩ = some _ := hce 1 _ rfl
      have q2 : w1.cell? ⟨w.heap.size, k * 4 + 2, none⟩ = some _ := hce 2 _ rfl
      have q3 : w1.cell? ⟨w.heap.size, k * 4 + 3, none⟩ = some _ := hce 3 _ rfl
      clear hce
      unfold Slab.v
      have hEQ := Lib.hid (take_set_eq ys xs k hlt HY.out HT.out)
      go_wp2_with fail
      obtain ⟨hO2, hG2⟩ := HO1.out.put Slab.c_len k (by have := HY.out; omega) xs[k]
      go_roundw
      case rel => exact ⟨k + 1, ys.set k xs[k], by omega, by go_num, by rw [List.length_set]; exact HY.out, hEQ.out, hO2, hb2.grown hG2 hb2.size (fun j hj => by injection hj with hj; omega)⟩
      case measure => simp [intOf]; omega
    · have hEQ := Lib.hid (eq_of_take ys xs k (by omega) HY.out HT.out)
      go_wp2_with fail
      go_ret
      exact ⟨_, rfl, by rw [← hEQ.out]; exact hEQ.out ▸ HO.out, hb⟩
theorem szCellS_calls (xs : List Cell) (v : Value) (l : Int) (w : World) (h0 : 0 ≤ l) (h1 : l ≤ 1048576) (hs : Sl w w.heap.size Cell.c 2 v xs) :
    Calls Try.prog 25 #[v, .int .i64 l] w fun e w' => e = .returned (.int .i64 (if l < xs.length then -1 else l - xs.length)) ∧ w = w' := by
  obtain ⟨A, cap, rfl, hl, hm, hcell⟩ := hs.cell
  clear hs hcell
  by_cases h : l < xs.length
  · have hr := Lib.hid (show (if l < (xs.length : Int) then -1 else l - (xs.length : Int)) = -1 from if_pos h)
    go_enter Try.func25, Try.ntmps25
    go_wp2
    go_ret
    exact ⟨ret_int (by first | exact hr.out.symm | rfl), rfl⟩
  · have hr := Lib.hid (show (if l < (xs.length : Int) then -1 else l - (xs.length : Int)) = l - (xs.length : Int) from if_neg h)
    go_enter Try.func25, Try.ntmps25
    go_wp2
    go_ret
    exact ⟨ret_int (by first | exact hr.out.symm | rfl), rfl⟩
theorem szSlabS_calls (xs : List Slab) (v : Value) (l : Int) (w : World) (h0 : 0 ≤ l) (h1 : l ≤ 1048576) (hs : Sl w w.heap.size Slab.c 4 v xs) :
    Calls Try.prog 45 #[v, .int .i64 l] w fun e w' => e = .returned (.int .i64 (if l < xs.length then -1 else l - xs.length)) ∧ w = w' := by
  obtain ⟨A, cap, rfl, hl, hm, hcell⟩ := hs.slab
  clear hs hcell
  by_cases h : l < xs.length
  · have hr := Lib.hid (show (if l < (xs.length : Int) then -1 else l - (xs.length : Int)) = -1 from if_pos h)
    go_enter Try.func45, Try.ntmps45
    go_wp2
    go_ret
    exact ⟨ret_int (by first | exact hr.out.symm | rfl), rfl⟩
  · have hr := Lib.hid (show (if l < (xs.length : Int) then -1 else l - (xs.length : Int)) = l - (xs.length : Int) from if_neg h)
    go_enter Try.func45, Try.ntmps45
    go_wp2
    go_ret
    exact ⟨ret_int (by first | exact hr.out.symm | rfl), rfl⟩
theorem eqCell_calls (a b : Cell) (w : World) :
    Calls Try.prog 58 #[a.v, b.v] w fun e w' => e = .returned (.bool (decide (a = b))) ∧ Below w.heap.size w w' := by
  unfold Cell.v
  go_enter Try.func58, Try.ntmps58
  go_wp2
  all_goals
    go_ret
    refine ⟨ret_bool ?_, ((Below.refl _ _).alloc (Nat.le_refl _) _).alloc (by simp) _⟩
    cases a; cases b; simp_all
theorem eqSlab_calls (a b : Slab) (w : World) :
    Calls Try.prog 109 #[a.v, b.v] w fun e w' => e = .returned (.bool (decide (a = b))) ∧ Below w.heap.size w w' := by
  unfold Slab.v
  go_enter Try.func109, Try.ntmps109
  go_wp2
  all_goals
    go_ret
    refine ⟨ret_bool ?_, ((Below.refl _ _).alloc (Nat.le_refl _) _).alloc (by simp) _⟩
    cases a; cases b; simp_all
theorem take_eq_succ {α : Type} (xs ys : List α) (k : Nat) (h1 : k < xs.length) (h2 : k < ys.length) (h : xs.take k = ys.take k) (e : xs[k] = ys[k]) : xs.take (k + 1) = ys.take (k + 1) := by
  rw [List.take_succ_eq_append_getElem h1, List.take_succ_eq_append_getElem h2, h, e]
theorem ne_of_at {α : Type} (xs ys : List α) (k : Nat) (h1 : k < xs.length) (h2 : k < ys.length) (e : xs[k] ≠ ys[k]) : xs ≠ ys := by
  rintro rfl
  exact e rfl
theorem eqCellS_calls (xs ys : List Cell) (v u : Value) (w : World) (hs : Sl w w.heap.size Cell.c 2 v xs) (ht : Sl w w.heap.size Cell.c 2 u ys) :
    Calls Try.prog 22 #[v, u] w fun e w' => e = .returned (.bool (decide (xs = ys))) ∧ Below w.heap.size w w' := by
  obtain ⟨A, cap, rfl, hl, hm, hcell⟩ := hs.cell
  obtain ⟨A2, cap2, rfl, hl2, hm2, hcell2⟩ := ht.cell
  clear hs ht
  by_cases hlen : xs.length = ys.length
  · have hq : ((xs.length : Int) != (ys.length : Int)) = false := by simp [hlen]
    have HL := Lib.hid hlen
    clear hlen
    go_enter Try.func22, Try.ntmps22
    go_wp2_with fail
    go_loopw [5] (fun i wr => ∃ k : Nat, k ≤ xs.length ∧ i = .int .i64 k ∧ Below w.heap.size w wr ∧ xs.take k = ys.take k) (fun i _ => xs.length - (intOf i).toNat)
    case atStart => exact ⟨0, by omega, rfl, Below.refl _ _, rfl⟩
    case round =>
      obtain ⟨k, hk, rfl, hb, htk⟩ := hrel
      have HT := Lib.hid htk
      clear htk
      by_cases hlt : k < xs.length
      · have hlt2 : k < ys.length := by have := HL.out; omega
        obtain ⟨b, o, rfl, hbb, h0, h1⟩ := hcell k hlt
        obtain ⟨b2, o2, rfl, hbb2, g0, g1⟩ := hcell2 k hlt2
        clear hcell hcell2
        obtain ⟨hcr, hfr⟩ := bcell hb
        go_wp2_with fail
        go_still_tail 8, (by kernel_rfl)
        change wpList _ _ _ _ _ wr.drew
        go_wp2_with fail
        refine (eqCell_calls xs[k] ys[k] _).mono ?_
        rintro e w1 ⟨rfl, hb1⟩
        clear hcr hfr
        have hb2 := ext_trans hb.drew hb1
        by_cases he : xs[k] = ys[k]
        · have hE := Lib.hid (take_eq_succ xs ys k hlt hlt2 HT.out he)
          have hd : decide (xs[k] = ys[k]) = true := by simp [he]
          clear he
          go_wp2_with fail
          go_roundw
          case rel => exact ⟨k + 1, by omega, by go_num, hb2, hE.out⟩
          case measure => simp [intOf]; omega
        · have hE := Lib.hid (ne_of_at xs ys k hlt hlt2 he)
          have hd : decide (xs[k] = ys[k]) = false := by simp [he]
          clear he
          go_wp2_with fail
          go_ret
          exact ⟨ret_bool (by simp [hE.out]), hb2⟩
      · have hE := Lib.hid (show xs = ys from by
          have h := HT.out
          rwa [List.take_of_length_le (by omega), List.take_of_length_le (by have := HL.out; omega)] at h)
        go_wp2_with fail
        go_ret
        exact ⟨ret_bool (by simp [hE.out]), hb⟩
  · have hq : ((xs.length : Int) != (ys.length : Int)) = true := by rw [bne_iff_ne]; omega
    have hE := Lib.hid (show xs ≠ ys from fun e => hlen (by rw [e]))
    clear hlen
    go_enter Try.func22, Try.ntmps22
    go_wp2_with fail
    go_ret
    exact ⟨ret_bool (by simp [hE.out]), Below.refl _ _⟩
theorem eqSlabS_calls (xs ys : List Slab) (v u : Value) (w : World) (hs : Sl w w.heap.size Slab.c 4 v xs) (ht : Sl w w.heap.size Slab.c 4 u ys) :
    Calls Try.prog 51 #[v, u] w fun e w' => e = .returned (.bool (decide (xs = ys))) ∧ Below w.heap.size w w' := by
  obtain ⟨A, cap, rfl, hl, hm, hcell⟩ := hs.slab
  obtain ⟨A2, cap2, rfl, hl2, hm2, hcell2⟩ := ht.slab
  clear hs ht
  by_cases hlen : xs.length = ys.length
  · have hq : ((xs.length : Int) != (ys.length : Int)) = false := by simp [hlen]
    have HL := Lib.hid hlen
    clear hlen
    go_enter Try.func51, Try.ntmps51
    go_wp2_with fail
    go_loopw [5] (fun i wr => ∃ k : Nat, k ≤ xs.length ∧ i = .int .i64 k ∧ Below w.heap.size w wr ∧ xs.take k = ys.take k) (fun i _ => xs.length - (intOf i).toNat)
    case atStart => exact ⟨0, by omega, rfl, Below.refl _ _, rfl⟩
    case round =>
      obtain ⟨k, hk, rfl, hb, htk⟩ := hrel
      have HT := Lib.hid htk
      clear htk
      by_cases hlt : k < xs.length
      · have hlt2 : k < ys.length := by have := HL.out; omega
        obtain ⟨b, o, rfl, hbb, h0, h1, h2, h3⟩ := hcell k hlt
        obtain ⟨b2, o2, rfl, hbb2, g0, g1, g2, g3⟩ := hcell2 k hlt2
        clear hcell hcell2
        obtain ⟨hcr, hfr⟩ := bcell hb
        go_wp2_with fail
        go_still_tail 8, (by kernel_rfl)
        change wpList _ _ _ _ _ wr.drew
        go_wp2_with fail
        refine (eqSlab_calls xs[k] ys[k] _).mono ?_
        rintro e w1 ⟨rfl, hb1⟩
        clear hcr hfr
        have hb2 := ext_trans hb.drew hb1
        by_cases he : xs[k] = ys[k]
        · have hE := Lib.hid (take_eq_succ xs ys k hlt hlt2 HT.out he)
          have hd : decide (xs[k] = ys[k]) = true := by simp [he]
          clear he
          go_wp2_with fail
          go_roundw
          case rel => exact ⟨k + 1, by omega, by go_num, hb2, hE.out⟩
          case measure => simp [intOf]; omega
        · have hE := Lib.hid (ne_of_at xs ys k hlt hlt2 he)
          have hd : decide (xs[k] = ys[k]) = false := by simp [he]
          clear he
          go_wp2_with fail
          go_ret
          exact ⟨ret_bool (by simp [hE.out]), hb2⟩
      · have hE := Lib.hid (show xs = ys from by
          have h := HT.out
          rwa [List.take_of_length_le (by omega), List.take_of_length_le (by have := HL.out; omega)] at h)
        go_wp2_with fail
        go_ret
        exact ⟨ret_bool (by simp [hE.out]), hb⟩
  · have hq : ((xs.length : Int) != (ys.length : Int)) = true := by rw [bne_iff_ne]; omega
    have hE := Lib.hid (show xs ≠ ys from fun e => hlen (by rw [e]))
    clear hlen
    go_enter Try.func51, Try.ntmps51
    go_wp2_with fail
    go_ret
    exact ⟨ret_bool (by simp [hE.out]), Below.refl _ _⟩
theorem toInt64S_calls (xs : List Int) (v : Value) (w : World) (hs : Sl w w.heap.size i64c 1 v xs) (hn : xs.length ≤ 1048576) :
    Calls Try.prog 30 #[v] w (RetOwn w 2 i64c 1 xs) := by
  obtain ⟨A, cap, rfl, hl, hm, hcell⟩ := hs.i64
  clear hs
  have hmk : ∀ W : World, (Instr.makeSlice 29 (.int .i64 (xs.length : Int)) (.int .i64 (xs.length : Int))).run Try.prog W = .ok (.slice (some ⟨W.heap.size, 0, none⟩) xs.length xs.length) (W.alloc (.cells (madeCells (Value.int .i64 0).cells (xs.length * 1)) 2)) := fun W => run_makeOf (P := Try.prog) 29 2 (.int .i64 0) 1 8 Try.underlying29 (by kernel_rfl) xs.length (by omega) (by omega) W
  go_enter Try.func30, Try.ntmps30
  go_wp2_with fail
  clear hmk
  go_loopw [4] (fun i wr => ∃ (k : Nat) (ys : List Int), k ≤ xs.length ∧ i = .int .i64 k ∧ ys.length = xs.length ∧ ys.take k = xs.take k ∧ Own wr w.heap.size 2 i64c 1 (.slice (some ⟨w.heap.size, 0, none⟩) xs.length xs.length) ys ∧ Below w.heap.size w wr) (fun i _ => xs.length - (intOf i).toNat)
  case atStart => exact ⟨0, List.replicate xs.length (0 : Int), by omega, rfl, by simp, rfl, by have h := Own.made (B := w.heap.size) (E := 2) i64c_len (by omega) w (Nat.le_refl _) (0 : Int) xs.length (by omega); rw [Nat.mul_one] at h; exact h, (Below.refl _ _).alloc (Nat.le_refl _) _⟩
  case round =>
    obtain ⟨k, ys, hk, rfl, hyl, hyt, hO, hb⟩ := hrel
    have HY := Lib.hid hyl
    have HT := Lib.hid hyt
    have HO := Lib.hid hO
    clear hyl hyt hO
    by_cases hlt : k < xs.length
    · obtain ⟨b, o, rfl, hbb, h0⟩ := hcell k hlt
      clear hcell
      obtain ⟨hcr, hfr⟩ := bcell hb
      obtain ⟨hBg, hgl, hce, hfz⟩ := HO.out.at_ i64c_len (by have := HY.out; omega)
      obtain ⟨y, hy⟩ : ∃ y, ys[k]? = some y := ⟨ys[k]'(by have := HY.out; omega), by rw [List.getElem?_eq_getElem]⟩
      have q0 : wr.cell? ⟨w.heap.size, k, none⟩ = some (.int .i64 y) := by simpa using hce k y hy 0 _ rfl
      clear hce hy
      have hEQ := Lib.hid (take_set_eq ys xs k hlt HY.out HT.out)
      go_wp2_with fail
      obtain ⟨hO2, hG2⟩ := HO.out.put i64c_len k (by have := HY.out; omega) xs[k]
      rw [Nat.mul_one] at hO2 hG2
      go_roundw
      case rel => exact ⟨k + 1, ys.set k xs[k], by omega, by go_num, by rw [List.length_set]; exact HY.out, hEQ.out, hO2, hb.grown hG2 hb.size (fun j hj => by injection hj with hj; omega)⟩
      case measure => simp [intOf]; omega
    · have hEQ := Lib.hid (eq_of_take ys xs k (by omega) HY.out HT.out)
      go_wp2_with fail
      go_ret
      exact ⟨_, rfl, by rw [← hEQ.out]; exact hEQ.out ▸ HO.out, hb⟩
theorem eqInt64S_calls (xs ys : List Int) (v u : Value) (w : World) (hs : Sl w w.heap.size i64c 1 v xs) (ht : Sl w w.heap.size i64c 1 u ys) :
    Calls Try.prog 15 #[v, u] w fun e w' => e = .returned (.bool (decide (xs = ys))) ∧ Below w.heap.size w w' := by
  obtain ⟨A, cap, rfl, hl, hm, hcell⟩ := hs.i64
  obtain ⟨A2, cap2, rfl, hl2, hm2, hcell2⟩ := ht.i64
  clear hs ht
  by_cases hlen : xs.length = ys.length
  · have hq : ((xs.length : Int) != (ys.length : Int)) = false := by simp [hlen]
    have HL := Lib.hid hlen
    clear hlen
    go_enter Try.func15, Try.ntmps15
    go_wp2_with fail
    go_loopw [5] (fun i wr => ∃ k : Nat, k ≤ xs.length ∧ i = .int .i64 k ∧ Below w.heap.size w wr ∧ xs.take k = ys.take k) (fun i _ => xs.length - (intOf i).toNat)
    case atStart => exact ⟨0, by omega, rfl, Below.refl _ _, rfl⟩
    case round =>
      obtain ⟨k, hk, rfl, hb, htk⟩ := hrel
      have HT := Lib.hid htk
      clear htk
      by_cases hlt : k < xs.length
      · have hlt2 : k < ys.length := by have := HL.out; omega
        obtain ⟨b, o, rfl, hbb, h0⟩ := hcell k hlt
        obtain ⟨b2, o2, rfl, hbb2, g0⟩ := hcell2 k hlt2
        clear hcell hcell2
        have h0 := (hb.cell (p := ⟨b, _, none⟩) hbb).trans h0
        have g0 := (hb.cell (p := ⟨b2, _, none⟩) hbb2).trans g0
        by_cases he : xs[k] = ys[k]
        · have hE := Lib.hid (take_eq_succ xs ys k hlt hlt2 HT.out he)
          have hd : (xs[k] != ys[k]) = false := by simp [he]
          clear he
          go_wp2_with fail
          go_quiet (fail)
          go_wp2_with fail
          go_roundw
          case rel => exact ⟨k + 1, by omega, by go_num, ext_drewN hb _, hE.out⟩
          case measure => simp [intOf]; omega
        · have hE := Lib.hid (ne_of_at xs ys k hlt hlt2 he)
          have hd : (xs[k] != ys[k]) = true := by simp [he]
          clear he
          go_wp2_with fail
          go_quiet (fail)
          go_wp2_with fail
          go_ret
          exact ⟨ret_bool (by simp [hE.out]), ext_drewN hb _⟩
      · have hE := Lib.hid (show xs = ys from by
          have h := HT.out
          rwa [List.take_of_length_le (by omega), List.take_of_length_le (by have := HL.out; omega)] at h)
        go_wp2_with fail
        go_ret
        exact ⟨ret_bool (by simp [hE.out]), hb⟩
  · have hq : ((xs.length : Int) != (ys.length : Int)) = true := by rw [bne_iff_ne]; omega
    have hE := Lib.hid (show xs ≠ ys from fun e => hlen (by rw [e]))
    clear hlen
    go_enter Try.func15, Try.ntmps15
    go_wp2_with fail
    go_ret
    exact ⟨ret_bool (by simp [hE.out]), Below.refl _ _⟩
end Go.Proofs.Yteflpdfajfljfaa
