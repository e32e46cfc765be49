/-
Contracts of the laws' own helpers (to.., sz.., eq..), each over plain lists. Conditions: slices can be read, and are of at most 2^20 elements where they are copied.
-/
import Derived.Test.YtgifakacnneleaaGen
import Derived.Laws.StructEq
set_option linter.unusedVariables false
set_option linter.unusedSimpArgs false
set_option maxRecDepth 100000
namespace Go.Proofs.Ytgifakacnneleaa
open Go.RowKit

/-- A new slice is handed back, in a row of the call's own. -/
def RetOwn {α : Type} (w : World) (E : TypeId) (c : α → List Value) (sz : Nat) (xs : List α) (e : Ending) (w' : World) : Prop :=
  ∃ v, e = .returned v ∧ Own w' w.heap.size E c sz v xs ∧ Below w.heap.size w w'
theorem take_set_eq {α : Type} (ys xs : List α) (k : Nat) (hk : k < xs.length) (hl : ys.length = xs.length) (h : ys.take k = xs.take k) : (ys.set k xs[k]).take (k + 1) = xs.take (k + 1) := by
  rw [List.take_succ_eq_append_getElem (by rw [List.length_set]; omega), List.take_succ_eq_append_getElem hk, List.take_set_of_le (Nat.le_refl k), h, List.getElem_set_self]
theorem eq_of_take {α : Type} (ys xs : List α) (k : Nat) (hk : k = xs.length) (hl : ys.length = xs.length) (h : ys.take k = xs.take k) : ys = xs := by
  subst hk
  rw [List.take_of_length_le (by omega), List.take_of_length_le (by omega)] at h
  exact h
theorem toMix_calls (m : Mix) (w : World) :
    Calls Try.prog 9 #[Mix.v m] w fun e w' => e = .returned (Mix.v m) ∧ Below w.heap.size w w' := by
  unfold Mix.v
  go_enter Try.func9, Try.ntmps9
  go_wp2_with fail
  refine wp_loop_rounds 4 ?_
  rw [rounds_succ]
  go_wp2_with fail
  rw [rounds_succ]
  go_wp2_with fail
  rw [rounds_succ]
  go_wp2_with fail
  rw [rounds_succ]
  go_wp2_with fail
  exact bodyPost_ret (v := .agg #[.int .i16 m.x, .int .i16 m.y, .int .i16 m.z]) (by simp [results, Try.results9, go_sem]) rfl ⟨rfl, (((Below.refl _ _).alloc (Nat.le_refl _) _).alloc (by simp) _).alloc (by simp; omega) _⟩
theorem toMix3_calls (a b c : Int) (w : World) :
    Calls Try.prog 9 #[.agg #[.int .i16 a, .int .i16 b, .int .i16 c]] w fun e w' => e = .returned (.agg #[.int .i16 a, .int .i16 b, .int .i16 c]) ∧ Below w.heap.size w w' := toMix_calls ⟨a, b, c⟩ w
theorem eqMix_calls (a b : Mix) (w : World) :
    Calls Try.prog 11 #[Mix.v a, Mix.v b] w fun e w' => e = .returned (.bool (decide (a = b))) ∧ Below w.heap.size w w' := by
  have hb0 := Lib.hid (ext_alloc ((Below.refl w.heap.size w).alloc (Nat.le_refl _) (.cells #[.int .i16 a.x, .int .i16 a.y, .int .i16 a.z] 24)) (.cells #[.int .i16 b.x, .int .i16 b.y, .int .i16 b.z] 24))
  have hd := Lib.hid (show decide (a = b) = (decide (a.x = b.x) && decide (a.y = b.y) && decide (a.z = b.z)) from by
    cases a; cases b
    simp [Bool.and_assoc])
  unfold Mix.v
  go_enter Try.func11, Try.ntmps11
  go_wp2_with fail
  refine wp_loop_rounds 4 ?_
  rw [rounds_succ]
  go_wp2_with fail
  go_quiet (fail)
  go_wp2_with fail
  · go_ret
    exact ⟨ret_bool (by rw [hd.out]; simp_all), by first | exact ext_drewN (ext_drewN hb0.out _) _ | exact ext_drewN hb0.out _⟩
  rw [rounds_succ]
  go_wp2_with fail
  go_quiet (fail)
  go_wp2_with fail
  · go_ret
    exact ⟨ret_bool (by rw [hd.out]; simp_all), by first | exact ext_drewN (ext_drewN hb0.out _) _ | exact ext_drewN hb0.out _⟩
  rw [rounds_succ]
  go_wp2_with fail
  go_quiet (fail)
  go_wp2_with fail
  · go_ret
    exact ⟨ret_bool (by rw [hd.out]; simp_all), by first | exact ext_drewN (ext_drewN hb0.out _) _ | exact ext_drewN hb0.out _⟩
  rw [rounds_succ]
  go_wp2_with fail
  go_ret
  exact ⟨ret_bool (by rw [hd.out]; simp_all), by first | exact ext_drewN (ext_drewN hb0.out _) _ | exact ext_drewN hb0.out _⟩
theorem toMixS_calls (xs : List Mix) (v : Value) (w : World) (hs : Sl w w.heap.size Mix.c 3 v xs) (hn : xs.length ≤ 1048576) :
    Calls Try.prog 21 #[v] w (RetOwn w 24 Mix.c 3 xs) := by
  obtain ⟨A, cap, rfl, hl, hm, hcell⟩ := hs.mix
  clear hs
  have hmk := fun W => run_makeOf (P := Try.prog) 43 24 (.agg #[.int .i16 0, .int .i16 0, .int .i16 0]) 3 6 Try.underlying43 (by kernel_rfl) xs.length (by omega) (by omega) W
  go_enter Try.func21, Try.ntmps21
  go_wp2_with fail
  clear hmk
  go_loopw [4] (fun i wr => ∃ (k : Nat) (ys : List Mix), k ≤ xs.length ∧ i = .int .i64 k ∧ ys.length = xs.length ∧ ys.take k = xs.take k ∧ Own wr w.heap.size 24 Mix.c 3 (.slice (some ⟨w.heap.size, 0, none⟩) xs.length xs.length) ys ∧ Below w.heap.size w wr) (fun i _ => xs.length - (intOf i).toNat)
  case atStart => exact ⟨0, List.replicate xs.length ⟨0, 0, 0⟩, by omega, rfl, by simp, rfl, Own.made Mix.c_len (by omega) w (Nat.le_refl _) (⟨0, 0, 0⟩ : Mix) xs.length (by omega), (Below.refl _ _).alloc (Nat.le_refl _) _⟩
  case round =>
    obtain ⟨k, ys, hk, rfl, hyl, hyt, hO, hb⟩ := hrel
    have HY := Lib.hid hyl
    have HT := Lib.hid hyt
    have HO := Lib.hid hO
    clear hyl hyt hO
    by_cases hlt : k < xs.length
    · obtain ⟨b, o, rfl, hbb, h0, h1, h2⟩ := hcell k hlt
      clear hcell
      obtain ⟨hcr, hfr⟩ := bcell hb
      go_wp2_with fail
      refine (toMix_calls xs[k] _).mono ?_
      rintro e w1 ⟨rfl, hb1⟩
      clear hcr hfr
      have HO1 := Lib.hid (HO.out.ext hb1)
      have hb2 := ext_trans hb hb1
      obtain ⟨hBg, hgl, hce, hfz⟩ := HO1.out.at_ Mix.c_len (by have := HY.out; omega)
      obtain ⟨y, hy⟩ : ∃ y, ys[k]? = some y := ⟨ys[k]'(by have := HY.out; omega), by rw [List.getElem?_eq_getElem]⟩
      have hce := fun j u => hce k y hy j u
      clear hy
      have q0 : w1.cell? ⟨w.heap.size, k * 3, none⟩ = some _ := hce 0 _ rfl
      have q1 : w1.cell? ⟨w.heap.size, k * 3 + 1, none⟩ = some _ := hce 1 _ rfl
      have q2 : w1.cell? ⟨w.heap.size, k * 3 + 2, none⟩ = some _ := hce 2 _ rfl
      clear hce
      unfold Mix.v
      have hEQ := Lib.hid (take_set_eq ys xs k hlt HY.out HT.out)
      go_wp2_with fail
      obtain ⟨hO2, hG2⟩ := HO1.out.put Mix.c_len k (by have := HY.out; omega) xs[k]
      go_roundw
      case rel => exact ⟨k + 1, ys.set k xs[k], by omega, by go_num, by rw [List.length_set]; exact HY.out, hEQ.out, hO2, hb2.grown hG2 hb2.size (fun j hj => by injection hj with hj; omega)⟩
      case measure => simp [intOf]; omega
    · have hEQ := Lib.hid (eq_of_take ys xs k (by omega) HY.out HT.out)
      go_wp2_with fail
      go_ret
      exact ⟨_, rfl, by rw [← hEQ.out]; exact hEQ.out ▸ HO.out, hb⟩
theorem szMixS_calls (xs : List Mix) (v : Value) (l : Int) (w : World) (h0 : 0 ≤ l) (h1 : l ≤ 1048576) (hs : Sl w w.heap.size Mix.c 3 v xs) :
    Calls Try.prog 19 #[v, .int .i64 l] w fun e w' => e = .returned (.int .i64 (if l < xs.length then -1 else l - xs.length)) ∧ w = w' := by
  obtain ⟨A, cap, rfl, hl, hm, hcell⟩ := hs.mix
  clear hs hcell
  by_cases h : l < xs.length
  · have hr := Lib.hid (show (if l < (xs.length : Int) then -1 else l - (xs.length : Int)) = -1 from if_pos h)
    go_enter Try.func19, Try.ntmps19
    go_wp2
    go_ret
    exact ⟨ret_int (by first | exact hr.out.symm | rfl), rfl⟩
  · have hr := Lib.hid (show (if l < (xs.length : Int) then -1 else l - (xs.length : Int)) = l - (xs.length : Int) from if_neg h)
    go_enter Try.func19, Try.ntmps19
    go_wp2
    go_ret
    exact ⟨ret_int (by first | exact hr.out.symm | rfl), rfl⟩
theorem take_eq_succ {α : Type} (xs ys : List α) (k : Nat) (h1 : k < xs.length) (h2 : k < ys.length) (h : xs.take k = ys.take k) (e : xs[k] = ys[k]) : xs.take (k + 1) = ys.take (k + 1) := by
  rw [List.take_succ_eq_append_getElem h1, List.take_succ_eq_append_getElem h2, h, e]
theorem ne_of_at {α : Type} (xs ys : List α) (k : Nat) (h1 : k < xs.length) (h2 : k < ys.length) (e : xs[k] ≠ ys[k]) : xs ≠ ys := by
  rintro rfl
  exact e rfl
theorem eqMixS_calls (xs ys : List Mix) (v u : Value) (w : World) (hs : Sl w w.heap.size Mix.c 3 v xs) (ht : Sl w w.heap.size Mix.c 3 u ys) :
    Calls Try.prog 23 #[v, u] w fun e w' => e = .returned (.bool (decide (xs = ys))) ∧ Below w.heap.size w w' := by
  obtain ⟨A, cap, rfl, hl, hm, hcell⟩ := hs.mix
  obtain ⟨A2, cap2, rfl, hl2, hm2, hcell2⟩ := ht.mix
  clear hs ht
  by_cases hlen : xs.length = ys.length
  · have hq : ((xs.length : Int) != (ys.length : Int)) = false := by simp [hlen]
    have HL := Lib.hid hlen
    clear hlen
    go_enter Try.func23, Try.ntmps23
    go_wp2_with fail
    go_loopw [5] (fun i wr => ∃ k : Nat, k ≤ xs.length ∧ i = .int .i64 k ∧ Below w.heap.size w wr ∧ xs.take k = ys.take k) (fun i _ => xs.length - (intOf i).toNat)
    case atStart => exact ⟨0, by omega, rfl, Below.refl _ _, rfl⟩
    case round =>
      obtain ⟨k, hk, rfl, hb, htk⟩ := hrel
      have HT := Lib.hid htk
      clear htk
      by_cases hlt : k < xs.length
      · have hlt2 : k < ys.length := by have := HL.out; omega
        obtain ⟨b, o, rfl, hbb, h0, h1, h2⟩ := hcell k hlt
        obtain ⟨b2, o2, rfl, hbb2, g0, g1, g2⟩ := hcell2 k hlt2
        clear hcell hcell2
        obtain ⟨hcr, hfr⟩ := bcell hb
        go_wp2_with fail
        go_still_tail 8, (by kernel_rfl)
        change wpList _ _ _ _ _ wr.drew
        go_wp2_with fail
        refine (eqMix_calls xs[k] ys[k] _).mono ?_
        rintro e w1 ⟨rfl, hb1⟩
        clear hcr hfr
        have hb2 := ext_trans hb.drew hb1
        by_cases he : xs[k] = ys[k]
        · have hE := Lib.hid (take_eq_succ xs ys k hlt hlt2 HT.out he)
          have hd : decide (xs[k] = ys[k]) = true := by simp [he]
          clear he
          go_wp2_with fail
          go_roundw
          case rel => exact ⟨k + 1, by omega, by go_num, hb2, hE.out⟩
          case measure => simp [intOf]; omega
        · have hE := Lib.hid (ne_of_at xs ys k hlt hlt2 he)
          have hd : decide (xs[k] = ys[k]) = false := by simp [he]
          clear he
          go_wp2_with fail
          go_ret
          exact ⟨ret_bool (by simp [hE.out]), hb2⟩
      · have hE := Lib.hid (show xs = ys from by
          have h := HT.out
          rwa [List.take_of_length_le (by omega), List.take_of_length_le (by have := HL.out; omega)] at h)
        go_wp2_with fail
        go_ret
        exact ⟨ret_bool (by simp [hE.out]), hb⟩
  · have hq : ((xs.length : Int) != (ys.length : Int)) = true := by rw [bne_iff_ne]; omega
    have hE := Lib.hid (show xs ≠ ys from fun e => hlen (by rw [e]))
    clear hlen
    go_enter Try.func23, Try.ntmps23
    go_wp2_with fail
    go_ret
    exact ⟨ret_bool (by simp [hE.out]), Below.refl _ _⟩
theorem eqInt64S_calls (xs ys : List Int) (v u : Value) (w : World) (hs : Sl w w.heap.size i64c 1 v xs) (ht : Sl w w.heap.size i64c 1 u ys) :
    Calls Try.prog 16 #[v, u] w fun e w' => e = .returned (.bool (decide (xs = ys))) ∧ Below w.heap.size w w' := by
  obtain ⟨A, cap, rfl, hl, hm, hcell⟩ := hs.i64
  obtain ⟨A2, cap2, rfl, hl2, hm2, hcell2⟩ := ht.i64
  clear hs ht
  by_cases hlen : xs.length = ys.length
  · have hq : ((xs.length : Int) != (ys.length : Int)) = false := by simp [hlen]
    have HL := Lib.hid hlen
    clear hlen
    go_enter Try.func16, Try.ntmps16
    go_wp2_with fail
    go_loopw [5] (fun i wr => ∃ k : Nat, k ≤ xs.length ∧ i = .int .i64 k ∧ Below w.heap.size w wr ∧ xs.take k = ys.take k) (fun i _ => xs.length - (intOf i).toNat)
    case atStart => exact ⟨0, by omega, rfl, Below.refl _ _, rfl⟩
    case round =>
      obtain ⟨k, hk, rfl, hb, htk⟩ := hrel
      have HT := Lib.hid htk
      clear htk
      by_cases hlt : k < xs.length
      · have hlt2 : k < ys.length := by have := HL.out; omega
        obtain ⟨b, o, rfl, hbb, h0⟩ := hcell k hlt
        obtain ⟨b2, o2, rfl, hbb2, g0⟩ := hcell2 k hlt2
        clear hcell hcell2
        have h0 := (hb.cell (p := ⟨b, _, none⟩) hbb).trans h0
        have g0 := (hb.cell (p := ⟨b2, _, none⟩) hbb2).trans g0
        by_cases he : xs[k] = ys[k]
        · have hE := Lib.hid (take_eq_succ xs ys k hlt hlt2 HT.out he)
          have hd : (xs[k] != ys[k]) = false := by simp [he]
          clear he
          go_wp2_with fail
          go_quiet (fail)
          go_wp2_with fail
          go_roundw
          case rel => exact ⟨k + 1, by omega, by go_num, ext_drewN hb _, hE.out⟩
          case measure => simp [intOf]; omega
        · have hE := Lib.hid (ne_of_at xs ys k hlt hlt2 he)
          have hd : (xs[k] != ys[k]) = true := by simp [he]
          clear he
          go_wp2_with fail
          go_quiet (fail)
          go_wp2_with fail
          go_ret
          exact ⟨ret_bool (by simp [hE.out]), ext_drewN hb _⟩
      · have hE := Lib.hid (show xs = ys from by
          have h := HT.out
          rwa [List.take_of_length_le (by omega), List.take_of_length_le (by have := HL.out; omega)] at h)
        go_wp2_with fail
        go_ret
        exact ⟨ret_bool (by simp [hE.out]), hb⟩
  · have hq : ((xs.length : Int) != (ys.length : Int)) = true := by rw [bne_iff_ne]; omega
    have hE := Lib.hid (show xs ≠ ys from fun e => hlen (by rw [e]))
    clear hlen
    go_enter Try.func16, Try.ntmps16
    go_wp2_with fail
    go_ret
    exact ⟨ret_bool (by simp [hE.out]), Below.refl _ _⟩
end Go.Proofs.Ytgifakacnneleaa
