/-
Valid grounds. Conditions: numbers are of their kinds; slices can be read.
-/
import Derived.Test.YthlcmiediedcfaaDoorGD2
import Derived.Test.YthlcmiediedcfaaDoorSQ2
set_option linter.unusedVariables false
set_option linter.unusedSimpArgs false
set_option maxRecDepth 100000
namespace Go.Proofs.YthlcmiediedcfaaDoor
open Go.RowKit
def hA (hs : List Int) : Array Value := (hs.map (Value.int .i16)).toArray
theorem hA_size (hs : List Int) : (hA hs).size = hs.length := by simp [hA]
theorem load_hA {W : World} {g : Nat} {T : TypeId} {w h : Int} {hs : List Int} {z : Value} (hl : hs.length = 81) (hb : Bk W g T (gdA w h hs z)) : (loadVar 46 ⟨g, 2, none⟩).run Tryd.prog W = .ok (.agg (hA hs)) W := by
  have hagg : (isAgg 46).run Tryd.prog W = .ok true W := by kernel_rfl
  have hsz : (sizeOf 46).run Tryd.prog W = .ok 81 W := by kernel_rfl
  have := run_loadCells_list (P := Tryd.prog) W ⟨g, 2, none⟩ (hs.map (Value.int .i16)) (fun j v hv => by
    have hadd : (⟨g, 2, none⟩ : Addr).add j = ⟨g, 2 + j, none⟩ := by unfold Addr.add; split <;> simp_all
    have hj : j < 81 := by have := (List.getElem?_eq_some_iff.1 hv).1; simpa [hl] using this
    have hx : hs[j]? = some (hs[j]'(by omega)) := List.getElem?_eq_getElem _
    rw [List.getElem?_map, hx] at hv
    simp at hv
    subst hv
    rw [hadd, hb.cell _ _ (gdA_h w h hs z hl j hj), List.getD_eq_getElem?_getD, hx]
    rfl)
  simp only [loadVar, Sem.run_bind, hagg, Result.andThen, if_true, hsz]
  rw [show 81 = (hs.map (Value.int .i16)).length by simp [hl], this]
  rfl
def rowA (hs : List Int) (k : Nat) : Array Value := (((hs.drop (k * 9)).take 9).map (Value.int .i16)).toArray
theorem rowA_size (hs : List Int) (hl : hs.length = 81) (k : Nat) (hk : k < 9) : (rowA hs k).size = 9 := by simp [rowA, hl]; omega
theorem rowA_at (hs : List Int) (hl : hs.length = 81) (k j : Nat) (hk : k < 9) (hj : j < 9) : (rowA hs k)[j]? = some (.int .i16 (hs.getD (k * 9 + j) 0)) := by
  have hx : hs[k * 9 + j]? = some (hs[k * 9 + j]'(by omega)) := List.getElem?_eq_getElem _
  simp only [rowA, List.getElem?_toArray, List.getElem?_map, List.getElem?_take, if_pos hj, List.getElem?_drop, hx, List.getD_eq_getElem?_getD]
  rfl
theorem rowA_one (hs : List Int) (k : Nat) : (rowA hs k).all (·.oneCell') = true := by
  unfold rowA
  refine all_oneCell_toArray fun v hv => ?_
  obtain ⟨n, _, rfl⟩ := List.mem_map.1 hv
  rfl
theorem hA_row (hs : List Int) (hl : hs.length = 81) (k : Nat) (hk : k < 9) (W : World) : (Instr.index 46 (.agg (hA hs)) (.int .i64 (k : Int))).run Tryd.prog W = .ok (.agg (rowA hs k)) W := by
  have hagg : (isAgg 45).run Tryd.prog W = .ok true W := by kernel_rfl
  have hsz : (sizeOf 45).run Tryd.prog W = .ok 9 W := by kernel_rfl
  have he : (hA hs).extract (k * 9) (k * 9 + 9) = rowA hs k := by
    apply Array.ext'
    simp [hA, rowA, ← List.map_drop, ← List.map_take, List.take_drop, Nat.add_comm]
    try rw [List.drop_take]
    try congr 1
    try omega
  have h1 : (0 : Int) ≤ (k : Int) ∧ (k : Int) < ((9 : Nat) : Int) := by omega
  simp only [Instr.index, asIntOf, Sem.run_bind, Sem.run_pure, Result.andThen, run_underlying Tryd.underlying46, if_pos h1, hsz, Int.toNat_natCast]
  simp only [Go.part, Sem.run_bind, hagg, hsz, Result.andThen, if_true, he, Sem.run_pure]
theorem rowA_ix (hs : List Int) (hl : hs.length = 81) (k j : Nat) (hk : k < 9) (hj : j < 9) (W : World) : (Instr.index 45 (.agg (rowA hs k)) (.int .i64 (j : Int))).run Tryd.prog W = .ok (.int .i16 (hs.getD (k * 9 + j) 0)) W := by
  have hagg : (isAgg 44).run Tryd.prog W = .ok false W := by kernel_rfl
  have hsz : (sizeOf 44).run Tryd.prog W = .ok 1 W := by kernel_rfl
  have h1 : (0 : Int) ≤ (j : Int) ∧ (j : Int) < ((9 : Nat) : Int) := by omega
  simp only [Instr.index, asIntOf, Sem.run_bind, Sem.run_pure, Result.andThen, run_underlying Tryd.underlying45, if_pos h1, hsz, Int.toNat_natCast]
  have hat := rowA_at hs hl k j hk hj
  rw [← Nat.mul_one j] at hat
  simp only [Go.part, Sem.run_bind, hagg, hsz, Result.andThen, hat, Bool.false_eq_true, if_false, Sem.run_pure]
  rw [Nat.mul_one]
theorem wpList_load_v {P : Program} {ops : Array Oper} {rest : List Oper} {o : Oper} {a : Act} {w : World} {Q : Exit → Act → World → Prop} (hgd : o.guard = none) (ty : TypeId) (x : Operand) (ho : o.op = .load ty x)
    (p : Addr) (hx : a.eval x = .pointer (some p)) (v : Value) (h : (loadVar ty p).run P w = .ok v w) (hK : wpList P ops Q rest (a.put o.dst v) w) : wpList P ops Q (o :: rest) a w := by
  refine wpList_plain hgd fun K' hK' => ?_
  unfold Oper.wp execOp
  simp only [ho, hx, Instr.loadAt, Instr.sureAddr, Sem.run_bind, Sem.run_pure, Result.andThen_ok, h]
  exact hK' _ _ hK
theorem load_row {W : World} {g : Nat} {T : TypeId} {hs : List Int} (hl : hs.length = 81) (k : Nat) (hk : k < 9) (hb : Bk W g T (rowA hs k)) : (loadVar 45 ⟨g, 0, none⟩).run Tryd.prog W = .ok (.agg (rowA hs k)) W := by
  have hagg : (isAgg 45).run Tryd.prog W = .ok true W := by kernel_rfl
  have hsz : (sizeOf 45).run Tryd.prog W = .ok 9 W := by kernel_rfl
  exact run_loadVar_any hb hagg (by rw [rowA_size hs hl k hk]; exact hsz)
theorem info9 : (Tryd.prog.info? 45).map (·.size) = some 9 := by kernel_rfl
theorem gFine_at (w h : Int) (hs : List Int) (k j : Nat) (hk : k < 9) (hj : j < 9) : gFine w h hs (k * 9 + j) = inB (hs.getD (k * 9 + j) 0) 0 (if gpB w h ⟨(j : Int), (k : Int)⟩ = true then 200 else 0) := by
  unfold gFine inB
  have e1 : (k * 9 + j) % 9 = j := by omega
  have e2 : (k * 9 + j) / 9 = k := by omega
  rw [e1, e2]
theorem all81 {f : Nat → Bool} (hf : ∀ j : Nat, j < 9 * 9 → f j = true) : (List.range 81).all f = true := by
  rw [List.all_eq_true]
  intro i hi
  exact hf i (by simpa using hi)
theorem not_all {f : Nat → Bool} {n i : Nat} (hi : i < n) (hf : f i = false) : (List.range n).all f = false := by
  rw [List.all_eq_false]
  exact ⟨i, by simpa using hi, by simp [hf]⟩
theorem getD_mem16 {hs : List Int} (h16 : ∀ n ∈ hs, -32768 ≤ n ∧ n ≤ 32767) (i : Nat) : -32768 ≤ hs.getD i 0 ∧ hs.getD i 0 ≤ 32767 := by
  rw [List.getD_eq_getElem?_getD]
  cases he : hs[i]? with
  | none => simp
  | some n => exact h16 n (List.mem_of_getElem? he)
theorem befB_cmp (a b : Cell) : decide (0 ≤ cmpC a b) = !befB a b := by
  unfold cmpC orI cmpI befB
  by_cases h1 : a.y < b.y <;> by_cases h2 : b.y < a.y <;> by_cases h3 : a.x < b.x <;> by_cases h4 : b.x < a.x <;> simp [h1, h2, h3, h4] <;> omega
theorem gulB_0 {w h : Int} {gl : List Cell} (c : Cell) (hc : gl[0]? = some c) : gulB w h gl 0 = gpB w h c := by
  unfold gulB
  rw [hc]
  simp
theorem gulB_s {w h : Int} {gl : List Cell} (k : Nat) (c d : Cell) (hc : gl[k + 1]? = some c) (hd : gl[k]? = some d) : gulB w h gl (k + 1) = (gpB w h c && befB d c) := by
  unfold gulB
  rw [hc]
  simp only [hd]
abbrev VgS (W0 : World) (b c b1 o1 : Nat) (w h : Int) (hs : List Int) (z : Value) (p q : Cell) (w' : World) : Prop :=
  Below W0.heap.size W0 w' ∧ (loadVar 54 ⟨b, 0, none⟩).run Tryd.prog w' = .ok (.agg (gdA w h hs z)) w' ∧ w'.cell? ⟨b, 83, none⟩ = some z ∧ w'.cell? ⟨c, 0, none⟩ = some (.int .i8 p.x) ∧ w'.cell? ⟨c, 1, none⟩ = some (.int .i8 p.y) ∧ w'.cell? ⟨b1, o1, none⟩ = some (.int .i8 q.x) ∧ w'.cell? ⟨b1, o1 + 1, none⟩ = some (.int .i8 q.y)
theorem VgS.first {W0 : World} {b c b1 o1 : Nat} {w h : Int} {hs : List Int} {z : Value} {p q : Cell} {T T' : TypeId} (hl : hs.length = 81) (hb : Bk W0 b T (gdA w h hs z)) (hc : Bk W0 c T' #[.int .i8 p.x, .int .i8 p.y]) (hb1 : b1 < W0.heap.size) (d0 : W0.cell? ⟨b1, o1, none⟩ = some (.int .i8 q.x)) (d1 : W0.cell? ⟨b1, o1 + 1, none⟩ = some (.int .i8 q.y)) (w' : World) (k : Below W0.heap.size W0 w') : VgS W0 b c b1 o1 w h hs z p q w' :=
  ⟨k, load_gd hl (hb.ext k), (hb.ext k).cell 83 _ (gdA_z _ _ _ _ hl), (hc.ext k).cell 0 _ rfl, (hc.ext k).cell 1 _ rfl, (k.cell (p := ⟨b1, o1, none⟩) hb1).trans d0, (k.cell (p := ⟨b1, o1 + 1, none⟩) hb1).trans d1⟩
set_option maxHeartbeats 2000000 in
theorem validGround_calls (w h : Int) (w0 : -128 ≤ w) (w1 : w ≤ 127) (h0 : -128 ≤ h) (h1 : h ≤ 127) (hs : List Int) (hl : hs.length = 81) (h16 : ∀ n ∈ hs, -32768 ≤ n ∧ n ≤ 32767) (gl : List Cell) (z : Value) (hok : ∀ p ∈ gl, p.ok) (W : World) (hz : Sl W W.heap.size Cell.c 2 z gl) :
    Calls Tryd.prog 57 #[.agg (gdA w h hs z)] W fun e w' => e = .returned (.bool (gOk w h hs gl)) ∧ Below W.heap.size W w' := by
  have hB := (Below.refl W.heap.size W).alloc (Nat.le_refl _) (.cells (gdA w h hs z) 54)
  have HB := Lib.hid hB
  have HZ := Lib.hid hz
  have K := Lib.hid (Bk.new W 54 (gdA w h hs z) W.heap.size rfl)
  have v2 : IntKind.i64.wrap w = w := wrapIn _ (by omega) (by omega)
  have v3 : IntKind.i64.wrap h = h := wrapIn _ (by omega) (by omega)
  have qw := Lib.hid (fun W => within_calls w 1 9 W)
  have qh := Lib.hid (fun W => within_calls h 1 9 W)
  obtain ⟨A, cap, rfl, -, -, -⟩ := hz.cell
  have ga0 := gdA_0 w h hs (.slice A gl.length cap)
  have ga1 := gdA_1 w h hs (.slice A gl.length cap)
  have ga83 := gdA_z w h hs (.slice A gl.length cap) hl
  clear hB hz
  go_enter Tryd.func57, Tryd.ntmps57
  cases hx : inB w 1 9
  · have hE := Lib.hid (show gOk w h hs gl = false from by
      rw [inB_false] at hx
      unfold gOk
      rw [decide_eq_false (by omega)]
      rfl)
    rw [hx] at qw
    clear hx
    go_wp2_with fail
    refine (qw.out _).mono ?_
    rintro e w1 ⟨rfl, rfl⟩
    go_wp2_with fail
    go_ret
    exact ⟨ret_bool hE.out.symm, HB.out⟩
  cases hy : inB h 1 9
  · have hE := Lib.hid (show gOk w h hs gl = false from by
      rw [inB_false] at hy
      unfold gOk
      rw [decide_eq_false (by omega)]
      rfl)
    rw [hx] at qw
    rw [hy] at qh
    clear hx hy
    go_wp2_with fail
    refine (qw.out _).mono ?_
    rintro e w1 ⟨rfl, rfl⟩
    go_wp2_with fail
    refine (qh.out _).mono ?_
    rintro e w1 ⟨rfl, rfl⟩
    go_wp2_with fail
    go_ret
    exact ⟨ret_bool hE.out.symm, HB.out⟩
  by_cases hn : 8 < gl.length
  · have hE := Lib.hid (show gOk w h hs gl = false from by
      unfold gOk
      rw [decide_eq_false (by omega)]
      rfl)
    have hd : decide ((8 : Int) < (gl.length : Int)) = true := by rw [decide_eq_true_eq]; omega
    rw [hx] at qw
    rw [hy] at qh
    clear hx hy
    go_wp2_with fail
    refine (qw.out _).mono ?_
    rintro e w1 ⟨rfl, rfl⟩
    go_wp2_with fail
    refine (qh.out _).mono ?_
    rintro e w1 ⟨rfl, rfl⟩
    go_wp2_with fail
    go_ret
    exact ⟨ret_bool hE.out.symm, HB.out⟩
  have hd : decide ((8 : Int) < (gl.length : Int)) = false := by rw [decide_eq_false_iff_not]; omega
  have hE := Lib.hid (show gOk w h hs gl = ((List.range 81).all (gFine w h hs) && (List.range gl.length).all (gulB w h gl)) from by
    rw [inB_true] at hx hy
    unfold gOk
    rw [decide_eq_true ⟨hx, hy, by omega⟩]
    rfl)
  rw [hx] at qw
  rw [hy] at qh
  have Hxy := Lib.hid (And.intro (inB_true.1 hx) (inB_true.1 hy))
  clear hx hy
  go_wp2_with fail
  refine (qw.out _).mono ?_
  rintro e w1 ⟨rfl, rfl⟩
  go_wp2_with fail
  refine (qh.out _).mono ?_
  rintro e w1 ⟨rfl, rfl⟩
  have ldh := load_hA hl K.out
  go_wp2_with (refine wpList_load_v rfl 46 (.tmp 28) rfl _ rfl _ ldh ?_)
  generalize W.alloc (.cells (gdA w h hs (.slice A gl.length cap)) 54) = W1 at *
  clear ldh ga0 ga1 ga83
  go_loopw [30] (fun i wr => ∃ k : Nat, k ≤ 9 ∧ i = .int .i64 (k : Int) ∧ (∀ j : Nat, j < k * 9 → gFine w h hs j = true) ∧ Below W1.heap.size W1 wr) (fun i _ => 9 - (intOf i).toNat)
  case atStart => exact ⟨0, by omega, rfl, fun j hj => by omega, Below.refl _ _⟩
  case round =>
    obtain ⟨k, hk, rfl, hf, hb⟩ := hrel
    have HF := Lib.hid hf
    have HBo := Lib.hid hb
    clear hf hb
    by_cases hlt : k < 9
    · have ix := hA_row hs hl k hlt
      have hd9 : decide ((k : Int) < 9) = true := by rw [decide_eq_true_eq]; omega
      have rs := rowA_size hs hl k hlt
      have st := run_storeCells_new (P := Tryd.prog) wr 45 #[.int .i16 0, .int .i16 0, .int .i16 0, .int .i16 0, .int .i16 0, .int .i16 0, .int .i16 0, .int .i16 0, .int .i16 0] (rowA hs k) (rs.symm ▸ info9) (Eq.trans (show _ = 9 from rfl) rs.symm) (rowA_one hs k)
      have ldr := run_loadCellsFrom_new (P := Tryd.prog) wr 45 (rowA hs k) 9 rs
      have HB2 := Lib.hid (HBo.out.alloc HBo.out.size (.cells (rowA hs k) 45))
      go_upto_region 6 with (fail)
      clear st ix rs
      have ldv := load_row hl k hlt (Bk.new wr 45 (rowA hs k) wr.heap.size rfl)
      generalize wr.alloc (.cells (rowA hs k) 45) = w2 at *
      go_wp2_with (refine wpList_load_v rfl 45 (.tmp 4) rfl _ rfl _ ldv ?_)
      clear ldr ldv
      go_loopw [35] (fun i w3 => ∃ j : Nat, j ≤ 9 ∧ i = .int .i64 (j : Int) ∧ (∀ i : Nat, i < k * 9 + j → gFine w h hs i = true) ∧ Below W1.heap.size W1 w3) (fun i _ => 9 - (intOf i).toNat)
      case atStart => exact ⟨0, by omega, rfl, fun j hj => HF.out j (by omega), HB2.out⟩
      case round =>
        obtain ⟨j, hj, rfl, hf3, hb3⟩ := hrel
        have HF3 := Lib.hid hf3
        have HB3 := Lib.hid hb3
        clear hf3 hb3
        by_cases hlt2 : j < 9
        · have ix2 := rowA_ix hs hl k j hlt hlt2
          have ix3 := rowA_at hs hl k j hlt hlt2
          have hd10 : decide ((j : Int) < 9) = true := by rw [decide_eq_true_eq]; omega
          have hgf := Lib.hid (gFine_at w h hs k j hlt hlt2)
          have hn16 := getD_mem16 h16 (k * 9 + j)
          have wj : IntKind.i8.wrap (j : Int) = (j : Int) := wrap8In _ (by omega) (by omega)
          have wk : IntKind.i8.wrap (k : Int) = (k : Int) := wrap8In _ (by omega) (by omega)
          generalize hs.getD (k * 9 + j) 0 = n at *
          have wn : IntKind.i64.wrap n = n := wrapIn _ (by omega) (by omega)
          have ldg := load_gd hl (K.out.ext HB3.out)
          have qp := Lib.hid (show ∀ W', Calls Tryd.prog 96 #[.agg (gdA w h hs (.slice A gl.length cap)), .agg #[.int .i8 (j : Int), .int .i8 (k : Int)]] W' _ from fun W' => isPoint_calls w h w0 w1 h0 h1 hs hl (.slice A gl.length cap) ⟨(j : Int), (k : Int)⟩ ⟨by show (-128 : Int) ≤ (j : Int); omega, by show (j : Int) ≤ 127; omega, by show (-128 : Int) ≤ (k : Int); omega, by show (k : Int) ≤ 127; omega⟩ W')
          cases hp : gpB w h ⟨(j : Int), (k : Int)⟩
          all_goals
            rw [hp] at hgf qp
            simp only [if_true, if_false, Bool.false_eq_true] at hgf
            clear hp
          · have qn := Lib.hid (fun W => within_calls n 0 0 W)
            cases hin : inB n 0 0
            all_goals
              rw [hin] at hgf qn
              clear hin
              go_wp2_with (refine wpList_load_v rfl 54 (.tmp 1) rfl _ rfl _ ldg ?_)
              refine (qp.out _).mono ?_
              rintro e w4 ⟨rfl, hb4⟩
              have HB4 := Lib.hid (ext_trans HB3.out hb4)
              clear hb4 ldg
              go_wp2_with fail
              refine (qn.out _).mono ?_
              rintro e w4 ⟨rfl, rfl⟩
              go_wp2_with fail
            · go_ret
              exact ⟨ret_bool (by rw [hE.out, not_all (show k * 9 + j < 81 by omega) hgf.out]; rfl), ext_trans HB.out HB4.out⟩
            · go_roundw
              case rel => exact ⟨j + 1, by omega, by go_num, fun i hi => by rcases Nat.lt_or_ge i (k * 9 + j) with h | h; exact HF3.out i h; obtain rfl : i = k * 9 + j := (by omega); exact hgf.out, HB4.out⟩
              case measure => first | (simp [intOf]; done) | (simp [intOf]; omega)
          · have qn := Lib.hid (fun W => within_calls n 0 200 W)
            cases hin : inB n 0 200
            all_goals
              rw [hin] at hgf qn
              clear hin
              go_wp2_with (refine wpList_load_v rfl 54 (.tmp 1) rfl _ rfl _ ldg ?_)
              refine (qp.out _).mono ?_
              rintro e w4 ⟨rfl, hb4⟩
              have HB4 := Lib.hid (ext_trans HB3.out hb4)
              clear hb4 ldg
              go_wp2_with fail
              refine (qn.out _).mono ?_
              rintro e w4 ⟨rfl, rfl⟩
              go_wp2_with fail
            · go_ret
              exact ⟨ret_bool (by rw [hE.out, not_all (show k * 9 + j < 81 by omega) hgf.out]; rfl), ext_trans HB.out HB4.out⟩
            · go_roundw
              case rel => exact ⟨j + 1, by omega, by go_num, fun i hi => by rcases Nat.lt_or_ge i (k * 9 + j) with h | h; exact HF3.out i h; obtain rfl : i = k * 9 + j := (by omega); exact hgf.out, HB4.out⟩
              case measure => first | (simp [intOf]; done) | (simp [intOf]; omega)
        · obtain rfl : j = 9 := by omega
          have hd10 : decide (((9 : Nat) : Int) < 9) = false := by decide
          go_wp2_with fail
          go_roundw
          case rel => exact ⟨k + 1, by omega, by go_num, fun i hi => HF3.out i (by omega), HB3.out⟩
          case measure => first | (simp [intOf]; done) | (simp [intOf]; omega)
    · obtain rfl : k = 9 := by omega
      simp only [show ((9 : Nat) : Int) = 9 from rfl]
      have hd9 : decide ((9 : Int) < 9) = false := by decide
      have hE2 := Lib.hid (show gOk w h hs gl = (List.range gl.length).all (gulB w h gl) from by rw [hE.out, all81 HF.out]; rfl)
      have k83 := (K.out.ext HBo.out).cell 83 _ (gdA_z _ _ _ _ hl)
      clear hE HF
      go_wp2_with fail
      clear k83
      go_loopw [56] (fun i w3 => ∃ j : Nat, j ≤ gl.length ∧ i = .int .i64 (j : Int) ∧ (∀ i : Nat, i < j → gulB w h gl i = true) ∧ Below W1.heap.size W1 w3) (fun i _ => gl.length - (intOf i).toNat)
      case atStart => exact ⟨0, by omega, rfl, fun j hj => by omega, HBo.out⟩
      case round =>
        obtain ⟨j, hj, rfl, hf3, hb3⟩ := hrel
        obtain ⟨w9, rfl⟩ : ∃ w9 : World, w9 = wr := ⟨_, rfl⟩
        have HF3 := Lib.hid hf3
        have HB3 := Lib.hid hb3
        clear hf3 hb3
        by_cases hlt2 : j < gl.length
        · obtain ⟨A2, cap2, hv, -, -, hcell⟩ := HZ.out.cell
          obtain ⟨rfl, -, rfl⟩ : A = A2 ∧ gl.length = gl.length ∧ cap = cap2 := by
            injection hv with e1 e2 e3
            exact ⟨e1, e2, e3⟩
          clear hv
          obtain ⟨b2, o2, rfl, hbb, c0, c1⟩ := hcell j hlt2
          have HBW := Lib.hid (ext_trans HB.out HB3.out)
          have c0 := (HBW.out.cell (p := ⟨b2, _, none⟩) hbb).trans c0
          have c1 := (HBW.out.cell (p := ⟨b2, _, none⟩) hbb).trans c1
          have hpok := hok gl[j] (List.getElem_mem hlt2)
          have hk0 : (0 : Int) ≤ (j : Int) := by omega
          have hk1 : (j : Int) < (gl.length : Int) := by omega
          rcases Nat.eq_zero_or_pos j with hj0 | hj0
          · subst hj0
            clear hcell
            have hgu := Lib.hid (gulB_0 (w := w) (h := h) gl[0] (List.getElem?_eq_getElem hlt2))
            have hlen := hlt2
            simp only [Nat.zero_mul, Nat.add_zero] at c0 c1
            generalize gl[0] = p at *
            have qp := Lib.hid (show ∀ W', Calls Tryd.prog 96 #[.agg (gdA w h hs (.slice (some ⟨b2, o2, none⟩) gl.length cap)), .agg #[.int .i8 p.x, .int .i8 p.y]] W' _ from fun W' => isPoint_calls w h w0 w1 h0 h1 hs hl _ p hpok W')
            have HK2 := Lib.hid ((K.out.ext HB3.out).alloc (.cells #[.int .i8 p.x, .int .i8 p.y] 98))
            have KP := Lib.hid (Bk.new w9 98 #[.int .i8 p.x, .int .i8 p.y] w9.heap.size rfl)
            have HBa := Lib.hid (HB3.out.alloc HB3.out.size (.cells #[.int .i8 p.x, .int .i8 p.y] 98))
            have hb9 : b2 < w9.heap.size := Nat.lt_of_lt_of_le hbb HBW.out.size
            have d0 := Lib.hid ((((Below.refl w9.heap.size w9).alloc (Nat.le_refl _) (.cells #[.int .i8 p.x, .int .i8 p.y] 98)).cell (p := ⟨b2, _, none⟩) hb9).trans c0)
            have d1 := Lib.hid ((((Below.refl w9.heap.size w9).alloc (Nat.le_refl _) (.cells #[.int .i8 p.x, .int .i8 p.y] 98)).cell (p := ⟨b2, _, none⟩) hb9).trans c1)
            have hb9' : b2 < (w9.alloc (.cells #[.int .i8 p.x, .int .i8 p.y] 98)).heap.size := by simp; omega
            have hd0 : decide ((0 : Int) < ((0 : Nat) : Int)) = false := by decide
            cases hp : gpB w h p
            · rw [hp] at hgu qp
              clear hp
              go_wp2_with fail
              generalize w9.alloc (.cells #[.int .i8 p.x, .int .i8 p.y] 98) = W2 at *
              have HS := Lib.hid (VgS.first hl HK2.out KP.out hb9' d0.out d1.out)
              refine wp_region_held_drew (S := (VgS W2 W.heap.size w9.heap.size b2 o2 w h hs (.slice (some ⟨b2, o2, none⟩) gl.length cap) p p)) (by kernel_rfl) ?r9_hS0 (fun hHeld => ?r9_rest)
              case r9_hS0 => (try dsimp only); first | assumption | exact HS.out _ (kp0 _) | exact HS.out _ (Below.refl _ _) | exact HS.out _ (kp1 (And.left (b := _) (by assumption))) | exact HS.out _ (ext_trans (And.left (b := _) (by assumption)) (by assumption))
              refine wpAnyH_take (i := 0) (v := ?r9_vv0) (by (simp only [List.getElem?_toArray, List.getElem?_cons_succ, List.getElem?_cons_zero]; rfl)) (by kernel_rfl) (by kernel_rfl) (by kernel_rfl) (by exact fun _ _ _ h => h) (Or.inl ⟨by rfl, ?r9_hy0⟩) (by assumption) ?r9_rest0
              case r9_hy0 => intro w hSw; (try dsimp only at hSw); refine (exec_load rfl rfl hSw.2.1).trans ?_; with_reducible rfl
              try simp only [Act.put, List.setIfInBounds_toArray, List.set_cons_zero, List.set_cons_succ]
              refine wpAnyH_take (i := 1) (v := ?r9_vv1) (by (simp only [List.getElem?_toArray, List.getElem?_cons_succ, List.getElem?_cons_zero]; rfl)) (by kernel_rfl) (by kernel_rfl) (by kernel_rfl) (by exact fun _ _ _ h => h) (Or.inl ⟨by rfl, ?r9_hy1⟩) (by assumption) ?r9_rest1
              case r9_hy1 => intro w hSw; (try dsimp only at hSw); (go_simp <;> (with_reducible rfl))
              try simp only [Act.put, List.setIfInBounds_toArray, List.set_cons_zero, List.set_cons_succ]
              refine wpAnyH_ready (rs := [2]) (by kernel_rfl) (by simp) ?_
              refine AllReadyH.cons (by (simp only [List.getElem?_toArray, List.getElem?_cons_succ, List.getElem?_cons_zero]; rfl)) (fun K hK => ?_) AllReadyH.nil
              go_simp
              (go_at_call 96; with_reducible refine (qp.out _).mono ?_; rintro e w8 ⟨rfl, hb8⟩)
              try go_wp2_with fail
              refine hK.out _ _ ?r9_hS2 (fun hHeld => ?r9_r2)
              case r9_hS2 => (try dsimp only); first | assumption | exact HS.out _ (kp0 _) | exact HS.out _ (Below.refl _ _) | exact HS.out _ (kp1 (And.left (b := _) (by assumption))) | exact HS.out _ (ext_trans (And.left (b := _) (by assumption)) (by assumption))
              clear hK K
              try simp only [Act.put, List.setIfInBounds_toArray, List.set_cons_zero, List.set_cons_succ]
              refine wpAnyH_take (i := 3) (v := ?r9_vv3) (by (simp only [List.getElem?_toArray, List.getElem?_cons_succ, List.getElem?_cons_zero]; rfl)) (by kernel_rfl) (by kernel_rfl) (by kernel_rfl) (by exact fun _ _ _ h => h) (Or.inl ⟨by rfl, ?r9_hy3⟩) (by assumption) ?r9_rest3
              case r9_hy3 => intro w hSw; (try dsimp only at hSw); (go_simp <;> (with_reducible rfl))
              try simp only [Act.put, List.setIfInBounds_toArray, List.set_cons_zero, List.set_cons_succ]
              refine wpAnyH_take (i := 4) (v := ?r9_vv4) (by (simp only [List.getElem?_toArray, List.getElem?_cons_succ, List.getElem?_cons_zero]; rfl)) (by kernel_rfl) (by kernel_rfl) (by kernel_rfl) (by exact fun _ _ _ h => h) (Or.inl ⟨by rfl, ?r9_hy4⟩) (by assumption) ?r9_rest4
              case r9_hy4 => intro w hSw; (try dsimp only at hSw); (go_simp <;> (with_reducible rfl))
              try simp only [Act.put, List.setIfInBounds_toArray, List.set_cons_zero, List.set_cons_succ]
              refine wpAnyH_take (i := 5) (v := undef) (by (simp only [List.getElem?_toArray, List.getElem?_cons_succ, List.getElem?_cons_zero]; rfl)) (by kernel_rfl) (by kernel_rfl) (by kernel_rfl) (by exact fun _ _ _ h => h) (Or.inr ⟨by rfl, rfl⟩) (by assumption) ?_
              try simp only [Act.put, List.setIfInBounds_toArray, List.set_cons_zero, List.set_cons_succ]
              refine wpAnyH_take (i := 6) (v := undef) (by (simp only [List.getElem?_toArray, List.getElem?_cons_succ, List.getElem?_cons_zero]; rfl)) (by kernel_rfl) (by kernel_rfl) (by kernel_rfl) (by exact fun _ _ _ h => h) (Or.inr ⟨by rfl, rfl⟩) (by assumption) ?_
              try simp only [Act.put, List.setIfInBounds_toArray, List.set_cons_zero, List.set_cons_succ]
              refine wpAnyH_take (i := 7) (v := undef) (by (simp only [List.getElem?_toArray, List.getElem?_cons_succ, List.getElem?_cons_zero]; rfl)) (by kernel_rfl) (by kernel_rfl) (by kernel_rfl) (by exact fun _ _ _ h => h) (Or.inr ⟨by rfl, rfl⟩) (by assumption) ?_
              try simp only [Act.put, List.setIfInBounds_toArray, List.set_cons_zero, List.set_cons_succ]
              refine wpAnyH_take (i := 8) (v := undef) (by (simp only [List.getElem?_toArray, List.getElem?_cons_succ, List.getElem?_cons_zero]; rfl)) (by kernel_rfl) (by kernel_rfl) (by kernel_rfl) (by exact fun _ _ _ h => h) (Or.inr ⟨by rfl, rfl⟩) (by assumption) ?_
              try simp only [Act.put, List.setIfInBounds_toArray, List.set_cons_zero, List.set_cons_succ]
              refine wpAnyH_take (i := 9) (v := undef) (by (simp only [List.getElem?_toArray, List.getElem?_cons_succ, List.getElem?_cons_zero]; rfl)) (by kernel_rfl) (by kernel_rfl) (by kernel_rfl) (by exact fun _ _ _ h => h) (Or.inr ⟨by rfl, rfl⟩) (by assumption) ?_
              try simp only [Act.put, List.setIfInBounds_toArray, List.set_cons_zero, List.set_cons_succ]
              refine wpAnyH_take (i := 10) (v := undef) (by (simp only [List.getElem?_toArray, List.getElem?_cons_succ, List.getElem?_cons_zero]; rfl)) (by kernel_rfl) (by kernel_rfl) (by kernel_rfl) (by exact fun _ _ _ h => h) (Or.inr ⟨by rfl, rfl⟩) (by assumption) ?_
              try simp only [Act.put, List.setIfInBounds_toArray, List.set_cons_zero, List.set_cons_succ]
              refine wpAnyH_take (i := 11) (v := undef) (by (simp only [List.getElem?_toArray, List.getElem?_cons_succ, List.getElem?_cons_zero]; rfl)) (by kernel_rfl) (by kernel_rfl) (by kernel_rfl) (by exact fun _ _ _ h => h) (Or.inr ⟨by rfl, rfl⟩) (by assumption) ?_
              try simp only [Act.put, List.setIfInBounds_toArray, List.set_cons_zero, List.set_cons_succ]
              refine wpAnyH_take (i := 12) (v := undef) (by (simp only [List.getElem?_toArray, List.getElem?_cons_succ, List.getElem?_cons_zero]; rfl)) (by kernel_rfl) (by kernel_rfl) (by kernel_rfl) (by exact fun _ _ _ h => h) (Or.inr ⟨by rfl, rfl⟩) (by assumption) ?_
              try simp only [Act.put, List.setIfInBounds_toArray, List.set_cons_zero, List.set_cons_succ]
              refine wpAnyH_take (i := 13) (v := undef) (by (simp only [List.getElem?_toArray, List.getElem?_cons_succ, List.getElem?_cons_zero]; rfl)) (by kernel_rfl) (by kernel_rfl) (by kernel_rfl) (by exact fun _ _ _ h => h) (Or.inr ⟨by rfl, rfl⟩) (by assumption) ?_
              try simp only [Act.put, List.setIfInBounds_toArray, List.set_cons_zero, List.set_cons_succ]
              refine wpAnyH_take (i := 14) (v := undef) (by (simp only [List.getElem?_toArray, List.getElem?_cons_succ, List.getElem?_cons_zero]; rfl)) (by kernel_rfl) (by kernel_rfl) (by kernel_rfl) (by exact fun _ _ _ h => h) (Or.inr ⟨by rfl, rfl⟩) (by assumption) ?_
              try simp only [Act.put, List.setIfInBounds_toArray, List.set_cons_zero, List.set_cons_succ]
              refine wpAnyH_take (i := 15) (v := undef) (by (simp only [List.getElem?_toArray, List.getElem?_cons_succ, List.getElem?_cons_zero]; rfl)) (by kernel_rfl) (by kernel_rfl) (by kernel_rfl) (by exact fun _ _ _ h => h) (Or.inr ⟨by rfl, rfl⟩) (by assumption) ?_
              try simp only [Act.put, List.setIfInBounds_toArray, List.set_cons_zero, List.set_cons_succ]
              refine wpAnyH_take (i := 16) (v := undef) (by (simp only [List.getElem?_toArray, List.getElem?_cons_succ, List.getElem?_cons_zero]; rfl)) (by kernel_rfl) (by kernel_rfl) (by kernel_rfl) (by exact fun _ _ _ h => h) (Or.inr ⟨by rfl, rfl⟩) (by assumption) ?_
              try simp only [Act.put, List.setIfInBounds_toArray, List.set_cons_zero, List.set_cons_succ]
              refine wpAnyH_take (i := 17) (v := undef) (by (simp only [List.getElem?_toArray, List.getElem?_cons_succ, List.getElem?_cons_zero]; rfl)) (by kernel_rfl) (by kernel_rfl) (by kernel_rfl) (by exact fun _ _ _ h => h) (Or.inr ⟨by rfl, rfl⟩) (by assumption) ?_
              try simp only [Act.put, List.setIfInBounds_toArray, List.set_cons_zero, List.set_cons_succ]
              refine wpAnyH_take (i := 18) (v := ?r9_vv18) (by (simp only [List.getElem?_toArray, List.getElem?_cons_succ, List.getElem?_cons_zero]; rfl)) (by kernel_rfl) (by kernel_rfl) (by kernel_rfl) (by exact fun _ _ _ h => h) (Or.inl ⟨by rfl, ?r9_hy18⟩) (by assumption) ?r9_rest18
              case r9_hy18 => intro w hSw; (try dsimp only at hSw); (go_simp <;> (with_reducible rfl))
              try simp only [Act.put, List.setIfInBounds_toArray, List.set_cons_zero, List.set_cons_succ]
              refine wpAnyH_done (by kernel_rfl) ?_ _
              go_wp2_with fail
              go_ret
              exact ⟨ret_bool (by rw [hE2.out, not_all hlen hgu.out]), ext_trans HB.out (ext_trans HBa.out (And.left (b := _) (by assumption)))⟩
            · rw [hp] at hgu qp
              clear hp
              go_wp2_with fail
              generalize w9.alloc (.cells #[.int .i8 p.x, .int .i8 p.y] 98) = W2 at *
              have HS := Lib.hid (VgS.first hl HK2.out KP.out hb9' d0.out d1.out)
              refine wp_region_held_drew (S := (VgS W2 W.heap.size w9.heap.size b2 o2 w h hs (.slice (some ⟨b2, o2, none⟩) gl.length cap) p p)) (by kernel_rfl) ?r10_hS0 (fun hHeld => ?r10_rest)
              case r10_hS0 => (try dsimp only); first | assumption | exact HS.out _ (kp0 _) | exact HS.out _ (Below.refl _ _) | exact HS.out _ (kp1 (And.left (b := _) (by assumption))) | exact HS.out _ (ext_trans (And.left (b := _) (by assumption)) (by assumption))
              refine wpAnyH_take (i := 0) (v := ?r10_vv0) (by (simp only [List.getElem?_toArray, List.getElem?_cons_succ, List.getElem?_cons_zero]; rfl)) (by kernel_rfl) (by kernel_rfl) (by kernel_rfl) (by exact fun _ _ _ h => h) (Or.inl ⟨by rfl, ?r10_hy0⟩) (by assumption) ?r10_rest0
              case r10_hy0 => intro w hSw; (try dsimp only at hSw); refine (exec_load rfl rfl hSw.2.1).trans ?_; with_reducible rfl
              try simp only [Act.put, List.setIfInBounds_toArray, List.set_cons_zero, List.set_cons_succ]
              refine wpAnyH_take (i := 1) (v := ?r10_vv1) (by (simp only [List.getElem?_toArray, List.getElem?_cons_succ, List.getElem?_cons_zero]; rfl)) (by kernel_rfl) (by kernel_rfl) (by kernel_rfl) (by exact fun _ _ _ h => h) (Or.inl ⟨by rfl, ?r10_hy1⟩) (by assumption) ?r10_rest1
              case r10_hy1 => intro w hSw; (try dsimp only at hSw); (go_simp <;> (with_reducible rfl))
              try simp only [Act.put, List.setIfInBounds_toArray, List.set_cons_zero, List.set_cons_succ]
              refine wpAnyH_ready (rs := [2]) (by kernel_rfl) (by simp) ?_
              refine AllReadyH.cons (by (simp only [List.getElem?_toArray, List.getElem?_cons_succ, List.getElem?_cons_zero]; rfl)) (fun K hK => ?_) AllReadyH.nil
              go_simp
              (go_at_call 96; with_reducible refine (qp.out _).mono ?_; rintro e w8 ⟨rfl, hb8⟩)
              try go_wp2_with fail
              refine hK.out _ _ ?r10_hS2 (fun hHeld => ?r10_r2)
              case r10_hS2 => (try dsimp only); first | assumption | exact HS.out _ (kp0 _) | exact HS.out _ (Below.refl _ _) | exact HS.out _ (kp1 (And.left (b := _) (by assumption))) | exact HS.out _ (ext_trans (And.left (b := _) (by assumption)) (by assumption))
              clear hK K
              try simp only [Act.put, List.setIfInBounds_toArray, List.set_cons_zero, List.set_cons_succ]
              refine wpAnyH_take (i := 3) (v := ?r10_vv3) (by (simp only [List.getElem?_toArray, List.getElem?_cons_succ, List.getElem?_cons_zero]; rfl)) (by kernel_rfl) (by kernel_rfl) (by kernel_rfl) (by exact fun _ _ _ h => h) (Or.inl ⟨by rfl, ?r10_hy3⟩) (by assumption) ?r10_rest3
              case r10_hy3 => intro w hSw; (try dsimp only at hSw); (go_simp <;> (with_reducible rfl))
              try simp only [Act.put, List.setIfInBounds_toArray, List.set_cons_zero, List.set_cons_succ]
              refine wpAnyH_take (i := 4) (v := ?r10_vv4) (by (simp only [List.getElem?_toArray, List.getElem?_cons_succ, List.getElem?_cons_zero]; rfl)) (by kernel_rfl) (by kernel_rfl) (by kernel_rfl) (by exact fun _ _ _ h => h) (Or.inl ⟨by rfl, ?r10_hy4⟩) (by assumption) ?r10_rest4
              case r10_hy4 => intro w hSw; (try dsimp only at hSw); (go_simp <;> (with_reducible rfl))
              try simp only [Act.put, List.setIfInBounds_toArray, List.set_cons_zero, List.set_cons_succ]
              refine wpAnyH_take (i := 5) (v := ?r10_vv5) (by (simp only [List.getElem?_toArray, List.getElem?_cons_succ, List.getElem?_cons_zero]; rfl)) (by kernel_rfl) (by kernel_rfl) (by kernel_rfl) (by exact fun _ _ _ h => h) (Or.inl ⟨by rfl, ?r10_hy5⟩) (by assumption) ?r10_rest5
              case r10_hy5 => intro w hSw; (try dsimp only at hSw); (go_simp <;> (with_reducible rfl))
              try simp only [Act.put, List.setIfInBounds_toArray, List.set_cons_zero, List.set_cons_succ]
              refine wpAnyH_take (i := 6) (v := ?r10_vv6) (by (simp only [List.getElem?_toArray, List.getElem?_cons_succ, List.getElem?_cons_zero]; rfl)) (by kernel_rfl) (by kernel_rfl) (by kernel_rfl) (by exact fun _ _ _ h => h) (Or.inl ⟨by rfl, ?r10_hy6⟩) (by assumption) ?r10_rest6
              case r10_hy6 => intro w hSw; (try dsimp only at hSw); (go_simp <;> (with_reducible rfl))
              try simp only [Act.put, List.setIfInBounds_toArray, List.set_cons_zero, List.set_cons_succ]
              refine wpAnyH_take (i := 7) (v := ?r10_vv7) (by (simp only [List.getElem?_toArray, List.getElem?_cons_succ, List.getElem?_cons_zero]; rfl)) (by kernel_rfl) (by kernel_rfl) (by kernel_rfl) (by exact fun _ _ _ h => h) (Or.inl ⟨by rfl, ?r10_hy7⟩) (by assumption) ?r10_rest7
              case r10_hy7 => intro w hSw; (try dsimp only at hSw); (go_simp <;> (with_reducible rfl))
              try simp only [Act.put, List.setIfInBounds_toArray, List.set_cons_zero, List.set_cons_succ]
              refine wpAnyH_take (i := 8) (v := undef) (by (simp only [List.getElem?_toArray, List.getElem?_cons_succ, List.getElem?_cons_zero]; rfl)) (by kernel_rfl) (by kernel_rfl) (by kernel_rfl) (by exact fun _ _ _ h => h) (Or.inr ⟨by rfl, rfl⟩) (by assumption) ?_
              try simp only [Act.put, List.setIfInBounds_toArray, List.set_cons_zero, List.set_cons_succ]
              refine wpAnyH_take (i := 9) (v := undef) (by (simp only [List.getElem?_toArray, List.getElem?_cons_succ, List.getElem?_cons_zero]; rfl)) (by kernel_rfl) (by kernel_rfl) (by kernel_rfl) (by exact fun _ _ _ h => h) (Or.inr ⟨by rfl, rfl⟩) (by assumption) ?_
              try simp only [Act.put, List.setIfInBounds_toArray, List.set_cons_zero, List.set_cons_succ]
              refine wpAnyH_take (i := 10) (v := undef) (by (simp only [List.getElem?_toArray, List.getElem?_cons_succ, List.getElem?_cons_zero]; rfl)) (by kernel_rfl) (by kernel_rfl) (by kernel_rfl) (by exact fun _ _ _ h => h) (Or.inr ⟨by rfl, rfl⟩) (by assumption) ?_
              try simp only [Act.put, List.setIfInBounds_toArray, List.set_cons_zero, List.set_cons_succ]
              refine wpAnyH_take (i := 11) (v := undef) (by (simp only [List.getElem?_toArray, List.getElem?_cons_succ, List.getElem?_cons_zero]; rfl)) (by kernel_rfl) (by kernel_rfl) (by kernel_rfl) (by exact fun _ _ _ h => h) (Or.inr ⟨by rfl, rfl⟩) (by assumption) ?_
              try simp only [Act.put, List.setIfInBounds_toArray, List.set_cons_zero, List.set_cons_succ]
              refine wpAnyH_take (i := 12) (v := undef) (by (simp only [List.getElem?_toArray, List.getElem?_cons_succ, List.getElem?_cons_zero]; rfl)) (by kernel_rfl) (by kernel_rfl) (by kernel_rfl) (by exact fun _ _ _ h => h) (Or.inr ⟨by rfl, rfl⟩) (by assumption) ?_
              try simp only [Act.put, List.setIfInBounds_toArray, List.set_cons_zero, List.set_cons_succ]
              refine wpAnyH_take (i := 13) (v := undef) (by (simp only [List.getElem?_toArray, List.getElem?_cons_succ, List.getElem?_cons_zero]; rfl)) (by kernel_rfl) (by kernel_rfl) (by kernel_rfl) (by exact fun _ _ _ h => h) (Or.inr ⟨by rfl, rfl⟩) (by assumption) ?_
              try simp only [Act.put, List.setIfInBounds_toArray, List.set_cons_zero, List.set_cons_succ]
              refine wpAnyH_take (i := 14) (v := undef) (by (simp only [List.getElem?_toArray, List.getElem?_cons_succ, List.getElem?_cons_zero]; rfl)) (by kernel_rfl) (by kernel_rfl) (by kernel_rfl) (by exact fun _ _ _ h => h) (Or.inr ⟨by rfl, rfl⟩) (by assumption) ?_
              try simp only [Act.put, List.setIfInBounds_toArray, List.set_cons_zero, List.set_cons_succ]
              refine wpAnyH_take (i := 15) (v := undef) (by (simp only [List.getElem?_toArray, List.getElem?_cons_succ, List.getElem?_cons_zero]; rfl)) (by kernel_rfl) (by kernel_rfl) (by kernel_rfl) (by exact fun _ _ _ h => h) (Or.inr ⟨by rfl, rfl⟩) (by assumption) ?_
              try simp only [Act.put, List.setIfInBounds_toArray, List.set_cons_zero, List.set_cons_succ]
              refine wpAnyH_take (i := 16) (v := undef) (by (simp only [List.getElem?_toArray, List.getElem?_cons_succ, List.getElem?_cons_zero]; rfl)) (by kernel_rfl) (by kernel_rfl) (by kernel_rfl) (by exact fun _ _ _ h => h) (Or.inr ⟨by rfl, rfl⟩) (by assumption) ?_
              try simp only [Act.put, List.setIfInBounds_toArray, List.set_cons_zero, List.set_cons_succ]
              refine wpAnyH_take (i := 17) (v := ?r10_vv17) (by (simp only [List.getElem?_toArray, List.getElem?_cons_succ, List.getElem?_cons_zero]; rfl)) (by kernel_rfl) (by kernel_rfl) (by kernel_rfl) (by exact fun _ _ _ h => h) (Or.inl ⟨by rfl, ?r10_hy17⟩) (by assumption) ?r10_rest17
              case r10_hy17 => intro w hSw; (try dsimp only at hSw); (go_simp <;> (with_reducible rfl))
              try simp only [Act.put, List.setIfInBounds_toArray, List.set_cons_zero, List.set_cons_succ]
              refine wpAnyH_take (i := 18) (v := ?r10_vv18) (by (simp only [List.getElem?_toArray, List.getElem?_cons_succ, List.getElem?_cons_zero]; rfl)) (by kernel_rfl) (by kernel_rfl) (by kernel_rfl) (by exact fun _ _ _ h => h) (Or.inl ⟨by rfl, ?r10_hy18⟩) (by assumption) ?r10_rest18
              case r10_hy18 => intro w hSw; (try dsimp only at hSw); (go_simp <;> (with_reducible rfl))
              try simp only [Act.put, List.setIfInBounds_toArray, List.set_cons_zero, List.set_cons_succ]
              refine wpAnyH_done (by kernel_rfl) ?_ _
              go_wp2_with fail
              go_roundw
              case rel => exact ⟨0 + 1, by omega, by go_num, fun i hi => by rcases Nat.lt_or_ge i (0) with h | h; exact HF3.out i h; obtain rfl : i = 0 := (by omega); exact hgu.out, ext_trans HBa.out (And.left (b := _) (by assumption))⟩
              case measure => first | (simp [intOf]; done) | (simp [intOf]; omega)
          · obtain ⟨m, rfl⟩ : ∃ m, j = m + 1 := ⟨j - 1, by omega⟩
            have hlm : m < gl.length := by omega
            obtain ⟨b3, o3, he3, -, e0, e1⟩ := hcell m hlm
            obtain ⟨rfl, rfl⟩ : b2 = b3 ∧ o2 = o3 := by
              injection he3 with e
              injection e with e1 e2
              exact ⟨e1, e2⟩
            have e0 := (HBW.out.cell (p := ⟨b2, _, none⟩) hbb).trans e0
            have e1 := (HBW.out.cell (p := ⟨b2, _, none⟩) hbb).trans e1
            clear hcell he3
            have hgu := Lib.hid (gulB_s (w := w) (h := h) m gl[m + 1] gl[m] (List.getElem?_eq_getElem hlt2) (List.getElem?_eq_getElem hlm))
            have hlen := hlt2
            have hqc := befB_cmp gl[m] gl[m + 1]
            generalize gl[m + 1] = p at *
            generalize gl[m] = q at *
            have qp := Lib.hid (show ∀ W', Calls Tryd.prog 96 #[.agg (gdA w h hs (.slice (some ⟨b2, o2, none⟩) gl.length cap)), .agg #[.int .i8 p.x, .int .i8 p.y]] W' _ from fun W' => isPoint_calls w h w0 w1 h0 h1 hs hl _ p hpok W')
            have HK2 := Lib.hid ((K.out.ext HB3.out).alloc (.cells #[.int .i8 p.x, .int .i8 p.y] 98))
            have KP := Lib.hid (Bk.new w9 98 #[.int .i8 p.x, .int .i8 p.y] w9.heap.size rfl)
            have HBa := Lib.hid (HB3.out.alloc HB3.out.size (.cells #[.int .i8 p.x, .int .i8 p.y] 98))
            have hb9 : b2 < w9.heap.size := Nat.lt_of_lt_of_le hbb HBW.out.size
            have d0 := Lib.hid ((((Below.refl w9.heap.size w9).alloc (Nat.le_refl _) (.cells #[.int .i8 p.x, .int .i8 p.y] 98)).cell (p := ⟨b2, _, none⟩) hb9).trans e0)
            have d1 := Lib.hid ((((Below.refl w9.heap.size w9).alloc (Nat.le_refl _) (.cells #[.int .i8 p.x, .int .i8 p.y] 98)).cell (p := ⟨b2, _, none⟩) hb9).trans e1)
            have hb9' : b2 < (w9.alloc (.cells #[.int .i8 p.x, .int .i8 p.y] 98)).heap.size := by simp; omega
            have hd0 : decide ((0 : Int) < ((m + 1 : Nat) : Int)) = true := by rw [decide_eq_true_eq]; omega
            have hm1 : ((m + 1 : Nat) : Int) - 1 = (m : Int) := by omega
            have hm2 : IntKind.i64.wrap (m : Int) = (m : Int) := wrapIn _ (by omega) (by omega)
            have hm3 : (0 : Int) ≤ (m : Int) := by omega
            have hm4 : (m : Int) < (gl.length : Int) := by omega
            have qc := Lib.hid (show ∀ W', Calls Tryd.prog 97 #[.agg #[.int .i8 q.x, .int .i8 q.y], .agg #[.int .i8 p.x, .int .i8 p.y]] W' _ from fun W' => cmpCells_calls q p W')
            generalize cmpC q p = cm at *
            cases hp : gpB w h p
            · rw [hp, Bool.false_and] at hgu
              rw [hp] at qp
              clear hp hqc
              go_wp2_with fail
              generalize w9.alloc (.cells #[.int .i8 p.x, .int .i8 p.y] 98) = W2 at *
              have HS := Lib.hid (VgS.first hl HK2.out KP.out hb9' d0.out d1.out)
              refine wp_region_held_drew (S := (VgS W2 W.heap.size w9.heap.size b2 (o2 + m * 2) w h hs (.slice (some ⟨b2, o2, none⟩) gl.length cap) p q)) (by kernel_rfl) ?r11_hS0 (fun hHeld => ?r11_rest)
              case r11_hS0 => (try dsimp only); first | assumption | exact HS.out _ (kp0 _) | exact HS.out _ (Below.refl _ _) | exact HS.out _ (kp1 (And.left (b := _) (by assumption))) | exact HS.out _ (ext_trans (And.left (b := _) (by assumption)) (by assumption))
              refine wpAnyH_take (i := 0) (v := ?r11_vv0) (by (simp only [List.getElem?_toArray, List.getElem?_cons_succ, List.getElem?_cons_zero]; rfl)) (by kernel_rfl) (by kernel_rfl) (by kernel_rfl) (by exact fun _ _ _ h => h) (Or.inl ⟨by rfl, ?r11_hy0⟩) (by assumption) ?r11_rest0
              case r11_hy0 => intro w hSw; (try dsimp only at hSw); refine (exec_load rfl rfl hSw.2.1).trans ?_; with_reducible rfl
              try simp only [Act.put, List.setIfInBounds_toArray, List.set_cons_zero, List.set_cons_succ]
              refine wpAnyH_take (i := 1) (v := ?r11_vv1) (by (simp only [List.getElem?_toArray, List.getElem?_cons_succ, List.getElem?_cons_zero]; rfl)) (by kernel_rfl) (by kernel_rfl) (by kernel_rfl) (by exact fun _ _ _ h => h) (Or.inl ⟨by rfl, ?r11_hy1⟩) (by assumption) ?r11_rest1
              case r11_hy1 => intro w hSw; (try dsimp only at hSw); (go_simp <;> (with_reducible rfl))
              try simp only [Act.put, List.setIfInBounds_toArray, List.set_cons_zero, List.set_cons_succ]
              refine wpAnyH_ready (rs := [2]) (by kernel_rfl) (by simp) ?_
              refine AllReadyH.cons (by (simp only [List.getElem?_toArray, List.getElem?_cons_succ, List.getElem?_cons_zero]; rfl)) (fun K hK => ?_) AllReadyH.nil
              go_simp
              (go_at_call 96; with_reducible refine (qp.out _).mono ?_; rintro e w8 ⟨rfl, hb8⟩)
              try go_wp2_with fail
              refine hK.out _ _ ?r11_hS2 (fun hHeld => ?r11_r2)
              case r11_hS2 => (try dsimp only); first | assumption | exact HS.out _ (kp0 _) | exact HS.out _ (Below.refl _ _) | exact HS.out _ (kp1 (And.left (b := _) (by assumption))) | exact HS.out _ (ext_trans (And.left (b := _) (by assumption)) (by assumption))
              clear hK K
              try simp only [Act.put, List.setIfInBounds_toArray, List.set_cons_zero, List.set_cons_succ]
              refine wpAnyH_take (i := 3) (v := ?r11_vv3) (by (simp only [List.getElem?_toArray, List.getElem?_cons_succ, List.getElem?_cons_zero]; rfl)) (by kernel_rfl) (by kernel_rfl) (by kernel_rfl) (by exact fun _ _ _ h => h) (Or.inl ⟨by rfl, ?r11_hy3⟩) (by assumption) ?r11_rest3
              case r11_hy3 => intro w hSw; (try dsimp only at hSw); (go_simp <;> (with_reducible rfl))
              try simp only [Act.put, List.setIfInBounds_toArray, List.set_cons_zero, List.set_cons_succ]
              refine wpAnyH_take (i := 4) (v := ?r11_vv4) (by (simp only [List.getElem?_toArray, List.getElem?_cons_succ, List.getElem?_cons_zero]; rfl)) (by kernel_rfl) (by kernel_rfl) (by kernel_rfl) (by exact fun _ _ _ h => h) (Or.inl ⟨by rfl, ?r11_hy4⟩) (by assumption) ?r11_rest4
              case r11_hy4 => intro w hSw; (try dsimp only at hSw); (go_simp <;> (with_reducible rfl))
              try simp only [Act.put, List.setIfInBounds_toArray, List.set_cons_zero, List.set_cons_succ]
              refine wpAnyH_take (i := 5) (v := undef) (by (simp only [List.getElem?_toArray, List.getElem?_cons_succ, List.getElem?_cons_zero]; rfl)) (by kernel_rfl) (by kernel_rfl) (by kernel_rfl) (by exact fun _ _ _ h => h) (Or.inr ⟨by rfl, rfl⟩) (by assumption) ?_
              try simp only [Act.put, List.setIfInBounds_toArray, List.set_cons_zero, List.set_cons_succ]
              refine wpAnyH_take (i := 6) (v := undef) (by (simp only [List.getElem?_toArray, List.getElem?_cons_succ, List.getElem?_cons_zero]; rfl)) (by kernel_rfl) (by kernel_rfl) (by kernel_rfl) (by exact fun _ _ _ h => h) (Or.inr ⟨by rfl, rfl⟩) (by assumption) ?_
              try simp only [Act.put, List.setIfInBounds_toArray, List.set_cons_zero, List.set_cons_succ]
              refine wpAnyH_take (i := 7) (v := undef) (by (simp only [List.getElem?_toArray, List.getElem?_cons_succ, List.getElem?_cons_zero]; rfl)) (by kernel_rfl) (by kernel_rfl) (by kernel_rfl) (by exact fun _ _ _ h => h) (Or.inr ⟨by rfl, rfl⟩) (by assumption) ?_
              try simp only [Act.put, List.setIfInBounds_toArray, List.set_cons_zero, List.set_cons_succ]
              refine wpAnyH_take (i := 8) (v := undef) (by (simp only [List.getElem?_toArray, List.getElem?_cons_succ, List.getElem?_cons_zero]; rfl)) (by kernel_rfl) (by kernel_rfl) (by kernel_rfl) (by exact fun _ _ _ h => h) (Or.inr ⟨by rfl, rfl⟩) (by assumption) ?_
              try simp only [Act.put, List.setIfInBounds_toArray, List.set_cons_zero, List.set_cons_succ]
              refine wpAnyH_take (i := 9) (v := undef) (by (simp only [List.getElem?_toArray, List.getElem?_cons_succ, List.getElem?_cons_zero]; rfl)) (by kernel_rfl) (by kernel_rfl) (by kernel_rfl) (by exact fun _ _ _ h => h) (Or.inr ⟨by rfl, rfl⟩) (by assumption) ?_
              try simp only [Act.put, List.setIfInBounds_toArray, List.set_cons_zero, List.set_cons_succ]
              refine wpAnyH_take (i := 10) (v := undef) (by (simp only [List.getElem?_toArray, List.getElem?_cons_succ, List.getElem?_cons_zero]; rfl)) (by kernel_rfl) (by kernel_rfl) (by kernel_rfl) (by exact fun _ _ _ h => h) (Or.inr ⟨by rfl, rfl⟩) (by assumption) ?_
              try simp only [Act.put, List.setIfInBounds_toArray, List.set_cons_zero, List.set_cons_succ]
              refine wpAnyH_take (i := 11) (v := undef) (by (simp only [List.getElem?_toArray, List.getElem?_cons_succ, List.getElem?_cons_zero]; rfl)) (by kernel_rfl) (by kernel_rfl) (by kernel_rfl) (by exact fun _ _ _ h => h) (Or.inr ⟨by rfl, rfl⟩) (by assumption) ?_
              try simp only [Act.put, List.setIfInBounds_toArray, List.set_cons_zero, List.set_cons_succ]
              refine wpAnyH_take (i := 12) (v := undef) (by (simp only [List.getElem?_toArray, List.getElem?_cons_succ, List.getElem?_cons_zero]; rfl)) (by kernel_rfl) (by kernel_rfl) (by kernel_rfl) (by exact fun _ _ _ h => h) (Or.inr ⟨by rfl, rfl⟩) (by assumption) ?_
              try simp only [Act.put, List.setIfInBounds_toArray, List.set_cons_zero, List.set_cons_succ]
              refine wpAnyH_take (i := 13) (v := undef) (by (simp only [List.getElem?_toArray, List.getElem?_cons_succ, List.getElem?_cons_zero]; rfl)) (by kernel_rfl) (by kernel_rfl) (by kernel_rfl) (by exact fun _ _ _ h => h) (Or.inr ⟨by rfl, rfl⟩) (by assumption) ?_
              try simp only [Act.put, List.setIfInBounds_toArray, List.set_cons_zero, List.set_cons_succ]
              refine wpAnyH_take (i := 14) (v := undef) (by (simp only [List.getElem?_toArray, List.getElem?_cons_succ, List.getElem?_cons_zero]; rfl)) (by kernel_rfl) (by kernel_rfl) (by kernel_rfl) (by exact fun _ _ _ h => h) (Or.inr ⟨by rfl, rfl⟩) (by assumption) ?_
              try simp only [Act.put, List.setIfInBounds_toArray, List.set_cons_zero, List.set_cons_succ]
              refine wpAnyH_take (i := 15) (v := undef) (by (simp only [List.getElem?_toArray, List.getElem?_cons_succ, List.getElem?_cons_zero]; rfl)) (by kernel_rfl) (by kernel_rfl) (by kernel_rfl) (by exact fun _ _ _ h => h) (Or.inr ⟨by rfl, rfl⟩) (by assumption) ?_
              try simp only [Act.put, List.setIfInBounds_toArray, List.set_cons_zero, List.set_cons_succ]
              refine wpAnyH_take (i := 16) (v := undef) (by (simp only [List.getElem?_toArray, List.getElem?_cons_succ, List.getElem?_cons_zero]; rfl)) (by kernel_rfl) (by kernel_rfl) (by kernel_rfl) (by exact fun _ _ _ h => h) (Or.inr ⟨by rfl, rfl⟩) (by assumption) ?_
              try simp only [Act.put, List.setIfInBounds_toArray, List.set_cons_zero, List.set_cons_succ]
              refine wpAnyH_take (i := 17) (v := undef) (by (simp only [List.getElem?_toArray, List.getElem?_cons_succ, List.getElem?_cons_zero]; rfl)) (by kernel_rfl) (by kernel_rfl) (by kernel_rfl) (by exact fun _ _ _ h => h) (Or.inr ⟨by rfl, rfl⟩) (by assumption) ?_
              try simp only [Act.put, List.setIfInBounds_toArray, List.set_cons_zero, List.set_cons_succ]
              refine wpAnyH_take (i := 18) (v := ?r11_vv18) (by (simp only [List.getElem?_toArray, List.getElem?_cons_succ, List.getElem?_cons_zero]; rfl)) (by kernel_rfl) (by kernel_rfl) (by kernel_rfl) (by exact fun _ _ _ h => h) (Or.inl ⟨by rfl, ?r11_hy18⟩) (by assumption) ?r11_rest18
              case r11_hy18 => intro w hSw; (try dsimp only at hSw); (go_simp <;> (with_reducible rfl))
              try simp only [Act.put, List.setIfInBounds_toArray, List.set_cons_zero, List.set_cons_succ]
              refine wpAnyH_done (by kernel_rfl) ?_ _
              go_wp2_with fail
              go_ret
              exact ⟨ret_bool (by rw [hE2.out, not_all hlen hgu.out]), ext_trans HB.out (ext_trans HBa.out (And.left (b := _) (by assumption)))⟩
            · rw [hp, Bool.true_and] at hgu
              rw [hp] at qp
              clear hp
              cases hbf : befB q p
              · rw [hbf] at hgu hqc
                clear hbf
                simp only [Bool.not_true, Bool.not_false] at hqc
                go_wp2_with fail
                generalize w9.alloc (.cells #[.int .i8 p.x, .int .i8 p.y] 98) = W2 at *
                have HS := Lib.hid (VgS.first hl HK2.out KP.out hb9' d0.out d1.out)
                refine wp_region_held_drew (S := (VgS W2 W.heap.size w9.heap.size b2 (o2 + m * 2) w h hs (.slice (some ⟨b2, o2, none⟩) gl.length cap) p q)) (by kernel_rfl) ?r12_hS0 (fun hHeld => ?r12_rest)
                case r12_hS0 => (try dsimp only); first | assumption | exact HS.out _ (kp0 _) | exact HS.out _ (Below.refl _ _) | exact HS.out _ (kp1 (And.left (b := _) (by assumption))) | exact HS.out _ (ext_trans (And.left (b := _) (by assumption)) (by assumption))
                refine wpAnyH_take (i := 0) (v := ?r12_vv0) (by (simp only [List.getElem?_toArray, List.getElem?_cons_succ, List.getElem?_cons_zero]; rfl)) (by kernel_rfl) (by kernel_rfl) (by kernel_rfl) (by exact fun _ _ _ h => h) (Or.inl ⟨by rfl, ?r12_hy0⟩) (by assumption) ?r12_rest0
                case r12_hy0 => intro w hSw; (try dsimp only at hSw); refine (exec_load rfl rfl hSw.2.1).trans ?_; with_reducible rfl
                try simp only [Act.put, List.setIfInBounds_toArray, List.set_cons_zero, List.set_cons_succ]
                refine wpAnyH_take (i := 1) (v := ?r12_vv1) (by (simp only [List.getElem?_toArray, List.getElem?_cons_succ, List.getElem?_cons_zero]; rfl)) (by kernel_rfl) (by kernel_rfl) (by kernel_rfl) (by exact fun _ _ _ h => h) (Or.inl ⟨by rfl, ?r12_hy1⟩) (by assumption) ?r12_rest1
                case r12_hy1 => intro w hSw; (try dsimp only at hSw); (go_simp <;> (with_reducible rfl))
                try simp only [Act.put, List.setIfInBounds_toArray, List.set_cons_zero, List.set_cons_succ]
                refine wpAnyH_ready (rs := [2]) (by kernel_rfl) (by simp) ?_
                refine AllReadyH.cons (by (simp only [List.getElem?_toArray, List.getElem?_cons_succ, List.getElem?_cons_zero]; rfl)) (fun K hK => ?_) AllReadyH.nil
                go_simp
                (go_at_call 96; with_reducible refine (qp.out _).mono ?_; rintro e w8 ⟨rfl, hb8⟩)
                try go_wp2_with fail
                refine hK.out _ _ ?r12_hS2 (fun hHeld => ?r12_r2)
                case r12_hS2 => (try dsimp only); first | assumption | exact HS.out _ (kp0 _) | exact HS.out _ (Below.refl _ _) | exact HS.out _ (kp1 (And.left (b := _) (by assumption))) | exact HS.out _ (ext_trans (And.left (b := _) (by assumption)) (by assumption))
                clear hK K
                try simp only [Act.put, List.setIfInBounds_toArray, List.set_cons_zero, List.set_cons_succ]
                refine wpAnyH_take (i := 3) (v := ?r12_vv3) (by (simp only [List.getElem?_toArray, List.getElem?_cons_succ, List.getElem?_cons_zero]; rfl)) (by kernel_rfl) (by kernel_rfl) (by kernel_rfl) (by exact fun _ _ _ h => h) (Or.inl ⟨by rfl, ?r12_hy3⟩) (by assumption) ?r12_rest3
                case r12_hy3 => intro w hSw; (try dsimp only at hSw); (go_simp <;> (with_reducible rfl))
                try simp only [Act.put, List.setIfInBounds_toArray, List.set_cons_zero, List.set_cons_succ]
                refine wpAnyH_take (i := 4) (v := ?r12_vv4) (by (simp only [List.getElem?_toArray, List.getElem?_cons_succ, List.getElem?_cons_zero]; rfl)) (by kernel_rfl) (by kernel_rfl) (by kernel_rfl) (by exact fun _ _ _ h => h) (Or.inl ⟨by rfl, ?r12_hy4⟩) (by assumption) ?r12_rest4
                case r12_hy4 => intro w hSw; (try dsimp only at hSw); (go_simp <;> (with_reducible rfl))
                try simp only [Act.put, List.setIfInBounds_toArray, List.set_cons_zero, List.set_cons_succ]
                refine wpAnyH_take (i := 5) (v := ?r12_vv5) (by (simp only [List.getElem?_toArray, List.getElem?_cons_succ, List.getElem?_cons_zero]; rfl)) (by kernel_rfl) (by kernel_rfl) (by kernel_rfl) (by exact fun _ _ _ h => h) (Or.inl ⟨by rfl, ?r12_hy5⟩) (by assumption) ?r12_rest5
                case r12_hy5 => intro w hSw; (try dsimp only at hSw); (go_simp <;> (with_reducible rfl))
                try simp only [Act.put, List.setIfInBounds_toArray, List.set_cons_zero, List.set_cons_succ]
                refine wpAnyH_take (i := 6) (v := ?r12_vv6) (by (simp only [List.getElem?_toArray, List.getElem?_cons_succ, List.getElem?_cons_zero]; rfl)) (by kernel_rfl) (by kernel_rfl) (by kernel_rfl) (by exact fun _ _ _ h => h) (Or.inl ⟨by rfl, ?r12_hy6⟩) (by assumption) ?r12_rest6
                case r12_hy6 => intro w hSw; (try dsimp only at hSw); (go_simp <;> (with_reducible rfl))
                try simp only [Act.put, List.setIfInBounds_toArray, List.set_cons_zero, List.set_cons_succ]
                refine wpAnyH_take (i := 7) (v := ?r12_vv7) (by (simp only [List.getElem?_toArray, List.getElem?_cons_succ, List.getElem?_cons_zero]; rfl)) (by kernel_rfl) (by kernel_rfl) (by kernel_rfl) (by exact fun _ _ _ h => h) (Or.inl ⟨by rfl, ?r12_hy7⟩) (by assumption) ?r12_rest7
                case r12_hy7 => intro w hSw; (try dsimp only at hSw); (go_simp <;> (with_reducible rfl))
                try simp only [Act.put, List.setIfInBounds_toArray, List.set_cons_zero, List.set_cons_succ]
                refine wpAnyH_take (i := 8) (v := ?r12_vv8) (by (simp only [List.getElem?_toArray, List.getElem?_cons_succ, List.getElem?_cons_zero]; rfl)) (by kernel_rfl) (by kernel_rfl) (by kernel_rfl) (by exact fun _ _ _ h => h) (Or.inl ⟨by rfl, ?r12_hy8⟩) (by assumption) ?r12_rest8
                case r12_hy8 => intro w hSw; (try dsimp only at hSw); (go_simp <;> (with_reducible rfl))
                try simp only [Act.put, List.setIfInBounds_toArray, List.set_cons_zero, List.set_cons_succ]
                refine wpAnyH_take (i := 9) (v := ?r12_vv9) (by (simp only [List.getElem?_toArray, List.getElem?_cons_succ, List.getElem?_cons_zero]; rfl)) (by kernel_rfl) (by kernel_rfl) (by kernel_rfl) (by exact fun _ _ _ h => h) (Or.inl ⟨by rfl, ?r12_hy9⟩) (by assumption) ?r12_rest9
                case r12_hy9 => intro w hSw; (try dsimp only at hSw); (go_simp <;> (with_reducible rfl))
                try simp only [Act.put, List.setIfInBounds_toArray, List.set_cons_zero, List.set_cons_succ]
                refine wpAnyH_take (i := 10) (v := ?r12_vv10) (by (simp only [List.getElem?_toArray, List.getElem?_cons_succ, List.getElem?_cons_zero]; rfl)) (by kernel_rfl) (by kernel_rfl) (by kernel_rfl) (by exact fun _ _ _ h => h) (Or.inl ⟨by rfl, ?r12_hy10⟩) (by assumption) ?r12_rest10
                case r12_hy10 => intro w hSw; (try dsimp only at hSw); (go_simp <;> (with_reducible rfl))
                try simp only [Act.put, List.setIfInBounds_toArray, List.set_cons_zero, List.set_cons_succ]
                refine wpAnyH_take (i := 11) (v := ?r12_vv11) (by (simp only [List.getElem?_toArray, List.getElem?_cons_succ, List.getElem?_cons_zero]; rfl)) (by kernel_rfl) (by kernel_rfl) (by kernel_rfl) (by exact fun _ _ _ h => h) (Or.inl ⟨by rfl, ?r12_hy11⟩) (by assumption) ?r12_rest11
                case r12_hy11 => intro w hSw; (try dsimp only at hSw); (go_simp <;> (with_reducible rfl))
                try simp only [Act.put, List.setIfInBounds_toArray, List.set_cons_zero, List.set_cons_succ]
                refine wpAnyH_take (i := 12) (v := ?r12_vv12) (by (simp only [List.getElem?_toArray, List.getElem?_cons_succ, List.getElem?_cons_zero]; rfl)) (by kernel_rfl) (by kernel_rfl) (by kernel_rfl) (by exact fun _ _ _ h => h) (Or.inl ⟨by rfl, ?r12_hy12⟩) (by assumption) ?r12_rest12
                case r12_hy12 => intro w hSw; (try dsimp only at hSw); (go_simp <;> (with_reducible rfl))
                try simp only [Act.put, List.setIfInBounds_toArray, List.set_cons_zero, List.set_cons_succ]
                refine wpAnyH_take (i := 13) (v := ?r12_vv13) (by (simp only [List.getElem?_toArray, List.getElem?_cons_succ, List.getElem?_cons_zero]; rfl)) (by kernel_rfl) (by kernel_rfl) (by kernel_rfl) (by exact fun _ _ _ h => h) (Or.inl ⟨by rfl, ?r12_hy13⟩) (by assumption) ?r12_rest13
                case r12_hy13 => intro w hSw; (try dsimp only at hSw); (go_simp <;> (with_reducible rfl))
                try simp only [Act.put, List.setIfInBounds_toArray, List.set_cons_zero, List.set_cons_succ]
                refine wpAnyH_take (i := 14) (v := ?r12_vv14) (by (simp only [List.getElem?_toArray, List.getElem?_cons_succ, List.getElem?_cons_zero]; rfl)) (by kernel_rfl) (by kernel_rfl) (by kernel_rfl) (by exact fun _ _ _ h => h) (Or.inl ⟨by rfl, ?r12_hy14⟩) (by assumption) ?r12_rest14
                case r12_hy14 => intro w hSw; (try dsimp only at hSw); (go_simp <;> (with_reducible rfl))
                try simp only [Act.put, List.setIfInBounds_toArray, List.set_cons_zero, List.set_cons_succ]
                refine wpAnyH_ready (rs := [15]) (by kernel_rfl) (by simp) ?_
                refine AllReadyH.cons (by (simp only [List.getElem?_toArray, List.getElem?_cons_succ, List.getElem?_cons_zero]; rfl)) (fun K hK => ?_) AllReadyH.nil
                go_simp
                (go_at_call 97; with_reducible refine (qc.out _).mono ?_; rintro e w7 ⟨rfl, hb7⟩)
                try go_wp2_with fail
                refine hK.out _ _ ?r12_hS15 (fun hHeld => ?r12_r15)
                case r12_hS15 => (try dsimp only); first | assumption | exact HS.out _ (kp0 _) | exact HS.out _ (Below.refl _ _) | exact HS.out _ (kp1 (And.left (b := _) (by assumption))) | exact HS.out _ (ext_trans (And.left (b := _) (by assumption)) (by assumption))
                clear hK K
                try simp only [Act.put, List.setIfInBounds_toArray, List.set_cons_zero, List.set_cons_succ]
                refine wpAnyH_take (i := 16) (v := ?r12_vv16) (by (simp only [List.getElem?_toArray, List.getElem?_cons_succ, List.getElem?_cons_zero]; rfl)) (by kernel_rfl) (by kernel_rfl) (by kernel_rfl) (by exact fun _ _ _ h => h) (Or.inl ⟨by rfl, ?r12_hy16⟩) (by assumption) ?r12_rest16
                case r12_hy16 => intro w hSw; (try dsimp only at hSw); (go_simp <;> (with_reducible rfl))
                try simp only [Act.put, List.setIfInBounds_toArray, List.set_cons_zero, List.set_cons_succ]
                refine wpAnyH_take (i := 17) (v := ?r12_vv17) (by (simp only [List.getElem?_toArray, List.getElem?_cons_succ, List.getElem?_cons_zero]; rfl)) (by kernel_rfl) (by kernel_rfl) (by kernel_rfl) (by exact fun _ _ _ h => h) (Or.inl ⟨by rfl, ?r12_hy17⟩) (by assumption) ?r12_rest17
                case r12_hy17 => intro w hSw; (try dsimp only at hSw); (go_simp <;> (with_reducible rfl))
                try simp only [Act.put, List.setIfInBounds_toArray, List.set_cons_zero, List.set_cons_succ]
                refine wpAnyH_take (i := 18) (v := ?r12_vv18) (by (simp only [List.getElem?_toArray, List.getElem?_cons_succ, List.getElem?_cons_zero]; rfl)) (by kernel_rfl) (by kernel_rfl) (by kernel_rfl) (by exact fun _ _ _ h => h) (Or.inl ⟨by rfl, ?r12_hy18⟩) (by assumption) ?r12_rest18
                case r12_hy18 => intro w hSw; (try dsimp only at hSw); (go_simp <;> (with_reducible rfl))
                try simp only [Act.put, List.setIfInBounds_toArray, List.set_cons_zero, List.set_cons_succ]
                refine wpAnyH_done (by kernel_rfl) ?_ _
                go_wp2_with fail
                go_ret
                exact ⟨ret_bool (by rw [hE2.out, not_all hlen hgu.out]), ext_trans HB.out (ext_trans HBa.out (And.left (b := _) (by assumption)))⟩
              · rw [hbf] at hgu hqc
                clear hbf
                simp only [Bool.not_true, Bool.not_false] at hqc
                go_wp2_with fail
                generalize w9.alloc (.cells #[.int .i8 p.x, .int .i8 p.y] 98) = W2 at *
                have HS := Lib.hid (VgS.first hl HK2.out KP.out hb9' d0.out d1.out)
                refine wp_region_held_drew (S := (VgS W2 W.heap.size w9.heap.size b2 (o2 + m * 2) w h hs (.slice (some ⟨b2, o2, none⟩) gl.length cap) p q)) (by kernel_rfl) ?r13_hS0 (fun hHeld => ?r13_rest)
                case r13_hS0 => (try dsimp only); first | assumption | exact HS.out _ (kp0 _) | exact HS.out _ (Below.refl _ _) | exact HS.out _ (kp1 (And.left (b := _) (by assumption))) | exact HS.out _ (ext_trans (And.left (b := _) (by assumption)) (by assumption))
                refine wpAnyH_take (i := 0) (v := ?r13_vv0) (by (simp only [List.getElem?_toArray, List.getElem?_cons_succ, List.getElem?_cons_zero]; rfl)) (by kernel_rfl) (by kernel_rfl) (by kernel_rfl) (by exact fun _ _ _ h => h) (Or.inl ⟨by rfl, ?r13_hy0⟩) (by assumption) ?r13_rest0
                case r13_hy0 => intro w hSw; (try dsimp only at hSw); refine (exec_load rfl rfl hSw.2.1).trans ?_; with_reducible rfl
                try simp only [Act.put, List.setIfInBounds_toArray, List.set_cons_zero, List.set_cons_succ]
                refine wpAnyH_take (i := 1) (v := ?r13_vv1) (by (simp only [List.getElem?_toArray, List.getElem?_cons_succ, List.getElem?_cons_zero]; rfl)) (by kernel_rfl) (by kernel_rfl) (by kernel_rfl) (by exact fun _ _ _ h => h) (Or.inl ⟨by rfl, ?r13_hy1⟩) (by assumption) ?r13_rest1
                case r13_hy1 => intro w hSw; (try dsimp only at hSw); (go_simp <;> (with_reducible rfl))
                try simp only [Act.put, List.setIfInBounds_toArray, List.set_cons_zero, List.set_cons_succ]
                refine wpAnyH_ready (rs := [2]) (by kernel_rfl) (by simp) ?_
                refine AllReadyH.cons (by (simp only [List.getElem?_toArray, List.getElem?_cons_succ, List.getElem?_cons_zero]; rfl)) (fun K hK => ?_) AllReadyH.nil
                go_simp
                (go_at_call 96; with_reducible refine (qp.out _).mono ?_; rintro e w8 ⟨rfl, hb8⟩)
                try go_wp2_with fail
                refine hK.out _ _ ?r13_hS2 (fun hHeld => ?r13_r2)
                case r13_hS2 => (try dsimp only); first | assumption | exact HS.out _ (kp0 _) | exact HS.out _ (Below.refl _ _) | exact HS.out _ (kp1 (And.left (b := _) (by assumption))) | exact HS.out _ (ext_trans (And.left (b := _) (by assumption)) (by assumption))
                clear hK K
                try simp only [Act.put, List.setIfInBounds_toArray, List.set_cons_zero, List.set_cons_succ]
                refine wpAnyH_take (i := 3) (v := ?r13_vv3) (by (simp only [List.getElem?_toArray, List.getElem?_cons_succ, List.getElem?_cons_zero]; rfl)) (by kernel_rfl) (by kernel_rfl) (by kernel_rfl) (by exact fun _ _ _ h => h) (Or.inl ⟨by rfl, ?r13_hy3⟩) (by assumption) ?r13_rest3
                case r13_hy3 => intro w hSw; (try dsimp only at hSw); (go_simp <;> (with_reducible rfl))
                try simp only [Act.put, List.setIfInBounds_toArray, List.set_cons_zero, List.set_cons_succ]
                refine wpAnyH_take (i := 4) (v := ?r13_vv4) (by (simp only [List.getElem?_toArray, List.getElem?_cons_succ, List.getElem?_cons_zero]; rfl)) (by kernel_rfl) (by kernel_rfl) (by kernel_rfl) (by exact fun _ _ _ h => h) (Or.inl ⟨by rfl, ?r13_hy4⟩) (by assumption) ?r13_rest4
                case r13_hy4 => intro w hSw; (try dsimp only at hSw); (go_simp <;> (with_reducible rfl))
                try simp only [Act.put, List.setIfInBounds_toArray, List.set_cons_zero, List.set_cons_succ]
                refine wpAnyH_take (i := 5) (v := ?r13_vv5) (by (simp only [List.getElem?_toArray, List.getElem?_cons_succ, List.getElem?_cons_zero]; rfl)) (by kernel_rfl) (by kernel_rfl) (by kernel_rfl) (by exact fun _ _ _ h => h) (Or.inl ⟨by rfl, ?r13_hy5⟩) (by assumption) ?r13_rest5
                case r13_hy5 => intro w hSw; (try dsimp only at hSw); (go_simp <;> (with_reducible rfl))
                try simp only [Act.put, List.setIfInBounds_toArray, List.set_cons_zero, List.set_cons_succ]
                refine wpAnyH_take (i := 6) (v := ?r13_vv6) (by (simp only [List.getElem?_toArray, List.getElem?_cons_succ, List.getElem?_cons_zero]; rfl)) (by kernel_rfl) (by kernel_rfl) (by kernel_rfl) (by exact fun _ _ _ h => h) (Or.inl ⟨by rfl, ?r13_hy6⟩) (by assumption) ?r13_rest6
                case r13_hy6 => intro w hSw; (try dsimp only at hSw); (go_simp <;> (with_reducible rfl))
                try simp only [Act.put, List.setIfInBounds_toArray, List.set_cons_zero, List.set_cons_succ]
                refine wpAnyH_take (i := 7) (v := ?r13_vv7) (by (simp only [List.getElem?_toArray, List.getElem?_cons_succ, List.getElem?_cons_zero]; rfl)) (by kernel_rfl) (by kernel_rfl) (by kernel_rfl) (by exact fun _ _ _ h => h) (Or.inl ⟨by rfl, ?r13_hy7⟩) (by assumption) ?r13_rest7
                case r13_hy7 => intro w hSw; (try dsimp only at hSw); (go_simp <;> (with_reducible rfl))
                try simp only [Act.put, List.setIfInBounds_toArray, List.set_cons_zero, List.set_cons_succ]
                refine wpAnyH_take (i := 8) (v := ?r13_vv8) (by (simp only [List.getElem?_toArray, List.getElem?_cons_succ, List.getElem?_cons_zero]; rfl)) (by kernel_rfl) (by kernel_rfl) (by kernel_rfl) (by exact fun _ _ _ h => h) (Or.inl ⟨by rfl, ?r13_hy8⟩) (by assumption) ?r13_rest8
                case r13_hy8 => intro w hSw; (try dsimp only at hSw); (go_simp <;> (with_reducible rfl))
                try simp only [Act.put, List.setIfInBounds_toArray, List.set_cons_zero, List.set_cons_succ]
                refine wpAnyH_take (i := 9) (v := ?r13_vv9) (by (simp only [List.getElem?_toArray, List.getElem?_cons_succ, List.getElem?_cons_zero]; rfl)) (by kernel_rfl) (by kernel_rfl) (by kernel_rfl) (by exact fun _ _ _ h => h) (Or.inl ⟨by rfl, ?r13_hy9⟩) (by assumption) ?r13_rest9
                case r13_hy9 => intro w hSw; (try dsimp only at hSw); (go_simp <;> (with_reducible rfl))
                try simp only [Act.put, List.setIfInBounds_toArray, List.set_cons_zero, List.set_cons_succ]
                refine wpAnyH_take (i := 10) (v := ?r13_vv10) (by (simp only [List.getElem?_toArray, List.getElem?_cons_succ, List.getElem?_cons_zero]; rfl)) (by kernel_rfl) (by kernel_rfl) (by kernel_rfl) (by exact fun _ _ _ h => h) (Or.inl ⟨by rfl, ?r13_hy10⟩) (by assumption) ?r13_rest10
                case r13_hy10 => intro w hSw; (try dsimp only at hSw); (go_simp <;> (with_reducible rfl))
                try simp only [Act.put, List.setIfInBounds_toArray, List.set_cons_zero, List.set_cons_succ]
                refine wpAnyH_take (i := 11) (v := ?r13_vv11) (by (simp only [List.getElem?_toArray, List.getElem?_cons_succ, List.getElem?_cons_zero]; rfl)) (by kernel_rfl) (by kernel_rfl) (by kernel_rfl) (by exact fun _ _ _ h => h) (Or.inl ⟨by rfl, ?r13_hy11⟩) (by assumption) ?r13_rest11
                case r13_hy11 => intro w hSw; (try dsimp only at hSw); (go_simp <;> (with_reducible rfl))
                try simp only [Act.put, List.setIfInBounds_toArray, List.set_cons_zero, List.set_cons_succ]
                refine wpAnyH_take (i := 12) (v := ?r13_vv12) (by (simp only [List.getElem?_toArray, List.getElem?_cons_succ, List.getElem?_cons_zero]; rfl)) (by kernel_rfl) (by kernel_rfl) (by kernel_rfl) (by exact fun _ _ _ h => h) (Or.inl ⟨by rfl, ?r13_hy12⟩) (by assumption) ?r13_rest12
                case r13_hy12 => intro w hSw; (try dsimp only at hSw); (go_simp <;> (with_reducible rfl))
                try simp only [Act.put, List.setIfInBounds_toArray, List.set_cons_zero, List.set_cons_succ]
                refine wpAnyH_take (i := 13) (v := ?r13_vv13) (by (simp only [List.getElem?_toArray, List.getElem?_cons_succ, List.getElem?_cons_zero]; rfl)) (by kernel_rfl) (by kernel_rfl) (by kernel_rfl) (by exact fun _ _ _ h => h) (Or.inl ⟨by rfl, ?r13_hy13⟩) (by assumption) ?r13_rest13
                case r13_hy13 => intro w hSw; (try dsimp only at hSw); (go_simp <;> (with_reducible rfl))
                try simp only [Act.put, List.setIfInBounds_toArray, List.set_cons_zero, List.set_cons_succ]
                refine wpAnyH_take (i := 14) (v := ?r13_vv14) (by (simp only [List.getElem?_toArray, List.getElem?_cons_succ, List.getElem?_cons_zero]; rfl)) (by kernel_rfl) (by kernel_rfl) (by kernel_rfl) (by exact fun _ _ _ h => h) (Or.inl ⟨by rfl, ?r13_hy14⟩) (by assumption) ?r13_rest14
                case r13_hy14 => intro w hSw; (try dsimp only at hSw); (go_simp <;> (with_reducible rfl))
                try simp only [Act.put, List.setIfInBounds_toArray, List.set_cons_zero, List.set_cons_succ]
                refine wpAnyH_ready (rs := [15]) (by kernel_rfl) (by simp) ?_
                refine AllReadyH.cons (by (simp only [List.getElem?_toArray, List.getElem?_cons_succ, List.getElem?_cons_zero]; rfl)) (fun K hK => ?_) AllReadyH.nil
                go_simp
                (go_at_call 97; with_reducible refine (qc.out _).mono ?_; rintro e w7 ⟨rfl, hb7⟩)
                try go_wp2_with fail
                refine hK.out _ _ ?r13_hS15 (fun hHeld => ?r13_r15)
                case r13_hS15 => (try dsimp only); first | assumption | exact HS.out _ (kp0 _) | exact HS.out _ (Below.refl _ _) | exact HS.out _ (kp1 (And.left (b := _) (by assumption))) | exact HS.out _ (ext_trans (And.left (b := _) (by assumption)) (by assumption))
                clear hK K
                try simp only [Act.put, List.setIfInBounds_toArray, List.set_cons_zero, List.set_cons_succ]
                refine wpAnyH_take (i := 16) (v := ?r13_vv16) (by (simp only [List.getElem?_toArray, List.getElem?_cons_succ, List.getElem?_cons_zero]; rfl)) (by kernel_rfl) (by kernel_rfl) (by kernel_rfl) (by exact fun _ _ _ h => h) (Or.inl ⟨by rfl, ?r13_hy16⟩) (by assumption) ?r13_rest16
                case r13_hy16 => intro w hSw; (try dsimp only at hSw); (go_simp <;> (with_reducible rfl))
                try simp only [Act.put, List.setIfInBounds_toArray, List.set_cons_zero, List.set_cons_succ]
                refine wpAnyH_take (i := 17) (v := ?r13_vv17) (by (simp only [List.getElem?_toArray, List.getElem?_cons_succ, List.getElem?_cons_zero]; rfl)) (by kernel_rfl) (by kernel_rfl) (by kernel_rfl) (by exact fun _ _ _ h => h) (Or.inl ⟨by rfl, ?r13_hy17⟩) (by assumption) ?r13_rest17
                case r13_hy17 => intro w hSw; (try dsimp only at hSw); (go_simp <;> (with_reducible rfl))
                try simp only [Act.put, List.setIfInBounds_toArray, List.set_cons_zero, List.set_cons_succ]
                refine wpAnyH_take (i := 18) (v := ?r13_vv18) (by (simp only [List.getElem?_toArray, List.getElem?_cons_succ, List.getElem?_cons_zero]; rfl)) (by kernel_rfl) (by kernel_rfl) (by kernel_rfl) (by exact fun _ _ _ h => h) (Or.inl ⟨by rfl, ?r13_hy18⟩) (by assumption) ?r13_rest18
                case r13_hy18 => intro w hSw; (try dsimp only at hSw); (go_simp <;> (with_reducible rfl))
                try simp only [Act.put, List.setIfInBounds_toArray, List.set_cons_zero, List.set_cons_succ]
                refine wpAnyH_done (by kernel_rfl) ?_ _
                go_wp2_with fail
                go_roundw
                case rel => exact ⟨(m + 1) + 1, by omega, by go_num, fun i hi => by rcases Nat.lt_or_ge i ((m + 1)) with h | h; exact HF3.out i h; obtain rfl : i = (m + 1) := (by omega); exact hgu.out, ext_trans HBa.out (And.left (b := _) (by assumption))⟩
                case measure => first | (simp [intOf]; done) | (simp [intOf]; omega)
        · obtain rfl : j = gl.length := by omega
          have hd10 : decide ((gl.length : Int) < (gl.length : Int)) = false := by rw [decide_eq_false_iff_not]; omega
          go_wp2_with fail
          go_ret
          exact ⟨ret_bool (by rw [hE2.out, List.all_eq_true.2 (fun i hi => HF3.out i (by simpa using hi))]), ext_trans HB.out HB3.out⟩
end Go.Proofs.YthlcmiediedcfaaDoor
