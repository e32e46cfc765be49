/-
All points of a ground, in rows, of both. Conditions: the ground's sides are at most 9.
-/
import Derived.Test.YtipcmakidifelaaGD12
set_option linter.unusedVariables false
set_option linter.unusedSimpArgs false
set_option maxRecDepth 100000
namespace Go.Proofs.Ytipcmakidifelaa
open Go.RowKit
def rowG (y n : Nat) : List Cell := (List.range n).map fun (x : Nat) => ⟨(x : Int), (y : Int)⟩
def ptsG (w y : Nat) : List Cell := (List.range y).flatMap fun y => rowG y w
theorem rowG_len (y n : Nat) : (rowG y n).length = n := by simp [rowG]
theorem rowG_succ (y n : Nat) : rowG y (n + 1) = rowG y n ++ [⟨(n : Int), (y : Int)⟩] := by simp [rowG, List.range_succ]
theorem ptsG_succ (w y : Nat) : ptsG w (y + 1) = ptsG w y ++ rowG y w := by simp [ptsG, List.range_succ]
theorem ptsG_len (w : Nat) : ∀ y, (ptsG w y).length = y * w
  | 0 => by simp [ptsG]
  | y + 1 => by rw [ptsG_succ, List.length_append, ptsG_len w y, rowG_len, Nat.add_mul, Nat.one_mul]
theorem ptsG_le (w y k : Nat) (hw : w ≤ 9) (hy : y ≤ 9) (hk : k ≤ 9) : (ptsG w y ++ rowG y k).length ≤ 1000 := by
  rw [List.length_append, ptsG_len, rowG_len]
  have : y * w ≤ 9 * 9 := Nat.mul_le_mul hy hw
  omega
theorem ptsG_mem (w y : Nat) (p : Cell) (h : p ∈ ptsG w y) : (0 ≤ p.x ∧ p.x < w) ∧ (0 ≤ p.y ∧ p.y < y) := by
  simp only [ptsG, rowG, List.mem_flatMap, List.mem_range, List.mem_map] at h
  obtain ⟨b, hb, a, ha, rfl⟩ := h
  exact ⟨⟨by show (0 : Int) ≤ (a : Int); omega, by show (a : Int) < w; omega⟩, by show (0 : Int) ≤ (b : Int); omega, by show (b : Int) < y; omega⟩
theorem ptsG_pt (w y : Nat) (p : Cell) (h : p ∈ ptsG w y) : gpB w y p = true := by
  have := ptsG_mem w y p h
  rw [gpB_true]
  omega
theorem mem_ptsG (w y : Nat) (p : Cell) (h : gpB w y p = true) : p ∈ ptsG w y := by
  obtain ⟨x, z⟩ := p
  obtain ⟨h1, h2, h3, h4⟩ := gpB_true.1 h
  simp only at h1 h2 h3 h4
  simp only [ptsG, rowG, List.mem_flatMap, List.mem_range, List.mem_map]
  refine ⟨z.toNat, by omega, x.toNat, by omega, ?_⟩
  congr 1 <;> omega
def allG (w h : Int) : List Cell := ptsG w.toNat h.toNat
set_option maxHeartbeats 2000000 in
theorem sAll_calls (g : Nat) (T : TypeId) (nw nh : Nat) (hw : nw ≤ 9) (hh : nh ≤ 9) (hs : List Int) (z : Value) (W : World) (ha : Bk W g T (gdA nw nh hs z)) :
    Calls Try.prog 41 #[.pointer (some ⟨g, 0, none⟩)] W (RetRowC W 38 Cell.c 2 (ptsG nw nh)) := by
  have HA := Lib.hid ha
  have HB := Lib.hid ((Below.refl W.heap.size W).alloc (Nat.le_refl _) (.cells #[] 38))
  have hO0 := Lib.hid (Own.empty (α := Cell) (c := Cell.c) (sz := 2) (E := 38) W W.heap.size W.heap.size rfl (Nat.le_refl _))
  clear ha
  go_enter Try.func41, Try.ntmps41
  go_wp2_with fail
  go_loopw [3, 4, 5] (fun o y _ wr => ∃ k : Nat, k ≤ nh ∧ y = .int .i8 (k : Int) ∧ Own wr W.heap.size 38 Cell.c 2 o (ptsG nw k) ∧ Below W.heap.size W wr) (fun _ y _ _ => nh - (intOf y).toNat)
  case atStart => exact ⟨0, by omega, rfl, hO0.out, HB.out⟩
  case round =>
    obtain ⟨k, hk, rfl, hO, hb⟩ := hrel
    have HO := Lib.hid hO
    have HBo := Lib.hid hb
    have a0 := (HA.out.ext hb).cell 0 _ (gdA_0 _ _ _ _)
    have a1 := (HA.out.ext hb).cell 1 _ (gdA_1 _ _ _ _)
    clear hO hb
    by_cases hlt : k < nh
    · have hkd : decide ((k : Int) < (nh : Int)) = true := by rw [decide_eq_true_eq]; omega
      have hw8 : IntKind.i8.wrap ((k : Int) + 1) = (k : Int) + 1 := wrap8In _ (by omega) (by omega)
      go_wp2_with fail
      go_loopw [3, 5] (fun o x w2 => ∃ m : Nat, m ≤ nw ∧ x = .int .i8 (m : Int) ∧ Own w2 W.heap.size 38 Cell.c 2 o (ptsG nw k ++ rowG k m) ∧ Below W.heap.size W w2) (fun _ x _ => nw - (intOf x).toNat)
      case atStart => exact ⟨0, by omega, rfl, by simpa [rowG] using HO.out, HBo.out⟩
      case round =>
        obtain ⟨m, hm, rfl, hO2, hb2⟩ := hrel
        have HO2 := Lib.hid hO2
        have HB2 := Lib.hid hb2
        have a2 := (HA.out.ext hb2).cell 0 _ (gdA_0 _ _ _ _)
        have a3 := (HA.out.ext hb2).cell 1 _ (gdA_1 _ _ _ _)
        clear hO2 hb2
        by_cases hlt2 : m < nw
        · have hmd : decide ((m : Int) < (nw : Int)) = true := by rw [decide_eq_true_eq]; omega
          have hw9 : IntKind.i8.wrap ((m : Int) + 1) = (m : Int) + 1 := wrap8In _ (by omega) (by omega)
          have hst := Lib.hid (show ptsG nw k ++ rowG k (m + 1) = (ptsG nw k ++ rowG k m) ++ [⟨(m : Int), (k : Int)⟩] from by rw [rowG_succ, List.append_assoc])
          have hle := Lib.hid (ptsG_le nw k m hw (by omega) (by omega))
          generalize ptsG nw k ++ rowG k m = out at *
          have hba := Lib.hid (HB2.out.alloc HB2.out.size (.cells #[.int .i8 (m : Int), .int .i8 (k : Int)] 38))
          go_wp2_with (at_builtin; refine push_cellat rfl _ _ rfl W.heap.size out _ rfl (HO2.out.alloc _) _ ⟨(m : Int), (k : Int)⟩ rfl (Bk.new _ _ _ _ (by simp)) (by have := hle.out; omega) hba.out.size ?_)
          intro v3 w3 hO3 hG3 hat
          have hb3 := Lib.hid (hba.out.grown hG3 hba.out.size (fun j hj => HO2.out.base j hj))
          have hO3 := Lib.hid hO3
          clear hG3 hat
          go_wp2_with fail
          go_roundw
          case rel => exact ⟨m + 1, by omega, by go_num, by rw [hst.out]; exact hO3.out, hb3.out⟩
          case measure => first | (simp [intOf]; done) | (simp [intOf]; omega)
        · obtain rfl : m = nw := by omega
          have hst := Lib.hid (ptsG_succ m k)
          have hmd : decide ((m : Int) < (m : Int)) = false := by rw [decide_eq_false_iff_not]; omega
          rw [← hst.out] at HO2
          go_wp2_with fail
          go_roundw
          case rel => exact ⟨k + 1, by omega, by go_num, HO2.out, HB2.out⟩
          case measure => first | (simp [intOf]; done) | (simp [intOf]; omega)
    · obtain rfl : k = nh := by omega
      have hkd : decide ((k : Int) < (k : Int)) = false := by rw [decide_eq_false_iff_not]; omega
      go_wp2_with fail
      go_ret
      exact ⟨_, rfl, HO.out, HBo.out⟩
theorem points1_calls (f : FuncId) (lb : Array Value) (g : Nat) (T : TypeId) (a b : Int) (P : Bool) (a0 : -128 ≤ a) (a1 : a ≤ 127) (b0 : -128 ≤ b) (b1 : b ≤ 127) (eg : Enters Try.prog f) (W : World) (hg : Bk W g T #[.func (.func f) #[] lb])
    (hf : Calls Try.prog f (#[.agg #[.int .i8 a, .int .i8 b]] ++ lb) W fun e W' => e = .returned (.bool P) ∧ Below W.heap.size W W') :
    Calls Try.prog 69 #[.int .i64 a, .int .i64 b, .pointer (some ⟨g, 0, none⟩)] W fun e w' => e = .returned (.bool P) ∧ Below W.heap.size W w' := by
  have wa : IntKind.i8.wrap a = a := wrap8In _ a0 a1
  have wb : IntKind.i8.wrap b = b := wrap8In _ b0 b1
  have k0 := hg.cell 0 _ rfl
  have HF := Lib.hid hf
  clear hf hg
  go_enter Try.func69, Try.ntmps69
  go_wp2_with fail
  rw [eg, Oper.upon_enter]
  refine HF.out.mono ?_
  rintro e w1 ⟨rfl, hb1⟩
  go_wp2_with fail
  go_ret
  exact ⟨rfl, hb1⟩
set_option maxHeartbeats 2000000 in
theorem cellsG_calls (f : FuncId) (lb : Array Value) (p : Cell → Bool) (gb : Nat) (T : TypeId) (eg : Enters Try.prog f) (nw nh : Nat) (hw : nw ≤ 9) (hh : nh ≤ 9) (W : World) (hgb : Bk W gb T #[.func (.func f) #[] lb])
    (hf : ∀ c : Cell, gpB nw nh c = true → ∀ W', Below W.heap.size W W' → Calls Try.prog f (#[.agg #[.int .i8 c.x, .int .i8 c.y]] ++ lb) W' fun e W'' => e = .returned (.bool (p c)) ∧ Below W'.heap.size W' W'') :
    Calls Try.prog 68 #[.agg #[.int .i8 (nw : Int), .int .i8 (nh : Int), .slice none 0 0], .func (.func 69) #[] #[.pointer (some ⟨gb, 0, none⟩)]] W (RetRowC W 38 Cell.c 2 ((ptsG nw nh).filter p)) := by
  have eg1 := enters_of Try.func69 (by kernel_rfl) rfl
  have HB := Lib.hid (ext_alloc ((Below.refl W.heap.size W).alloc (Nat.le_refl _) (.cells #[.int .i8 (nw : Int), .int .i8 (nh : Int), .slice none 0 0] 93)) (.cells #[] 38))
  have K := Lib.hid ((Bk.new W 93 #[.int .i8 (nw : Int), .int .i8 (nh : Int), .slice none 0 0] W.heap.size rfl).alloc (.cells #[] 38))
  have hO0 := Lib.hid (Own.empty (α := Cell) (c := Cell.c) (sz := 2) (E := 38) (W.alloc (.cells #[.int .i8 (nw : Int), .int .i8 (nh : Int), .slice none 0 0] 93)) (W.heap.size + 1) (W.heap.size + 1) (by simp) (by simp))
  have HGB := Lib.hid hgb
  have HF := Lib.hid hf
  have k0 := K.out.cell 0 _ rfl
  have k1 := K.out.cell 1 _ rfl
  have wc := wrapIn (nh : Int) (by omega) (by omega)
  have wd := wrapIn (nw : Int) (by omega) (by omega)
  clear hf hgb
  go_enter Try.func68, Try.ntmps68
  go_wp2_with fail
  clear k0 k1
  generalize (W.alloc (.cells #[.int .i8 (nw : Int), .int .i8 (nh : Int), .slice none 0 0] 93)).alloc (.cells #[] 38) = W1 at *
  go_loopw [5, 6, 7, 12, 18] (fun o _ _ y _ wr => ∃ k : Nat, k ≤ nh ∧ y = .int .i64 (k : Int) ∧ Own wr (W.heap.size + 1) 38 Cell.c 2 o ((ptsG nw k).filter p) ∧ Bk wr W.heap.size 93 #[.int .i8 (nw : Int), .int .i8 (nh : Int), .slice none 0 0] ∧ Below W.heap.size W wr) (fun _ _ _ y _ _ => nh - (intOf y).toNat)
  case atStart => exact ⟨0, by omega, rfl, hO0.out, K.out, HB.out⟩
  case round =>
    obtain ⟨k, hk, rfl, hO, hK, hb⟩ := hrel
    have HO := Lib.hid hO
    have HK := Lib.hid hK
    have HBo := Lib.hid hb
    have a0 := hK.cell 0 _ rfl
    have a1 := hK.cell 1 _ rfl
    clear hO hb hK
    by_cases hlt : k < nh
    · have hkd : decide ((k : Int) < (nh : Int)) = true := by rw [decide_eq_true_eq]; omega
      go_wp2_with fail
      go_loopw [5, 7, 18] (fun o _ x w2 => ∃ m : Nat, m ≤ nw ∧ x = .int .i64 (m : Int) ∧ Own w2 (W.heap.size + 1) 38 Cell.c 2 o ((ptsG nw k ++ rowG k m).filter p) ∧ Bk w2 W.heap.size 93 #[.int .i8 (nw : Int), .int .i8 (nh : Int), .slice none 0 0] ∧ Below W.heap.size W w2) (fun _ _ x _ => nw - (intOf x).toNat)
      case atStart => exact ⟨0, by omega, rfl, by simpa [rowG] using HO.out, HK.out, HBo.out⟩
      case round =>
        obtain ⟨m, hm, rfl, hO2, hK2, hb2⟩ := hrel
        have HO2 := Lib.hid hO2
        have HK2 := Lib.hid hK2
        have HB2 := Lib.hid hb2
        clear hO2 hb2 hK2
        by_cases hlt2 : m < nw
        · have hmd : decide ((m : Int) < (nw : Int)) = true := by rw [decide_eq_true_eq]; omega
          have hw8 : IntKind.i8.wrap (k : Int) = (k : Int) := wrap8In _ (by omega) (by omega)
          have hw9 : IntKind.i8.wrap (m : Int) = (m : Int) := wrap8In _ (by omega) (by omega)
          have hst := Lib.hid (show (ptsG nw k ++ rowG k (m + 1)).filter p = if p ⟨(m : Int), (k : Int)⟩ = true then (ptsG nw k ++ rowG k m).filter p ++ [⟨(m : Int), (k : Int)⟩] else (ptsG nw k ++ rowG k m).filter p from by
            rw [rowG_succ, ← List.append_assoc, List.filter_append]
            cases hp : p ⟨(m : Int), (k : Int)⟩ <;> simp [hp])
          have hle := Lib.hid (Nat.le_trans (List.length_filter_le p _) (ptsG_le nw k m hw (by omega) (by omega)))
          have qp := Lib.hid (points1_calls f lb gb T (m : Int) (k : Int) (p ⟨(m : Int), (k : Int)⟩) (by omega) (by omega) (by omega) (by omega) eg wr (HGB.out.ext HB2.out) (HF.out ⟨(m : Int), (k : Int)⟩ (gpB_true.2 ⟨by show (0 : Int) ≤ (m : Int); omega, by show (m : Int) ≤ (nw : Int) - 1; omega, by show (0 : Int) ≤ (k : Int); omega, by show (k : Int) ≤ (nh : Int) - 1; omega⟩) wr HB2.out))
          generalize (ptsG nw k ++ rowG k m).filter p = out at *
          cases hp : p ⟨(m : Int), (k : Int)⟩
          · rw [hp] at hst qp
            have hs2 := Lib.hid (hst.out.trans (if_neg (by decide)))
            clear hst hp
            go_wp2_with fail
            first
              | (refine qp.out.mono ?_)
              | (rw [eg1, Oper.upon_enter]; refine qp.out.mono ?_)
            rintro e w1 ⟨rfl, hb1⟩
            have HB1 := Lib.hid hb1
            clear hb1
            go_wp2_with fail
            go_roundw
            case rel => exact ⟨m + 1, by omega, by go_num, by rw [hs2.out]; exact HO2.out.ext HB1.out, HK2.out.ext HB1.out, ext_trans HB2.out HB1.out⟩
            case measure => first | (simp [intOf]; done) | (simp [intOf]; omega)
          · rw [hp] at hst qp
            have hs2 := Lib.hid (hst.out.trans (if_pos rfl))
            clear hst hp
            go_wp2_with fail
            first
              | (refine qp.out.mono ?_)
              | (rw [eg1, Oper.upon_enter]; refine qp.out.mono ?_)
            rintro e w1 ⟨rfl, hb1⟩
            have HO1 := Lib.hid (HO2.out.ext hb1)
            have HK1 := Lib.hid (HK2.out.ext hb1)
            have HB1 := Lib.hid (ext_trans HB2.out hb1)
            have hba := Lib.hid (HB1.out.alloc HB1.out.size (.cells #[.int .i8 (m : Int), .int .i8 (k : Int)] 38))
            clear hb1
            go_wp2_with (at_builtin; refine push_cellat rfl _ _ rfl (W.heap.size + 1) out _ rfl (HO1.out.alloc _) _ ⟨(m : Int), (k : Int)⟩ rfl (Bk.new _ _ _ _ (by simp)) (by have := hle.out; omega) (Nat.le_trans HK1.out.lt (by simp)) ?_)
            intro v3 w3 hO3 hG3 hat
            have hb3 := Lib.hid (hba.out.grown hG3 hba.out.size (fun j hj => Nat.le_trans (by omega) (HO1.out.base j hj)))
            have hk3 := Lib.hid (show Bk w3 W.heap.size 93 #[.int .i8 (nw : Int), .int .i8 (nh : Int), .slice none 0 0] from (hG3.block _ (HK1.out.alloc _).lt (fun he => by have := HO1.out.base _ he.symm; omega)).trans (HK1.out.alloc _))
            have hO3 := Lib.hid hO3
            clear hG3 hat
            go_wp2_with fail
            go_roundw
            case rel => exact ⟨m + 1, by omega, by go_num, by rw [hs2.out]; exact hO3.out, hk3.out, hb3.out⟩
            case measure => first | (simp [intOf]; done) | (simp [intOf]; omega)
        · obtain rfl : m = nw := by omega
          have hst := Lib.hid (show (ptsG m (k + 1)).filter p = (ptsG m k ++ rowG k m).filter p from by rw [ptsG_succ])
          have hmd : decide ((m : Int) < (m : Int)) = false := by rw [decide_eq_false_iff_not]; omega
          rw [← hst.out] at HO2
          go_wp2_with fail
          go_roundw
          case rel => exact ⟨k + 1, by omega, by go_num, HO2.out, HK2.out, HB2.out⟩
          case measure => first | (simp [intOf]; done) | (simp [intOf]; omega)
    · obtain rfl : k = nh := by omega
      have hkd : decide ((k : Int) < (k : Int)) = false := by rw [decide_eq_false_iff_not]; omega
      go_wp2_with fail
      go_ret
      exact ⟨_, rfl, HO.out.more (by omega), HBo.out⟩
theorem pointsG_calls (f : FuncId) (lb : Array Value) (p : Cell → Bool) (eg : Enters Try.prog f) (nw nh : Nat) (hw : nw ≤ 9) (hh : nh ≤ 9) (hs : List Int) (hl : hs.length = 81) (z : Value) (W : World)
    (hf : ∀ c : Cell, gpB nw nh c = true → ∀ W', Below W.heap.size W W' → Calls Try.prog f (#[.agg #[.int .i8 c.x, .int .i8 c.y]] ++ lb) W' fun e W'' => e = .returned (.bool (p c)) ∧ Below W'.heap.size W' W'') :
    Calls Try.prog 46 #[.agg (gdA nw nh hs z), .func (.func f) #[] lb] W (RetRowC W 38 Cell.c 2 ((ptsG nw nh).filter p)) := by
  have hB := ext_alloc ((Below.refl W.heap.size W).alloc (Nat.le_refl _) (.cells (gdA nw nh hs z) 36)) (.cells #[.func (.func f) #[] lb] 74)
  have HB := Lib.hid hB
  have KG := Lib.hid ((Bk.new W 36 (gdA nw nh hs z) W.heap.size rfl).alloc (.cells #[.func (.func f) #[] lb] 74))
  have KF := Lib.hid (Bk.new (W.alloc (.cells (gdA nw nh hs z) 36)) 74 #[.func (.func f) #[] lb] (W.heap.size + 1) (by simp))
  have HF := Lib.hid hf
  have ldg := load_gd hl KG.out
  clear hf hB
  go_enter Try.func46, Try.ntmps46
  go_wp2_with (refine wpList_load_w rfl 36 (.tmp 2) rfl _ rfl _ ldg ?_)
  refine (frame_calls _ _ hs hl z _).mono ?_
  rintro e w1 ⟨rfl, hb1⟩
  have HB1 := Lib.hid (ext_trans HB.out hb1)
  have qc := Lib.hid (cellsG_calls f lb p (W.heap.size + 1) _ eg nw nh hw hh w1 (KF.out.ext hb1) (fun c hc W' hb => HF.out c hc W' (ext_trans HB1.out hb)))
  clear hb1 ldg
  go_wp2_with fail
  refine qc.out.mono ?_
  rintro e w2 ⟨v2, rfl, hO2, hb2⟩
  go_wp2_with fail
  go_ret
  exact ⟨_, rfl, hO2.more HB1.out.size, ext_trans HB1.out hb2⟩
end Go.Proofs.Ytipcmakidifelaa
