/-
Rows read from a text, by the reference. Conditions: the text is not overlong.
-/
import Derived.Test.YthlcmiediedcfaaDoorTX7
import Derived.Test.YthlcmiediedcfaaDoorRDR
set_option linter.unusedVariables false
set_option linter.unusedSimpArgs false
set_option maxRecDepth 100000
namespace Go.Proofs.YthlcmiediedcfaaDoor
open Go.RowKit
theorem appRow : AppK Row.c 2 4 25 72 := AppK.mk' (.agg #[.int .i8 0, .int .i16 0]) (by omega) Row.c_len (by intro x u hu; simp [Row.c] at hu; rcases hu with rfl | rfl <;> rfl) Tryd.underlying25 (by kernel_rfl) rfl
theorem bk_row1 {w : World} {g : Nat} {T : TypeId} {x : Row} (h : Bk w g T #[.int .i8 x.n, .int .i16 x.w]) : Sl w w.heap.size Row.c 2 (.slice (some ⟨g, 0, none⟩) 1 1) [x] := by
  refine ⟨_, 1, rfl, Nat.le_refl _, by simp, fun _ => ⟨g, 0, rfl, h.lt, fun i y hy j u hu => ?_⟩⟩
  match i, hy with
  | 0, hy =>
    simp at hy
    subst hy
    match j, hu with
    | 0, hu => simp [Row.c] at hu; subst hu; exact h.cell 0 _ rfl
    | 1, hu => simp [Row.c] at hu; subst hu; exact h.cell 1 _ rfl
    | j + 2, hu => simp [Row.c] at hu
  | i + 1, hy => simp at hy
theorem rdRow_len {l : List UInt8} (h : (splitL 58 l).length ≠ 2) : rdRow l = none := by
  unfold rdRow pairS
  split
  · rename_i x y e
    rw [e] at h
    exact absurd rfl h
  · rfl
theorem rdRow_two {l x y : List UInt8} (h : splitL 58 l = [x, y]) : rdRow l = if ((numS x).2 = true ∧ (numS x).1 ≤ 9) ∧ ((numS y).2 = true ∧ (numS y).1 ≤ 2000) then some ⟨(numS x).1, (numS y).1⟩ else none := by
  unfold rdRow pairS
  rw [h]
  simp only
  split <;> rfl
theorem rd_fail {l w : List UInt8} (hl : l ≠ []) (hm : w ∈ splitL 32 l) (h : rdRow w = none) : readRowsF l = ([], 5) := by
  unfold readRowsF
  rw [if_neg hl, rdRows_none _ w hm h]
theorem rd_done {l : List UInt8} {rs : List Row} (hl : l ≠ []) (h : rdRows (splitL 32 l) = some rs) : readRowsF l = if vRowsB rs = true then (rs, 0) else ([], 5) := by
  unfold readRowsF
  rw [if_neg hl, h]
theorem split_sum (c : UInt8) : ∀ (l w : List UInt8), w ∈ splitL c l → w.length ≤ l.length
  | [], w, h => by
    rw [splitL] at h
    rw [List.mem_singleton.1 h]
    exact Nat.le_refl _
  | b :: l, w, h => by
    rw [splitL] at h
    split at h
    · rcases List.mem_cons.1 h with rfl | h
      · simp
      · have := split_sum c l w h
        simp only [List.length_cons]
        omega
    · split at h
      · rename_i p r e
        rcases List.mem_cons.1 h with rfl | h
        · have := split_sum c l p (by rw [e]; simp)
          simp only [List.length_cons]
          omega
        · have := split_sum c l w (by rw [e]; exact List.mem_cons_of_mem _ h)
          simp only [List.length_cons]
          omega
      · rw [List.mem_singleton.1 h]
        simp
set_option maxHeartbeats 2000000 in
theorem specReadRows_calls (l : List UInt8) (hl : l.length ≤ 2000000) (W : World) : Calls Tryd.prog 26 #[.string ⟨l.toArray⟩] W fun e w' => ∃ v, e = .returned (.tuple #[v, .int .i64 (readRowsF l).2]) ∧ Own w' W.heap.size 72 Row.c 2 v (readRowsF l).1 ∧ Below W.heap.size W w' := by
  have HL := Lib.hid hl
  have HO0 := Lib.hid (Own.empty (α := Row) (c := Row.c) (sz := 2) (E := 72) W W.heap.size W.heap.size rfl (Nat.le_refl _))
  have HB0 := Lib.hid ((Below.refl W.heap.size W).alloc (Nat.le_refl _) (.cells #[] 72))
  by_cases h0 : l = []
  · subst h0
    have hF : readRowsF [] = ([], 0) := rfl
    rw [hF]
    clear hF
    go_enter Tryd.func26, Tryd.ntmps26
    go_wp2_with fail
    go_ret2
    exact ⟨_, rfl, HO0.out, HB0.out⟩
  have hne := str_ne h0
  have hemp : l.isEmpty = false := by simpa using h0
  obtain ⟨F, hF⟩ : ∃ F, F = readRowsF l := ⟨_, rfl⟩
  rw [← hF]
  obtain ⟨ws, hws⟩ : ∃ ws, ws = splitL 32 l := ⟨_, rfl⟩
  have hfail := Lib.hid (show ∀ w ∈ ws, rdRow w = none → F = ([], 5) from fun w hm h => by rw [hF]; exact rd_fail h0 (by rw [← hws]; exact hm) h)
  have hdone := Lib.hid (show ∀ rs, rdRows ws = some rs → F = if vRowsB rs = true then (rs, 0) else ([], 5) from fun rs h => by rw [hF]; exact rd_done h0 (by rw [← hws]; exact h))
  have hwlen := Lib.hid (show ∀ w ∈ ws, w.length ≤ l.length from fun w hm => split_sum 32 l w (by rw [← hws]; exact hm))
  have hwn : ws.length ≤ 2000001 := by have := splitL_len 32 l; rw [hws]; omega
  have hWN := Lib.hid hwn
  have q1 := Lib.hid (l01Split_calls l 32 hl (W.alloc (.cells #[] 72)))
  rw [← hws] at q1
  clear hF hws h0 hl
  go_enter Tryd.func26, Tryd.ntmps26
  go_wp2_with fail
  clear hne hemp
  refine q1.out.mono ?_
  rintro e w1 ⟨vw, rfl, hOw, hb1⟩
  clear q1
  have HB1 := Lib.hid (ext_trans HB0.out hb1)
  have HO1 := Lib.hid (HO0.out.ext hb1)
  obtain ⟨A, cap, rfl, hle, hm, hcell0⟩ := (hOw.sl strc_len).out
  have hOW0 := Lib.hid (show Own w1 (W.heap.size + 1) 9 strc 1 (.slice A ws.length cap) ws from by simpa using hOw)
  have hap0 := Lib.hid (show ∀ j, (Value.slice (some ⟨W.heap.size, 0, none⟩) 0 0).ownBlock = some j → (Value.slice A ws.length cap).ownBlock = some j → False from fun j h1 h2 => by
    have := hOW0.out.base j h2
    simp [Value.ownBlock] at h1
    omega)
  clear hOw hb1 HB0 HO0 hcell0
  go_wp2_with fail
  go_loopw [4, 6, 7, 8, 9, 10, 11] (fun v i _ _ _ _ _ wr => ∃ (k : Nat) (ys : List Row), k ≤ ws.length ∧ i = .int .i64 (k : Int) ∧ ys.length = k ∧ rdRows (ws.take k) = some ys ∧ Own wr W.heap.size 72 Row.c 2 v ys ∧ Own wr (W.heap.size + 1) 9 strc 1 (.slice A ws.length cap) ws ∧ (∀ j, v.ownBlock = some j → (Value.slice A ws.length cap).ownBlock = some j → False) ∧ Below W.heap.size W wr) (fun _ i _ _ _ _ _ _ => ws.length - (intOf i).toNat)
  case atStart => exact ⟨0, [], by omega, rfl, rfl, rfl, HO1.out, hOW0.out, hap0.out, HB1.out⟩
  case round =>
    clear HO1 HB1 hOW0 hap0
    obtain ⟨k, ys, hk, rfl, hlen, hrd, hO, hOW, hap, hb⟩ := hrel
    have HW := Lib.hid hOW
    have HAP := Lib.hid hap
    have HO := Lib.hid hO
    have HB := Lib.hid hb
    have HR := Lib.hid hrd
    clear hO hb hOW hap hrd
    by_cases hlt : k < ws.length
    · obtain ⟨A', cap', he', -, -, hc1⟩ := (HW.out.sl strc_len).out
      injection he' with he1 _ he3
      subst he1 he3
      obtain ⟨b, o, rfl, hbb, hc0⟩ := hc1 (by omega)
      clear hc1
      obtain ⟨w, hw⟩ : ∃ w, w = ws[k] := ⟨_, rfl⟩
      have hwk : ws[k]? = some w := by rw [hw]; exact List.getElem?_eq_getElem hlt
      have hmem := Lib.hid (show w ∈ ws from List.mem_of_getElem? hwk)
      have hck := hc0 k w hwk 0 _ rfl
      simp only [Nat.mul_one, Nat.add_zero] at hck
      have hlw := hwlen.out w hmem.out
      have q1 := Lib.hid (l01Split_calls w 58 (by have := HL.out; omega))
      have hst := Lib.hid (show ∀ r, rdRow w = some r → rdRows (ws.take (k + 1)) = some (ys ++ [r]) from fun r hr => by
        rw [List.take_add_one, hwk, Option.toList_some]
        exact rdRows_snoc _ _ _ _ HR.out hr)
      have hff := Lib.hid (hfail.out w hmem.out)
      clear hc0 hw hwk hlw
      go_wp2_with fail
      refine (q1.out _).mono ?_
      rintro e w2 ⟨vp, rfl, hOp, hb2⟩
      clear q1
      have HB := Lib.hid (ext_trans HB.out hb2)
      have HW := Lib.hid (HW.out.ext hb2)
      have HO := Lib.hid (HO.out.ext hb2)
      clear hb2 hck
      have hEmpty := fun (w' : World) (g : Nat) (hg : g = w'.heap.size) (hB : W.heap.size ≤ w'.heap.size) => Own.empty (α := Row) (c := Row.c) (sz := 2) (E := 72) w' W.heap.size g hg hB
      have hEmpty := Lib.hid hEmpty
      have HBe := Lib.hid (HB.out.alloc HB.out.size (.cells #[] 72))
      by_cases h2 : (splitL 58 w).length = 2
      · obtain ⟨x, y, hxy⟩ : ∃ x y, splitL 58 w = [x, y] := by
          generalize splitL 58 w = t at h2
          match t, h2 with
          | [x, y], _ => exact ⟨x, y, rfl⟩
        have htwo := Lib.hid (rdRow_two hxy)
        rw [hxy] at hOp
        obtain ⟨A2, cap2, rfl, hle2, hm2, hcell2⟩ := (hOp.sl strc_len).out
        obtain ⟨b2, o2, rfl, hbb2, hc2⟩ := hcell2 (by simp)
        have hx0 := hc2 0 x rfl 0 _ rfl
        have hy0 := hc2 1 y rfl 0 _ rfl
        simp only [Nat.mul_one, Nat.add_zero, Nat.zero_mul] at hx0 hy0
        have qx := Lib.hid (l01Number_calls x)
        have qy := Lib.hid (l01Number_calls y)
        clear hc2 hcell2 hOp h2 hxy
        simp only [List.length_cons, List.length_nil] at *
        go_wp2_with fail
        refine (qx.out _).mono ?_
        rintro e w3 ⟨rfl, rfl⟩
        go_wp2_with fail
        refine (qy.out _).mono ?_
        rintro e w3 ⟨rfl, rfl⟩
        have hx0' := numS_nonneg x
        have hy0' := numS_nonneg y
        clear hx0 hy0 qx qy
        generalize (numS x).1 = nx at *
        generalize (numS y).1 = ny at *
        generalize (numS x).2 = bx at *
        generalize (numS y).2 = by' at *
        have hbad := Lib.hid (show ¬ ((bx = true ∧ nx ≤ 9) ∧ (by' = true ∧ ny ≤ 2000)) → F = ([], 5) from fun h => hff.out (by rw [htwo.out, if_neg h]))
        have hgood := Lib.hid (show ((bx = true ∧ nx ≤ 9) ∧ (by' = true ∧ ny ≤ 2000)) → rdRows (ws.take (k + 1)) = some (ys ++ [⟨nx, ny⟩]) from fun h => hst.out _ (by rw [htwo.out, if_pos h]))
        clear hst hff htwo
        by_cases hk9 : (bx = true ∧ nx ≤ 9) ∧ (by' = true ∧ ny ≤ 2000)
        · obtain ⟨⟨rfl, hx9⟩, rfl, hy9⟩ := hk9
          have hG := Lib.hid (hgood.out ⟨⟨rfl, hx9⟩, rfl, hy9⟩)
          clear hgood hbad
          have d1 : decide (9 < nx) = false := by rw [decide_eq_false_iff_not]; omega
          have d2 : decide (2000 < ny) = false := by rw [decide_eq_false_iff_not]; omega
          have e1 : IntKind.i8.wrap nx = nx := by simp [IntKind.wrap, IntKind.bits, IntKind.signed]; omega
          have e2 : IntKind.i16.wrap ny = ny := by simp [IntKind.wrap, IntKind.bits, IntKind.signed]; omega
          have HBa := Lib.hid (HB.out.alloc HB.out.size (.cells #[.int .i8 nx, .int .i16 ny] 72))
          go_wp2_with (at_builtin; refine push_app appRow rfl _ _ rfl W.heap.size ys [⟨nx, ny⟩] _ _ rfl rfl (HO.out.alloc _) (bk_row1 (Bk.new _ _ _ _ rfl)) (by have := HL.out; have := hWN.out; simp; omega) (by have := HL.out; have := hWN.out; simp; omega) HBa.out.size ?_)
          intro v9 w9 hO9 hG9 hat
          have hb9 := Lib.hid (HBa.out.grown hG9 HBa.out.size (fun j hj => HO.out.base j hj))
          have hO9 := Lib.hid hO9
          have HWa := HW.out.alloc (.cells #[.int .i8 nx, .int .i16 ny] 72)
          have HW9 := Lib.hid (show Own w9 (W.heap.size + 1) 9 strc 1 _ ws from HWa.keep fun j hj => hG9.block j (HWa.lt j hj) (fun e => HAP.out j e.symm hj))
          have HA9 := Lib.hid (show ∀ j, v9.ownBlock = some j → (Value.slice (some ⟨b, o, none⟩) ws.length cap).ownBlock = some j → False from fun j h1 h2 => by
            rcases hat with e | e
            · exact HAP.out j (e ▸ h1) h2
            · have h3 := Option.some.inj (e.symm.trans h1)
              have h4 := HW.out.lt j h2
              omega)
          clear hG9 hat HWa
          go_wp2_with fail
          go_roundw
          case rel => exact ⟨k + 1, _, by omega, by go_num, by simp; omega, hG.out, hO9.out, HW9.out, HA9.out, hb9.out⟩
          case measure => first | (simp [intOf]; done) | (simp [intOf]; omega)
        · have hE := Lib.hid (hbad.out hk9)
          clear hgood hbad
          cases bx
          · clear hk9
            go_wp2_with fail
            go_ret2
            exact ⟨_, by rw [hE.out]; rfl, by rw [hE.out]; exact hEmpty.out _ _ rfl HB.out.size, HBe.out⟩
          cases by'
          · clear hk9
            go_wp2_with fail
            go_ret2
            exact ⟨_, by rw [hE.out]; rfl, by rw [hE.out]; exact hEmpty.out _ _ rfl HB.out.size, HBe.out⟩
          by_cases h9 : 9 < nx
          · have d1 : decide (9 < nx) = true := by rw [decide_eq_true_eq]; omega
            clear hk9 h9
            go_wp2_with fail
            go_ret2
            exact ⟨_, by rw [hE.out]; rfl, by rw [hE.out]; exact hEmpty.out _ _ rfl HB.out.size, HBe.out⟩
          · have d1 : decide (9 < nx) = false := by rw [decide_eq_false_iff_not]; omega
            have d2 : decide (2000 < ny) = true := by rw [decide_eq_true_eq]; have : ¬ ny ≤ 2000 := fun h => hk9 ⟨⟨rfl, by omega⟩, rfl, h⟩; omega
            clear hk9 h9
            go_wp2_with fail
            go_ret2
            exact ⟨_, by rw [hE.out]; rfl, by rw [hE.out]; exact hEmpty.out _ _ rfl HB.out.size, HBe.out⟩
      · have hE := Lib.hid (hff.out (rdRow_len h2))
        obtain ⟨A2, cap2, rfl, hle2, hm2, -⟩ := (hOp.sl strc_len).out
        have h2' : (((splitL 58 w).length : Int) == 2) = false := by rw [beq_eq_false_iff_ne]; omega
        generalize (splitL 58 w).length = n2 at *
        clear hOp
        go_wp2_with fail
        go_ret2
        exact ⟨_, by rw [hE.out]; rfl, by rw [hE.out]; exact hEmpty.out _ _ rfl HB.out.size, HBe.out⟩
    · obtain rfl : k = ws.length := by omega
      rw [List.take_of_length_le (Nat.le_refl _)] at HR
      have hD := Lib.hid (hdone.out ys HR.out)
      have hok := rdRows_facts ws ys HR.out
      have hok2 : ∀ x ∈ ys, x.ok := fun x hx => by
        obtain ⟨h1, h2, h3, h4⟩ := hok x hx
        exact ⟨by omega, by omega, by omega, by omega⟩
      have q1 := Lib.hid (l07Rows_calls ys hok2 _ _ (HO.out.sl Row.c_len))
      have hEmpty := fun (w' : World) (g : Nat) (hg : g = w'.heap.size) (hB : W.heap.size ≤ w'.heap.size) => Own.empty (α := Row) (c := Row.c) (sz := 2) (E := 72) w' W.heap.size g hg hB
      have hEmpty := Lib.hid hEmpty
      have HBe := Lib.hid (HB.out.alloc HB.out.size (.cells #[] 72))
      clear hok hok2
      go_wp2_with fail
      refine q1.out.mono ?_
      rintro e w3 ⟨rfl, rfl⟩
      cases hv : vRowsB ys
      · rw [hv, if_neg (by decide)] at hD
        clear hv q1
        go_wp2_with fail
        go_ret2
        exact ⟨_, by rw [hD.out]; rfl, by rw [hD.out]; exact hEmpty.out _ _ rfl HB.out.size, HBe.out⟩
      · rw [hv, if_pos rfl] at hD
        clear hv q1
        go_wp2_with fail
        go_ret2
        exact ⟨_, by rw [hD.out]; rfl, by rw [hD.out]; exact HO.out, HB.out⟩
end Go.Proofs.YthlcmiediedcfaaDoor
