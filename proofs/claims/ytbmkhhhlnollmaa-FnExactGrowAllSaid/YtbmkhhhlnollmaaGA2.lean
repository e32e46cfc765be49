/-
What the laws do with rows of rows of cells. Conditions: the rows are the call's own.
-/
import Derived.Test.YtbmkhhhlnollmaaGA1
set_option linter.unusedVariables false
set_option linter.unusedSimpArgs false
set_option maxRecDepth 100000
namespace Go.Proofs.Ytbmkhhhlnollmaa
open Go.RowKit
def tot (xss : List (List Cell)) : Nat := (xss.map List.length).sum
theorem tot_succ (xss : List (List Cell)) (j : Nat) (hj : j < xss.length) : tot (xss.take (j + 1)) = tot (xss.take j) + xss[j].length := by
  unfold tot
  rw [List.take_succ_eq_append_getElem hj, List.map_append, List.sum_append]
  rfl
theorem tot_take (xss : List (List Cell)) : ∀ j, tot (xss.take j) ≤ tot xss := by
  intro j
  have : xss = xss.take j ++ xss.drop j := (List.take_append_drop j xss).symm
  have h2 : tot xss = tot (xss.take j) + tot (xss.drop j) := by
    unfold tot
    conv => lhs; rw [this]
    rw [List.map_append, List.sum_append]
  omega
theorem tot_mem (xss : List (List Cell)) (j : Nat) (hj : j < xss.length) : xss[j].length ≤ tot xss := by
  have h1 := tot_succ xss j hj
  have h2 := tot_take xss (j + 1)
  omega
def ssMarks (k : Int) (xss : List (List Cell)) : List (List Cell) := (List.range xss.length).map fun i => cellMarks (k + 2 * (tot (xss.take i) : Int)) (xss.getD i []).length
theorem ssMarks_len (k : Int) (xss : List (List Cell)) : (ssMarks k xss).length = xss.length := by simp [ssMarks]
theorem ssMarks_get (k : Int) (xss : List (List Cell)) (i : Nat) (hi : i < xss.length) : (ssMarks k xss)[i]? = some (cellMarks (k + 2 * (tot (xss.take i) : Int)) xss[i].length) := by
  simp [ssMarks, hi, List.getD_eq_getElem?_getD]
theorem mix_get {α : Type} (ms xs : List α) (j : Nat) (h : ms.length = xs.length) (hj : j < xs.length) : (ms.take j ++ xs.drop j)[j]? = some xs[j] := by
  rw [List.getElem?_append_right (by rw [List.length_take]; omega), List.length_take, List.getElem?_drop]
  rw [show j + (j - min j ms.length) = j by omega, List.getElem?_eq_getElem hj]
theorem mix_set {α : Type} (ms xs : List α) (j : Nat) (h : ms.length = xs.length) (hj : j < xs.length) (m : α) (hm : ms[j]? = some m) : (ms.take j ++ xs.drop j).set j m = ms.take (j + 1) ++ xs.drop (j + 1) := by
  have hjm : j < ms.length := by omega
  rw [List.getElem?_eq_getElem hjm] at hm
  injection hm with hm
  rw [List.set_append_right _ _ (by rw [List.length_take]; omega), List.length_take, show j - min j ms.length = 0 by omega]
  rw [List.drop_eq_getElem_cons hj, List.set_cons_zero, List.take_succ_eq_append_getElem hjm, hm, List.append_assoc]
  rfl
section
variable {w w' : World} {B : Nat} {v : Value} {xss : List (List Cell)}
theorem RR.set {ds : List Sd} {d : Sd} {j : Nat} {ys : List Cell} (h1 : Own w B 47 sdc 1 v ds) (h2 : ds.length = xss.length)
    (h3 : ∀ (i : Nat) (d : Sd) (xs : List Cell), ds[i]? = some d → xss[i]? = some xs → Own w B 36 Cell.c 2 d.v xs ∧ Apart v d.v)
    (h4 : ∀ (i j : Nat) (d e : Sd), i < j → ds[i]? = some d → ds[j]? = some e → Apart d.v e.v)
    (hj : ds[j]? = some d) (hO : Own w' B 36 Cell.c 2 d.v ys) (hG : w.grownBy w' d.v.ownBlock) : RR w' B v (xss.set j ys) := by
  have hjl : j < ds.length := (List.getElem?_eq_some_iff.1 hj).1
  obtain ⟨xj, hxj⟩ : ∃ x, xss[j]? = some x := ⟨xss[j]'(by omega), List.getElem?_eq_getElem (by omega)⟩
  have hv := (h3 j d xj hj hxj).2
  refine ⟨ds, h1.keep (fun k hk => hG.block k (h1.lt k hk) (fun e => hv k hk e.symm)), by rw [List.length_set]; exact h2, fun i e xs he hx => ?_, h4⟩
  by_cases hij : j = i
  · subst hij
    rw [List.getElem?_set_self (by omega)] at hx
    rw [hj] at he
    injection he with he
    injection hx with hx
    subst he; subst hx
    exact ⟨hO, hv⟩
  · rw [List.getElem?_set_ne hij] at hx
    obtain ⟨g1, g2⟩ := h3 i e xs he hx
    refine ⟨g1.keep (fun k hk => hG.block k (g1.lt k hk) (fun e2 => ?_)), g2⟩
    rcases Nat.lt_or_gt_of_ne hij with h | h
    · exact h4 j i d e h hj he k e2.symm hk
    · exact h4 i j e d h he hj k hk e2.symm
end
theorem Own.len {w : World} {B E sz n cap : Nat} {α : Type} {c : α → List Value} {A : Option Addr} {xs : List α} (hc : ∀ x, (c x).length = sz) (h : Own w B E c sz (.slice A n cap) xs) : n = xs.length := by
  obtain ⟨A', cap', hv, -, -, -⟩ := (h.sl hc).out
  injection hv
set_option maxHeartbeats 1000000 in
theorem eqCellSS_same (xss : List (List Cell)) (v u : Value) (w : World) (B B2 : Nat) (hs : RR w B v xss) (ht : RR w B2 u xss) (hn : xss.length ≤ 1000000) :
    Calls Try.prog 37 #[v, u] w fun e w' => e = .returned (.bool true) ∧ Below w.heap.size w w' := by
  obtain ⟨ds, o1, l1, i1, -⟩ := hs
  obtain ⟨es, o2, l2, i2, -⟩ := ht
  obtain ⟨A, cap, rfl, hl, hm, hcell⟩ := (o1.sl sdc_len).sd
  obtain ⟨A2, cap2, rfl, hl2, hm2, hcell2⟩ := (o2.sl sdc_len).sd
  have I1 := Lib.hid i1
  have I2 := Lib.hid i2
  have C1 := Lib.hid hcell
  have C2 := Lib.hid hcell2
  have hq : ((ds.length : Int) != (es.length : Int)) = false := by rw [l1, l2]; simp
  have L1 := Lib.hid l1
  have L2 := Lib.hid l2
  clear i1 i2 hcell hcell2 o1 o2 l1 l2
  go_enter Try.func37, Try.ntmps37
  go_wp2_with fail
  go_loopw [5] (fun i wr => ∃ k : Nat, k ≤ ds.length ∧ i = .int .i64 k ∧ Below w.heap.size w wr) (fun i _ => ds.length - (intOf i).toNat)
  case atStart => exact ⟨0, by omega, rfl, Below.refl _ _⟩
  case round =>
    obtain ⟨k, hk, rfl, hb⟩ := hrel
    have HBr := Lib.hid hb
    have hn1 : ds.length ≤ 1000000 := by rw [L1.out]; exact hn
    have hn2 := Lib.hid (show ds.length = es.length from L1.out.trans L2.out.symm)
    by_cases hlt : k < ds.length
    · obtain ⟨b, o, rfl, hbb, h0⟩ := C1.out k hlt
      obtain ⟨b2, o2, rfl, hbb2, g0⟩ := C2.out k (by have := hn2.out; omega)
      have hkx : k < xss.length := by rw [← L1.out]; exact hlt
      obtain ⟨q1, -⟩ := I1.out k ds[k] xss[k] (List.getElem?_eq_getElem hlt) (List.getElem?_eq_getElem hkx)
      obtain ⟨q2, -⟩ := I2.out k (es[k]'(by have := hn2.out; omega)) xss[k] (List.getElem?_eq_getElem (by have := hn2.out; omega)) (List.getElem?_eq_getElem hkx)
      generalize hd1 : ds[k] = d at *
      generalize hd2 : es[k]'(by have := hn2.out; omega) = f at *
      have h0 := (hb.cell (p := ⟨b, _, none⟩) hbb).trans h0
      have g0 := (hb.cell (p := ⟨b2, _, none⟩) hbb2).trans g0
      have Q1 := Lib.hid ((q1.ext hb).sl Cell.c_len)
      have Q2 := Lib.hid ((q2.ext hb).sl Cell.c_len)
      have hke : k < es.length := by have := hn2.out; omega
      clear q1 q2 hb hd1 hd2
      unfold Sd.v at h0 g0
      have h1 : wr.drew.cell? ⟨b, o + k, none⟩ = some (.slice d.A d.n d.cap) := h0
      go_wp2_with fail
      go_still_tail 8, (by kernel_rfl)
      change wpList _ _ _ _ _ wr.drew
      go_wp2_with fail
      refine (eqCellS_calls xss[k] xss[k] _ _ wr.drew (Q1.out.ext ((Below.refl _ _).drew)) (Q2.out.ext ((Below.refl _ _).drew))).mono ?_
      rintro e w1 ⟨rfl, hb1⟩
      have hb2 := Lib.hid (ext_trans HBr.out.drew hb1)
      have hd : decide (xss[k] = xss[k]) = true := by simp
      rw [hd]
      clear hb1 h0 g0 h1 hd
      go_wp2_with fail
      go_roundw
      case rel => exact ⟨k + 1, by omega, by go_num, hb2.out⟩
      case measure => simp [intOf]; omega
    · obtain rfl : k = ds.length := by omega
      go_wp2_with fail
      go_ret
      exact ⟨rfl, HBr.out⟩
set_option maxHeartbeats 1000000 in
theorem markCellSS_calls (xss : List (List Cell)) (v : Value) (w : World) (B : Nat) (hB : B ≤ w.heap.size) (hs : RR w B v xss) (k : Int) (hk0 : 0 ≤ k) (hk1 : k ≤ 1000000) (hn : xss.length ≤ 1000000) (htt : tot xss ≤ 1000000) :
    Calls Try.prog 38 #[v, .int .i64 k] w fun e w' => e = .returned (.int .i64 (k + 2 * (tot xss : Int))) ∧ RR w' B v (ssMarks k xss) ∧ Below B w w' := by
  obtain ⟨ds, o1, l1, -, -⟩ := id hs
  obtain ⟨A, cap, rfl, hl, hm, -⟩ := (o1.sl sdc_len).sd
  have hs := Lib.hid hs
  have L1 := Lib.hid l1
  clear o1
  rw [l1] at *
  clear l1
  go_enter Try.func38, Try.ntmps38
  go_wp2_with fail
  go_loopw [1, 5] (fun t i wr => ∃ j : Nat, j ≤ xss.length ∧ i = .int .i64 j ∧ t = .int .i64 (k + 2 * (tot (xss.take j) : Int)) ∧ RR wr B (.slice A xss.length cap) ((ssMarks k xss).take j ++ xss.drop j) ∧ Below B w wr) (fun _ i _ => xss.length - (intOf i).toNat)
  case atStart => exact ⟨0, by omega, rfl, by simp [tot], by simpa using hs.out, Below.refl _ _⟩
  case round =>
    obtain ⟨j, hj, rfl, rfl, hR, hb⟩ := hrel
    by_cases hlt : j < xss.length
    · obtain ⟨es, o1, l1, i1, a1⟩ := hR
      obtain ⟨A2, cap2, hv, _, _, hcell⟩ := (o1.sl sdc_len).sd
      have hel : es.length = xss.length := by injection hv with e1 e2 e3; exact e2.symm
      obtain ⟨rfl, rfl⟩ : A = A2 ∧ cap = cap2 := by injection hv with e1 e2 e3; exact ⟨e1, e3⟩
      have hje : j < es.length := by omega
      obtain ⟨b, o, rfl, hbb, h0⟩ := hcell j hje
      obtain ⟨q1, -⟩ := i1 j es[j] xss[j] (List.getElem?_eq_getElem hje) (mix_get _ _ j (ssMarks_len _ _) hlt)
      have hset := Lib.hid (mix_set (ssMarks k xss) xss j (ssMarks_len _ _) hlt _ (ssMarks_get k xss j hlt))
      have hts := Lib.hid (tot_succ xss j hlt)
      have htl := tot_take xss j
      have htm := tot_mem xss j hlt
      have hBr : B ≤ wr.heap.size := Nat.le_trans hB hb.size
      have hsetR := Lib.hid (show ∀ w', Own w' B 36 Cell.c 2 es[j].v (cellMarks (k + 2 * (tot (xss.take j) : Int)) xss[j].length) → wr.grownBy w' es[j].v.ownBlock → RR w' B (.slice (some ⟨b, o, none⟩) xss.length cap) ((ssMarks k xss).take (j + 1) ++ xss.drop (j + 1)) from fun w' hO hG => by
        rw [← hset.out]
        have := RR.set o1 l1 i1 a1 (List.getElem?_eq_getElem hje) hO hG
        exact this)
      have qm := Lib.hid (markCellS_calls xss[j] es[j].v wr B hBr q1 (k + 2 * (tot (xss.take j) : Int)) (by omega) (by omega) (by omega))
      have hbq := Lib.hid (fun k hk => q1.base k hk)
      generalize es[j] = d at *
      unfold Sd.v at *
      have hb := Lib.hid hb
      clear hset hcell hv o1 i1 a1 q1 l1
      go_wp2_with fail
      refine qm.out.mono ?_
      rintro e w1 ⟨rfl, hM, hB1, hG⟩
      have hR1 := Lib.hid (hsetR.out w1 hM hG)
      have hb1 := Lib.hid (hb.out.trans hB1)
      clear hM hB1 hG
      go_wp2_with fail
      go_roundw
      case rel => exact ⟨j + 1, by omega, by go_num, by congr 1; rw [hts.out]; omega, hR1.out, hb1.out⟩
      case measure => simp [intOf]; omega
    · obtain rfl : j = xss.length := by omega
      have hE := Lib.hid (show (ssMarks k xss).take xss.length ++ xss.drop xss.length = ssMarks k xss from by rw [List.drop_length, List.append_nil, List.take_of_length_le (by rw [ssMarks_len]; exact Nat.le_refl _)])
      have hE2 := Lib.hid (show xss.take xss.length = xss from List.take_length)
      have hR := Lib.hid hR
      have hb := Lib.hid hb
      go_wp2_with fail
      go_ret
      exact ⟨by rw [hE2.out]; rfl, by rw [← hE.out]; exact hR.out, hb.out⟩
set_option maxHeartbeats 1000000 in
theorem heldCellSS_calls (xss : List (List Cell)) (v : Value) (w : World) (B : Nat) (k : Int) (hs : RR w B v (ssMarks k xss)) (hk0 : 0 ≤ k) (hk1 : k ≤ 1000000) (hn : xss.length ≤ 1000000) (htt : tot xss ≤ 1000000) :
    Calls Try.prog 39 #[v, .int .i64 k] w fun e w' => e = .returned (.int .i64 (k + 2 * (tot xss : Int))) ∧ Below w.heap.size w w' := by
  obtain ⟨ds, o1, l1, i1, -⟩ := hs
  obtain ⟨A, cap, rfl, hl, hm, hcell⟩ := (o1.sl sdc_len).sd
  have I1 := Lib.hid i1
  have C1 := Lib.hid hcell
  rw [ssMarks_len] at l1
  have L1 := Lib.hid l1
  clear o1 i1 hcell l1
  go_enter Try.func39, Try.ntmps39
  go_wp2_with fail
  go_loopw [1, 5] (fun t i wr => ∃ j : Nat, j ≤ ds.length ∧ i = .int .i64 j ∧ t = .int .i64 (k + 2 * (tot (xss.take j) : Int)) ∧ Below w.heap.size w wr) (fun _ i _ => ds.length - (intOf i).toNat)
  case atStart => exact ⟨0, by omega, rfl, by simp [tot], Below.refl _ _⟩
  case round =>
    obtain ⟨j, hj, rfl, rfl, hb⟩ := hrel
    have HBr := Lib.hid hb
    have hn1 : ds.length ≤ 1000000 := by rw [L1.out]; exact hn
    by_cases hlt : j < ds.length
    · obtain ⟨b, o, rfl, hbb, h0⟩ := C1.out j hlt
      have hkx : j < xss.length := by rw [← L1.out]; exact hlt
      obtain ⟨q1, -⟩ := I1.out j ds[j] _ (List.getElem?_eq_getElem hlt) (ssMarks_get k xss j hkx)
      have hts := Lib.hid (tot_succ xss j hkx)
      have htl := tot_take xss j
      have htm := tot_mem xss j hkx
      generalize ds[j] = d at *
      have h0 := (hb.cell (p := ⟨b, _, none⟩) hbb).trans h0
      have qh := Lib.hid (heldCellS_calls xss[j].length d.v wr (k + 2 * (tot (xss.take j) : Int)) ((q1.ext hb).sl Cell.c_len) (by omega) (by omega) (by omega))
      unfold Sd.v at *
      have hneg : decide (k + 2 * (tot (xss.take j) : Int) + 2 * (xss[j].length : Int) < 0) = false := by rw [decide_eq_false_iff_not]; omega
      clear q1 hb
      go_wp2_with fail
      refine qh.out.mono ?_
      rintro e w1 ⟨rfl, hb1⟩
      have hb2 := Lib.hid (ext_trans HBr.out hb1)
      clear hb1 h0
      go_wp2_with fail
      go_roundw
      case rel => exact ⟨j + 1, by omega, by go_num, by congr 1; rw [hts.out]; omega, hb2.out⟩
      case measure => simp [intOf]; omega
    · obtain rfl : j = ds.length := by omega
      have hE2 := Lib.hid (show xss.take ds.length = xss from by rw [L1.out]; exact List.take_length)
      go_wp2_with fail
      go_ret
      exact ⟨by rw [hE2.out]; rfl, HBr.out⟩
end Go.Proofs.Ytbmkhhhlnollmaa
