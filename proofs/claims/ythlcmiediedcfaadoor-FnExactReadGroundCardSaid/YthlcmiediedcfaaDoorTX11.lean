/-
Rows read from a text, by the program. Conditions: the text is not overlong; the library's table, its two errors and the cell of MaxLen stand.
-/
import Derived.Test.YthlcmiediedcfaaDoorTX8
import Derived.Test.YthlcmiediedcfaaDoorTX9
import Derived.Test.YthlcmiediedcfaaDoorTX10
set_option linter.unusedVariables false
set_option linter.unusedSimpArgs false
set_option maxRecDepth 100000
namespace Go.Proofs.YthlcmiediedcfaaDoor
open Go.RowKit
/-- What the library wants of the world to read texts. -/
structure TxtP (W : World) : Prop where
  tab : TabP W
  prs : PrsP W
  mx : MaxP W
theorem MaxP.ext {W W' : World} (h : MaxP W) (hb : Below W.heap.size W W') : MaxP W' := by
  obtain ⟨m, hm⟩ := h
  exact ⟨m, (hb.cell (Lib.lt_of_cell hm)).trans hm⟩
theorem TxtP.ext {W W' : World} (h : TxtP W) (hb : Below W.heap.size W W') : TxtP W' := ⟨h.tab.ext hb, h.prs.ext hb, h.mx.ext hb⟩
theorem split_own (l : List UInt8) (c : UInt8) (hl : l.length ≤ 2000000) (W : World) (hm : MaxP W) : Calls Tryd.prog 66 #[.string ⟨l.toArray⟩, .string ⟨#[c]⟩] W fun e w' => ∃ v, e = .returned v ∧ Own w' W.heap.size 9 strc 1 v (splitL c l) ∧ Below W.heap.size W w' := by
  refine (split_calls l c hl W hm).mono ?_
  rintro e w' ⟨rfl, rfl⟩
  refine ⟨_, rfl, ⟨?_⟩, (Below.refl _ _).alloc (Nat.le_refl _) _⟩
  have h := World.ownsRow_lit (base := W.heap.size) (e := 9) (size := 1) W ((splitL c l).map (fun l => Value.string ⟨l.toArray⟩)).toArray (splitL c l).length (Nat.le_refl _) (by simp only [maxLen]; have := splitL_len c l; omega) (by simp)
  have hc : ∀ ws : List (List UInt8), ws.flatMap strc = (ws.map (fun l => Value.string ⟨l.toArray⟩)).toArray.toList := fun ws => by
    induction ws with
    | nil => rfl
    | cons w ws ih =>
      rw [List.flatMap_cons, ih]
      rfl
  rw [hc]
  exact h
theorem rdRow_I (l : List UInt8) : rdRow l = if (Lib.cut l [58]).2.2 = true ∧ (numI (Lib.cut l [58]).1 9).2 = true ∧ (numI (Lib.cut l [58]).2.1 2000).2 = true then some ⟨(numI (Lib.cut l [58]).1 9).1, (numI (Lib.cut l [58]).2.1 2000).1⟩ else none := by
  unfold rdRow
  rw [← pair_same 9 2000 (by decide) (by decide) (by decide) (by decide), pairI]
  split <;> rfl
theorem numI_bnd (l : List UInt8) (m : Int) (h0 : 0 ≤ m) : 0 ≤ (numI l m).1 ∧ (numI l m).1 ≤ m := by
  unfold numI
  split
  · split
    · rename_i h
      exact ⟨h.2.1, h.2.2⟩
    · exact ⟨Int.le_refl _, h0⟩
  · exact ⟨Int.le_refl _, h0⟩
theorem cut_len (l : List UInt8) (c : UInt8) : (Lib.cut l [c]).1.length ≤ l.length ∧ (Lib.cut l [c]).2.1.length ≤ l.length := by
  rcases index_at c l with ⟨i1, i2⟩ | ⟨a, b, rfl, i2, i3⟩
  · rw [cut_miss c i2]
    exact ⟨Nat.le_refl _, by simp⟩
  · rw [cut_hit c i2]
    simp
    omega
set_option maxHeartbeats 2000000 in
theorem implReadRows_calls (l : List UInt8) (hl : l.length ≤ 2000000) (W : World) (hp : TxtP W) : Calls Tryd.prog 27 #[.string ⟨l.toArray⟩] W fun e w' => ∃ v, e = .returned (.tuple #[v, .int .i64 (readRowsF l).2]) ∧ Own w' W.heap.size 72 Row.c 2 v (readRowsF l).1 ∧ Below W.heap.size W w' := by
  have HL := Lib.hid hl
  have HO0 := Lib.hid (Own.empty (α := Row) (c := Row.c) (sz := 2) (E := 72) W W.heap.size W.heap.size rfl (Nat.le_refl _))
  have HB0 := Lib.hid ((Below.refl W.heap.size W).alloc (Nat.le_refl _) (.cells #[] 72))
  by_cases h0 : l = []
  · subst h0
    have hF : readRowsF [] = ([], 0) := rfl
    rw [hF]
    clear hF
    go_enter Tryd.func27, Tryd.ntmps27
    go_wp2_with fail
    go_ret2
    exact ⟨_, rfl, HO0.out, HB0.out⟩
  have hne := str_ne h0
  have hemp : l.isEmpty = false := by simpa using h0
  obtain ⟨F, hF⟩ : ∃ F, F = readRowsF l := ⟨_, rfl⟩
  rw [← hF]
  obtain ⟨ws, hws⟩ : ∃ ws, ws = splitL 32 l := ⟨_, rfl⟩
  have hfail := Lib.hid (show ∀ w ∈ ws, rdRow w = none → F = ([], 5) from fun w hm h => by rw [hF]; exact rd_fail h0 (by rw [← hws]; exact hm) h)
  have hdone := Lib.hid (show ∀ rs, rdRows ws = some rs → F = if vRowsB rs = true then (rs, 0) else ([], 5) from fun rs h => by rw [hF]; exact rd_done h0 (by rw [← hws]; exact h))
  have hwlen := Lib.hid (show ∀ w ∈ ws, w.length ≤ l.length from fun w hm => split_sum 32 l w (by rw [← hws]; exact hm))
  have hwn : ws.length ≤ 2000001 := by have := splitL_len 32 l; rw [hws]; omega
  have hWN := Lib.hid hwn
  have q1 := Lib.hid (split_own l 32 hl (W.alloc (.cells #[] 72)) (hp.mx.ext HB0.out))
  have HP := Lib.hid hp
  rw [← hws] at q1
  clear hF hws h0 hl hp
  go_enter Tryd.func27, Tryd.ntmps27
  go_wp2_with fail
  clear hne hemp
  refine q1.out.mono ?_
  rintro e w1 ⟨vw, rfl, hOw, hb1⟩
  clear q1
  have HB1 := Lib.hid (ext_trans HB0.out hb1)
  have HO1 := Lib.hid (HO0.out.ext hb1)
  obtain ⟨A, cap, rfl, hle, hm, hcell0⟩ := (hOw.sl strc_len).out
  have hOW0 := Lib.hid (show Own w1 (W.heap.size + 1) 9 strc 1 (.slice A ws.length cap) ws from by simpa using hOw)
  have hap0 := Lib.hid (show ∀ j, (Value.slice (some ⟨W.heap.size, 0, none⟩) 0 0).ownBlock = some j → (Value.slice A ws.length cap).ownBlock = some j → False from fun j h1 h2 => by
    have := hOW0.out.base j h2
    simp [Value.ownBlock] at h1
    omega)
  clear hOw hb1 HB0 HO0 hcell0
  go_wp2_with fail
  go_loopw [4, 6, 7, 8, 9, 10, 11, 12, 13, 21] (fun v _ _ _ _ _ _ _ _ i wr => ∃ (k : Nat) (ys : List Row), k ≤ ws.length ∧ i = .int .i64 (k : Int) ∧ ys.length = k ∧ rdRows (ws.take k) = some ys ∧ Own wr W.heap.size 72 Row.c 2 v ys ∧ Own wr (W.heap.size + 1) 9 strc 1 (.slice A ws.length cap) ws ∧ (∀ j, v.ownBlock = some j → (Value.slice A ws.length cap).ownBlock = some j → False) ∧ Below W.heap.size W wr) (fun _ _ _ _ _ _ _ _ _ i _ => ws.length - (intOf i).toNat)
  case atStart => exact ⟨0, [], by omega, rfl, rfl, rfl, HO1.out, hOW0.out, hap0.out, HB1.out⟩
  case round =>
    clear HO1 HB1 hOW0 hap0
    obtain ⟨k, ys, hk, rfl, hlen, hrd, hO, hOW, hap, hb⟩ := hrel
    have HW := Lib.hid hOW
    have HAP := Lib.hid hap
    have HO := Lib.hid hO
    have HB := Lib.hid hb
    have HR := Lib.hid hrd
    clear hO hb hOW hap hrd
    by_cases hlt : k < ws.length
    · obtain ⟨A', cap', he', -, -, hc1⟩ := (HW.out.sl strc_len).out
      injection he' with he1 _ he3
      subst he1 he3
      obtain ⟨b, o, rfl, hbb, hc0⟩ := hc1 (by omega)
      clear hc1
      obtain ⟨w, hw⟩ : ∃ w, w = ws[k] := ⟨_, rfl⟩
      have hwk : ws[k]? = some w := by rw [hw]; exact List.getElem?_eq_getElem hlt
      have hmem := Lib.hid (show w ∈ ws from List.mem_of_getElem? hwk)
      have hck := hc0 k w hwk 0 _ rfl
      simp only [Nat.mul_one, Nat.add_zero] at hck
      have hlw := hwlen.out w hmem.out
      have q1 := Lib.hid (cut_calls w 58 (by have := HL.out; omega) wr (HP.out.mx.ext HB.out))
      have hst := Lib.hid (show ∀ r, rdRow w = some r → rdRows (ws.take (k + 1)) = some (ys ++ [r]) from fun r hr => by
        rw [List.take_add_one, hwk, Option.toList_some]
        exact rdRows_snoc _ _ _ _ HR.out hr)
      have hff := Lib.hid (hfail.out w hmem.out)
      have hrw := Lib.hid (rdRow_I w)
      have hcl := cut_len w 58
      have hl1 : (Lib.cut w [58]).1.length ≤ 2000000 := by have := HL.out; omega
      have hl2 : (Lib.cut w [58]).2.1.length ≤ 2000000 := by have := HL.out; omega
      obtain ⟨x, hx⟩ : ∃ x, x = (Lib.cut w [58]).1 := ⟨_, rfl⟩
      obtain ⟨y, hy⟩ : ∃ y, y = (Lib.cut w [58]).2.1 := ⟨_, rfl⟩
      obtain ⟨bm, hbm⟩ : ∃ bm, bm = (Lib.cut w [58]).2.2 := ⟨_, rfl⟩
      rw [← hx] at hl1
      rw [← hy] at hl2
      rw [← hx, ← hy, ← hbm] at q1 hrw
      have qx := Lib.hid (fun W' (h : TxtP W') => number_calls x 9 hl1 W' h.tab h.prs)
      have qy := Lib.hid (fun W' (h : TxtP W') => number_calls y 2000 hl2 W' h.tab h.prs)
      have bx9 := numI_bnd x 9 (by omega)
      have by9 := numI_bnd y 2000 (by omega)
      clear hc0 hw hwk hlw hcl hl1 hl2 hx hy hbm
      generalize (numI x 9).1 = nx at *
      generalize (numI y 2000).1 = ny at *
      generalize (numI x 9).2 = bx at *
      generalize (numI y 2000).2 = by' at *
      have hbad := Lib.hid (show ¬ (bm = true ∧ bx = true ∧ by' = true) → F = ([], 5) from fun h => hff.out (by rw [hrw.out, if_neg h]))
      have hgood := Lib.hid (show (bm = true ∧ bx = true ∧ by' = true) → rdRows (ws.take (k + 1)) = some (ys ++ [⟨nx, ny⟩]) from fun h => hst.out _ (by rw [hrw.out, if_pos h]))
      clear hst hff hrw
      go_wp2_with fail
      refine q1.out.mono ?_
      rintro e w2 ⟨rfl, n2, hw2⟩
      clear q1
      have hb2 : Below wr.heap.size wr w2 := by rw [hw2]; exact ext_drewN (Below.refl _ _) n2
      have HB := Lib.hid (ext_trans HB.out hb2)
      have HW := Lib.hid (HW.out.ext hb2)
      have HO := Lib.hid (HO.out.ext hb2)
      clear hb2 hck hw2
      go_wp2_with fail
      refine (qx.out _ (HP.out.ext HB.out)).mono ?_
      rintro e w3 ⟨rfl, hb3⟩
      have HB := Lib.hid (ext_trans HB.out hb3)
      have HW := Lib.hid (HW.out.ext hb3)
      have HO := Lib.hid (HO.out.ext hb3)
      clear hb3 qx
      go_wp2_with fail
      refine (qy.out _ (HP.out.ext HB.out)).mono ?_
      rintro e w4 ⟨rfl, hb4⟩
      have HB := Lib.hid (ext_trans HB.out hb4)
      have HW := Lib.hid (HW.out.ext hb4)
      have HO := Lib.hid (HO.out.ext hb4)
      clear hb4 qy
      by_cases hk9 : bm = true ∧ bx = true ∧ by' = true
      · obtain ⟨rfl, rfl, rfl⟩ := hk9
        have hG := Lib.hid (hgood.out ⟨rfl, rfl, rfl⟩)
        clear hgood hbad
        have e1 : IntKind.i8.wrap nx = nx := by simp [IntKind.wrap, IntKind.bits, IntKind.signed]; omega
        have e2 : IntKind.i16.wrap ny = ny := by simp [IntKind.wrap, IntKind.bits, IntKind.signed]; omega
        have HBa := Lib.hid (HB.out.alloc HB.out.size (.cells #[.int .i8 nx, .int .i16 ny] 72))
        go_wp2_with (at_builtin; refine push_app appRow rfl _ _ rfl W.heap.size ys [⟨nx, ny⟩] _ _ rfl rfl (HO.out.alloc _) (bk_row1 (Bk.new _ _ _ _ rfl)) (by have := HL.out; have := hWN.out; simp; omega) (by have := HL.out; have := hWN.out; simp; omega) HBa.out.size ?_)
        intro v9 w9 hO9 hG9 hat
        have hb9 := Lib.hid (HBa.out.grown hG9 HBa.out.size (fun j hj => HO.out.base j hj))
        have hO9 := Lib.hid hO9
        have HWa := HW.out.alloc (.cells #[.int .i8 nx, .int .i16 ny] 72)
        have HW9 := Lib.hid (show Own w9 (W.heap.size + 1) 9 strc 1 _ ws from HWa.keep fun j hj => hG9.block j (HWa.lt j hj) (fun e => HAP.out j e.symm hj))
        have HA9 := Lib.hid (show ∀ j, v9.ownBlock = some j → (Value.slice (some ⟨b, o, none⟩) ws.length cap).ownBlock = some j → False from fun j h1 h2 => by
          rcases hat with e | e
          · exact HAP.out j (e ▸ h1) h2
          · have h3 := Option.some.inj (e.symm.trans h1)
            have h4 := HW.out.lt j h2
            omega)
        clear hG9 hat HWa
        go_wp2_with fail
        go_roundw
        case rel => exact ⟨k + 1, _, by omega, by go_num, by simp; omega, hG.out, hO9.out, HW9.out, HA9.out, hb9.out⟩
        case measure => first | (simp [intOf]; done) | (simp [intOf]; omega)
      · have hE := Lib.hid (hbad.out hk9)
        clear hgood hbad
        cases bm
        · clear hk9
          go_wp2_with fail
          go_ret2
          exact ⟨_, by rw [hE.out]; rfl, by rw [hE.out]; exact Own.nil_ _ _ _ _ _, HB.out⟩
        cases bx
        · clear hk9
          go_wp2_with fail
          go_ret2
          exact ⟨_, by rw [hE.out]; rfl, by rw [hE.out]; exact Own.nil_ _ _ _ _ _, HB.out⟩
        cases by'
        · clear hk9
          go_wp2_with fail
          go_ret2
          exact ⟨_, by rw [hE.out]; rfl, by rw [hE.out]; exact Own.nil_ _ _ _ _ _, HB.out⟩
        exact absurd ⟨rfl, rfl, rfl⟩ hk9
    · obtain rfl : k = ws.length := by omega
      rw [List.take_of_length_le (Nat.le_refl _)] at HR
      have hD := Lib.hid (hdone.out ys HR.out)
      have hok := rdRows_facts ws ys HR.out
      have hok2 : ∀ x ∈ ys, x.ok := fun x hx => by
        obtain ⟨h1, h2, h3, h4⟩ := hok x hx
        exact ⟨by omega, by omega, by omega, by omega⟩
      have q1 := Lib.hid (implValidRows_calls ys hok2 _ _ (HO.out.sl Row.c_len))
      clear hok hok2
      go_wp2_with fail
      refine q1.out.mono ?_
      rintro e w3 ⟨rfl, hb3⟩
      have HB := Lib.hid (ext_trans HB.out hb3)
      have HO := Lib.hid (HO.out.ext hb3)
      clear hb3
      cases hv : vRowsB ys
      · rw [hv, if_neg (by decide)] at hD
        clear hv q1
        go_wp2_with fail
        go_ret2
        exact ⟨_, by rw [hD.out]; rfl, by rw [hD.out]; exact Own.nil_ _ _ _ _ _, HB.out⟩
      · rw [hv, if_pos rfl] at hD
        clear hv q1
        go_wp2_with fail
        go_ret2
        exact ⟨_, by rw [hD.out]; rfl, by rw [hD.out]; exact HO.out, HB.out⟩
end Go.Proofs.YthlcmiediedcfaaDoor
