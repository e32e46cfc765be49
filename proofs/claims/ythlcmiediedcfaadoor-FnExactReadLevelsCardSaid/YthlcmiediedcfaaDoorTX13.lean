/-
Levels read from a text, by the program. Conditions: the text is not overlong; the square can be read; the library's variables stand.
-/
import Derived.Shelf.Strings.FieldsAny
import Derived.Shelf.Lay
import Derived.Ground.NamesProg
import Derived.Test.YthlcmiediedcfaaDoorTX12
set_option linter.unusedVariables false
set_option linter.unusedSimpArgs false
set_option maxRecDepth 100000
namespace Go.Proofs.YthlcmiediedcfaaDoor
open Go.RowKit
section
open Go.Shelf
shelf_lay LaysM.n157 Nm 157 at Tryd as Tryd.laysFields
end
theorem fieldsGoD_len : ∀ (f : Nat) (cur l : List UInt8), (Lib.fieldsGoD f cur l).length ≤ (if cur = [] then 0 else 1) + l.length
  | 0, cur, l => by
    rw [Lib.fieldsGoD]
    split <;> simp
  | f + 1, cur, l => by
    rw [Lib.fieldsGoD]
    split
    · split <;> simp
    · rename_i hl
      split
      · have := fieldsGoD_len f [] (l.drop (Lib.decodeL l).2)
        rw [List.length_append]
        rw [if_pos rfl, List.length_drop] at this
        split
        · simp; omega
        · simp; omega
      · have := fieldsGoD_len f (cur ++ l.take (Lib.decodeL l).2) (l.drop (Lib.decodeL l).2)
        rw [List.length_drop] at this
        have hp : 0 < l.length := List.length_pos_iff.2 hl
        by_cases h0 : (Lib.decodeL l).2 = 0
        · rw [h0, List.take_zero, List.append_nil, Nat.sub_zero, List.drop_zero] at this
          rw [h0, List.take_zero, List.append_nil, List.drop_zero]
          exact this
        · split at this <;> split <;> omega
theorem fieldsGoD_word : ∀ (f : Nat) (cur l w : List UInt8), w ∈ Lib.fieldsGoD f cur l → w.length ≤ cur.length + l.length
  | 0, cur, l, w, h => by
    rw [Lib.fieldsGoD] at h
    split at h
    · cases h
    · rw [List.mem_singleton.1 h]; omega
  | f + 1, cur, l, w, h => by
    rw [Lib.fieldsGoD] at h
    split at h
    · split at h
      · cases h
      · rw [List.mem_singleton.1 h]; omega
    · split at h
      · rcases List.mem_append.1 h with h | h
        · split at h
          · cases h
          · rw [List.mem_singleton.1 h]; omega
        · have := fieldsGoD_word f _ _ _ h
          rw [List.length_drop] at this
          simp at this
          omega
      · have := fieldsGoD_word f _ _ _ h
        rw [List.length_append, List.length_drop, List.length_take] at this
        omega
theorem fieldsD_len (l : List UInt8) : (Lib.fieldsD l).length ≤ l.length := by
  have := fieldsGoD_len (l.length + 1) [] l
  rw [if_pos rfl] at this
  unfold Lib.fieldsD
  omega
theorem fieldsD_word (l w : List UInt8) (h : w ∈ Lib.fieldsD l) : w.length ≤ l.length := by
  have := fieldsGoD_word (l.length + 1) [] l w h
  simpa using this
/-- The library's tables of white space stand. -/
def FldP (W : World) : Prop := Lib.TabIs Tryd.prog W "strings.asciiSpace" .u8 Lib.asciiSpaceTab ∧ Lib.WhiteTab (Tryd.laysFields_ren.g 6) W
theorem FldP.ext {W W' : World} (h : FldP W) (hb : Below W.heap.size W W') : FldP W' := by
  refine ⟨?_, WhiteTab_below h.2 hb⟩
  obtain ⟨g, hg⟩ : ∃ g, Tryd.prog.globalNamed "strings.asciiSpace" = some g := Option.isSome_iff_exists.1 (by kernel_rfl)
  refine var?_below hb hg ?_ h.1
  have h2 := h.1
  unfold Lib.TabIs World.var? at h2
  rw [hg] at h2
  simp only [Option.bind_some] at h2
  by_cases hlt : g < W.heap.size
  · exact hlt
  · rw [Array.getElem?_eq_none (by omega)] at h2
    cases h2
theorem fields_calls (l : List UInt8) (hl : l.length ≤ 2000000) (W : World) (hf : FldP W) : Calls Tryd.prog 72 #[.string ⟨l.toArray⟩] W fun e w' => ∃ v, e = .returned v ∧ Own w' W.heap.size 9 strc 1 v (Lib.fieldsD l) ∧ Below W.heap.size W w' := by
  refine (Any.strings_Fields_any { Tryd.laysFields with } Tryd.laysFields.i9 Tryd.laysFields.i154 Tryd.laysFields.m0 ⟨l.toArray⟩ W (by simp [ByteArray.size]; omega) hf.1 hf.2).mono ?_
  rintro e w' ⟨A, rfl, -, ho, hb⟩
  refine ⟨_, rfl, ⟨?_⟩, hb⟩
  have hc : ∀ ws : List (List UInt8), ws.flatMap strc = ws.map (fun l => Value.string ⟨l.toArray⟩) := fun ws => by
    induction ws with
    | nil => rfl
    | cons w ws ih =>
      rw [List.flatMap_cons, ih]
      rfl
  rw [hc]
  exact ho
structure LvlP (W : World) : Prop where
  tab : TabP W
  prs : PrsP W
  fld : FldP W
theorem LvlP.ext {W W' : World} (h : LvlP W) (hb : Below W.heap.size W W') : LvlP W' := ⟨h.tab.ext hb, h.prs.ext hb, h.fld.ext hb⟩
theorem prsF_ok {l : List UInt8} {n : Int} (h : Lib.parseIntB 64 l = .ok n) : prsF l = some n := by unfold prsF; rw [h]
theorem prsF_no {l : List UInt8} (h : ∀ n, Lib.parseIntB 64 l ≠ .ok n) : prsF l = none := by
  unfold prsF
  split
  · rename_i n e
    exact absurd e (h n)
  · rfl
set_option maxHeartbeats 4000000 in
theorem implReadLevels_calls (w h : Int) (z : Value) (sl : List Slab) (l : List UInt8) (hl : l.length ≤ 2000000) (W : World) (hp : LvlP W) (hq : SqIn W w h z sl) :
    Calls Tryd.prog 31 #[sqv w h z, .string ⟨l.toArray⟩] W (RetRd W 2 i64c 1 (readLevF w h sl l)) := by
  have HL := Lib.hid hl
  have HP := Lib.hid hp
  have hB0 := (Below.refl W.heap.size W).alloc (Nat.le_refl _) (.cells #[.int .i8 w, .int .i8 h, z] 38)
  have K0 := Bk.new W 38 #[.int .i8 w, .int .i8 h, z] W.heap.size rfl
  have HQ := Lib.hid hq
  have q0 := validSquare_calls w h hq.w0 hq.w1 hq.h0 hq.h1 sl hq.ok z _ ((hq.ext hB0).sl)
  have k0 := K0.cell 0 _ rfl
  have k1 := K0.cell 1 _ rfl
  have k2 := K0.cell 2 _ rfl
  obtain ⟨A2, cap2, rfl, -, -, -⟩ := hq.sl.slab
  have HB1 := Lib.hid hB0
  have HK1 := Lib.hid K0
  have q0 := Lib.hid q0
  clear hB0 K0 hq hp
  unfold sqv
  cases hv : sqOk w h sl
  · have hF := Lib.hid (show readLevF w h sl l = ([], 1) from if_neg (by rw [hv]; decide))
    rw [hv] at q0
    clear hv
    go_enter Tryd.func31, Tryd.ntmps31
    go_wp2_with fail
    refine q0.out.mono ?_
    rintro e w1 ⟨rfl, hb1⟩
    have HB := Lib.hid (ext_trans HB1.out hb1)
    clear hb1
    go_wp2_with fail
    go_ret2
    rw [hF.out]
    exact RetRd.mk rfl (Own.nil_ _ _ _ _ _) HB.out
  have hF := Lib.hid (show readLevF w h sl l = rdLevI (levB w h sl) (Lib.fieldsD l) l from by
    rw [rdLev_same (levB w h sl) (fun xs hx => (levB_facts hx).2) l _ (fun ha => Lib.fieldsD_ascii l ha)]
    exact if_pos hv)
  have hJoin := Lib.hid (fun xs (hx : levB w h sl xs = true) => show levelsT w h sl xs = Lib.join (xs.map Lib.itoa) [32] from if_pos hx)
  rw [hv] at q0
  clear hv
  have hLF := Lib.hid (fun xs => levB_facts (w := w) (h := h) (sl := sl) (xs := xs))
  rw [hF.out]
  clear hF
  have ql := Lib.hid (fun xs v W' (hb : Below W.heap.size W W') (hs : Sl W' W'.heap.size i64c 1 v xs) => validLevels_calls w h (.slice A2 sl.length cap2) sl xs v W' (HQ.out.ext hb) hs)
  have qt := Lib.hid (fun xs v W' (hb : Below W.heap.size W W') (hs : Sl W' W'.heap.size i64c 1 v xs) => implLevelsText_calls w h (.slice A2 sl.length cap2) sl xs v W' (HP.out.tab.ext hb) (HQ.out.ext hb) hs)
  unfold sqv at ql qt
  generalize levB w h sl = p at *
  generalize levelsT w h sl = lt at *
  clear HQ
  obtain ⟨ws, hws⟩ : ∃ ws, ws = Lib.fieldsD l := ⟨_, rfl⟩
  have hwlen := Lib.hid (show ∀ w ∈ ws, w.length ≤ l.length from fun w hm => fieldsD_word l w (by rw [← hws]; exact hm))
  have hwn : ws.length ≤ 2000001 := by have := fieldsD_len l; rw [hws]; omega
  have hWN := Lib.hid hwn
  have q1 := Lib.hid (fun W' (hf : FldP W') => fields_calls l hl W' hf)
  rw [← hws] at q1 ⊢
  obtain ⟨F, hF⟩ : ∃ F, F = rdLevI p ws l := ⟨_, rfl⟩
  rw [← hF]
  have hfail := Lib.hid (show ∀ w ∈ ws, prsF w = none → F = ([], 5) from fun w hm h => by rw [hF, rdLevI, allF_none prsF ws w hm h])
  have hdone := Lib.hid (show ∀ xs, allF prsF ws = some xs → F = if p xs = true ∧ Lib.join (xs.map Lib.itoa) [32] = l then (xs, 0) else ([], 5) from fun xs h => by rw [hF, rdLevI, h])
  clear hF hws hl
  go_enter Tryd.func31, Tryd.ntmps31
  go_wp2_with fail
  refine q0.out.mono ?_
  rintro e w1 ⟨rfl, hb1⟩
  have hB1 := ext_trans HB1.out hb1
  have HK := HK1.out.ext hb1
  have hsz := HK.lt
  have HE := Lib.hid (Own.empty (α := Int) (c := i64c) (sz := 1) (E := 2) w1 (W.heap.size + 1) w1.heap.size rfl (by omega))
  have HB := Lib.hid (hB1.alloc hB1.size (.cells #[] 2))
  have HK := Lib.hid (HK.alloc (.cells #[] 2))
  clear hb1 q0 HB1 HK1 hB1 k0 k1 k2 hsz
  go_wp2_with fail
  refine (q1.out _ (HP.out.fld.ext HB.out)).mono ?_
  rintro e w2 ⟨vw, rfl, hOw, hb2⟩
  clear q1
  have HB := Lib.hid (ext_trans HB.out hb2)
  have HE2 := Lib.hid (HE.out.ext hb2)
  have HK := Lib.hid (HK.out.ext hb2)
  obtain ⟨A, cap, rfl, hle, hm, hcell0⟩ := (hOw.sl strc_len).out
  have hap0 := Lib.hid (show ∀ j, (Value.slice (some ⟨w1.heap.size, 0, none⟩) 0 0).ownBlock = some j → (Value.slice A ws.length cap).ownBlock = some j → False from fun j h1 h2 => by
    have := hOw.base j h2
    have h3 := HE.out.lt j h1
    omega)
  have hOW0 := Lib.hid (hOw.more (Nat.zero_le _))
  clear hOw hb2 hcell0 HE
  go_wp2_with fail
  go_loopw [6, 8, 9, 10, 18] (fun v _ _ _ i wr => ∃ (k : Nat) (ys : List Int), k ≤ ws.length ∧ i = .int .i64 (k : Int) ∧ ys.length = k ∧ allF prsF (ws.take k) = some ys ∧ Own wr (W.heap.size + 1) 2 i64c 1 v ys ∧ Own wr 0 9 strc 1 (.slice A ws.length cap) ws ∧ (∀ j, v.ownBlock = some j → (Value.slice A ws.length cap).ownBlock = some j → False) ∧ Bk wr W.heap.size 38 #[.int .i8 w, .int .i8 h, .slice A2 sl.length cap2] ∧ Below W.heap.size W wr) (fun _ _ _ _ i _ => ws.length - (intOf i).toNat)
  case atStart => exact ⟨0, [], by omega, rfl, rfl, rfl, HE2.out, hOW0.out, hap0.out, HK.out, HB.out⟩
  case round =>
    clear HE2 HB hOW0 hap0 HK
    obtain ⟨k, ys, hk, rfl, hlen, hrd, hO, hOW, hap, hkb, hb⟩ := hrel
    have HW := Lib.hid hOW
    have HAP := Lib.hid hap
    have HO := Lib.hid hO
    have HK := Lib.hid hkb
    have HB := Lib.hid hb
    have HR := Lib.hid hrd
    clear hO hb hOW hap hrd hkb
    by_cases hlt : k < ws.length
    · obtain ⟨A', cap', he', -, -, hc1⟩ := (HW.out.sl strc_len).out
      injection he' with he1 _ he3
      subst he1 he3
      obtain ⟨b, o, rfl, hbb, hc0⟩ := hc1 (by omega)
      clear hc1
      obtain ⟨wd, hw⟩ : ∃ w, w = ws[k] := ⟨_, rfl⟩
      have hwk : ws[k]? = some wd := by rw [hw]; exact List.getElem?_eq_getElem hlt
      have hmem := Lib.hid (show wd ∈ ws from List.mem_of_getElem? hwk)
      have hck := hc0 k wd hwk 0 _ rfl
      simp only [Nat.mul_one, Nat.add_zero] at hck
      have hlw := hwlen.out wd hmem.out
      have q1 := Lib.hid (parse_calls wd (by have := HL.out; omega) wr (HP.out.prs.ext HB.out))
      have hst := Lib.hid (show ∀ r, prsF wd = some r → allF prsF (ws.take (k + 1)) = some (ys ++ [r]) from fun r hr => by
        rw [List.take_add_one, hwk, Option.toList_some]
        exact allF_snoc _ _ _ _ _ HR.out hr)
      have hff := Lib.hid (hfail.out wd hmem.out)
      have hs1 := Lib.hid (fun n => prsF_ok (l := wd) (n := n))
      have hs2 := Lib.hid (prsF_no (l := wd))
      clear hc0 hw hwk hlw
      go_wp2_with fail
      refine q1.out.mono ?_
      rintro e w2 ⟨hh, hb2⟩
      have HB := Lib.hid (ext_trans HB.out hb2)
      have HW := Lib.hid (HW.out.ext hb2)
      have HO := Lib.hid (HO.out.ext hb2)
      have HK := Lib.hid (HK.out.ext hb2)
      clear q1 hck hb2
      rcases hh with ⟨n, hr, n0, n1, rfl⟩ | ⟨n, t, q, hr, rfl⟩
      · have hG := Lib.hid (hst.out _ (hs1.out n hr))
        clear hst hff hs1 hs2 hr
        have HBa := Lib.hid (HB.out.alloc HB.out.size (.cells #[.int .i64 n] 2))
        have HKa := Lib.hid (HK.out.alloc (.cells #[.int .i64 n] 2))
        go_wp2_with (at_builtin; refine push_app appI64 rfl _ _ rfl (W.heap.size + 1) ys [n] _ _ rfl rfl (HO.out.alloc _) (bk_i1 (Bk.new _ _ _ _ rfl)) (by have := HL.out; have := hWN.out; simp; omega) (by have := HL.out; have := hWN.out; simp; omega) (by have := HKa.out.lt; omega) ?_)
        intro v9 w9 hO9 hG9 hat
        have hb9 := Lib.hid (HBa.out.grown hG9 HBa.out.size (fun j hj => by have := HO.out.base j hj; omega))
        have hO9 := Lib.hid hO9
        have HWa := HW.out.alloc (.cells #[.int .i64 n] 2)
        have HW9 := Lib.hid (show Own w9 0 9 strc 1 _ ws from HWa.keep fun j hj => hG9.block j (HWa.lt j hj) (fun e => HAP.out j e.symm hj))
        have HK9 := Lib.hid (show Bk w9 _ _ _ from (hG9.block _ HKa.out.lt (fun e => by have := HO.out.base _ e.symm; omega)).trans HKa.out)
        have HA9 := Lib.hid (show ∀ j, v9.ownBlock = some j → (Value.slice (some ⟨b, o, none⟩) ws.length cap).ownBlock = some j → False from fun j h1 h2 => by
          rcases hat with e | e
          · exact HAP.out j (e ▸ h1) h2
          · have h3 := Option.some.inj (e.symm.trans h1)
            have h4 := HW.out.lt j h2
            omega)
        clear hG9 hat HWa
        go_wp2_with fail
        go_roundw
        case rel => exact ⟨k + 1, _, by omega, by go_num, by simp; omega, hG.out, hO9.out, HW9.out, HA9.out, HK9.out, hb9.out⟩
        case measure => first | (simp [intOf]; done) | (simp [intOf]; omega)
      · have hE := Lib.hid (hff.out (hs2.out hr))
        clear hst hff hs1 hs2 hr
        go_wp2_with fail
        go_ret2
        rw [hE.out]
        exact RetRd.mk rfl (Own.nil_ _ _ _ _ _) HB.out
    · obtain rfl : k = ws.length := by omega
      rw [List.take_of_length_le (Nat.le_refl _)] at HR
      have hD := Lib.hid (hdone.out ys HR.out)
      have HS := Lib.hid (HO.out.sl i64c_len)
      have ql := Lib.hid (ql.out ys _ _ HB.out HS.out)
      have k0 := HK.out.cell 0 _ rfl
      have k1 := HK.out.cell 1 _ rfl
      have k2 := HK.out.cell 2 _ rfl
      have hj1 := Lib.hid (hJoin.out ys)
      have hLFy := Lib.hid (hLF.out ys)
      go_wp2_with fail
      refine ql.out.mono ?_
      rintro e w3 ⟨rfl, hb3⟩
      have HB := Lib.hid (ext_trans HB.out hb3)
      have HO := Lib.hid (HO.out.ext hb3)
      have HS := Lib.hid (HS.out.ext hb3)
      have HK3 := HK.out.ext hb3
      have k0 := HK3.cell 0 _ rfl
      have k1 := HK3.cell 1 _ rfl
      have k2 := HK3.cell 2 _ rfl
      clear hb3 ql
      cases hp : p ys
      · rw [hp, if_neg (fun h => by cases h.1)] at hD
        clear hp
        go_wp2_with fail
        go_ret2
        rw [hD.out]
        exact RetRd.mk rfl (Own.nil_ _ _ _ _ _) HB.out
      · have qt := Lib.hid (qt.out ys _ w3 HB.out HS.out)
        rw [hp, ← hj1.out hp] at hD
        generalize lt ys = J at *
        clear hp hj1
        by_cases hj : J = l
        · rw [if_pos ⟨rfl, hj⟩] at hD
          subst hj
          go_wp2_with fail
          refine qt.out.mono ?_
          rintro e w4 ⟨rfl, hb4⟩
          have HB := Lib.hid (ext_trans HB.out hb4)
          have HO := Lib.hid (HO.out.ext hb4)
          clear hb4
          go_wp2_with fail
          go_ret2
          rw [hD.out]
          exact RetRd.mk rfl (HO.out.more (by omega)) HB.out
        · rw [if_neg (fun h => hj h.2)] at hD
          have hq2 : (J == l) = false := by simpa using hj
          go_wp2_with fail
          refine qt.out.mono ?_
          rintro e w4 ⟨rfl, hb4⟩
          have HB := Lib.hid (ext_trans HB.out hb4)
          clear hb4
          go_wp2_with fail
          go_ret2
          rw [hD.out]
          exact RetRd.mk rfl (Own.nil_ _ _ _ _ _) HB.out
end Go.Proofs.YthlcmiediedcfaaDoor
