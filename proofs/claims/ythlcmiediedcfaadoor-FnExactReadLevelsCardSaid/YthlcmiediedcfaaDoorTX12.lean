/-
Signed numbers and levels read from a text, by the reference. Conditions: the text is not overlong; the square can be read.
-/
import Derived.Test.YthlcmiediedcfaaDoorTX3
import Derived.Test.YthlcmiediedcfaaDoorTX7
import Derived.Test.YthlcmiediedcfaaDoorBP2
import Derived.Test.YthlcmiediedcfaaDoorTX10
import Derived.Test.YthlcmiediedcfaaDoorRDV
set_option linter.unusedVariables false
set_option linter.unusedSimpArgs false
set_option maxRecDepth 100000
namespace Go.Proofs.YthlcmiediedcfaaDoor
open Go.RowKit
theorem numS_small (l : List UInt8) : 0 ≤ (numS l).1 ∧ (numS l).1 ≤ 9999999999 := by
  unfold numS
  split
  · rename_i h
    have key : ∀ (m : List UInt8) (acc : Nat), (∀ b ∈ m, digB b = true) → valF acc m < (acc + 1) * 10 ^ m.length := by
      intro m
      induction m with
      | nil => intro acc _; simp [valF]
      | cons b m ih =>
        intro acc hd
        have hb := digB_true.1 (hd b (by simp))
        have h1 := ih (acc * 10 + (b.toNat - 48)) (fun c hc => hd c (by simp [hc]))
        rw [valF_cons, List.length_cons, Nat.pow_succ]
        refine Nat.lt_of_lt_of_le h1 ?_
        rw [show (acc + 1) * (10 ^ m.length * 10) = (acc * 10 + 10) * 10 ^ m.length by rw [Nat.mul_comm (10 ^ m.length) 10, ← Nat.mul_assoc, Nat.add_mul acc 1 10]]
        exact Nat.mul_le_mul_right _ (by omega)
    have h1 := key l 0 (fun b hb => List.all_eq_true.1 h.2 b hb)
    have h2 : 10 ^ l.length ≤ 10 ^ 10 := Nat.pow_le_pow_right (by omega) h.1.2.1
    have h3 : valL l < 10 ^ 10 := by
      have : valF 0 l = valL l := rfl
      omega
    refine ⟨by simp, ?_⟩
    simp only
    omega
  · exact ⟨by simp, by simp⟩
theorem l01Signed_calls (l : List UInt8) (W : World) : Calls Tryd.prog 70 #[.string ⟨l.toArray⟩] W fun e w' => e = .returned (.tuple #[.int .i64 (sgnS l).1, .bool (sgnS l).2]) ∧ w' = W := by
  by_cases h0 : l = []
  · subst h0
    have hv : sgnS [] = numS [] := rfl
    rw [hv]
    have q := Lib.hid (l01Number_calls [] W)
    generalize numS [] = N at *
    clear hv
    go_enter Tryd.func70, Tryd.ntmps70
    go_wp2_with fail
    refine q.out.mono ?_
    rintro e w1 ⟨rfl, rfl⟩
    go_wp2_with fail
    go_ret2
    exact ⟨rfl, rfl⟩
  obtain ⟨b0, t, hbt⟩ : ∃ b t, l = b :: t := by
    cases l with
    | nil => exact absurd rfl h0
    | cons b r => exact ⟨b, r, rfl⟩
  have hne := str_ne h0
  have hi0 : ∀ w, (Instr.index 9 (.string ⟨l.toArray⟩) (.int .i64 0)).run Tryd.prog w = .ok (.int .u8 (b0.toNat : Int)) w := run_sidx l 0 b0 (by rw [hbt]; rfl)
  have hemp : l.isEmpty = false := by simpa using h0
  by_cases h45 : b0 = 45
  · have hv : sgnS l = (-(numS t).1, (numS t).2 && decide (0 < (numS t).1)) := by rw [hbt, h45]; rfl
    rw [hv]
    have q := Lib.hid (l01Number_calls t W)
    have hsl : ∀ w, (Instr.slice 9 (.string ⟨l.toArray⟩) (some (.int .i64 1)) none none).run Tryd.prog w = .ok (.string ⟨t.toArray⟩) w := run_sstr_l l 1 t (by rw [hbt]; rfl) (by rw [hbt]; simp)
    have hb := numS_small t
    have h45' : ((b0.toNat : Int) == 45) = true := by rw [h45]; rfl
    generalize (numS t).1 = n at *
    generalize (numS t).2 = ok at *
    clear hv hbt h45 h0
    go_enter Tryd.func70, Tryd.ntmps70
    go_wp2_with fail
    refine q.out.mono ?_
    rintro e w1 ⟨rfl, rfl⟩
    cases ok
    · go_wp2_with fail
      go_ret2
      exact ⟨rfl, rfl⟩
    · go_wp2_with fail
      go_ret2
      exact ⟨rfl, rfl⟩
  · have hv : sgnS l = numS l := by
      rw [sgnS, if_neg]
      rw [hbt]
      intro h
      exact h45 (Option.some.inj h)
    rw [hv]
    have q := Lib.hid (l01Number_calls l W)
    have h45' : ((b0.toNat : Int) == 45) = false := by
      rw [beq_eq_false_iff_ne]
      intro h
      exact h45 (UInt8.toNat_inj.1 (by have h2 : b0.toNat = 45 := by omega
                                       rw [h2]; rfl))
    generalize numS l = N at *
    clear hv hbt h45 h0
    go_enter Tryd.func70, Tryd.ntmps70
    go_wp2_with fail
    refine q.out.mono ?_
    rintro e w1 ⟨rfl, rfl⟩
    go_wp2_with fail
    go_ret2
    exact ⟨rfl, rfl⟩
/-- What both return of a square and a text of levels. -/
def readLevF (w h : Int) (sl : List Slab) (l : List UInt8) : List Int × Int := if sqOk w h sl = true then rdLevS (levB w h sl) l else ([], 1)
def RetRd {α : Type} (W : World) (E : TypeId) (c : α → List Value) (sz : Nat) (r : List α × Int) (e : Ending) (w' : World) : Prop := ∃ v, e = .returned (.tuple #[v, .int .i64 r.2]) ∧ Own w' W.heap.size E c sz v r.1 ∧ Below W.heap.size W w'
theorem RetRd.mk {α : Type} {W w' : World} {E : TypeId} {c : α → List Value} {sz : Nat} {r : List α × Int} {v : Value} {b : Int} (h2 : b = r.2) (ho : Own w' W.heap.size E c sz v r.1) (hb : Below W.heap.size W w') : RetRd W E c sz r (.returned (.tuple #[v, .int .i64 b])) w' := ⟨v, by rw [h2], ho, hb⟩
theorem bk_i1 {w : World} {g : Nat} {T : TypeId} {x : Int} (h : Bk w g T #[.int .i64 x]) : Sl w w.heap.size i64c 1 (.slice (some ⟨g, 0, none⟩) 1 1) [x] := by
  refine ⟨_, 1, rfl, Nat.le_refl _, by simp, fun _ => ⟨g, 0, rfl, h.lt, fun i y hy j u hu => ?_⟩⟩
  match i, hy with
  | 0, hy =>
    simp at hy
    subst hy
    match j, hu with
    | 0, hu => simp [i64c] at hu; subst hu; exact h.cell 0 _ rfl
    | j + 1, hu => simp [i64c] at hu
  | i + 1, hy => simp at hy
theorem split_sum2 (c : UInt8) : ∀ (l w : List UInt8), w ∈ splitL c l → w.length ≤ l.length
  | [], w, h => by
    rw [splitL] at h
    rw [List.mem_singleton.1 h]
    exact Nat.le_refl _
  | b :: l, w, h => by
    rw [splitL] at h
    split at h
    · rcases List.mem_cons.1 h with rfl | h
      · simp
      · have := split_sum2 c l w h
        simp only [List.length_cons]
        omega
    · split at h
      · rename_i p r e
        rcases List.mem_cons.1 h with rfl | h
        · have := split_sum2 c l p (by rw [e]; simp)
          simp only [List.length_cons]
          omega
        · have := split_sum2 c l w (by rw [e]; exact List.mem_cons_of_mem _ h)
          simp only [List.length_cons]
          omega
      · rw [List.mem_singleton.1 h]
        simp
theorem sgnF_some {l : List UInt8} (h : (sgnS l).2 = true) : sgnF l = some (sgnS l).1 := by rw [sgnF, if_pos h]
theorem sgnF_no {l : List UInt8} (h : (sgnS l).2 = false) : sgnF l = none := by rw [sgnF, if_neg (by rw [h]; decide)]
set_option maxHeartbeats 4000000 in
theorem specReadLevels_calls (w h : Int) (z : Value) (sl : List Slab) (l : List UInt8) (hl : l.length ≤ 2000000) (W : World) (hq : SqIn W w h z sl) :
    Calls Tryd.prog 30 #[sqv w h z, .string ⟨l.toArray⟩] W (RetRd W 2 i64c 1 (readLevF w h sl l)) := by
  have HL := Lib.hid hl
  have hB0 := (Below.refl W.heap.size W).alloc (Nat.le_refl _) (.cells #[.int .i8 w, .int .i8 h, z] 38)
  have K0 := Bk.new W 38 #[.int .i8 w, .int .i8 h, z] W.heap.size rfl
  have HQ := Lib.hid hq
  obtain ⟨Wa, hWa⟩ : ∃ Wa, Wa = W.alloc (.cells #[.int .i8 w, .int .i8 h, z] 38) := ⟨_, rfl⟩
  have hsz : Wa.heap.size = W.heap.size + 1 := by rw [hWa]; simp
  rw [← hWa] at hB0 K0
  have hB1 := hB0.alloc hB0.size (.cells #[] 2)
  have K1 := K0.alloc (.cells #[] 2)
  have hE0 := Own.empty (α := Int) (c := i64c) (sz := 1) (E := 2) Wa (W.heap.size + 1) (W.heap.size + 1) hsz.symm (by omega)
  have q0 := sok_calls W.heap.size 0 w h z sl _ (hq.ext hB1) ⟨K1.cell 0 _ rfl, K1.cell 1 _ rfl, K1.cell 2 _ rfl, K1.lt⟩
  obtain ⟨A2, cap2, rfl, -, -, -⟩ := hq.sl.slab
  rw [hWa] at hB1 K1 hE0 q0
  have HB1 := Lib.hid hB1
  have HK1 := Lib.hid K1
  have HE1 := Lib.hid hE0
  have q0 := Lib.hid q0
  clear hB0 K0 hB1 K1 hE0 hsz hWa hq
  clear Wa
  unfold sqv
  cases hv : sqOk w h sl
  · have hF := Lib.hid (show readLevF w h sl l = ([], 1) from if_neg (by rw [hv]; decide))
    rw [hv] at q0
    clear hv
    go_enter Tryd.func30, Tryd.ntmps30
    go_wp2_with fail
    refine q0.out.mono ?_
    rintro e w1 ⟨rfl, hb1⟩
    have HB := Lib.hid (ext_trans HB1.out hb1)
    have HE := Lib.hid (HE1.out.ext hb1)
    clear hb1
    go_wp2_with fail
    go_ret2
    rw [hF.out]
    exact RetRd.mk rfl (HE.out.more (by omega)) HB.out
  have hF := Lib.hid (show readLevF w h sl l = rdLevS (levB w h sl) l from if_pos hv)
  rw [hv] at q0
  clear hv
  have hLF := Lib.hid (fun xs => levB_facts (w := w) (h := h) (sl := sl) (xs := xs))
  rw [hF.out]
  clear hF
  have ql := Lib.hid (fun xs v W' (hb : Below W.heap.size W W') (hk : Bk W' W.heap.size 38 #[.int .i8 w, .int .i8 h, .slice A2 sl.length cap2]) (hs : Sl W' W'.heap.size i64c 1 v xs) => sLevels_calls W.heap.size 0 w h (.slice A2 sl.length cap2) sl xs v W' (HQ.out.ext hb) ⟨hk.cell 0 _ rfl, hk.cell 1 _ rfl, hk.cell 2 _ rfl, hk.lt⟩ hs)
  generalize levB w h sl = p at *
  clear HQ
  have hEmpty := Lib.hid (fun (w' : World) (g : Nat) (hg : g = w'.heap.size) (hB : W.heap.size ≤ w'.heap.size) => Own.empty (α := Int) (c := i64c) (sz := 1) (E := 2) w' W.heap.size g hg hB)
  by_cases h0 : l = []
  · subst h0
    have hF := Lib.hid (show rdLevS p [] = if p [] = true then ([], 0) else ([], 5) from by
      unfold rdLevS
      simp [allF, Lib.join_nil])
    have hz : (⟨#[]⟩ : ByteArray).toList = [] := by rw [ByteArray.toList_eq]
    generalize rdLevS p [] = F at *
    go_enter Tryd.func30, Tryd.ntmps30
    go_wp2_with fail
    refine q0.out.mono ?_
    rintro e w1 ⟨rfl, hb1⟩
    have HB := Lib.hid (ext_trans HB1.out hb1)
    have HE := Lib.hid (HE1.out.ext hb1)
    have HK := Lib.hid (HK1.out.ext hb1)
    clear hb1 q0
    go_wp2_with fail
    refine (ql.out [] _ _ HB.out HK.out (HE.out.sl i64c_len)).mono ?_
    rintro e w2 ⟨rfl, hb2⟩
    have HB := Lib.hid (ext_trans HB.out hb2)
    have HE := Lib.hid (HE.out.ext hb2)
    clear hb2
    cases hp : p []
    · rw [hp, if_neg (by decide)] at hF
      have HBe := Lib.hid (HB.out.alloc HB.out.size (.cells #[] 2))
      clear hp
      go_wp2_with fail
      go_ret2
      rw [hF.out]
      exact RetRd.mk rfl (hEmpty.out _ _ rfl HB.out.size) HBe.out
    · rw [hp, if_pos rfl] at hF
      have qt := Lib.hid (l06Text_calls [] (by simp) (by simp) _ w2 (HE.out.sl i64c_len))
      simp only [List.map_nil, Lib.join_nil] at qt
      clear hp
      go_wp2_with fail
      refine qt.out.mono ?_
      rintro e w3 ⟨rfl, hb3⟩
      have HB := Lib.hid (ext_trans HB.out hb3)
      have HE := Lib.hid (HE.out.ext hb3)
      clear hb3
      go_wp2_with fail
      go_ret2
      rw [hF.out]
      exact RetRd.mk rfl (HE.out.more (by omega)) HB.out
  have hne := str_ne h0
  have hemp : l.isEmpty = false := by simpa using h0
  obtain ⟨ws, hws⟩ : ∃ ws, ws = splitL 32 l := ⟨_, rfl⟩
  have hF0 := Lib.hid (show rdLevS p l = match allF sgnF ws with
      | some xs => if p xs = true ∧ Lib.join (xs.map Lib.itoa) [32] = l then (xs, 0) else ([], 5)
      | none => ([], 5) from by rw [rdLevS, if_neg h0, hws]; rfl)
  obtain ⟨F, hF⟩ : ∃ F, F = rdLevS p l := ⟨_, rfl⟩
  rw [← hF] at hF0 ⊢
  have hfail := Lib.hid (show ∀ w ∈ ws, sgnF w = none → F = ([], 5) from fun w hm h => by rw [hF0.out, allF_none sgnF ws w hm h])
  have hdone := Lib.hid (show ∀ xs, allF sgnF ws = some xs → F = if p xs = true ∧ Lib.join (xs.map Lib.itoa) [32] = l then (xs, 0) else ([], 5) from fun xs h => by rw [hF0.out, h])
  have hwlen := Lib.hid (show ∀ w ∈ ws, w.length ≤ l.length from fun w hm => split_sum2 32 l w (by rw [← hws]; exact hm))
  have hwn : ws.length ≤ 2000001 := by have := splitL_len 32 l; rw [hws]; omega
  have hWN := Lib.hid hwn
  have q1 := Lib.hid (fun W' => l01Split_calls l 32 hl W')
  rw [← hws] at q1
  clear hF hF0 hws h0 hl
  go_enter Tryd.func30, Tryd.ntmps30
  go_wp2_with fail
  refine q0.out.mono ?_
  rintro e w1 ⟨rfl, hb1⟩
  have HB := Lib.hid (ext_trans HB1.out hb1)
  have HE := Lib.hid (HE1.out.ext hb1)
  have HK := Lib.hid (HK1.out.ext hb1)
  clear hb1 q0 HB1 HE1 HK1
  go_wp2_with fail
  clear hne hemp
  refine (q1.out _).mono ?_
  rintro e w2 ⟨vw, rfl, hOw, hb2⟩
  clear q1
  have HB := Lib.hid (ext_trans HB.out hb2)
  have HE2 := Lib.hid (HE.out.ext hb2)
  have HK := Lib.hid (HK.out.ext hb2)
  obtain ⟨A, cap, rfl, hle, hm, hcell0⟩ := (hOw.sl strc_len).out
  have hap0 := Lib.hid (show ∀ j, (Value.slice (some ⟨W.heap.size + 1, 0, none⟩) 0 0).ownBlock = some j → (Value.slice A ws.length cap).ownBlock = some j → False from fun j h1 h2 => by
    have := hOw.base j h2
    have h3 := HE.out.lt j h1
    omega)
  have hOW0 := Lib.hid (hOw.more (Nat.zero_le _))
  clear hOw hb2 hcell0 HE
  go_wp2_with fail
  go_loopw [6, 8, 9, 10] (fun v i _ _ wr => ∃ (k : Nat) (ys : List Int), k ≤ ws.length ∧ i = .int .i64 (k : Int) ∧ ys.length = k ∧ allF sgnF (ws.take k) = some ys ∧ Own wr (W.heap.size + 1) 2 i64c 1 v ys ∧ Own wr 0 9 strc 1 (.slice A ws.length cap) ws ∧ (∀ j, v.ownBlock = some j → (Value.slice A ws.length cap).ownBlock = some j → False) ∧ Bk wr W.heap.size 38 #[.int .i8 w, .int .i8 h, .slice A2 sl.length cap2] ∧ Below W.heap.size W wr) (fun _ i _ _ _ => ws.length - (intOf i).toNat)
  case atStart => exact ⟨0, [], by omega, rfl, rfl, rfl, HE2.out, hOW0.out, hap0.out, HK.out, HB.out⟩
  case round =>
    clear HE2 HB hOW0 hap0 HK
    obtain ⟨k, ys, hk, rfl, hlen, hrd, hO, hOW, hap, hkb, hb⟩ := hrel
    have HW := Lib.hid hOW
    have HAP := Lib.hid hap
    have HO := Lib.hid hO
    have HK := Lib.hid hkb
    have HB := Lib.hid hb
    have HR := Lib.hid hrd
    clear hO hb hOW hap hrd hkb
    by_cases hlt : k < ws.length
    · obtain ⟨A', cap', he', -, -, hc1⟩ := (HW.out.sl strc_len).out
      injection he' with he1 _ he3
      subst he1 he3
      obtain ⟨b, o, rfl, hbb, hc0⟩ := hc1 (by omega)
      clear hc1
      obtain ⟨wd, hw⟩ : ∃ w, w = ws[k] := ⟨_, rfl⟩
      have hwk : ws[k]? = some wd := by rw [hw]; exact List.getElem?_eq_getElem hlt
      have hmem := Lib.hid (show wd ∈ ws from List.mem_of_getElem? hwk)
      have hck := hc0 k wd hwk 0 _ rfl
      simp only [Nat.mul_one, Nat.add_zero] at hck
      have q1 := Lib.hid (l01Signed_calls wd)
      have hst := Lib.hid (show ∀ r, sgnF wd = some r → allF sgnF (ws.take (k + 1)) = some (ys ++ [r]) from fun r hr => by
        rw [List.take_add_one, hwk, Option.toList_some]
        exact allF_snoc _ _ _ _ _ HR.out hr)
      have hff := Lib.hid (hfail.out wd hmem.out)
      have hs1 := Lib.hid (sgnF_some (l := wd))
      have hs2 := Lib.hid (sgnF_no (l := wd))
      have HBe := Lib.hid (HB.out.alloc HB.out.size (.cells #[] 2))
      clear hc0 hw hwk
      generalize (sgnS wd).1 = n at *
      generalize (sgnS wd).2 = ok at *
      go_wp2_with fail
      refine (q1.out _).mono ?_
      rintro e w2 ⟨rfl, rfl⟩
      clear q1 hck
      cases ok
      · have hE := Lib.hid (hff.out (hs2.out rfl))
        clear hst hff hs1 hs2
        go_wp2_with fail
        go_ret2
        rw [hE.out]
        exact RetRd.mk rfl (hEmpty.out _ _ rfl HB.out.size) HBe.out
      · have hG := Lib.hid (hst.out _ (hs1.out rfl))
        clear hst hff hs1 hs2
        have HBa := Lib.hid (HB.out.alloc HB.out.size (.cells #[.int .i64 n] 2))
        have HKa := Lib.hid (HK.out.alloc (.cells #[.int .i64 n] 2))
        go_wp2_with (at_builtin; refine push_app appI64 rfl _ _ rfl (W.heap.size + 1) ys [n] _ _ rfl rfl (HO.out.alloc _) (bk_i1 (Bk.new _ _ _ _ rfl)) (by have := HL.out; have := hWN.out; simp; omega) (by have := HL.out; have := hWN.out; simp; omega) (by have := HKa.out.lt; omega) ?_)
        intro v9 w9 hO9 hG9 hat
        have hb9 := Lib.hid (HBa.out.grown hG9 HBa.out.size (fun j hj => by have := HO.out.base j hj; omega))
        have hO9 := Lib.hid hO9
        have HWa := HW.out.alloc (.cells #[.int .i64 n] 2)
        have HW9 := Lib.hid (show Own w9 0 9 strc 1 _ ws from HWa.keep fun j hj => hG9.block j (HWa.lt j hj) (fun e => HAP.out j e.symm hj))
        have HK9 := Lib.hid (show Bk w9 _ _ _ from (hG9.block _ HKa.out.lt (fun e => by have := HO.out.base _ e.symm; omega)).trans HKa.out)
        have HA9 := Lib.hid (show ∀ j, v9.ownBlock = some j → (Value.slice (some ⟨b, o, none⟩) ws.length cap).ownBlock = some j → False from fun j h1 h2 => by
          rcases hat with e | e
          · exact HAP.out j (e ▸ h1) h2
          · have h3 := Option.some.inj (e.symm.trans h1)
            have h4 := HW.out.lt j h2
            omega)
        clear hG9 hat HWa
        go_wp2_with fail
        go_roundw
        case rel => exact ⟨k + 1, _, by omega, by go_num, by simp; omega, hG.out, hO9.out, HW9.out, HA9.out, HK9.out, hb9.out⟩
        case measure => first | (simp [intOf]; done) | (simp [intOf]; omega)
    · obtain rfl : k = ws.length := by omega
      rw [List.take_of_length_le (Nat.le_refl _)] at HR
      have hD := Lib.hid (hdone.out ys HR.out)
      have HS := Lib.hid (HO.out.sl i64c_len)
      have ql := Lib.hid (ql.out ys _ _ HB.out HK.out HS.out)
      obtain ⟨J, hJ⟩ : ∃ J, J = Lib.join (ys.map Lib.itoa) [32] := ⟨_, rfl⟩
      rw [← hJ] at hD
      go_wp2_with fail
      refine ql.out.mono ?_
      rintro e w3 ⟨rfl, hb3⟩
      have HB := Lib.hid (ext_trans HB.out hb3)
      have HO := Lib.hid (HO.out.ext hb3)
      have HS := Lib.hid (HS.out.ext hb3)
      clear hb3 ql
      cases hp : p ys
      · rw [hp, if_neg (fun h => by cases h.1)] at hD
        have HBe := Lib.hid (HB.out.alloc HB.out.size (.cells #[] 2))
        clear hp hJ
        go_wp2_with fail
        go_ret2
        rw [hD.out]
        exact RetRd.mk rfl (hEmpty.out _ _ rfl HB.out.size) HBe.out
      · obtain ⟨h60, h100⟩ := hLF.out ys hp
        have qt := Lib.hid (l06Text_calls ys h100 h60 _ w3 HS.out)
        rw [hp] at hD
        rw [← hJ] at qt
        clear hp hJ h60 h100
        by_cases hj : J = l
        · rw [if_pos ⟨rfl, hj⟩] at hD
          subst hj
          go_wp2_with fail
          refine qt.out.mono ?_
          rintro e w4 ⟨rfl, hb4⟩
          have HB := Lib.hid (ext_trans HB.out hb4)
          have HO := Lib.hid (HO.out.ext hb4)
          clear hb4
          go_wp2_with fail
          go_ret2
          rw [hD.out]
          exact RetRd.mk rfl (HO.out.more (by omega)) HB.out
        · rw [if_neg (fun h => hj h.2)] at hD
          have hq2 : (J == l) = false := by simpa using hj
          go_wp2_with fail
          refine qt.out.mono ?_
          rintro e w4 ⟨rfl, hb4⟩
          have HB := Lib.hid (ext_trans HB.out hb4)
          have HBe := Lib.hid (HB.out.alloc HB.out.size (.cells #[] 2))
          clear hb4
          go_wp2_with fail
          go_ret2
          rw [hD.out]
          exact RetRd.mk rfl (hEmpty.out _ _ rfl HB.out.size) HBe.out
end Go.Proofs.YthlcmiediedcfaaDoor
