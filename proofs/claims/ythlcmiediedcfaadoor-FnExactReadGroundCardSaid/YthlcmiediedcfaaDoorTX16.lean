/-
A ground read from a text, by the program. Conditions: the text is not overlong; the library's variables stand. PRINTED by wip/mk_tx16.py.
-/
import Derived.Test.YthlcmiediedcfaaDoorTX15
set_option linter.unusedVariables false
set_option linter.unusedSimpArgs false
set_option maxRecDepth 100000
namespace Go.Proofs.YthlcmiediedcfaaDoor
open Go.RowKit
theorem ri_head {l : List UInt8} (h : ¬ ((1 ≤ wideG l ∧ wideG l ≤ 9) ∧ 1 ≤ highG l ∧ highG l ≤ 9)) : readG l = ⟨⟨0, 0, z81, []⟩, 5⟩ := readG_none (by rw [← ground_same]; unfold readGI; rw [if_neg h])
theorem ri_none {l : List UInt8} (h : gridI (wideG l) (linesG l) 0 st0 = none) : readG l = ⟨⟨0, 0, z81, []⟩, 5⟩ := readG_none (by
  rw [← ground_same]
  unfold readGI
  split
  · rw [h]; rfl
  · rfl)
theorem ri_done {l : List UInt8} (h : (1 ≤ wideG l ∧ wideG l ≤ 9) ∧ 1 ≤ highG l ∧ highG l ≤ 9) {st : St} (hs : gridI (wideG l) (linesG l) 0 st0 = some st) :
    readG l = if groundT (wideG l : Int) (highG l : Int) st.1 st.2 = l then ⟨⟨(wideG l : Int), (highG l : Int), st.1, st.2⟩, 0⟩ else ⟨⟨0, 0, z81, []⟩, 5⟩ := by
  have e : readGF l = if groundT (wideG l : Int) (highG l : Int) st.1 st.2 = l then some st else none := by
    rw [← ground_same]
    unfold readGI
    rw [if_pos h, hs]
    rfl
  split
  · rename_i hk
    exact readG_some (by rw [e, if_pos hk])
  · rename_i hk
    exact readG_none (by rw [e, if_neg hk])
theorem cutG_len (w : List UInt8) : (cutG w).1.length ≤ w.length := by
  unfold cutG
  split
  · simp
  · exact Nat.le_refl _
set_option maxHeartbeats 8000000 in
theorem implReadGround_calls (l : List UInt8) (hl : l.length ≤ 2000000) (W : World) (ht : TxtP W) : Calls Tryd.prog 36 #[.string ⟨l.toArray⟩] W (RetGX W (readG l)) := by
  have HL := Lib.hid hl
  have HT := Lib.hid ht
  have hb0 := (Below.refl W.heap.size W).alloc (Nat.le_refl _) (.cells Tryd.zeroCells54 54)
  have HB0 := Lib.hid hb0
  have KR0 := Lib.hid (Bk.new W 54 Tryd.zeroCells54 W.heap.size rfl)
  have hzg := Lib.hid zeroG
  have q1 := Lib.hid (split_own l 10 hl (W.alloc (.cells Tryd.zeroCells54 54)) (ht.mx.ext hb0))
  have hw1 := wide_pos l
  clear ht
  obtain ⟨lines, hlines⟩ : ∃ lines, lines = splitL 10 l := ⟨_, rfl⟩
  obtain ⟨m, hm⟩ : ∃ m, m = highG l := ⟨_, rfl⟩
  obtain ⟨nw, hnw⟩ : ∃ nw, nw = wideG l := ⟨_, rfl⟩
  have hlen : lines.length = m + 1 := by
    rw [hm, highG, hlines]
    have := List.length_pos_iff.2 (splitL_ne 10 l)
    omega
  have hmb : m ≤ 2000001 := by have := splitL_len 10 l; rw [hm, highG]; omega
  obtain ⟨F, hF⟩ : ∃ F, F = readG l := ⟨_, rfl⟩
  have hhd := Lib.hid (show ¬ ((1 ≤ nw ∧ nw ≤ 9) ∧ 1 ≤ m ∧ m ≤ 9) → F = ⟨⟨0, 0, z81, []⟩, 5⟩ from fun h => by rw [hF]; rw [hm, hnw] at h; exact ri_head h)
  have hno := Lib.hid (show gridI nw (lines.take m) 0 st0 = none → F = ⟨⟨0, 0, z81, []⟩, 5⟩ from fun h => by rw [hF]; rw [hlines, hm, hnw] at h; exact ri_none h)
  have hdn := Lib.hid (show ((1 ≤ nw ∧ nw ≤ 9) ∧ 1 ≤ m ∧ m ≤ 9) → ∀ st, gridI nw (lines.take m) 0 st0 = some st → F = if groundT (nw : Int) (m : Int) st.1 st.2 = l then ⟨⟨(nw : Int), (m : Int), st.1, st.2⟩, 0⟩ else ⟨⟨0, 0, z81, []⟩, 5⟩ from fun h st hs => by rw [hF]; rw [hlines, hm, hnw] at hs; rw [hm, hnw] at h; rw [hm, hnw]; exact ri_done h hs)
  have hwl := Lib.hid (show ∀ w ∈ lines, w.length ≤ l.length from fun w hmm => split_sum 10 l w (by rw [← hlines]; exact hmm))
  obtain ⟨x0, hx0⟩ : ∃ x0, lines[0]? = some x0 := ⟨lines[0]'(by omega), List.getElem?_eq_getElem (by omega)⟩
  have hnw0 : nw = (splitL 32 x0).length := by
    rw [hnw, wideG, ← hlines]
    congr 2
    cases lines with
    | nil => cases hx0
    | cons a r => simpa using hx0
  have hm0 : x0 ∈ lines := List.mem_of_getElem? hx0
  have hlx0 := hwl.out x0 hm0
  have hnwb : nw ≤ 2000001 := by have := splitL_len 32 x0; omega
  rw [← hF]
  rw [← hlines] at q1
  clear hF hlines hm hnw
  go_enter Tryd.func36, Tryd.ntmps36
  go_wp2_with fail
  refine q1.out.mono ?_
  rintro e w1 ⟨vw, rfl, hOw, hb1⟩
  have HB := Lib.hid (ext_trans HB0.out hb1)
  have KR := Lib.hid (KR0.out.ext hb1)
  obtain ⟨A, cap, rfl, hle, hmm, hcell0⟩ := (hOw.sl strc_len).out
  have HW := Lib.hid (hOw.more (Nat.zero_le _))
  obtain ⟨b, o, rfl, hbb, hc0⟩ := hcell0 (by omega)
  have hcf := hc0 0 x0 hx0 0 _ rfl
  simp only [Nat.mul_one, Nat.add_zero, Nat.zero_mul] at hcf
  rw [hlen] at hle
  have HLB := Lib.hid (show b < w1.heap.size from hbb)
  clear hOw hb1 q1 HB0 KR0 hc0 hcell0
  rw [hlen] at HW ⊢
  have q2 := Lib.hid (split_own x0 32 (by have := HL.out; omega) w1 (HT.out.mx.ext HB.out))
  go_wp2_with fail
  refine q2.out.mono ?_
  rintro e w2 ⟨v2, rfl, hO2, hb2⟩
  obtain ⟨A1, cap1, rfl, hle1, hmm1, -⟩ := (hO2.sl strc_len).out
  rw [← hnw0] at hle1 ⊢
  clear hnw0
  have HB := Lib.hid (ext_trans HB.out hb2)
  have KR := Lib.hid (KR.out.ext hb2)
  have HW := Lib.hid (HW.out.ext hb2)
  have HLB := Lib.hid (Nat.lt_of_lt_of_le HLB.out hb2.size)
  clear hO2 hb2 q2 hcf
  go_wp2_with fail
  refine (sizeS_calls A1 nw cap1 _).mono ?_
  rintro e w3 ⟨rfl, rfl⟩
  go_wp2_with fail
  refine (sizeS_calls (some ⟨b, o, none⟩) (m + 1) cap _).mono ?_
  rintro e w3 ⟨rfl, rfl⟩
  go_upto_region 3 with (fail)
  have qi := Lib.hid (within_calls (nw : Int) 1 9 w2)
  have qj := Lib.hid (within_calls (m : Int) 1 9 w2)
  by_cases hnr : 1 ≤ nw ∧ nw ≤ 9
  case neg =>
    have hE := Lib.hid (hhd.out (fun h => hnr h.1))
    have hin : inB (nw : Int) 1 9 = false := inB_false.2 (fun h => hnr ⟨by omega, by omega⟩)
    rw [hin] at qi
    clear hin hnr
    go_wp2_with fail
    refine qi.out.mono ?_
    rintro e w3 ⟨rfl, rfl⟩
    go_wp2_with (refine wpList_store_m rfl 54 (.tmp 2) (.tmp 34) rfl _ 0 Tryd.zeroCells54 rfl rfl _ _ KR.out (by omega) (by rw [zG_size]; exact gd_sz _) (by rw [hzg.out]; exact gdA_one _ _ _ _ _ _) ?_)
    intro w9 hK9 hG9
    rw [writeAt_all _ _ rfl] at hK9
    have HK9 := Lib.hid (show Bk w9 W.heap.size 54 (gdA 0 0 z81 (.slice none 0 0)) from by rw [← hzg.out]; simpa using hK9)
    have HB9 := Lib.hid (HB.out.grown hG9 HB.out.size (fun j hj => by injection hj with hj; omega))
    clear hK9 hG9
    go_wp2_with fail
    exact cellret2 Tryd.results36 rfl rfl (load_gd z81_len HK9.out) rfl ⟨.slice none 0 0, by rw [hE.out]; rfl, by rw [hE.out]; exact Own.nil_ _ _ _ _ _, HB9.out⟩
  have hin : inB (nw : Int) 1 9 = true := inB_true.2 ⟨by omega, by omega⟩
  rw [hin] at qi
  clear hin
  by_cases hmr : 1 ≤ m ∧ m ≤ 9
  case neg =>
    have hE := Lib.hid (hhd.out (fun h => hmr h.2))
    have hin : inB (m : Int) 1 9 = false := inB_false.2 (fun h => hmr ⟨by omega, by omega⟩)
    rw [hin] at qj
    clear hin hmr
    go_wp2_with fail
    refine qi.out.mono ?_
    rintro e w3 ⟨rfl, h3⟩
    subst h3
    go_wp2_with fail
    refine qj.out.mono ?_
    rintro e w3 ⟨rfl, h3⟩
    subst h3
    go_wp2_with (refine wpList_store_m rfl 54 (.tmp 2) (.tmp 34) rfl _ 0 Tryd.zeroCells54 rfl rfl _ _ KR.out (by omega) (by rw [zG_size]; exact gd_sz _) (by rw [hzg.out]; exact gdA_one _ _ _ _ _ _) ?_)
    intro w9 hK9 hG9
    rw [writeAt_all _ _ rfl] at hK9
    have HK9 := Lib.hid (show Bk w9 W.heap.size 54 (gdA 0 0 z81 (.slice none 0 0)) from by rw [← hzg.out]; simpa using hK9)
    have HB9 := Lib.hid (HB.out.grown hG9 HB.out.size (fun j hj => by injection hj with hj; omega))
    clear hK9 hG9
    go_wp2_with fail
    exact cellret2 Tryd.results36 rfl rfl (load_gd z81_len HK9.out) rfl ⟨.slice none 0 0, by rw [hE.out]; rfl, by rw [hE.out]; exact Own.nil_ _ _ _ _ _, HB9.out⟩
  have hin : inB (m : Int) 1 9 = true := inB_true.2 ⟨by omega, by omega⟩
  rw [hin] at qj
  clear hin
  go_wp2_with fail
  refine qi.out.mono ?_
  rintro e w3 ⟨rfl, h3⟩
  subst h3
  go_wp2_with fail
  refine qj.out.mono ?_
  rintro e w3 ⟨rfl, h3⟩
  subst h3
  clear qi qj
  have hdn := Lib.hid (hdn.out ⟨hnr, hmr⟩)
  have wn : IntKind.i8.wrap (nw : Int) = (nw : Int) := wrap8In _ (by omega) (by omega)
  have wm : IntKind.i8.wrap (m : Int) = (m : Int) := wrap8In _ (by omega) (by omega)
  clear hhd hx0 hm0 hlx0
  have hbd := build2G (nw : Int) (m : Int) w2
  have KX1 := Lib.hid (Bk.new w2 54 Tryd.zeroCells54 w2.heap.size rfl)
  have KR1a := Lib.hid (KR.out.alloc (.cells Tryd.zeroCells54 54))
  have HB1a := Lib.hid (HB.out.alloc HB.out.size (.cells Tryd.zeroCells54 54))
  have HW1a := Lib.hid (HW.out.alloc (.cells Tryd.zeroCells54 54))
  have hWX := Lib.hid (show W.heap.size < w2.heap.size from KR.out.lt)
  go_wp2_with (first | (refine wpList_build_w rfl 54 _ rfl _ _ hbd (by simp only [List.map_toArray, List.map_cons, List.map_nil]; rfl) ?_) | (refine wpList_store_m rfl 54 (.tmp 7) (.tmp 39) rfl _ 0 (gdA (nw : Int) (m : Int) z81 (.slice none 0 0)) rfl rfl _ _ KX1.out (by rw [gdA_size _ _ _ _ z81_len, zG_size]; omega) (by rw [gdA_size _ _ _ _ z81_len]; exact gd_sz _) (gdA_one _ _ _ _ _ _) ?_))
  intro w3 hK3 hG3
  rw [gdA_zero _ _ _ z81_len] at hK3
  have KX := Lib.hid hK3
  have KR := Lib.hid (KR1a.out.grownM hG3 (by have := hWX.out; omega))
  have HB := Lib.hid (HB1a.out.grown hG3 HB1a.out.size (fun j hj => by injection hj with hj; have := hWX.out; omega))
  have HW := Lib.hid (HW1a.out.grownA hG3 (fun k hk e => by simp [Value.ownBlock] at hk; have := HLB.out; omega))
  clear hK3 hG3 KX1 KR1a HB1a HW1a hbd
  generalize w2.heap.size = X at *
  have hLX := Lib.hid (show ∀ j, (Value.slice (some ⟨b, o, none⟩) (m + 1) cap).ownBlock = some j → j < X from fun j hj => by simp [Value.ownBlock] at hj; have := HLB.out; omega)
  have hm9 := hmr.2
  have hn9 := hnr.2
  have hmc : m ≤ cap := by omega
  go_wp2_with fail
  go_loopw [8, 9, 10, 11, 12, 13, 14, 15, 44] (fun _ _ _ _ _ _ _ _ i wr => ∃ (y : Nat) (st : St) (v : Value), y ≤ m ∧ i = .int .i64 (y : Int) ∧ gridI nw (lines.take y) 0 st0 = some st ∧ Fine st (9 * y) ∧ Own wr (X + 1) 98 Cell.c 2 v st.2 ∧ Bk wr X 54 (gdA (nw : Int) (m : Int) st.1 v) ∧ Bk wr W.heap.size 54 Tryd.zeroCells54 ∧ Own wr 0 9 strc 1 (.slice (some ⟨b, o, none⟩) (m + 1) cap) lines ∧ Below W.heap.size W wr) (fun _ _ _ _ _ _ _ _ i _ => m - (intOf i).toNat)
  case atStart => exact ⟨0, st0, .slice none 0 0, by omega, rfl, rfl, Fine.start, Own.nil_ _ _ _ _ _, KX.out, KR.out, HW.out, HB.out⟩
  case round =>
    clear KX KR HW HB HLB wn wm
    obtain ⟨y, st, v, hy, rfl, hgr, hfi, hO, hX, hR, hW, hb⟩ := hrel
    have HG := Lib.hid hgr
    have HFI := Lib.hid hfi
    have HO := Lib.hid hO
    have KX := Lib.hid hX
    have KR := Lib.hid hR
    have HW := Lib.hid hW
    have HB := Lib.hid hb
    clear hgr hfi hO hX hR hW hb
    by_cases hlt : y < m
    · obtain ⟨A', cap', he', -, -, hc1⟩ := (HW.out.sl strc_len).out
      rw [hlen] at he'
      injection he' with he1 _ he3
      subst he1 he3
      obtain ⟨b', o', hbo, hbb, hc0⟩ := hc1 (by omega)
      injection hbo with hbo
      injection hbo with hbo1 hbo2
      subst hbo1 hbo2
      clear hc1
      obtain ⟨ln, hlne⟩ : ∃ w, w = lines[y]'(by omega) := ⟨_, rfl⟩
      have hlk : lines[y]? = some ln := by rw [hlne]; exact List.getElem?_eq_getElem (by omega)
      have hyt := Lib.hid (show ln ∈ lines.take m from List.mem_of_getElem? (show (lines.take m)[y]? = some ln from by rw [List.getElem?_take_of_lt hlt]; exact hlk))
      have hlnl := hwl.out ln (List.mem_of_getElem? hlk)
      have hck := hc0 y ln hlk 0 _ rfl
      simp only [Nat.mul_one, Nat.add_zero] at hck
      have q3 := Lib.hid (split_own ln 32 (by have := HL.out; omega) _ (HT.out.mx.ext HB.out))
      have hgs := Lib.hid (show (splitL 32 ln).length ≤ nw → ∀ s, rowR y (splitL 32 ln) 0 st = some s → gridI nw (lines.take (y + 1)) 0 st0 = some s from fun h1 s h2 => by
        rw [List.take_add_one, hlk, Option.toList_some]
        refine gridI_snoc _ _ _ _ _ _ _ HG.out h1 ?_
        rw [List.length_take, show min y lines.length = y by omega, Nat.zero_add]
        exact h2)
      have hgl := Lib.hid (show ¬ (splitL 32 ln).length ≤ nw → F = ⟨⟨0, 0, z81, []⟩, 5⟩ from fun h => hno.out (gridI_len _ _ _ _ _ hyt.out h))
      have hnow := Lib.hid (show ∀ w ∈ splitL 32 ln, cellP w = none → F = ⟨⟨0, 0, z81, []⟩, 5⟩ from fun w h1 h2 => hno.out (gridI_word _ _ _ _ _ _ hyt.out h1 h2))
      have hwwl := Lib.hid (show ∀ w ∈ splitL 32 ln, w.length ≤ 2000000 from fun w h1 => by have := split_sum 32 ln w h1; have := HL.out; omega)
      clear hc0 hlne hlk hlnl
      go_wp2_with fail
      refine q3.out.mono ?_
      rintro e w4 ⟨v4, rfl, hO4, hb4⟩
      have hbs := hb4.size
      obtain ⟨ws, hws⟩ : ∃ ws, ws = splitL 32 ln := ⟨_, rfl⟩
      rw [← hws] at hgs hgl hnow hwwl hO4
      obtain ⟨A2, cap2, rfl, hle2, hmm2, -⟩ := (hO4.sl strc_len).out
      have hap0 := Lib.hid (show ∀ j, v.ownBlock = some j → (Value.slice A2 ws.length cap2).ownBlock = some j → False from fun j h1 h2 => by
        have := hO4.base j h2
        have h3 := HO.out.lt j h1
        omega)
      have HV := Lib.hid (hO4.more (show X + 1 ≤ _ from by have := KX.out.lt; omega))
      have HB := Lib.hid (ext_trans HB.out hb4)
      have KR := Lib.hid (KR.out.ext hb4)
      have KX := Lib.hid (KX.out.ext hb4)
      have HW := Lib.hid (HW.out.ext hb4)
      have HO := Lib.hid (HO.out.ext hb4)
      clear hO4 hb4 q3 hck hws hbs
      go_wp2_with fail
      go_loopw [10, 11, 12, 13, 14, 15, 52] (fun _ _ _ _ _ _ i wr => ∃ (x : Nat) (st2 : St) (v : Value), x ≤ ws.length ∧ x ≤ nw ∧ i = .int .i64 (x : Int) ∧ rowR y (ws.take x) 0 st = some st2 ∧ Fine st2 (9 * y + x) ∧ Own wr (X + 1) 98 Cell.c 2 v st2.2 ∧ Bk wr X 54 (gdA (nw : Int) (m : Int) st2.1 v) ∧ Bk wr W.heap.size 54 Tryd.zeroCells54 ∧ Own wr 0 9 strc 1 (.slice (some ⟨b, o, none⟩) (m + 1) cap) lines ∧ Own wr (X + 1) 9 strc 1 (.slice A2 ws.length cap2) ws ∧ (∀ j, v.ownBlock = some j → (Value.slice A2 ws.length cap2).ownBlock = some j → False) ∧ Below W.heap.size W wr) (fun _ _ _ _ _ _ i _ => ws.length - (intOf i).toNat)
      case atStart => exact ⟨0, st, v, by omega, by omega, rfl, rfl, HFI.out, HO.out, KX.out, KR.out, HW.out, HV.out, hap0.out, HB.out⟩
      case round =>
        clear KX KR HW HB HV HO HFI hap0
        obtain ⟨x, st2, v, hx, hxn, rfl, hrw, hfi, hO, hX, hR, hW, hV, hap, hb⟩ := hrel
        have HRW := Lib.hid hrw
        have HFI := Lib.hid hfi
        have HO := Lib.hid hO
        have KX := Lib.hid hX
        have KR := Lib.hid hR
        have HW := Lib.hid hW
        have HV := Lib.hid hV
        have HAP := Lib.hid hap
        have HB := Lib.hid hb
        clear hrw hfi hO hX hR hW hV hap hb
        by_cases hxlt : x < ws.length
        · obtain ⟨A', cap', he', -, -, hc1⟩ := (HV.out.sl strc_len).out
          injection he' with he1 _ he3
          subst he1 he3
          obtain ⟨b2, o2, rfl, hbb2, hc0⟩ := hc1 (by omega)
          clear hc1
          obtain ⟨wd, hwe⟩ : ∃ w, w = ws[x] := ⟨_, rfl⟩
          have hwk : ws[x]? = some wd := by rw [hwe]; exact List.getElem?_eq_getElem hxlt
          have hmem := Lib.hid (show wd ∈ ws from List.mem_of_getElem? hwk)
          have hck := hc0 x wd hwk 0 _ rfl
          simp only [Nat.mul_one, Nat.add_zero] at hck
          have hwdl := hwwl.out wd hmem.out
          have hrs := Lib.hid (show ∀ c, cellP wd = some c → rowR y (ws.take (x + 1)) 0 st = some (stepC y x st2 c) from fun c hc => by
            rw [List.take_add_one, hwk, Option.toList_some]
            have := rowR_snoc y _ _ _ _ _ _ HRW.out hc
            rw [List.length_take, show min x ws.length = x by omega, Nat.zero_add] at this
            exact this)
          have hnw2 := Lib.hid (hnow.out wd hmem.out)
          have hy9 : y < 9 := by omega
          clear hc0 hwe hwk
          have qc := Lib.hid (fun W' => cutSuf_calls wd hwdl W')
          have hcl := cutG_len wd
          have hcI := Lib.hid (show cellP wd = if (numI (cutG wd).1 200).2 = true then some ((numI (cutG wd).1 200).1, (cutG wd).2) else none from (cell_same wd).symm)
          obtain ⟨wq, hwq⟩ : ∃ wq, wq = (cutG wd).1 := ⟨_, rfl⟩
          obtain ⟨gu, hgu⟩ : ∃ gu, gu = (cutG wd).2 := ⟨_, rfl⟩
          rw [← hwq, ← hgu] at hcI qc
          rw [← hwq] at hcl
          clear hwq hgu
          have qn := Lib.hid (fun W' (h : TxtP W') => number_calls wq 200 (by omega) W' h.tab h.prs)
          have hnb := numI_bnd wq 200 (by omega)
          generalize (numI wq 200).1 = nh at *
          generalize (numI wq 200).2 = ok at *
          go_wp2_with fail
          refine (qc.out _).mono ?_
          rintro e w5 ⟨rfl, h5⟩
          subst h5
          clear qc
          go_wp2_with fail
          refine (qn.out _ (HT.out.ext HB.out)).mono ?_
          rintro e w6 ⟨rfl, hb6⟩
          have HB := Lib.hid (ext_trans HB.out hb6)
          have KR := Lib.hid (KR.out.ext hb6)
          have KX := Lib.hid (KX.out.ext hb6)
          have HW := Lib.hid (HW.out.ext hb6)
          have HO := Lib.hid (HO.out.ext hb6)
          have HV := Lib.hid (HV.out.ext hb6)
          clear hb6 qn hck hbb2
          by_cases hok : ok = true
          case neg =>
            obtain rfl : ok = false := by simpa using hok
            have hE := Lib.hid (hnw2.out (by rw [hcI.out]; rfl))
            clear hok
            go_wp2_with (refine wpList_store_m rfl 54 (.tmp 2) (.tmp 74) rfl _ 0 Tryd.zeroCells54 rfl rfl _ _ KR.out (by omega) (by rw [zG_size]; exact gd_sz _) (by rw [hzg.out]; exact gdA_one _ _ _ _ _ _) ?_)
            intro w9 hK9 hG9
            rw [writeAt_all _ _ rfl] at hK9
            have HK9 := Lib.hid (show Bk w9 W.heap.size 54 (gdA 0 0 z81 (.slice none 0 0)) from by rw [← hzg.out]; simpa using hK9)
            have HB9 := Lib.hid (HB.out.grown hG9 HB.out.size (fun j hj => by injection hj with hj; omega))
            clear hK9 hG9
            go_wp2_with fail
            exact cellret2 Tryd.results36 rfl rfl (load_gd z81_len HK9.out) rfl ⟨.slice none 0 0, by rw [hE.out]; rfl, by rw [hE.out]; exact Own.nil_ _ _ _ _ _, HB9.out⟩
          subst hok
          by_cases hxw : x < nw
          case neg =>
            have hE := Lib.hid (hgl.out (by omega))
            have hdx : decide ((nw : Int) ≤ (x : Int)) = true := by rw [decide_eq_true_eq]; omega
            have hdx2 : decide (nw ≤ x) = true := by rw [decide_eq_true_eq]; omega
            clear hxw
            go_wp2_with (refine wpList_store_m rfl 54 (.tmp 2) (.tmp 74) rfl _ 0 Tryd.zeroCells54 rfl rfl _ _ KR.out (by omega) (by rw [zG_size]; exact gd_sz _) (by rw [hzg.out]; exact gdA_one _ _ _ _ _ _) ?_)
            intro w9 hK9 hG9
            rw [writeAt_all _ _ rfl] at hK9
            have HK9 := Lib.hid (show Bk w9 W.heap.size 54 (gdA 0 0 z81 (.slice none 0 0)) from by rw [← hzg.out]; simpa using hK9)
            have HB9 := Lib.hid (HB.out.grown hG9 HB.out.size (fun j hj => by injection hj with hj; omega))
            clear hK9 hG9
            go_wp2_with fail
            exact cellret2 Tryd.results36 rfl rfl (load_gd z81_len HK9.out) rfl ⟨.slice none 0 0, by rw [hE.out]; rfl, by rw [hE.out]; exact Own.nil_ _ _ _ _ _, HB9.out⟩
          have hdx : decide ((nw : Int) ≤ (x : Int)) = false := by rw [decide_eq_false_iff_not]; omega
          have hdx2 : decide (nw ≤ x) = false := by rw [decide_eq_false_iff_not]; omega
          have hx9 : x < 9 := by omega
          have hc1 := Lib.hid (show cellP wd = some (nh, gu) from by rw [hcI.out]; rfl)
          have w16 : IntKind.i16.wrap nh = nh := by simp [IntKind.wrap, IntKind.bits, IntKind.signed]; omega
          have hsn := Lib.hid (hrs.out _ hc1.out)
          have hfn := Lib.hid (Fine.step (c := (nh, gu)) HFI.out hx9 hy9 hnb.1 hnb.2)
          have hxc := KX.out.cell (2 + (y * 9 + x)) _ (gdA_h _ _ _ _ HFI.out.hl (y * 9 + x) (by omega))
          rw [show 2 + (y * 9 + x) = 2 + y * 9 + x by omega] at hxc
          have hxf := KX.out.frz (2 + y * 9 + x)
          have HX6 := Lib.hid (KX.out.set (2 + y * 9 + x) (.int .i16 nh))
          rw [gdA_seth _ _ _ HFI.out.hl _ x y hx9 hy9] at HX6
          have HR6 := Lib.hid (KR.out.oth (g' := X) (2 + y * 9 + x) (.int .i16 nh) (by have := hWX.out; omega))
          have HO6 := Lib.hid (show Own (w6.setCell ⟨X, 2 + y * 9 + x, none⟩ (.int .i16 nh)) _ _ _ _ _ _ from HO.out.keep (fun j hj => by have h1 := HO.out.base j hj; rw [Below.heap_setCell _ _ _ _ (show j ≠ _ by simp; omega)]))
          have HW6 := Lib.hid (show Own (w6.setCell ⟨X, 2 + y * 9 + x, none⟩ (.int .i16 nh)) _ _ _ _ _ _ from HW.out.keep (fun j hj => by have h1 := hLX.out j hj; rw [Below.heap_setCell _ _ _ _ (show j ≠ _ by simp; omega)]))
          have HV6 := Lib.hid (show Own (w6.setCell ⟨X, 2 + y * 9 + x, none⟩ (.int .i16 nh)) _ _ _ _ _ _ from HV.out.keep (fun j hj => by have h1 := HV.out.base j hj; rw [Below.heap_setCell _ _ _ _ (show j ≠ _ by simp; omega)]))
          have HB6 := Lib.hid (HB.out.setCell (p := ⟨X, 2 + y * 9 + x, none⟩) (by have := hWX.out; simp; omega) (.int .i16 nh))
          have hl81 : (st2.1.set (y * 9 + x) nh).length = 81 := by rw [List.length_set]; exact HFI.out.hl
          clear hc1 hcI hrs KX KR HO HW HV HB
          go_upto_region 17 with (fail)
          obtain ⟨wz, hwz⟩ : ∃ wz, wz = w6.setCell ⟨X, 2 + y * 9 + x, none⟩ (.int .i16 nh) := ⟨_, rfl⟩
          rw [← hwz] at HX6 HR6 HO6 HW6 HV6 HB6 ⊢
          clear hxc hxf hwz
          have KX := HX6
          have KR := HR6
          have HO := HO6
          have HW := HW6
          have HV := HV6
          have HB := HB6
          clear HX6 HR6 HO6 HW6 HV6 HB6
          cases gu
          · go_wp2_with fail
            go_roundw
            case rel => exact ⟨x + 1, _, _, by omega, by omega, by go_num, hsn.out, hfn.out.le (by omega), HO.out, KX.out, KR.out, HW.out, HV.out, HAP.out, HB.out⟩
            case measure => first | (simp [intOf]; done) | (simp [intOf]; omega)
          · have w8x : IntKind.i8.wrap (x : Int) = (x : Int) := wrap8In _ (by omega) (by omega)
            have w8y : IntKind.i8.wrap (y : Int) = (y : Int) := wrap8In _ (by omega) (by omega)
            have cx := KX.out.cell 83 _ (gdA_z _ _ _ _ hl81)
            have HBa := Lib.hid (HB.out.alloc HB.out.size (.cells #[.int .i8 (x : Int), .int .i8 (y : Int)] 98))
            have HKa := Lib.hid (KX.out.alloc (.cells #[.int .i8 (x : Int), .int .i8 (y : Int)] 98))
            have hfl := HFI.out.len
            go_wp2_with (at_builtin; refine push_app appCell rfl _ _ rfl (X + 1) st2.2 [⟨(x : Int), (y : Int)⟩] _ _ rfl rfl (HO.out.alloc _) (bk_cell1 (Bk.new _ _ _ _ rfl)) (by simp; omega) (by simp; omega) (by have := HKa.out.lt; omega) ?_)
            intro v9 w9 hO9 hG9 hat
            have HWa := HW.out.alloc (.cells #[.int .i8 (x : Int), .int .i8 (y : Int)] 98)
            have HVa := HV.out.alloc (.cells #[.int .i8 (x : Int), .int .i8 (y : Int)] 98)
            have HRa := KR.out.alloc (.cells #[.int .i8 (x : Int), .int .i8 (y : Int)] 98)
            have KX9 := HKa.out.grownW hG9 (fun e => by have := HO.out.base _ e; omega)
            have KR9 := HRa.grownW hG9 (fun e => by have := HO.out.base _ e; have := hWX.out; omega)
            have HW9 := HWa.keep (w' := w9) fun j hj => hG9.block j (HWa.lt j hj) (fun e => by have h1 := HO.out.base j e.symm; have h2 := hLX.out j hj; omega)
            have HV9 := HVa.keep (w' := w9) fun j hj => hG9.block j (HVa.lt j hj) (fun e => HAP.out j e.symm hj)
            have hb9 := HBa.out.grown hG9 HBa.out.size (fun j hj => by have := HO.out.base j hj; have := hWX.out; omega)
            have HAP := Lib.hid (show ∀ j, v9.ownBlock = some j → (Value.slice (some ⟨b2, o2, none⟩) ws.length cap2).ownBlock = some j → False from fun j h1 h2 => by
              rcases hat with e | e
              · exact HAP.out j (e ▸ h1) h2
              · have h3 := Option.some.inj (e.symm.trans h1)
                have h4 := HV.out.lt j h2
                omega)
            obtain ⟨A9, cap9, rfl, -, -, -⟩ := (hO9.sl Cell.c_len).cell
            rw [List.length_append, List.length_singleton] at hO9 HAP ⊢
            have c83 := KX9.cell 83 _ (gdA_z _ _ _ _ hl81)
            have f83 := KX9.frz 83
            have HXz := KX9.set 83 (Value.slice A9 (st2.2.length + 1) cap9)
            rw [gdA_set83 _ _ _ hl81] at HXz
            have hne9 := Lib.hid (show ∀ j, (Value.slice A9 (st2.2.length + 1) cap9).ownBlock = some j → j ≠ X from fun j hj => by have := hO9.base j hj; omega)
            have HOz := hO9.keep (w' := w9.setCell ⟨X, 83, none⟩ (Value.slice A9 (st2.2.length + 1) cap9)) (fun j hj => by rw [Below.heap_setCell _ _ _ _ (hne9.out j hj)])
            have HWz := HW9.keep (w' := w9.setCell ⟨X, 83, none⟩ (Value.slice A9 (st2.2.length + 1) cap9)) (fun j hj => by have h1 := hLX.out j hj; rw [Below.heap_setCell _ _ _ _ (show j ≠ _ by simp; omega)])
            have HVz := HV9.keep (w' := w9.setCell ⟨X, 83, none⟩ (Value.slice A9 (st2.2.length + 1) cap9)) (fun j hj => by have h1 := HV9.base j hj; rw [Below.heap_setCell _ _ _ _ (show j ≠ _ by simp; omega)])
            have KRz := KR9.oth (g' := X) 83 (Value.slice A9 (st2.2.length + 1) cap9) (by have := hWX.out; omega)
            have HBz := hb9.setCell (p := ⟨X, 83, none⟩) (by have := hWX.out; simp; omega) (Value.slice A9 (st2.2.length + 1) cap9)
            have KX := Lib.hid HXz
            have KR := Lib.hid KRz
            have HW := Lib.hid HWz
            have HV := Lib.hid HVz
            have HO := Lib.hid HOz
            have HB := Lib.hid HBz
            clear hO9 hG9 hat HWa HVa HRa KX9 KR9 HW9 HV9 hb9 HXz HOz HWz HVz KRz HBz HBa HKa cx hne9
            go_wp2_with fail
            clear c83 f83
            go_roundw
            case rel => exact ⟨x + 1, _, _, by omega, by omega, by go_num, hsn.out, hfn.out.le (by omega), HO.out, KX.out, KR.out, HW.out, HV.out, HAP.out, HB.out⟩
            case measure => first | (simp [intOf]; done) | (simp [intOf]; omega)
        · obtain rfl : x = ws.length := by omega
          rw [List.take_of_length_le (Nat.le_refl _)] at HRW
          have hgn := Lib.hid (hgs.out hxn _ HRW.out)
          go_wp2_with fail
          go_roundw
          case rel => exact ⟨y + 1, _, _, by omega, by go_num, hgn.out, HFI.out.le (by omega), HO.out, KX.out, KR.out, HW.out, HB.out⟩
          case measure => first | (simp [intOf]; done) | (simp [intOf]; omega)
    · obtain rfl : y = m := by omega
      have hD := Lib.hid (hdn.out _ HG.out)
      obtain ⟨s1, s2⟩ := st
      obtain ⟨Av, capv, rfl, -, -, -⟩ := (HO.out.sl Cell.c_len).cell
      have hl81 := HFI.out.hl
      have ldx := load_gd hl81 KX.out
      have qt := Lib.hid (implGroundText_calls (nw : Int) (y : Int) s1 s2 (.slice Av s2.length capv) _ (HT.out.tab.ext HB.out) ⟨by omega, by omega, by omega, by omega, hl81, (fun n hn => by have := HFI.out.ht n hn; omega), HFI.out.gl, HO.out.sl Cell.c_len⟩)
      simp only at hD
      generalize groundT (nw : Int) (y : Int) s1 s2 = J at *
      go_wp2_with (refine wpList_load_w rfl 54 (.tmp 7) rfl _ rfl _ ldx ?_)
      refine qt.out.mono ?_
      rintro e w5 ⟨rfl, hb5⟩
      have HB := Lib.hid (ext_trans HB.out hb5)
      have KR := Lib.hid (KR.out.ext hb5)
      have KX := Lib.hid (KX.out.ext hb5)
      have HO := Lib.hid (HO.out.ext hb5)
      clear hb5 qt ldx
      by_cases hj : J = l
      case neg =>
        rw [if_neg hj] at hD
        have hE := hD
        have hq2 : (J == l) = false := by simpa using hj
        go_wp2_with (refine wpList_store_m rfl 54 (.tmp 2) (.tmp 99) rfl _ 0 Tryd.zeroCells54 rfl rfl _ _ KR.out (by omega) (by rw [zG_size]; exact gd_sz _) (by rw [hzg.out]; exact gdA_one _ _ _ _ _ _) ?_)
        intro w9 hK9 hG9
        rw [writeAt_all _ _ rfl] at hK9
        have HK9 := Lib.hid (show Bk w9 W.heap.size 54 (gdA 0 0 z81 (.slice none 0 0)) from by rw [← hzg.out]; simpa using hK9)
        have HB9 := Lib.hid (HB.out.grown hG9 HB.out.size (fun j hj => by injection hj with hj; omega))
        clear hK9 hG9
        go_wp2_with fail
        exact cellret2 Tryd.results36 rfl rfl (load_gd z81_len HK9.out) rfl ⟨.slice none 0 0, by rw [hE.out]; rfl, by rw [hE.out]; exact Own.nil_ _ _ _ _ _, HB9.out⟩
      rw [if_pos hj] at hD
      subst hj
      have ldx := load_gd hl81 KX.out
      go_wp2_with (first | (refine wpList_load_w rfl 54 (.tmp 7) rfl _ rfl _ ldx ?_) | (refine wpList_store_m rfl 54 (.tmp 2) (.tmp 100) rfl _ 0 (gdA (nw : Int) (y : Int) s1 (.slice Av s2.length capv)) rfl rfl _ _ KR.out (by rw [gdA_size _ _ _ _ hl81, zG_size]; omega) (by rw [gdA_size _ _ _ _ hl81]; exact gd_sz _) (gdA_one _ _ _ _ _ _) ?_))
      intro w9 hK9 hG9
      rw [gdA_zero _ _ _ hl81] at hK9
      have HK9 := Lib.hid hK9
      have HB9 := Lib.hid (HB.out.grown hG9 HB.out.size (fun j hj => by injection hj with hj; omega))
      have HO9 := Lib.hid (HO.out.grownM hG9 (by have := hWX.out; omega))
      clear hK9 hG9 ldx
      go_wp2_with fail
      exact cellret2 Tryd.results36 rfl rfl (load_gd hl81 HK9.out) rfl ⟨_, by rw [hD.out]; rfl, by rw [hD.out]; exact HO9.out.more (by have := hWX.out; omega), HB9.out⟩
end Go.Proofs.YthlcmiediedcfaaDoor
