/-
Texts of grounds, of the program. Conditions: the library's table stands in memory; numbers are of their kinds; slices can be read.
-/
import Derived.Test.YthlcmiediedcfaaDoorTX4
set_option linter.unusedVariables false
set_option linter.unusedSimpArgs false
set_option maxRecDepth 100000
namespace Go.Proofs.YthlcmiediedcfaaDoor
open Go.RowKit
theorem specGroundText_calls (w h : Int) (hs : List Int) (gl : List Cell) (z : Value) (W : World) (hq : GdIn W w h hs gl z) :
    Calls Tryd.prog 22 #[.agg (gdA w h hs z)] W fun e w' => e = .returned (str (groundT w h hs gl)) ∧ Below W.heap.size W w' := by
  have hB := (Below.refl W.heap.size W).alloc (Nat.le_refl _) (.cells (gdA w h hs z) 54)
  have HB := Lib.hid hB
  have KG := Lib.hid (Bk.new W 54 (gdA w h hs z) W.heap.size rfl)
  have qo := Lib.hid (sOkG_calls W.heap.size 54 w h hq.w0 hq.w1 hq.h0 hq.h1 hs hq.hl hq.h16 gl z hq.ok _ KG.out (hq.sl.ext hB))
  have HQ := Lib.hid hq
  clear hB hq
  cases hk : gOk w h hs gl
  · have hE := Lib.hid (show groundT w h hs gl = [] from if_neg (by rw [hk]; decide))
    rw [hk] at qo
    clear hk
    go_enter Tryd.func22, Tryd.ntmps22
    go_wp2_with fail
    refine qo.out.mono ?_
    rintro e w1 ⟨rfl, hb1⟩
    go_wp2_with fail
    go_ret
    exact ⟨by rw [hE.out]; rfl, ext_trans HB.out hb1⟩
  · have hE := Lib.hid (show groundT w h hs gl = gtN hs gl w.toNat h.toNat from if_pos hk)
    have qt := Lib.hid (fun W' (k : Below W.heap.size W W') (kb : Bk W' W.heap.size 54 (gdA w h hs z)) => l04Text_calls (gOk_ok hk) HQ.out.hl z W.heap.size 54 W' kb (HQ.out.sl.ext k))
    rw [hk] at qo
    clear hk
    go_enter Tryd.func22, Tryd.ntmps22
    go_wp2_with fail
    refine qo.out.mono ?_
    rintro e w1 ⟨rfl, hb1⟩
    have HB1 := Lib.hid (ext_trans HB.out hb1)
    have KG1 := Lib.hid (KG.out.ext hb1)
    clear hb1
    go_wp2_with fail
    refine (qt.out _ HB1.out KG1.out).mono ?_
    rintro e w2 ⟨rfl, hb2⟩
    go_wp2_with fail
    go_ret
    exact ⟨by rw [hE.out]; rfl, ext_trans HB1.out hb2⟩
theorem ownsRow_ext {w w' : World} {B E sz n : Nat} {v : Value} {bs : List Value} (h : w.ownsRow B E sz v n bs) (hb : Below w.heap.size w w') : w'.ownsRow B E sz v n bs := by
  refine ⟨h.1, ?_⟩
  rcases h.2 with h0 | ⟨g, cap, cur, rfl, hg, hh, r⟩
  · exact .inl h0
  · exact .inr ⟨g, cap, cur, rfl, hg, (hb.block g (Array.getElem?_eq_some_iff.1 hh).1).trans hh, r⟩
theorem bAt_ext {T e : TypeId} {B b : Nat} {p : Value} {bs : List Value} {w w' : World} (h : Lib.BuilderAt T e B b p bs w) (hb : Below w.heap.size w w') : Lib.BuilderAt T e B b p bs w' := by
  have hlt := h.lt
  obtain ⟨h0, v, h1, h2, h3⟩ := h
  exact ⟨h0, v, (hb.block b hlt).trans h1, ownsRow_ext h2 hb, h3⟩
theorem isB_ext {T e : TypeId} {B b : Nat} {bs : List Value} {w w' : World} (h : Lib.IsBuilder T e B b bs w) (hb : Below w.heap.size w w') : Lib.IsBuilder T e B b bs w' := by
  rcases h with h | h
  · exact .inl (bAt_ext h hb)
  · exact .inr (bAt_ext h hb)
theorem isB_lt {T e : TypeId} {B b : Nat} {bs : List Value} {w : World} (h : Lib.IsBuilder T e B b bs w) : b < w.heap.size := by
  rcases h with h | h
  · exact h.lt
  · exact h.lt
theorem write_calls (b : Nat) (l s : List UInt8) (W : World) (h : Lib.IsBuilder 96 5 b b (Lib.byteCells l) W) (hn : l.length + s.length ≤ 100000) :
    Calls Tryd.prog 60 #[.pointer (some ⟨b, 0, none⟩), .string ⟨s.toArray⟩] W fun e w' => (∃ n, e = .returned (.tuple #[.int .i64 n, .nilIface])) ∧ Lib.IsBuilder 96 5 b b (Lib.byteCells (l ++ s)) w' ∧ Below b W w' := by
  have q := Any.Builder_WriteString { Tryd.laysJoin with } joinExtra b b (Lib.byteCells l) ⟨s.toArray⟩ W h (by simp [Lib.byteCells]; show l.length + s.toArray.size ≤ _; simp; omega) (Nat.le_of_lt (isB_lt h))
  refine q.mono ?_
  rintro e w' ⟨rfl, hA, hb⟩
  refine ⟨⟨_, rfl⟩, .inr ?_, hb⟩
  rw [Lib.byteCells_append]
  exact hA
theorem bstr_calls (b : Nat) (l : List UInt8) (W : World) (h : Lib.IsBuilder 96 5 b b (Lib.byteCells l) W) :
    Calls Tryd.prog 61 #[.pointer (some ⟨b, 0, none⟩)] W fun e w' => e = .returned (str l) ∧ Below b W w' :=
  Any.Builder_String_any Tryd.laysBs bsExtra b b l W h (Nat.le_of_lt (isB_lt h))
set_option maxHeartbeats 2000000 in
theorem implGroundText_calls (w h : Int) (hs : List Int) (gl : List Cell) (z : Value) (W : World) (ht : TabP W) (hq : GdIn W w h hs gl z) :
    Calls Tryd.prog 24 #[.agg (gdA w h hs z)] W fun e w' => e = .returned (str (groundT w h hs gl)) ∧ Below W.heap.size W w' := by
  obtain ⟨Az, cz, rfl, -, -, -⟩ := hq.sl.cell
  have hB := (Below.refl W.heap.size W).alloc (Nat.le_refl _) (.cells (gdA w h hs (.slice Az gl.length cz)) 54)
  have HB := Lib.hid hB
  have HT0 := Lib.hid ht
  have KG := Lib.hid (Bk.new W 54 (gdA w h hs (.slice Az gl.length cz)) W.heap.size rfl)
  have qo := Lib.hid (validGround_calls w h hq.w0 hq.w1 hq.h0 hq.h1 hs hq.hl hq.h16 gl (.slice Az gl.length cz) hq.ok _ (hq.sl.ext hB))
  have HQ := Lib.hid hq
  have hl := hq.hl
  have ldg := load_gd hl KG.out
  clear hB hq ht
  cases hk : gOk w h hs gl
  · have hE := Lib.hid (show groundT w h hs gl = [] from if_neg (by rw [hk]; decide))
    rw [hk] at qo
    clear hk
    go_enter Tryd.func24, Tryd.ntmps24
    go_wp2_with (refine wpList_load_w rfl 54 (.tmp 1) rfl _ rfl _ ldg ?_)
    refine qo.out.mono ?_
    rintro e w1 ⟨rfl, hb1⟩
    go_wp2_with fail
    go_ret
    exact ⟨by rw [hE.out]; rfl, ext_trans HB.out hb1⟩
  have ok := gOk_ok hk
  have hE := Lib.hid (show groundT w h hs gl = gtN hs gl w.toNat h.toNat from if_pos hk)
  rw [hk] at qo
  clear hk
  obtain ⟨nw, hnw⟩ : ∃ nw : Nat, w = (nw : Int) := ⟨w.toNat, by have := ok.w0; omega⟩
  obtain ⟨nh, hnh⟩ : ∃ nh : Nat, h = (nh : Int) := ⟨h.toNat, by have := ok.h0; omega⟩
  have hw9 : nw ≤ 9 := by have := ok.w1; omega
  have hh9 : nh ≤ 9 := by have := ok.h1; omega
  rw [show w.toNat = nw by omega, show h.toNat = nh by omega] at hE
  have HTL := Lib.hid (fun y (hy : y ≤ nh) => gtN_len ok hnw hnh y hy)
  have HGL := Lib.hid (fun y (hy : y < nh) => growN_len ok hnw hnh hy nw (Nat.le_refl _))
  have HPT := Lib.hid (fun x y (hx : x < nw) (hy : y < nh) => show gpB w h ⟨(x : Int), (y : Int)⟩ = true from gpB_true.2 (by simp only; omega))
  have HHT := Lib.hid (fun c hc => ok.ht c hc)
  have qh := Lib.hid (fun p (hp : gpB w h p = true) W' => heightP_calls ok hl (.slice Az gl.length cz) p hp W')
  have qg := Lib.hid (fun p W' (k : Below W.heap.size W W') => isGully_calls w h hs hl gl (.slice Az gl.length cz) p W' (HQ.out.sl.ext k))
  have HNW := Lib.hid hnw
  have HNH := Lib.hid hnh
  clear hnw hnh
  go_enter Tryd.func24, Tryd.ntmps24
  go_wp2_with (refine wpList_load_w rfl 54 (.tmp 1) rfl _ rfl _ ldg ?_)
  refine qo.out.mono ?_
  rintro e w1 ⟨rfl, hb1⟩
  have hb1' := ext_trans HB.out hb1
  have HB1 := Lib.hid (hb1'.alloc hb1'.size (.cells #[.pointer none, .slice none 0 0] 96))
  have KG1 := Lib.hid ((KG.out.ext hb1).alloc (.cells #[.pointer none, .slice none 0 0] 96))
  have HS1 := Lib.hid (Lib.fresh_isBuilder 96 5 w1)
  have hWb := Lib.hid (show W.heap.size < w1.heap.size from (KG.out.ext hb1).lt)
  have g1 : (w1.alloc (.cells #[.pointer none, .slice none 0 0] 96)).cell? ⟨W.heap.size, 1, none⟩ = some (.int .i8 (nh : Int)) := by rw [← HNH.out]; exact KG1.out.cell 1 _ (gdA_1 _ _ _ _)
  clear hb1 hb1' ldg qo ok
  go_wp2_with fail
  generalize w1.heap.size = bb at *
  clear g1
  go_loopw [15] (fun i wr => ∃ y : Nat, y ≤ nh ∧ i = .int .i8 (y : Int) ∧ Lib.IsBuilder 96 5 bb bb (Lib.byteCells (gtN hs gl nw y)) wr ∧ Bk wr W.heap.size 54 (gdA w h hs (.slice Az gl.length cz)) ∧ Below W.heap.size W wr) (fun i _ => nh - (intOf i).toNat)
  case atStart => exact ⟨0, by omega, rfl, HS1.out, KG1.out, HB1.out⟩
  case round =>
    clear HS1 KG1 HB1
    obtain ⟨y, hy, rfl, hS, hK, hb⟩ := hrel
    have HSo := Lib.hid hS
    have KGo := Lib.hid hK
    have HBo := Lib.hid hb
    clear hS hK hb
    have wy : IntKind.i8.wrap ((y : Int) + 1) = (y : Int) + 1 := wrap8In _ (by omega) (by omega)
    by_cases hylt : y < nh
    · have hyd : decide ((y : Int) < (nh : Int)) = true := by rw [decide_eq_true_eq]; omega
      have hGl := HTL.out y hy
      have hRl := HGL.out y hylt
      have hnext := Lib.hid (show gtN hs gl nw (y + 1) = gtN hs gl nw y ++ (growN hs gl nw y nw ++ [10]) from rfl)
      have hjoin := Lib.hid (show growN hs gl nw y nw = Lib.join ((List.range nw).map (gword hs gl y)) [32] from by
        have := joinN_all (gword hs gl y) (List.range nw)
        rwa [List.length_range] at this)
      generalize gtN hs gl nw y = G at *
      generalize growN hs gl nw y nw = R at *
      obtain ⟨wo, hwo⟩ : ∃ wo : World, wo = wr := ⟨_, rfl⟩
      subst hwo
      have HBa := Lib.hid ((Below.refl wo.heap.size wo).alloc (Nat.le_refl _) (.cells #[] 9))
      have HOa := Lib.hid (Own.empty (α := List UInt8) (c := strc) (sz := 1) (E := 9) wo wo.heap.size wo.heap.size rfl (Nat.le_refl _))
      have hbw := Lib.hid (isB_lt HSo.out)
      have g0 : (wo.alloc (.cells #[] 9)).cell? ⟨W.heap.size, 0, none⟩ = some (.int .i8 (nw : Int)) := by rw [← HNW.out]; exact (KGo.out.alloc (.cells #[] 9)).cell 0 _ (gdA_0 _ _ _ _)
      go_wp2_with fail
      clear g0
      go_loopw [5, 21] (fun v i wr => ∃ x : Nat, x ≤ nw ∧ i = .int .i8 (x : Int) ∧ Own wr wo.heap.size 9 strc 1 v ((List.range x).map (gword hs gl y)) ∧ Below wo.heap.size wo wr) (fun _ i _ => nw - (intOf i).toNat)
      case atStart => exact ⟨0, by omega, rfl, by simpa using HOa.out, HBa.out⟩
      case round =>
        clear HBa HOa
        obtain ⟨x, hx, rfl, hO, hb⟩ := hrel
        have HO := Lib.hid hO
        have HBr := Lib.hid hb
        clear hO hb
        have wx : IntKind.i8.wrap ((x : Int) + 1) = (x : Int) + 1 := wrap8In _ (by omega) (by omega)
        have HBW := Lib.hid (ext_trans HBo.out HBr.out)
        have KGr := Lib.hid (KGo.out.ext HBr.out)
        by_cases hxlt : x < nw
        · have hxd : decide ((x : Int) < (nw : Int)) = true := by rw [decide_eq_true_eq]; omega
          have hpt := Lib.hid (HPT.out x y hxlt hylt)
          have hht := HHT.out _ hpt.out
          obtain ⟨a, hha⟩ : ∃ a : Nat, htL hs ⟨(x : Int), (y : Int)⟩ = (a : Int) := ⟨_, (Int.toNat_of_nonneg hht.1).symm⟩
          have hsucc := Lib.hid (show (List.range (x + 1)).map (gword hs gl y) = (List.range x).map (gword hs gl y) ++ [gword hs gl y x] from by rw [List.range_succ, List.map_append]; rfl)
          have hgw := Lib.hid (show gword hs gl y x = Lib.decDigits a ++ (if (⟨(x : Int), (y : Int)⟩ : Cell) ∈ gl then [103] else []) from by unfold gword; rw [hha]; simp)
          have hwl := Lib.hid (show ((List.range x).map (gword hs gl y)).length ≤ 9 from by rw [List.length_map, List.length_range]; omega)
          have qa := Lib.hid (fun W' (h : TabP W') => show Calls Tryd.prog 43 #[.int .i64 (a : Int)] W' _ from by
            have := decimal_calls (a : Int) (by omega) (by omega) W' h
            rwa [Lib.itoa_nonneg] at this)
          have hDl := decLen20 (n := a) (by omega)
          have qh1 := Lib.hid (fun W' => qh.out ⟨(x : Int), (y : Int)⟩ hpt.out W')
          have qg1 := Lib.hid (fun W' k => qg.out ⟨(x : Int), (y : Int)⟩ W' k)
          rw [hha] at qh1
          unfold Cell.v at qg1
          clear hha hht
          generalize Lib.decDigits a = D at *
          generalize (List.range x).map (gword hs gl y) = ws at *
          have l3 : (9223372036854775807 < D.length + 1) = False := by simp; omega
          obtain ⟨D2, hD2⟩ : ∃ D2, D ++ [103] = D2 := ⟨_, rfl⟩
          have f3 := cat_of hD2
          have K6 := Lib.hid (Bk.new wr 98 #[.int .i8 (x : Int), .int .i8 (y : Int)] wr.heap.size rfl)
          have HB6 := Lib.hid (HBr.out.alloc HBr.out.size (.cells #[.int .i8 (x : Int), .int .i8 (y : Int)] 98))
          have HO6 := Lib.hid (HO.out.alloc (.cells #[.int .i8 (x : Int), .int .i8 (y : Int)] 98))
          clear HO HBr HBW KGr
          go_upto_region 12 with (fail)
          generalize wr.alloc (.cells #[.int .i8 (x : Int), .int .i8 (y : Int)] 98) = w6 at *
          generalize wr.heap.size = nb at *
          have ldg := load_gd hl (KGo.out.ext HB6.out)
          have n0 := K6.out.cell 0 _ rfl
          have n1 := K6.out.cell 1 _ rfl
          go_wp2_with (refine wpList_load_w rfl 54 (.tmp 1) rfl _ rfl _ ldg ?_)
          refine (qh1.out _).mono ?_
          rintro e w7 ⟨rfl, hb7⟩
          have HB7 := Lib.hid (ext_trans HB6.out hb7)
          have K7 := Lib.hid (K6.out.ext hb7)
          have HO7 := Lib.hid (HO6.out.ext hb7)
          clear ldg n0 n1 hb7 K6 HB6 HO6
          go_wp2_with fail
          refine (qa.out _ (HT0.out.ext (ext_trans HBo.out HB7.out))).mono ?_
          rintro e w8 ⟨rfl, hb8⟩
          have HB8 := Lib.hid (ext_trans HB7.out hb8)
          have K8 := Lib.hid (K7.out.ext hb8)
          have HO8 := Lib.hid (HO7.out.ext hb8)
          clear hb8 K7 HB7 HO7
          have ldg := load_gd hl (KGo.out.ext HB8.out)
          have n0 := K8.out.cell 0 _ rfl
          have n1 := K8.out.cell 1 _ rfl
          go_wp2_with (refine wpList_load_w rfl 54 (.tmp 1) rfl _ rfl _ ldg ?_)
          refine (qg1.out _ (ext_trans HBo.out HB8.out)).mono ?_
          rintro e w9 ⟨rfl, hb9⟩
          have HB9 := Lib.hid (ext_trans HB8.out hb9)
          have HO9 := Lib.hid (HO8.out.ext hb9)
          clear ldg n0 n1 hb9 K8 HB8 HO8
          by_cases hin : (⟨(x : Int), (y : Int)⟩ : Cell) ∈ gl
          · rw [decide_eq_true hin]
            have hN := Lib.hid (show (List.range (x + 1)).map (gword hs gl y) = ws ++ [D2] from by rw [hsucc.out, hgw.out, if_pos hin, hD2])
            clear hin hsucc hgw hD2
            have HBa := Lib.hid (HB9.out.alloc HB9.out.size (.cells #[.string ⟨D2.toArray⟩] 9))
            have HOa := Lib.hid (HO9.out.alloc (.cells #[.string ⟨D2.toArray⟩] 9))
            go_wp2_with (at_builtin; refine push_app appStr rfl _ _ rfl wo.heap.size ws [D2] u5 _ rfl rfl HOa.out (bk_str1 (Bk.new _ _ _ _ rfl)) (by have := hwl.out; simp; omega) (by have := hwl.out; simp; omega) HBa.out.size ?_)
            intro va wa hOa hGa hat
            have HBz := Lib.hid (HBa.out.grown hGa HBa.out.size (fun j hj => HOa.out.base j hj))
            go_wp2_with fail
            go_roundw
            case rel => exact ⟨x + 1, by omega, by go_num, by rw [hN.out]; exact hOa, HBz.out⟩
            case measure => first | (simp [intOf]; done) | (simp [intOf]; omega)
          · rw [decide_eq_false hin]
            have hN := Lib.hid (show (List.range (x + 1)).map (gword hs gl y) = ws ++ [D] from by rw [hsucc.out, hgw.out, if_neg hin, List.append_nil])
            clear hin hsucc hgw hD2
            have HBa := Lib.hid (HB9.out.alloc HB9.out.size (.cells #[.string ⟨D.toArray⟩] 9))
            have HOa := Lib.hid (HO9.out.alloc (.cells #[.string ⟨D.toArray⟩] 9))
            go_wp2_with (at_builtin; refine push_app appStr rfl _ _ rfl wo.heap.size ws [D] u5 _ rfl rfl HOa.out (bk_str1 (Bk.new _ _ _ _ rfl)) (by have := hwl.out; simp; omega) (by have := hwl.out; simp; omega) HBa.out.size ?_)
            intro va wa hOa hGa hat
            have HBz := Lib.hid (HBa.out.grown hGa HBa.out.size (fun j hj => HOa.out.base j hj))
            go_wp2_with fail
            go_roundw
            case rel => exact ⟨x + 1, by omega, by go_num, by rw [hN.out]; exact hOa, HBz.out⟩
            case measure => first | (simp [intOf]; done) | (simp [intOf]; omega)
        · obtain rfl : x = nw := by omega
          have hxd : decide ((x : Int) < (x : Int)) = false := by rw [decide_eq_false_iff_not]; omega
          have qj := Lib.hid (joinS_calls _ u5 [32] wr (HO.out.sl strc_len) (by rw [List.length_map, List.length_range]; omega) (by rw [← hjoin.out]; omega))
          rw [← hjoin.out] at qj
          obtain ⟨R2, hR2⟩ : ∃ R2, R ++ [10] = R2 := ⟨_, rfl⟩
          have f4 := cat_of hR2
          have l4 : (9223372036854775807 < R.length + 1) = False := by simp; omega
          have hR2l : R2.length = R.length + 1 := by rw [← hR2]; simp
          have hN := Lib.hid (show gtN hs gl x (y + 1) = G ++ R2 from by rw [hnext.out, hR2])
          have qw := Lib.hid (fun W' (k : Below wo.heap.size wo W') => write_calls bb G R2 W' (isB_ext HSo.out k) (by omega))
          clear hnext hR2 hR2l hjoin
          go_wp2_with fail
          refine qj.out.mono ?_
          rintro e w2 ⟨rfl, hb2⟩
          have HB2 := Lib.hid (ext_trans HBr.out hb2)
          clear hb2 qj
          go_wp2_with fail
          refine (qw.out _ HB2.out).mono ?_
          rintro e w3 ⟨⟨nn, rfl⟩, hS3, hb3⟩
          have HS3 := Lib.hid hS3
          have HB3 := Lib.hid ((ext_trans HBo.out HB2.out).trans (hb3.mono (by have := hWb.out; omega)))
          have KG3 := Lib.hid ((KGo.out.ext HB2.out).keep (by have := hWb.out; omega) hb3)
          clear hS3 hb3
          go_wp2_with fail
          go_roundw
          case rel => exact ⟨y + 1, by omega, by go_num, by rw [hN.out]; exact HS3.out, KG3.out, HB3.out⟩
          case measure => first | (simp [intOf]; done) | (simp [intOf]; omega)
    · obtain rfl : y = nh := by omega
      have hyd : decide ((y : Int) < (y : Int)) = false := by rw [decide_eq_false_iff_not]; omega
      have qs := Lib.hid (bstr_calls bb _ wr HSo.out)
      go_wp2_with fail
      refine qs.out.mono ?_
      rintro e w2 ⟨rfl, hb2⟩
      go_wp2_with fail
      go_ret
      exact ⟨by rw [hE.out]; rfl, HBo.out.trans (hb2.mono (by have := hWb.out; omega))⟩
end Go.Proofs.YthlcmiediedcfaaDoor
