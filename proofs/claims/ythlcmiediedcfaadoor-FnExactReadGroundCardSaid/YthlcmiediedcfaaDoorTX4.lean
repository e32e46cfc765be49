/-
Texts of grounds, of both. Conditions: the library's table stands in memory; numbers are of their kinds; slices can be read.
-/
import Derived.Shelf.Strings.Builder1
import Derived.Test.YthlcmiediedcfaaDoorTX2
import Derived.Test.YthlcmiediedcfaaDoorGD12
import Derived.Test.YthlcmiediedcfaaDoorGL3
set_option linter.unusedVariables false
set_option linter.unusedSimpArgs false
set_option maxRecDepth 100000
namespace Go.Proofs.YthlcmiediedcfaaDoor
open Go.RowKit
section
open Go.Shelf
shelf_lay Lays.n169 Nm 169 at Tryd as Tryd.laysBs
theorem bsExtra : Builder.Extra Tryd.prog Tryd.laysBs_ren where
  sizeBuilder := by kernel_rfl
  liesBuilder := by kernel_rfl
  t5 := Tryd.underlying5
  a5 := Tryd.isAgg5
  z5 := Tryd.sizeOf5
  v5 := Tryd.zeroValue5
  infoByte := by kernel_rfl
  cellsByte := by kernel_rfl
  sizeByte := by kernel_rfl
  neB5 := by decide
end
def gword (hs : List Int) (gl : List Cell) (y x : Nat) : List UInt8 := Lib.decDigits (htL hs ⟨(x : Int), (y : Int)⟩).toNat ++ (if (⟨(x : Int), (y : Int)⟩ : Cell) ∈ gl then [103] else [])
def growN (hs : List Int) (gl : List Cell) (nw y k : Nat) : List UInt8 := joinN (gword hs gl y) (List.range nw) k
def gtN (hs : List Int) (gl : List Cell) (nw : Nat) : Nat → List UInt8
  | 0 => []
  | y + 1 => gtN hs gl nw y ++ (growN hs gl nw y nw ++ [10])
def groundT (w h : Int) (hs : List Int) (gl : List Cell) : List UInt8 := if gOk w h hs gl = true then gtN hs gl w.toNat h.toNat else []
theorem growN_succ (hs : List Int) (gl : List Cell) (nw y k : Nat) (hk : k < nw) : growN hs gl nw y (k + 1) = (if k = 0 then [] else growN hs gl nw y k ++ [32]) ++ gword hs gl y k := by
  unfold growN
  rw [joinN_succ _ _ _ (by simpa using hk), List.getElem_range]
  split <;> simp
theorem growN_zero (hs : List Int) (gl : List Cell) (nw y : Nat) : growN hs gl nw y 0 = [] := joinN_zero _ _
theorem gword_len {w h : Int} {hs : List Int} {gl : List Cell} (ok : GOk w h hs gl) {x y : Nat} (hp : gpB w h ⟨(x : Int), (y : Int)⟩ = true) : (gword hs gl y x).length ≤ 21 := by
  have hb := ok.ht _ hp
  unfold gword
  have := decLen20 (n := (htL hs ⟨(x : Int), (y : Int)⟩).toNat) (by omega)
  rw [List.length_append]
  split <;> simp <;> omega
theorem growN_len {w h : Int} {hs : List Int} {gl : List Cell} (ok : GOk w h hs gl) {nw nh : Nat} (hw : w = (nw : Int)) (hh : h = (nh : Int)) {y : Nat} (hy : y < nh) (k : Nat) (hk : k ≤ nw) : (growN hs gl nw y k).length ≤ 22 * k := by
  unfold growN
  exact joinN_len _ _ 21 (fun x hx => gword_len ok (gpB_true.2 (by have := List.mem_range.1 hx; simp only; omega))) k (by simpa using hk)
theorem gtN_len {w h : Int} {hs : List Int} {gl : List Cell} (ok : GOk w h hs gl) {nw nh : Nat} (hw : w = (nw : Int)) (hh : h = (nh : Int)) : ∀ y, y ≤ nh → (gtN hs gl nw y).length ≤ 199 * y
  | 0, _ => by simp [gtN]
  | y + 1, hy => by
    have ih := gtN_len ok hw hh y (by omega)
    have hg := growN_len ok hw hh (y := y) (by omega) nw (Nat.le_refl _)
    have := ok.w1
    rw [gtN]
    simp only [List.length_append, List.length_singleton]
    omega
set_option maxHeartbeats 2000000 in
theorem l04Text_calls {w h : Int} {hs : List Int} {gl : List Cell} (ok : GOk w h hs gl) (hl : hs.length = 81) (z : Value) (g : Nat) (T : TypeId) (W : World) (hg : Bk W g T (gdA w h hs z)) (hz : Sl W W.heap.size Cell.c 2 z gl) :
    Calls Tryd.prog 54 #[.pointer (some ⟨g, 0, none⟩)] W fun e w' => e = .returned (str (gtN hs gl w.toNat h.toNat)) ∧ Below W.heap.size W w' := by
  obtain ⟨nw, hnw⟩ : ∃ nw : Nat, w = (nw : Int) := ⟨w.toNat, by have := ok.w0; omega⟩
  obtain ⟨nh, hnh⟩ : ∃ nh : Nat, h = (nh : Int) := ⟨h.toNat, by have := ok.h0; omega⟩
  have hw9 : nw ≤ 9 := by have := ok.w1; omega
  have hh9 : nh ≤ 9 := by have := ok.h1; omega
  rw [show w.toNat = nw by omega, show h.toNat = nh by omega]
  have HTL := Lib.hid (fun y (hy : y ≤ nh) => gtN_len ok hnw hnh y hy)
  have HGL := Lib.hid (fun y (hy : y < nh) k (hk : k ≤ nw) => growN_len ok hnw hnh hy k hk)
  have HPT := Lib.hid (fun x y (hx : x < nw) (hy : y < nh) => show gpB w h ⟨(x : Int), (y : Int)⟩ = true from gpB_true.2 (by simp only; omega))
  have HHT := Lib.hid (fun c hc => ok.ht c hc)
  have HG0 := Lib.hid hg
  have HZ := Lib.hid hz
  have qh := Lib.hid (fun p (hp : gpB w h p = true) W' (k : Below W.heap.size W W') => sheightP_calls ok hl z g T p hp W' (HG0.out.ext k))
  have qg := Lib.hid (fun p W' (k : Below W.heap.size W W') => sgully_calls g T w h hs hl gl z p W' (HG0.out.ext k) (HZ.out.ext k))
  have hc0 := Lib.hid (fun W' (k : Below W.heap.size W W') => (show W'.cell? ⟨g, 0, none⟩ = some (.int .i8 (nw : Int)) from by rw [← hnw]; exact (HG0.out.ext k).cell 0 _ (gdA_0 _ _ _ _)))
  have hc1 := Lib.hid (fun W' (k : Below W.heap.size W W') => (show W'.cell? ⟨g, 1, none⟩ = some (.int .i8 (nh : Int)) from by rw [← hnh]; exact (HG0.out.ext k).cell 1 _ (gdA_1 _ _ _ _)))
  clear hg hz ok hnw hnh
  go_enter Tryd.func54, Tryd.ntmps54
  go_wp2_with fail
  go_loopw [3, 4] (fun t i wr => ∃ y : Nat, y ≤ nh ∧ i = .int .i8 (y : Int) ∧ t = .string ⟨(gtN hs gl nw y).toArray⟩ ∧ Below W.heap.size W wr) (fun _ i _ => nh - (intOf i).toNat)
  case atStart => exact ⟨0, by omega, rfl, rfl, Below.refl _ _⟩
  case round =>
    obtain ⟨y, hy, rfl, rfl, hb⟩ := hrel
    obtain ⟨wo, rfl⟩ : ∃ wo : World, wo = wr := ⟨_, rfl⟩
    have HBo := Lib.hid hb
    clear hb
    have g1 := hc1.out _ HBo.out
    have wy : IntKind.i8.wrap ((y : Int) + 1) = (y : Int) + 1 := wrap8In _ (by omega) (by omega)
    by_cases hylt : y < nh
    · have hyd : decide ((y : Int) < (nh : Int)) = true := by rw [decide_eq_true_eq]; omega
      have hGl := HTL.out y hy
      have hnext := Lib.hid (show gtN hs gl nw (y + 1) = gtN hs gl nw y ++ (growN hs gl nw y nw ++ [10]) from rfl)
      generalize gtN hs gl nw y = G at *
      go_wp2_with fail
      clear g1
      go_loopw [3, 5] (fun t i wr => ∃ x : Nat, x ≤ nw ∧ i = .int .i8 (x : Int) ∧ t = .string ⟨(G ++ growN hs gl nw y x).toArray⟩ ∧ Below W.heap.size W wr) (fun _ i _ => nw - (intOf i).toNat)
      case atStart => exact ⟨0, by omega, rfl, by rw [growN_zero, List.append_nil], HBo.out⟩
      case round =>
        clear HBo
        obtain ⟨x, hx, rfl, rfl, hb⟩ := hrel
        have HBr := Lib.hid hb
        clear hb
        have g0 := hc0.out _ HBr.out
        have wx : IntKind.i8.wrap ((x : Int) + 1) = (x : Int) + 1 := wrap8In _ (by omega) (by omega)
        have hJl := HGL.out y hylt x hx
        by_cases hxlt : x < nw
        · have hxd : decide ((x : Int) < (nw : Int)) = true := by rw [decide_eq_true_eq]; omega
          have hpt := Lib.hid (HPT.out x y hxlt hylt)
          have hht := HHT.out _ hpt.out
          obtain ⟨a, hha⟩ : ∃ a : Nat, htL hs ⟨(x : Int), (y : Int)⟩ = (a : Int) := ⟨_, (Int.toNat_of_nonneg hht.1).symm⟩
          have hsucc := Lib.hid (growN_succ hs gl nw y x hxlt)
          have hgw := Lib.hid (show gword hs gl y x = Lib.decDigits a ++ (if (⟨(x : Int), (y : Int)⟩ : Cell) ∈ gl then [103] else []) from by unfold gword; rw [hha]; simp)
          have qa := Lib.hid (fun W' => sDec_calls (a + 1) a (by omega) (by omega) W')
          have hDl := decLen20 (n := a) (by omega)
          have hfi := Lib.hid ((findI_ge (fun q => q == (⟨(x : Int), (y : Int)⟩ : Cell)) gl).trans (any_eq_mem gl ⟨(x : Int), (y : Int)⟩))
          have qh1 := Lib.hid (fun W' k => qh.out ⟨(x : Int), (y : Int)⟩ hpt.out W' k)
          have qg1 := Lib.hid (fun W' k => qg.out ⟨(x : Int), (y : Int)⟩ W' k)
          rw [hha] at qh1
          unfold Cell.v at qg1
          clear hha hht
          generalize Lib.decDigits a = D at *
          obtain ⟨J0, hJ0⟩ : ∃ J, G ++ growN hs gl nw y x = J := ⟨_, rfl⟩
          have hJ0l : J0.length ≤ 199 * 9 + 22 * 9 := by rw [← hJ0, List.length_append]; omega
          -- what stands ahead of the number
          obtain ⟨J1, hJ1, hN1⟩ : ∃ J1, J1 = (if x = 0 then J0 else J0 ++ [32]) ∧ G ++ growN hs gl nw y (x + 1) = J1 ++ gword hs gl y x := by
            refine ⟨_, rfl, ?_⟩
            rw [hsucc.out]
            by_cases h0 : x = 0
            · rw [if_pos h0, if_pos h0, ← hJ0, h0, growN_zero, List.append_nil, List.nil_append]
            · rw [if_neg h0, if_neg h0, ← hJ0]; simp
          have hJ1l : J1.length ≤ J0.length + 1 := by rw [hJ1]; split <;> simp
          obtain ⟨J2, hJ2⟩ : ∃ J, J1 ++ D = J := ⟨_, rfl⟩
          have hJ2l : J2.length = J1.length + D.length := by rw [← hJ2]; simp
          have f2 := cat_of hJ2
          have l2 : (9223372036854775807 < J1.length + D.length) = False := by simp; omega
          have l3 : (9223372036854775807 < J2.length + 1) = False := by simp; omega
          rw [hgw.out, ← List.append_assoc, hJ2] at hN1
          rw [hJ0]
          have HB6 := Lib.hid (HBr.out.alloc HBr.out.size (.cells #[.int .i8 (x : Int), .int .i8 (y : Int)] 98))
          have K6 := Lib.hid (Bk.new wr 98 #[.int .i8 (x : Int), .int .i8 (y : Int)] wr.heap.size rfl)
          generalize findI (fun q => q == (⟨(x : Int), (y : Int)⟩ : Cell)) gl = fi at *
          clear hJ0 hJ2 hJ2l hsucc hgw hJl
          -- the walk up to the question for the gully, in two ways; then the gully, in two ways
          by_cases h0 : x = 0
          · rw [if_pos h0] at hJ1
            subst hJ1
            have hz : decide ((0 : Int) < (x : Int)) = false := by rw [decide_eq_false_iff_not]; omega
            have hz2 : decide (0 < x) = false := by rw [decide_eq_false_iff_not]; omega
            clear h0
            go_upto_region 11 with (fail)
            generalize wr.alloc (.cells #[.int .i8 (x : Int), .int .i8 (y : Int)] 98) = w6 at *
            generalize wr.heap.size = nb at *
            have n0 := K6.out.cell 0 _ rfl
            have n1 := K6.out.cell 1 _ rfl
            go_wp2_with fail
            refine (qh1.out _ HB6.out).mono ?_
            rintro e w7 ⟨rfl, hb7⟩
            have HB7 := Lib.hid (ext_trans HB6.out hb7)
            have K7 := Lib.hid (K6.out.ext hb7)
            clear n0 n1 hb7
            go_wp2_with fail
            refine (qa.out _).mono ?_
            rintro e w8 ⟨rfl, hb8⟩
            have HB8 := Lib.hid (ext_trans HB7.out hb8)
            have K8 := Lib.hid (K7.out.ext hb8)
            clear hb8
            have n0 := K8.out.cell 0 _ rfl
            have n1 := K8.out.cell 1 _ rfl
            go_wp2_with fail
            refine (qg1.out _ HB8.out).mono ?_
            rintro e w9 ⟨rfl, hb9⟩
            have HB9 := Lib.hid (ext_trans HB8.out hb9)
            clear hb9 n0 n1
            by_cases hin : (⟨(x : Int), (y : Int)⟩ : Cell) ∈ gl
            · have hd : decide (0 ≤ fi) = true := hfi.out.trans (decide_eq_true hin)
              obtain ⟨J3, hJ3⟩ : ∃ J, J2 ++ [103] = J := ⟨_, rfl⟩
              have f3 := cat_of hJ3
              have hN := Lib.hid (show G ++ growN hs gl nw y (x + 1) = J3 from by rw [hN1, if_pos hin, hJ3])
              clear hJ3 hin hN1
              go_wp2_with fail
              go_roundw
              case rel => exact ⟨x + 1, by omega, by go_num, by rw [hN.out], HB9.out⟩
              case measure => first | (simp [intOf]; done) | (simp [intOf]; omega)
            · have hd : decide (0 ≤ fi) = false := hfi.out.trans (decide_eq_false hin)
              have hN := Lib.hid (show G ++ growN hs gl nw y (x + 1) = J2 from by rw [hN1, if_neg hin, List.append_nil])
              clear hin hN1
              go_wp2_with fail
              go_roundw
              case rel => exact ⟨x + 1, by omega, by go_num, by rw [hN.out], HB9.out⟩
              case measure => first | (simp [intOf]; done) | (simp [intOf]; omega)
          · rw [if_neg h0] at hJ1
            have f1 := cat_of hJ1.symm
            have l1 : (9223372036854775807 < J0.length + 1) = False := by simp; omega
            have hz : decide ((0 : Int) < (x : Int)) = true := by rw [decide_eq_true_eq]; omega
            have hz2 : decide (0 < x) = true := by rw [decide_eq_true_eq]; omega
            clear hJ1 h0
            go_upto_region 11 with (fail)
            generalize wr.alloc (.cells #[.int .i8 (x : Int), .int .i8 (y : Int)] 98) = w6 at *
            generalize wr.heap.size = nb at *
            have n0 := K6.out.cell 0 _ rfl
            have n1 := K6.out.cell 1 _ rfl
            go_wp2_with fail
            refine (qh1.out _ HB6.out).mono ?_
            rintro e w7 ⟨rfl, hb7⟩
            have HB7 := Lib.hid (ext_trans HB6.out hb7)
            have K7 := Lib.hid (K6.out.ext hb7)
            clear n0 n1 hb7
            go_wp2_with fail
            refine (qa.out _).mono ?_
            rintro e w8 ⟨rfl, hb8⟩
            have HB8 := Lib.hid (ext_trans HB7.out hb8)
            have K8 := Lib.hid (K7.out.ext hb8)
            clear hb8
            have n0 := K8.out.cell 0 _ rfl
            have n1 := K8.out.cell 1 _ rfl
            go_wp2_with fail
            refine (qg1.out _ HB8.out).mono ?_
            rintro e w9 ⟨rfl, hb9⟩
            have HB9 := Lib.hid (ext_trans HB8.out hb9)
            clear hb9 n0 n1
            by_cases hin : (⟨(x : Int), (y : Int)⟩ : Cell) ∈ gl
            · have hd : decide (0 ≤ fi) = true := hfi.out.trans (decide_eq_true hin)
              obtain ⟨J3, hJ3⟩ : ∃ J, J2 ++ [103] = J := ⟨_, rfl⟩
              have f3 := cat_of hJ3
              have hN := Lib.hid (show G ++ growN hs gl nw y (x + 1) = J3 from by rw [hN1, if_pos hin, hJ3])
              clear hJ3 hin hN1
              go_wp2_with fail
              go_roundw
              case rel => exact ⟨x + 1, by omega, by go_num, by rw [hN.out], HB9.out⟩
              case measure => first | (simp [intOf]; done) | (simp [intOf]; omega)
            · have hd : decide (0 ≤ fi) = false := hfi.out.trans (decide_eq_false hin)
              have hN := Lib.hid (show G ++ growN hs gl nw y (x + 1) = J2 from by rw [hN1, if_neg hin, List.append_nil])
              clear hin hN1
              go_wp2_with fail
              go_roundw
              case rel => exact ⟨x + 1, by omega, by go_num, by rw [hN.out], HB9.out⟩
              case measure => first | (simp [intOf]; done) | (simp [intOf]; omega)
        · obtain rfl : x = nw := by omega
          have hxd : decide ((x : Int) < (x : Int)) = false := by rw [decide_eq_false_iff_not]; omega
          obtain ⟨J0, hJ0⟩ : ∃ J, G ++ growN hs gl x y x = J := ⟨_, rfl⟩
          have hJ0l : J0.length ≤ 199 * 9 + 22 * 9 := by rw [← hJ0, List.length_append]; omega
          obtain ⟨J1, hJ1⟩ : ∃ J, J0 ++ [10] = J := ⟨_, rfl⟩
          have f1 := cat_of hJ1
          have l1 : (9223372036854775807 < J0.length + 1) = False := by simp; omega
          have hN := Lib.hid (show gtN hs gl x (y + 1) = J1 from by rw [hnext.out, ← hJ1, ← hJ0]; simp)
          rw [hJ0]
          clear hJ0 hJ1 hnext
          go_wp2_with fail
          go_roundw
          case rel => exact ⟨y + 1, by omega, by go_num, by rw [hN.out], HBr.out⟩
          case measure => first | (simp [intOf]; done) | (simp [intOf]; omega)
    · obtain rfl : y = nh := by omega
      have hyd : decide ((y : Int) < (y : Int)) = false := by rw [decide_eq_false_iff_not]; omega
      go_wp2_with fail
      go_ret
      exact ⟨rfl, HBo.out⟩
end Go.Proofs.YthlcmiediedcfaaDoor
