/-
Codes of corners, JointsAt: of the reference. Conditions: numbers are of their kinds; slices can be read.
-/
import Derived.Test.YteflpdfajfljfaaSQ11
import Derived.Maps.AppendAt
set_option linter.unusedVariables false
set_option linter.unusedSimpArgs false
set_option maxRecDepth 100000
namespace Go.Proofs.Yteflpdfajfljfaa
open Go.RowKit
theorem push_i64at {ops : Array Oper} {rest : List Oper} {o : Oper} {a : Act} {Q : Exit → Act → World → Prop} {W : World} (hgd : o.guard = none) (s x : Operand)
    (ho : o.op = .call { callee := .builtin .append, args := #[s, x], argTypes := #[29, 29] }) (B : Nat) (xs : List Int) (v : Value) (hs : a.eval s = v)
    (hown : Own W B 2 i64c 1 v xs) (ad : Addr) (n : Int) (hx : a.eval x = .slice (some ad) 1 1) (hc : W.cell? ad = some (.int .i64 n)) (hn : xs.length ≤ 1000000) (hB : B ≤ W.heap.size)
    (h : ∀ v' w', Own w' B 2 i64c 1 v' (xs ++ [n]) → W.grownBy w' v.ownBlock → (v'.ownBlock = v.ownBlock ∨ v'.ownBlock = some W.heap.size) → wpList Try.prog ops Q rest (a.put o.dst v') w') :
    wpList Try.prog ops Q (o :: rest) a W := by
  obtain ⟨i, hi, hz⟩ := Option.map_eq_some_iff.1 (show (Try.prog.info? 2).map (fun i => (i.zero, i.size, i.bytes)) = some (some (.int .i64 0), 1, 8) from by kernel_rfl)
  simp only [Prod.mk.injEq] at hz
  obtain ⟨hz0, hz1, hz2⟩ := hz
  refine wpList_append_own_at W hgd s x 29 ho B 2 i (.int .i64 0) 1 8 Try.underlying29 hi hz0 hz1 hz2 rfl (by omega) v xs.length _ hs hown.out ad 1 1 [.int .i64 n] hx rfl ?_ ?_ (by unfold maxLen; omega) (by omega) hB ?_
  · intro j u hj
    match j with
    | 0 => simp at hj; subst hj; simpa [Addr.add] using hc
    | j + 1 => simp at hj
  · intro u hu
    simp at hu
    subst hu
    rfl
  · intro v' w' ho' hg _ hat
    exact h v' w' ⟨by simpa [i64c] using ho'⟩ hg hat
def toldC (w h : Int) (sl : List Slab) (pts : List Cell) (fine : Bool) : Int := if sqOk w h sl = true then (if (fine && pts.all (ptB w h)) = true then 0 else 2) else 1
theorem toldC_corn (w h : Int) (sl : List Slab) (pts : List Cell) : toldC w h sl pts true = cornC w h sl pts := by simp [toldC, cornC]
def RetTold (W : World) (c : Int) (sl : List Slab) (e : Ending) (W' : World) : Prop :=
  ∃ g : List Int, e = .returned (.tuple #[.agg (gcells g), .int .i64 c]) ∧ g.length = 144 ∧ (c = 0 → g = gridL sl) ∧ Below W.heap.size W W'
theorem zsize : Try.zeroCells70.size = 144 := by rw [zero85, gcells_size, gridL_len]
set_option maxHeartbeats 4000000 in
theorem told_calls (b o : Nat) (w h : Int) (z : Value) (sl : List Slab) (pts : List Cell) (hp : ∀ x ∈ pts, x.ok) (v : Value) (fine : Bool) (W : World) (hq : SqIn W w h z sl) (ha : Sq.at_ W b o w h z) (hs : Sl W W.heap.size Cell.c 2 v pts) :
    Calls Try.prog 46 #[.pointer (some ⟨b, o, none⟩), v, .bool fine] W (RetTold W (toldC w h sl pts fine) sl) := by
  obtain ⟨A, cap, rfl, hl, hm, hcell⟩ := hs.cell
  have hB := (Below.refl W.heap.size W).alloc (Nat.le_refl _) (.cells Try.zeroCells70 70)
  have HB := Lib.hid hB
  have HQ := Lib.hid hq
  have HA := Lib.hid (ha.ext hB)
  have K6 := Lib.hid (Bk.new W 70 Try.zeroCells70 W.heap.size rfl)
  have ql := Lib.hid (lay_calls b o w h hq.w0 hq.w1 hq.h0 hq.h1 sl hq.ok z _ (hq.sl.ext hB) (ha.ext hB))
  have HP := Lib.hid hp
  have hbl := Lib.hid ha.lt
  clear hB hq ha hs hp
  obtain ⟨R, hR0⟩ : ∃ R, R = toldC w h sl pts fine := ⟨_, rfl⟩
  rw [← hR0]
  have hR := Lib.hid hR0
  clear hR0
  go_enter Try.func46, Try.ntmps46
  go_wp2_with fail
  refine ql.out.mono ?_
  rintro e w1 ⟨g, rfl, hgl, hgr, hb1⟩
  have HB1 := Lib.hid (HB.out.trans (hb1.mono (by simp)))
  have K61 := Lib.hid ((K6.out.ext hb1).alloc (.cells Try.zeroCells70 70))
  have K8 := Lib.hid (Bk.new w1 70 Try.zeroCells70 w1.heap.size rfl)
  have HA1 := Lib.hid ((HA.out.ext hb1).ext ((Below.refl _ _).alloc (Nat.le_refl _) (.cells Try.zeroCells70 70)))
  have HB2 := Lib.hid (HB1.out.alloc HB1.out.size (.cells Try.zeroCells70 70))
  have hglH := Lib.hid hgl
  have hgrH := Lib.hid hgr
  have hs6 := Lib.hid (show W.heap.size < w1.heap.size from Nat.lt_of_lt_of_le (by simp) hb1.size)
  clear hb1 hgl hgr
  go_wp2_with (refine wpList_store_bk rfl 70 (.tmp 8) (.tmp 14) rfl _ (gcells g) rfl rfl _ _ K8.out (by rw [zsize, gcells_size, hglH.out]) (ginfo _ hglH.out) (gcells_one _) ?_)
  intro w2 k8 G8
  have k6 := Lib.hid (K61.out.grown G8 (by have := hs6.out; omega))
  have k8 := Lib.hid k8
  have HBw := Lib.hid (HB2.out.grown G8 HB2.out.size (fun j hj => by injection hj with hj; have := hs6.out; omega))
  have HAw := Lib.hid (HA1.out.keep (B := w1.heap.size) (Nat.lt_trans hbl.out hs6.out) ((Below.refl _ _).grown G8 (by simp) (fun j hj => by injection hj with hj; omega)))
  clear G8
  cases hok : sqOk w h sl
  · have hE := Lib.hid (hR.out.trans (show toldC w h sl pts fine = 1 from by rw [toldC, hok]; rfl))
    clear hok
    go_wp2_with (first | (refine wpList_load_bk rfl 70 (.tmp 8) rfl _ rfl _ _ _ _ k8.out Try.underlying70 (ginfo _ hglH.out) ?_) | (refine wpList_store_bk rfl 70 (.tmp 6) (.tmp 18) rfl _ (gcells g) rfl rfl _ _ k6.out (by rw [zsize, gcells_size, hglH.out]) (ginfo _ hglH.out) (gcells_one _) ?_))
    intro w8 hB8 hG8
    go_wp2_with fail
    (try simp only [Exit.inBlock, Exit.then])
    refine lay_ret Try.results46 rfl hB8 Try.underlying70 (ginfo _ hglH.out) rfl ?_
    exact ⟨g, by rw [hE.out]; rfl, hglH.out, fun h => absurd (hE.out.symm.trans h) (by decide), HBw.out.grown hG8 HBw.out.size (fun j hj => by injection hj with hj; omega)⟩
  have hE := Lib.hid (hR.out.trans (show toldC w h sl pts fine = (if (fine && pts.all (ptB w h)) = true then 0 else 2) from by rw [toldC, hok]; rfl))
  have hg2 := Lib.hid (show g = gridL sl from hgrH.out hok)
  clear hok hR
  go_wp2_with fail
  go_loopw [2, 10] (fun f i wr => ∃ k : Nat, k ≤ pts.length ∧ i = .int .i64 k ∧ f = .bool (fine && (pts.take k).all (ptB w h)) ∧ Below w2.heap.size w2 wr) (fun _ i _ => pts.length - (intOf i).toNat)
  case atStart => exact ⟨0, by omega, rfl, by simp, Below.refl _ _⟩
  case round =>
    obtain ⟨k, hk, rfl, rfl, hb⟩ := hrel
    obtain ⟨wo, rfl⟩ : ∃ wo : World, wo = wr := ⟨_, rfl⟩
    have HBo := Lib.hid hb
    by_cases hlt : k < pts.length
    · obtain ⟨b3, o3, rfl, hbb, f0, f1⟩ := hcell k hlt
      have g0 := (((HBw.out.trans (hb.mono HBw.out.size)).cell (p := ⟨b3, _, none⟩) hbb)).trans f0
      have g1 := (((HBw.out.trans (hb.mono HBw.out.size)).cell (p := ⟨b3, _, none⟩) hbb)).trans f1
      have hst := Lib.hid (show (pts.take (k + 1)).all (ptB w h) = ((pts.take k).all (ptB w h) && ptB w h pts[k]) from by rw [List.take_succ_eq_append_getElem hlt, List.all_append]; simp)
      have qi := Lib.hid (sIs_calls b o w h HQ.out.w0 HQ.out.w1 HQ.out.h0 HQ.out.h1 z pts[k] (HP.out _ (List.getElem_mem hlt)) _ (HAw.out.ext hb))
      generalize pts[k] = p at *
      clear hcell f0 f1
      generalize ptB w h p = q at *
      cases hF : (fine && (pts.take k).all (ptB w h))
      · have hF2 := Lib.hid (show (fine && (pts.take (k + 1)).all (ptB w h)) = false from by rw [hst.out, ← Bool.and_assoc, hF]; rfl)
        clear hF hst
        go_wp2_with fail
        go_roundw
        case rel => exact ⟨k + 1, by omega, by go_num, by rw [hF2.out], HBo.out⟩
        case measure => first | (simp [intOf]; done) | (simp [intOf]; omega)
      · have hF2 := Lib.hid (show (fine && (pts.take (k + 1)).all (ptB w h)) = q from by rw [hst.out, ← Bool.and_assoc, hF]; simp)
        clear hF hst
        unfold Cell.v at qi
        go_wp2_with fail
        refine qi.out.mono ?_
        rintro e w3 ⟨rfl, hb3⟩
        have HB3 := Lib.hid (ext_trans HBo.out hb3)
        clear hb3
        go_wp2_with fail
        go_roundw
        case rel => exact ⟨k + 1, by omega, by go_num, by rw [hF2.out] <;> simp, HB3.out⟩
        case measure => first | (simp [intOf]; done) | (simp [intOf]; omega)
    · obtain rfl : k = pts.length := by omega
      rw [List.take_length]
      have k6 := Lib.hid (k6.out.ext hb)
      have k8 := Lib.hid (k8.out.ext hb)
      have HBw := Lib.hid (HBw.out.trans (hb.mono HBw.out.size))
      cases hF : (fine && pts.all (ptB w h))
      · have hE2 := Lib.hid (hE.out.trans (if_neg (by rw [hF]; simp)))
        clear hF hE
        go_wp2_with (first | (refine wpList_load_bk rfl 70 (.tmp 8) rfl _ rfl _ _ _ _ k8.out Try.underlying70 (ginfo _ hglH.out) ?_) | (refine wpList_store_bk rfl 70 (.tmp 6) (.tmp 36) rfl _ (gcells g) rfl rfl _ _ k6.out (by rw [zsize, gcells_size, hglH.out]) (ginfo _ hglH.out) (gcells_one _) ?_))
        intro w8 hB8 hG8
        go_wp2_with fail
        (try simp only [Exit.inBlock, Exit.then])
        refine lay_ret Try.results46 rfl hB8 Try.underlying70 (ginfo _ hglH.out) rfl ?_
        exact ⟨g, by rw [hE2.out]; rfl, hglH.out, fun h => absurd (hE2.out.symm.trans h) (by decide), HBw.out.grown hG8 HBw.out.size (fun j hj => by injection hj with hj; omega)⟩
      · have hE2 := Lib.hid (hE.out.trans (if_pos hF))
        clear hF hE
        go_wp2_with (first | (refine wpList_load_bk rfl 70 (.tmp 8) rfl _ rfl _ _ _ _ k8.out Try.underlying70 (ginfo _ hglH.out) ?_) | (refine wpList_store_bk rfl 70 (.tmp 6) (.tmp 37) rfl _ (gcells g) rfl rfl _ _ k6.out (by rw [zsize, gcells_size, hglH.out]) (ginfo _ hglH.out) (gcells_one _) ?_))
        intro w8 hB8 hG8
        go_wp2_with fail
        (try simp only [Exit.inBlock, Exit.then])
        refine lay_ret Try.results46 rfl hB8 Try.underlying70 (ginfo _ hglH.out) rfl ?_
        exact ⟨g, by rw [hE2.out]; rfl, hglH.out, fun _ => hg2.out, HBw.out.grown hG8 HBw.out.size (fun j hj => by injection hj with hj; omega)⟩
set_option maxHeartbeats 4000000 in
theorem specJointsAt_calls (w h : Int) (z : Value) (sl : List Slab) (p : Cell) (hp : p.ok) (W : World) (hq : SqIn W w h z sl) :
    Calls Try.prog 11 #[sqv w h z, p.v] W (RetL2 W (jointsAt w h sl p)) := by
  obtain ⟨A, cap, hz, -, -, -⟩ := hq.sl.slab
  subst hz
  have hB := ext_alloc ((Below.refl W.heap.size W).alloc (Nat.le_refl _) (.cells #[.int .i8 w, .int .i8 h, .slice A sl.length cap] 34)) (.cells #[.int .i8 p.x, .int .i8 p.y] 36)
  have HBb := ext_alloc (ext_alloc hB (.cells #[] 2)) (.cells #[.int .i8 p.x, .int .i8 p.y] 36)
  have HB := Lib.hid HBb
  have HQ := Lib.hid (hq.ext HBb)
  have HS := Lib.hid (sl1c (((W.alloc (.cells #[.int .i8 w, .int .i8 h, .slice A sl.length cap] 34)).alloc (.cells #[.int .i8 p.x, .int .i8 p.y] 36)).alloc (.cells #[] 2)) p (W.heap.size + 1 + 1 + 1) (by simp) 36)
  have K0 := Lib.hid ((((Bk.new W 34 #[.int .i8 w, .int .i8 h, .slice A sl.length cap] W.heap.size rfl).alloc (.cells #[.int .i8 p.x, .int .i8 p.y] 36)).alloc (.cells #[] 2)).alloc (.cells #[.int .i8 p.x, .int .i8 p.y] 36))
  have K1 := Lib.hid (((Bk.new (W.alloc (.cells #[.int .i8 w, .int .i8 h, .slice A sl.length cap] 34)) 36 #[.int .i8 p.x, .int .i8 p.y] (W.heap.size + 1) (by simp)).alloc (.cells #[] 2)).alloc (.cells #[.int .i8 p.x, .int .i8 p.y] 36))
  have hO0 := Lib.hid ((Own.empty (α := Int) (c := i64c) (sz := 1) (E := 2) ((W.alloc (.cells #[.int .i8 w, .int .i8 h, .slice A sl.length cap] 34)).alloc (.cells #[.int .i8 p.x, .int .i8 p.y] 36)) (W.heap.size + 1 + 1) (W.heap.size + 1 + 1) (by simp) (by simp)).alloc (.cells #[.int .i8 p.x, .int .i8 p.y] 36))
  have hsz := Lib.hid (show ((((W.alloc (.cells #[.int .i8 w, .int .i8 h, .slice A sl.length cap] 34)).alloc (.cells #[.int .i8 p.x, .int .i8 p.y] 36)).alloc (.cells #[] 2)).alloc (.cells #[.int .i8 p.x, .int .i8 p.y] 36)).heap.size = W.heap.size + 1 + 1 + 1 + 1 from by simp)
  clear hB hq HBb
  obtain ⟨R, hR0⟩ : ∃ R, R = jointsAt w h sl p := ⟨_, rfl⟩
  rw [← hR0]
  have hR := Lib.hid hR0
  clear hR0
  have qt := Lib.hid (told_calls W.heap.size 0 w h _ sl [p] (by simpa using hp) _ true _ HQ.out ⟨K0.out.cell 0 _ rfl, K0.out.cell 1 _ rfl, K0.out.cell 2 _ rfl, K0.out.lt⟩ HS.out)
  rw [toldC_corn] at qt
  have hall := Lib.hid (waysN_all sl p.x p.y)
  unfold sqv Cell.v at *
  go_enter Try.func11, Try.ntmps11
  go_wp2_with fail
  refine qt.out.mono ?_
  rintro e w1 ⟨g, rfl, hgl, hgr, hb1⟩
  generalize (((W.alloc (.cells #[.int .i8 w, .int .i8 h, .slice A sl.length cap] 34)).alloc (.cells #[.int .i8 p.x, .int .i8 p.y] 36)).alloc (.cells #[] 2)).alloc (.cells #[.int .i8 p.x, .int .i8 p.y] 36) = W1 at *
  have HB1 := Lib.hid (HB.out.trans (hb1.mono HB.out.size))
  have HBm := Lib.hid (show Below (W.heap.size + 1 + 1) W1 w1 from hb1.mono (by have := hsz.out; omega))
  have K8 := Lib.hid (Bk.new w1 70 Try.zeroCells70 w1.heap.size rfl)
  have hO1 := Lib.hid ((hO0.out.ext hb1).alloc (.cells Try.zeroCells70 70))
  have k1 := Lib.hid ((K1.out.ext hb1).alloc (.cells Try.zeroCells70 70))
  have HB2 := Lib.hid (HB1.out.alloc HB1.out.size (.cells Try.zeroCells70 70))
  have hglH := Lib.hid hgl
  have hgrH := Lib.hid hgr
  have hs6 := Lib.hid (show W.heap.size + 1 + 1 + 1 < w1.heap.size from by have := hb1.size; have := hsz.out; omega)
  clear hb1 hgl hgr
  go_wp2_with (refine wpList_store_bk rfl 70 (.tmp 7) (.tmp 15) rfl _ (gcells g) rfl rfl _ _ K8.out (by rw [zsize, gcells_size, hglH.out]) (ginfo _ hglH.out) (gcells_one _) ?_)
  intro w2 k8 G8
  have k8 := Lib.hid k8
  have HBw := Lib.hid (HB2.out.grown G8 HB2.out.size (fun j hj => by injection hj with hj; have := hs6.out; omega))
  have k1 := Lib.hid (k1.out.grown G8 (by have := hs6.out; omega))
  have hO1 := Lib.hid (hO1.out.keep (fun j hj => G8.block j (hO1.out.lt j hj) (fun he => by
    injection he with he
    have h1 : W.heap.size + 1 + 1 = j := by simpa [Value.ownBlock] using hj
    have := hs6.out
    omega)))
  have hs7 := Lib.hid (show w1.heap.size < w2.heap.size from k8.out.lt)
  clear G8
  by_cases hc : cornC w h sl [p] = 0
  · have hE := Lib.hid (show R = (waysOf sl p.x p.y, 0) from hR.out.trans (if_pos hc))
    obtain ⟨hv, hpts⟩ := cornC_ok hc
    obtain ⟨⟨w0, w1'⟩, ⟨h0, h1⟩, hl⟩ := sqOk_edges hv
    obtain ⟨⟨x0, x1⟩, y0, y1⟩ := hpts p (by simp)
    have hgg := hgrH.out hc
    subst hgg
    have HL := Lib.hid hl
    rw [hc]
    clear hc hv hpts hl hR
    go_wp2_with fail
    go_loopw [6, 9] (fun o i wr => ∃ (k : Nat) (g c : Nat), k ≤ 4 ∧ i = .int .i64 k ∧ o = .slice (some ⟨g, 0, none⟩) (waysN sl p.x p.y k).length c ∧ Own wr (W.heap.size + 1 + 1) 2 i64c 1 (.slice (some ⟨g, 0, none⟩) (waysN sl p.x p.y k).length c) (waysN sl p.x p.y k) ∧ g ≠ w1.heap.size ∧ Below W.heap.size W wr ∧ Bk wr (W.heap.size + 1) 36 #[.int .i8 p.x, .int .i8 p.y] ∧ Bk wr w1.heap.size 70 (gcells (gridL sl))) (fun _ i _ => 4 - (intOf i).toNat)
    case atStart => exact ⟨0, _, 0, by omega, rfl, rfl, hO1.out, by have := hs6.out; omega, HBw.out, k1.out, k8.out⟩
    case round =>
      obtain ⟨k, g, c, hk, rfl, rfl, hO, hgne, hb, kc, kg⟩ := hrel
      obtain ⟨wo, rfl⟩ : ∃ wo : World, wo = wr := ⟨_, rfl⟩
      have HO := Lib.hid hO
      have HBo := Lib.hid hb
      have KC := Lib.hid kc
      have KG := Lib.hid kg
      have hlen := Lib.hid (waysN_len sl p.x p.y k)
      have hgn := Lib.hid hgne
      clear hO hb kg hgne
      by_cases hlt : k < 4
      · have hst := Lib.hid (waysN_succ sl p.x p.y k)
        have t0 := kc.cell 0 _ rfl
        have t1 := kc.cell 1 _ rfl
        have qe := Lib.hid (sEdge_calls sl _ wo w h ⟨w1', h1⟩ HL.out KG.out p ⟨x0, by omega⟩ ⟨y0, by omega⟩ (k : Int))
        unfold Cell.v at qe
        generalize edgeOf sl p.x p.y k = E at *
        have hk4 : decide ((k : Int) < 4) = true := by rw [decide_eq_true_eq]; omega
        clear kc
        go_wp2_with fail
        refine qe.out.mono ?_
        rintro e w10 ⟨rfl, hb9⟩
        have HB9 := Lib.hid hb9
        clear hb9
        cases E
        · have hs2 := Lib.hid (hst.out.trans (if_neg (by decide)))
          clear hst
          go_wp2_with fail
          go_roundw
          case rel => exact ⟨k + 1, g, c, by omega, by go_num, by rw [hs2.out], by rw [hs2.out]; exact HO.out.ext HB9.out, hgn.out, ext_trans HBo.out HB9.out, KC.out.ext HB9.out, KG.out.ext HB9.out⟩
          case measure => first | (simp [intOf]; done) | (simp [intOf]; omega)
        · have hs2 := Lib.hid (hst.out.trans (if_pos rfl))
          clear hst
          have hO9 := Lib.hid (HO.out.ext HB9.out)
          have hsz9 := Lib.hid (Nat.le_trans HBo.out.size HB9.out.size)
          have hB10 := Lib.hid (ext_trans HBo.out HB9.out)
          have kc9 := Lib.hid ((KC.out.ext HB9.out).alloc (.cells #[.int .i64 (k : Int)] 2))
          have kg9 := Lib.hid ((KG.out.ext HB9.out).alloc (.cells #[.int .i64 (k : Int)] 2))
          have hsz2 := Lib.hid (show W.heap.size + 1 + 1 ≤ w10.heap.size from by have := (KG.out.ext HB9.out).lt; have := hs6.out; omega)
          generalize waysN sl p.x p.y k = us at *
          go_wp2_with (at_builtin; refine push_i64at rfl _ _ rfl (W.heap.size + 1 + 1) us _ rfl (hO9.out.alloc _) ⟨_, 0, none⟩ _ rfl ((Bk.new _ _ _ _ rfl).cell 0 _ rfl) (by have := hlen.out; omega) (Nat.le_trans hsz2.out (by simp)) ?_)
          intro v3 w3 hO3 hG3 hat
          rw [← hs2.out] at hO3
          have hb3 := Lib.hid ((hB10.out.alloc hsz9.out _).grown hG3 (Nat.le_trans hsz9.out (by simp)) (fun j hj => Nat.le_trans (by omega) (hO9.out.base j hj)))
          have kc3 := Lib.hid (kc9.out.grown (g' := g) (by simpa [Value.ownBlock] using hG3) (by have := hO9.out.base g rfl; omega))
          have kg3 := Lib.hid (kg9.out.grown (g' := g) (by simpa [Value.ownBlock] using hG3) (by have := hgn.out; omega))
          obtain ⟨g3, c3, rfl, _, _, _, _, _, _⟩ := hO3.room i64c_len (by rw [hs2.out]; simp)
          have hgn3 := Lib.hid (show g3 ≠ w1.heap.size from by
            have h1 := (KG.out.ext HB9.out).lt
            have h2 := hgn.out
            simp [Value.ownBlock] at hat
            omega)
          have hO3 := Lib.hid hO3
          clear hG3 hat
          go_wp2_with fail
          go_roundw
          case rel => exact ⟨k + 1, g3, c3, by omega, by go_num, rfl, hO3.out, hgn3.out, hb3.out, kc3.out, kg3.out⟩
          case measure => first | (simp [intOf]; done) | (simp [intOf]; omega)
      · obtain rfl : k = 4 := by omega
        rw [hall.out] at HO ⊢
        go_wp2_with fail
        go_ret2
        rw [hE.out]
        exact RetL2.mk rfl (HO.out.more (by omega)) HBo.out
  · have hE := Lib.hid (show R = ([], cornC w h sl [p]) from hR.out.trans (if_neg hc))
    have hcb : (cornC w h sl [p] == 0) = false := by simpa using hc
    have hcb2 : (cornC w h sl [p] != 0) = true := by simpa using hc
    clear hc
    go_wp2_with fail
    go_ret2
    rw [hE.out]
    exact RetL2.mk rfl (hO1.out.more (by omega)) HBw.out
end Go.Proofs.Yteflpdfajfljfaa
