/-
How many slabs have still to be come to, of the program. Conditions: the square is valid, the end is one of its cells.
-/
import Derived.Test.YteflpdfajfljfaaFL2
import Derived.Carry
set_option linter.unusedVariables false
set_option linter.unusedSimpArgs false
set_option maxRecDepth 100000
namespace Go.Proofs.Yteflpdfajfljfaa
open Go.RowKit
theorem gp_okS {w h : Int} {c : Cell} (hw : w ≤ 12) (hh : h ≤ 12) (hc : gpB w h c = true) : c.ok := by
  obtain ⟨h1, h2, h3, h4⟩ := gpB_true.1 hc
  exact ⟨by omega, by omega, by omega, by omega⟩
theorem Bk.grownS {w w' : World} {g m : Nat} {T : TypeId} {cs : Array Value} (h : Bk w g T cs) (hG : w.grownBy w' (some m)) (hne : g ≠ m) : Bk w' g T cs := (hG.block g h.lt (fun e => by injection e with e; exact hne e)).trans h
theorem Own.grownS {α : Type} {w w' : World} {B m : Nat} {E : TypeId} {c : α → List Value} {sz : Nat} {v : Value} {xs : List α} (h : Own w B E c sz v xs) (hG : w.grownBy w' (some m)) (hm : m < B) : Own w' B E c sz v xs := h.keep (fun k hk => hG.block k (h.lt k hk) (fun e => by injection e with e; have := h.base k hk; omega))
theorem MapC.at_S {w w' : World} {g : Nat} {f : Cell → Option Int} (h : MapC w g f) (he : w'.heap = w.heap) : MapC w' g f := h.keep (by rw [he])
theorem put_insC {ops : Array Oper} {rest : List Oper} {o : Oper} {a : Act} {Q : Exit → Act → World → Prop} {w : World} (hg : o.guard = none) (m x v : Operand) (T E : TypeId) (hop : o.op = Op.insert T m x v)
    (ht : Try.prog.underlying T = some (.map 36 E)) (g : Nat) (f : Cell → Option Int) (hm : a.eval m = .map (some g)) (h : MapC w g f) (c : Cell) (hc : c.ok) (n : Int) (hx : a.eval x = c.v) (hv : a.eval v = .int .i64 n)
    (hK : ∀ w', MapC w' g (putC f c n) → w.grownBy w' (some g) → wpList Try.prog ops Q rest (a.put o.dst undef) w') : wpList Try.prog ops Q (o :: rest) a w := by
  refine wpList_plain hg fun K' hK' => ?_
  obtain ⟨w', hrun, r1, r2⟩ := h.store ht c hc n
  unfold Oper.wp
  simp [execOp, hop, hm, hx, hv, hrun, Result.andThen]
  exact hK' _ _ (hK w' r1 r2)
theorem putC_first (c : Cell) : putC (fun _ => none) c 0 = fun y => if y = c then some 0 else none := by funext y; rfl
/-- What the program's table says at the end. -/
def AhT (w h : Int) (sl : List Slab) (tg : Cell) (M : Cell → Option Int) : Prop := IsD w h (cvS sl) tg (fun c => (M c).getD 0) ∧ ∀ c, (M c).isSome = true ↔ gpB w h c = true
set_option maxHeartbeats 4000000 in
theorem ahead_callsS (w h : Int) (z : Value) (sl : List Slab) (tg : Cell) (hv : sqOk w h sl = true) (ht : gpB w h tg = true) (W : World) (hq : SqIn W w h z sl) :
    Calls Try.prog 145 #[sqv w h z, tg.v] W fun e w' => (∃ g M, e = .returned (.map (some g)) ∧ W.heap.size ≤ g ∧ MapC w' g M ∧ AhT w h sl tg M) ∧ Below W.heap.size W w' := by
  obtain ⟨⟨hw0, hw1⟩, ⟨hh0, hh1⟩, -⟩ := sqOk_edges hv
  obtain ⟨A, cap, hz, -, -, -⟩ := hq.sl.slab
  subst hz
  have HT := Lib.hid ht
  have HQ0 := Lib.hid hq
  have e1 : ((w.toNat : Nat) : Int) = w := by omega
  have e2 : ((h.toNat : Nat) : Int) = h := by omega
  have qa := Lib.hid (fun W' => cellsS_calls w.toNat h.toNat (by omega) (by omega) (.slice A sl.length cap) W')
  rw [e1, e2] at qa
  have hpt := Lib.hid (fun c => ptsS_mem w.toNat h.toNat c)
  rw [e1, e2] at hpt
  have hpl := Lib.hid (show (ptsS w.toNat h.toNat).length ≤ 144 from by
    rw [ptsS_len]
    have : h.toNat * w.toNat ≤ 12 * 12 := Nat.mul_le_mul (by omega) (by omega)
    omega)
  have hend := Lib.hid (fun M (t : AhI w h (cvS sl) tg M) c => t.isD ht (ptsS w.toNat h.toNat) (fun c hc => (hpt.out c).2 hc) c)
  generalize ptsS w.toNat h.toNat = xs at *
  have hfst := Lib.hid (AhI.first (cv := cvS sl) ht hw1 hh1)
  have htok := Lib.hid (gp_okS hw1 hh1 ht)
  have qn := Lib.hid (fun c (hc : gpB w h c = true) W' hq' => nextS_calls w h (.slice A sl.length cap) sl c (gpB_true.1 hc).1 (by have := gpB_true.1 hc; omega) (gpB_true.1 hc).2.2.1 (by have := gpB_true.1 hc; omega) W' hq')
  have qe := Lib.hid (fun a b (ha : gpB w h a = true) (hb : gpB w h b = true) W' hq' => entered_calls w h (.slice A sl.length cap) sl a b (gp_okS hw1 hh1 ha) (gp_okS hw1 hh1 hb) W' hq')
  have ql := Lib.hid (fun g M c n (hc : gpB w h c = true) W' hM => hasLess_calls g M c (gp_okS hw1 hh1 hc) n W' hM)
  generalize hcv : cvS sl = cv at *
  clear hq e1 e2 ht
  have KG0 := (((Bk.new W 34 #[.int .i8 w, .int .i8 h, .slice A sl.length cap] W.heap.size rfl).alloc (.cells #[.int .i8 tg.x, .int .i8 tg.y] 36)).alloc (.map #[] 0))
  have KZ0 := ((Bk.new (W.alloc (.cells #[.int .i8 w, .int .i8 h, .slice A sl.length cap] 34)) 36 #[.int .i8 tg.x, .int .i8 tg.y] (W.heap.size + 1) (by simp)).alloc (.map #[] 0))
  have KM := Lib.hid (MapC.new ((W.alloc (.cells #[.int .i8 w, .int .i8 h, .slice A sl.length cap] 34)).alloc (.cells #[.int .i8 tg.x, .int .i8 tg.y] 36)) (W.heap.size + 1 + 1) (by simp))
  have HB := Lib.hid (ext_alloc (ext_alloc ((Below.refl W.heap.size W).alloc (Nat.le_refl _) (.cells #[.int .i8 w, .int .i8 h, .slice A sl.length cap] 34)) (.cells #[.int .i8 tg.x, .int .i8 tg.y] 36)) (.map #[] 0))
  have KG := Lib.hid KG0
  have z0 := KZ0.cell 0 _ rfl
  have z1 := KZ0.cell 1 _ rfl
  clear KG0 KZ0
  have hmk := fun w => run_makeMap (P := Try.prog) 164 w
  unfold sqv Cell.v at *
  go_enter Try.func145, Try.ntmps145
  go_wp2_with (refine put_insC rfl _ _ _ 164 2 rfl Try.underlying164 (W.heap.size + 1 + 1) _ rfl KM.out tg htok.out 0 rfl rfl ?_)
  intro W1 hM1 hG1
  rw [putC_first] at hM1
  have HM1 := Lib.hid hM1
  have HG1 := Lib.hid (KG.out.grownS hG1 (by omega))
  have HB1 := Lib.hid (HB.out.grown hG1 HB.out.size (fun j hj => by injection hj with hj; omega))
  clear hM1 hG1 KM KG HB z0 z1 hmk
  go_wp2_with fail
  go_loopg [6] (2 * potA (fun c => if c = tg then some 0 else none) + 1) (fun n chg wr => ∃ (ch : Bool) (M : Cell → Option Int), chg = .bool ch ∧ AhI w h cv tg M ∧ (ch = false → ∀ a ∈ xs, closA w h cv M a) ∧ 2 * potA M + (if ch then 1 else 0) ≤ n ∧ MapC wr (W.heap.size + 1 + 1) M ∧ Bk wr W.heap.size 34 #[.int .i8 w, .int .i8 h, .slice A sl.length cap] ∧ Below W.heap.size W wr)
  case atStart => exact ⟨true, _, rfl, hfst.out, fun h => (by cases h), Nat.le_refl _, HM1.out, HG1.out, HB1.out⟩
  case round =>
    clear HM1 HG1 HB1 hfst
    obtain ⟨ch0, M0, rfl, hT, hcl, hpt0, hM, hG, hb⟩ := hrel
    have HM := Lib.hid hM
    have HG := Lib.hid hG
    have HBr := Lib.hid hb
    have HTT := Lib.hid hT
    have g0 := hG.cell 0 _ rfl
    have g1 := hG.cell 1 _ rfl
    have g2 := hG.cell 2 _ rfl
    clear hT hM hG hb
    cases ch0 with
    | false =>
      have HL := Lib.hid (hend.out M0 HTT.out (fun a ha => hcl rfl a ha))
      clear hcl
      go_wp2_with fail
      go_ret
      exact ⟨⟨_, M0, rfl, by omega, HM.out, by unfold AhT; rw [hcv]; exact HL.out⟩, HBr.out⟩
    | true =>
      have hpt1 := Lib.hid (show 2 * potA M0 + 1 ≤ gk from hpt0)
      clear hcl hpt0
      go_wp2_with fail
      refine (qa.out _).mono ?_
      rintro e w2 ⟨v2, rfl, hO2, hb2⟩
      obtain ⟨A2, cap2, rfl, -, -, -⟩ := (hO2.sl Cell.c_len).cell
      have HX2 := Lib.hid hO2
      have HB2 := Lib.hid (ext_trans HBr.out hb2)
      have HM2 := Lib.hid (HM.out.ext hb2)
      have HG2 := Lib.hid (HG.out.ext hb2)
      have hmbB := Lib.hid HM.out.lt
      clear hO2 hb2 HM HG HBr g0 g1 g2
      generalize wr.heap.size = B2 at *
      go_wp2_with fail
      go_loopw [6, 21] (fun chg i wr => ∃ (ch : Bool) (k : Nat) (M : Cell → Option Int), k ≤ xs.length ∧ i = .int .i64 (k : Int) ∧ chg = .bool ch ∧ A3 w h cv tg M0 xs k ch M ∧ MapC wr (W.heap.size + 1 + 1) M ∧ Bk wr W.heap.size 34 #[.int .i8 w, .int .i8 h, .slice A sl.length cap] ∧ Own wr B2 36 Cell.c 2 (.slice A2 xs.length cap2) xs ∧ Below W.heap.size W wr) (fun _ i _ => xs.length - (intOf i).toNat)
      case atStart => exact ⟨false, 0, M0, by omega, rfl, rfl, A3.zero HTT.out, HM2.out, HG2.out, HX2.out, HB2.out⟩
      case round =>
        clear HM2 HG2 HX2 HB2
        obtain ⟨ch, k, M, hk, rfl, rfl, hQ, hM, hG, hX, hb⟩ := hrel
        have HQ := Lib.hid hQ
        have HM := Lib.hid hM
        have HG := Lib.hid hG
        have HX := Lib.hid hX
        have HBr := Lib.hid hb
        clear hQ hM hG hX hb
        have hp144 := hpl.out
        by_cases hlt : k < xs.length
        · obtain ⟨A3', cap3, hv, -, -, hcell⟩ := (HX.out.sl Cell.c_len).cell
          obtain ⟨rfl, rfl⟩ : A2 = A3' ∧ cap2 = cap3 := by injection hv with e1 e2 e3; exact ⟨e1, e3⟩
          obtain ⟨b1, o1, rfl, hbb, c0, c1⟩ := hcell k hlt
          have hqpt := Lib.hid ((hpt.out xs[k]).1 (List.getElem_mem hlt))
          have hk0 : (0 : Int) ≤ (k : Int) := by omega
          have hk1 : (k : Int) < (xs.length : Int) := by omega
          have hskip := Lib.hid (HQ.out.skip hlt)
          have hfin3 := Lib.hid (fun a e n ch M q => A4.fin (w := w) (h := h) (cv := cv) (tg := tg) (M0 := M0) (ch := ch) (M := M) (a := a) (n := n) hlt e q)
          obtain ⟨q, hqe⟩ : ∃ q, xs[k] = q := ⟨_, rfl⟩
          have HQE := Lib.hid hqe
          rw [hqe] at hqpt c0 c1 hskip
          clear hcell hv hqe
          have hfin := Lib.hid (hfin3.out _ HQE.out)
          clear hfin3
          have hok := Lib.hid (gp_okS hw1 hh1 hqpt.out)
          have HBa := Lib.hid (HBr.out.alloc HBr.out.size (.cells #[.int .i8 q.x, .int .i8 q.y] 36))
          have HMa := Lib.hid (HM.out.ext ((Below.refl wr.heap.size wr).alloc (Nat.le_refl _) (.cells #[.int .i8 q.x, .int .i8 q.y] 36)))
          have HGa := Lib.hid (HG.out.alloc (.cells #[.int .i8 q.x, .int .i8 q.y] 36))
          have HXa := Lib.hid (HX.out.alloc (.cells #[.int .i8 q.x, .int .i8 q.y] 36))
          have HNa := Lib.hid (Bk.new wr 36 #[.int .i8 q.x, .int .i8 q.y] wr.heap.size rfl)
          have hmN := Lib.hid HM.out.lt
          clear HM HG HX HBr
          have lk := HMa.out.look2 Try.underlying164 (zeroI64S_run _) q hok.out
          cases hMq : M q with
          | none =>
            have HN := Lib.hid (hskip.out hMq)
            rw [hMq] at lk
            clear hMq hfin
            simp only [Option.getD_none, Option.isSome_none, Cell.v] at lk
            go_wp2_with fail
            go_roundw
            case rel => exact ⟨ch, k + 1, M, by omega, by go_num, rfl, HN.out, HMa.out, HGa.out, HXa.out, HBa.out⟩
            case measure => first | (simp [intOf]; done) | (simp [intOf]; omega)
          | some n =>
            have HZE := Lib.hid (fun ys => A4.zero (ys := ys) HQ.out hMq)
            rw [hMq] at lk
            clear hMq hskip HQ
            simp only [Option.getD_some, Option.isSome_some, Cell.v] at lk
            have g0 := HGa.out.cell 0 _ rfl
            have g1 := HGa.out.cell 1 _ rfl
            have g2 := HGa.out.cell 2 _ rfl
            have qb := Lib.hid (qn.out q hqpt.out _ (HQ0.out.ext (show Below W.heap.size W (wr.alloc (.cells #[.int .i8 q.x, .int .i8 q.y] 36)) from HBa.out)))
            have hyl := Lib.hid (around_lenS w h q)
            have hyp := Lib.hid (fun c (hc : c ∈ aroundL w h q) => around_pt hc)
            have hput := Lib.hid (fun c (hc : c ∈ aroundL w h q) j ch M (q4 : A4 w h cv tg M0 xs k q n (aroundL w h q) j ch M) hlt => q4.put hw1 hh1 HT.out hc hlt _ (rfl : putC M c (n + entI cv c q) = _))
            replace HZE := Lib.hid (HZE.out (aroundL w h q))
            replace hfin := Lib.hid (hfin.out n)
            generalize aroundL w h q = ys at *
            have hnb := HZE.out.range
            go_wp2_with fail
            generalize wr.alloc (.cells #[.int .i8 q.x, .int .i8 q.y] 36) = w5 at *
            refine qb.out.mono ?_
            rintro e w6 ⟨v6, rfl, hO6, hb6⟩
            have HB6 := Lib.hid (ext_trans HBa.out hb6)
            have HM6 := Lib.hid (HMa.out.ext hb6)
            have HG6 := Lib.hid (HGa.out.ext hb6)
            have HX6 := Lib.hid (HXa.out.ext hb6)
            have HN6 := Lib.hid (HNa.out.ext hb6)
            have hm5 := Lib.hid HMa.out.lt
            have hn5 := Lib.hid HNa.out.lt
            obtain ⟨A4', cap4, rfl, -, -, -⟩ := (hO6.sl Cell.c_len).cell
            have HY6 := Lib.hid hO6
            clear hO6 hb6 HBa HMa HGa HXa HNa qb c0 c1 lk g0 g1 g2
            generalize w5.heap.size = B5 at *
            generalize wr.heap.size = NB at *
            go_wp2_with fail
            go_loopw [6, 37] (fun chg i wr => ∃ (ch : Bool) (j : Nat) (M : Cell → Option Int), j ≤ ys.length ∧ i = .int .i64 (j : Int) ∧ chg = .bool ch ∧ A4 w h cv tg M0 xs k q n ys j ch M ∧ MapC wr (W.heap.size + 1 + 1) M ∧ Bk wr W.heap.size 34 #[.int .i8 w, .int .i8 h, .slice A sl.length cap] ∧ Bk wr NB 36 #[.int .i8 q.x, .int .i8 q.y] ∧ Own wr B2 36 Cell.c 2 (.slice (some ⟨b1, o1, none⟩) xs.length cap2) xs ∧ Own wr B5 36 Cell.c 2 (.slice A4' ys.length cap4) ys ∧ Below W.heap.size W wr) (fun _ i _ => ys.length - (intOf i).toNat)
            case atStart => exact ⟨ch, 0, M, by omega, rfl, rfl, HZE.out, HM6.out, HG6.out, HN6.out, HX6.out, HY6.out, HB6.out⟩
            case round =>
              clear HM6 HG6 HN6 HX6 HY6 HB6 HZE
              obtain ⟨ch, j, M, hj, rfl, rfl, hQ, hM, hG, hN, hX, hY, hb⟩ := hrel
              have HQ := Lib.hid hQ
              have HM := Lib.hid hM
              have HG := Lib.hid hG
              have HN := Lib.hid hN
              have HX := Lib.hid hX
              have HY := Lib.hid hY
              have HBr := Lib.hid hb
              clear hQ hM hG hN hX hY hb
              have hy4 := hyl.out
              by_cases hjl : j < ys.length
              · obtain ⟨A5, cap5, hv, -, -, hcell⟩ := (HY.out.sl Cell.c_len).cell
                obtain ⟨rfl, rfl⟩ : A4' = A5 ∧ cap4 = cap5 := by injection hv with e1 e2 e3; exact ⟨e1, e3⟩
                obtain ⟨b2, o2, rfl, hbb2, c0, c1⟩ := hcell j hjl
                have hj0 : (0 : Int) ≤ (j : Int) := by omega
                have hj1 : (j : Int) < (ys.length : Int) := by omega
                have hcpt := Lib.hid (hyp.out ys[j] (List.getElem_mem hjl))
                have hkp := Lib.hid (fun m => HQ.out.keep (m := m) hjl)
                have hpp := Lib.hid (hput.out ys[j] (List.getElem_mem hjl) j ch M HQ.out)
                obtain ⟨d, hde⟩ : ∃ d, ys[j] = d := ⟨_, rfl⟩
                rw [hde] at hcpt hkp hpp c0 c1
                clear hde hcell hv
                have hok := Lib.hid (gp_okS hw1 hh1 hcpt.out)
                have HB7 := Lib.hid (HBr.out.alloc HBr.out.size (.cells #[.int .i8 d.x, .int .i8 d.y] 36))
                have HM7 := Lib.hid (HM.out.ext ((Below.refl wr.heap.size wr).alloc (Nat.le_refl _) (.cells #[.int .i8 d.x, .int .i8 d.y] 36)))
                have HG7 := Lib.hid (HG.out.alloc (.cells #[.int .i8 d.x, .int .i8 d.y] 36))
                have HN7 := Lib.hid (HN.out.alloc (.cells #[.int .i8 d.x, .int .i8 d.y] 36))
                have HX7 := Lib.hid (HX.out.alloc (.cells #[.int .i8 d.x, .int .i8 d.y] 36))
                have HY7 := Lib.hid (HY.out.alloc (.cells #[.int .i8 d.x, .int .i8 d.y] 36))
                have HD7 := Lib.hid (Bk.new wr 36 #[.int .i8 d.x, .int .i8 d.y] wr.heap.size rfl)
                have g0 := HG7.out.cell 0 _ rfl
                have g1 := HG7.out.cell 1 _ rfl
                have g2 := HG7.out.cell 2 _ rfl
                have m0 := HN7.out.cell 0 _ rfl
                have m1 := HN7.out.cell 1 _ rfl
                have hm7 := Lib.hid HM.out.lt
                have q2 := Lib.hid (qe.out d q hcpt.out hqpt.out _ (HQ0.out.ext (show Below W.heap.size W (wr.alloc (.cells #[.int .i8 d.x, .int .i8 d.y] 36)) from HB7.out)))
                have he01 := entI_01 cv d q
                clear HM HG HN HX HY HBr HQ
                generalize entI cv d q = en at *
                go_wp2_with fail
                generalize wr.alloc (.cells #[.int .i8 d.x, .int .i8 d.y] 36) = w7 at *
                refine q2.out.mono ?_
                rintro e w8 ⟨rfl, hb8⟩
                have HB8 := Lib.hid (ext_trans HB7.out hb8)
                have HM8 := Lib.hid (HM7.out.ext hb8)
                have HG8 := Lib.hid (HG7.out.ext hb8)
                have HN8 := Lib.hid (HN7.out.ext hb8)
                have HX8 := Lib.hid (HX7.out.ext hb8)
                have HY8 := Lib.hid (HY7.out.ext hb8)
                have HD8 := Lib.hid (HD7.out.ext hb8)
                have x0 := HD8.out.cell 0 _ rfl
                have x1 := HD8.out.cell 1 _ rfl
                clear hb8 HB7 HM7 HG7 HN7 HX7 HY7 HD7 g0 g1 g2 m0 m1 q2 c0 c1
                have wA : IntKind.i64.wrap (n + en) = n + en := wrapIn _ (by omega) (by omega)
                have q3 := Lib.hid (ql.out _ M d (n + en) hcpt.out _ HM8.out)
                cases hls : lessM M d (n + en)
                · have hlt : ∀ now, M d = some now → n + en < now := by
                    intro now hn
                    rw [lessM, hn] at hls
                    simpa using hls
                  have HN9 := Lib.hid (hpp.out hlt)
                  rw [hls] at q3
                  clear hlt hls hkp hpp
                  go_wp2_with fail
                  refine q3.out.mono ?_
                  rintro e w9 ⟨rfl, hb9⟩
                  have HB9 := Lib.hid (ext_trans HB8.out hb9)
                  have HM9 := Lib.hid (HM8.out.ext hb9)
                  have HG9 := Lib.hid (HG8.out.ext hb9)
                  have HNN9 := Lib.hid (HN8.out.ext hb9)
                  have HX9 := Lib.hid (HX8.out.ext hb9)
                  have HY9 := Lib.hid (HY8.out.ext hb9)
                  have HD9 := Lib.hid (HD8.out.ext hb9)
                  have y0 := HD9.out.cell 0 _ rfl
                  have y1 := HD9.out.cell 1 _ rfl
                  clear hb9 HB8 HM8 HG8 HN8 HX8 HY8 HD8 x0 x1 q3
                  go_wp2_with (refine put_mapC rfl _ _ _ 164 2 rfl Try.underlying164 (W.heap.size + 1 + 1) _ rfl HM9.out d hok.out (n + en) rfl rfl ?_)
                  intro w10 hM10 hG10
                  have HM10 := Lib.hid hM10
                  have HB10 := Lib.hid (HB9.out.grown hG10 HB9.out.size (fun j hj => by injection hj with hj; omega))
                  have HG10 := Lib.hid (HG9.out.grownS hG10 (by omega))
                  have HN10 := Lib.hid (HNN9.out.grownS hG10 (by have := hmN.out; omega))
                  have HX10 := Lib.hid (HX9.out.grownS hG10 (by have := hmbB.out; omega))
                  have HY10 := Lib.hid (HY9.out.grownS hG10 (by have := hm5.out; omega))
                  clear hM10 hG10
                  go_wp2_with fail
                  go_roundw
                  case rel => exact ⟨true, j + 1, _, by omega, by go_num, rfl, HN9.out, HM10.out, HG10.out, HN10.out, HX10.out, HY10.out, HB10.out⟩
                  case measure => first | (simp [intOf]; done) | (simp [intOf]; omega)
                · have HN9 : Hid (A4 w h cv tg M0 xs k q n ys (j + 1) ch M) := by
                    cases hmd : M d with
                    | none => rw [lessM, hmd] at hls; cases hls
                    | some m => rw [lessM, hmd] at hls; exact Lib.hid (hkp.out m hmd (by simpa using hls))
                  rw [hls] at q3
                  clear hls hkp hpp
                  go_wp2_with fail
                  refine q3.out.mono ?_
                  rintro e w9 ⟨rfl, hb9⟩
                  have HB9 := Lib.hid (ext_trans HB8.out hb9)
                  have HM9 := Lib.hid (HM8.out.ext hb9)
                  have HG9 := Lib.hid (HG8.out.ext hb9)
                  have HNN9 := Lib.hid (HN8.out.ext hb9)
                  have HX9 := Lib.hid (HX8.out.ext hb9)
                  have HY9 := Lib.hid (HY8.out.ext hb9)
                  clear hb9 HB8 HM8 HG8 HN8 HX8 HY8 HD8 x0 x1 q3
                  go_wp2_with fail
                  go_roundw
                  case rel => exact ⟨ch, j + 1, M, by omega, by go_num, rfl, HN9.out, HM9.out, HG9.out, HNN9.out, HX9.out, HY9.out, HB9.out⟩
                  case measure => first | (simp [intOf]; done) | (simp [intOf]; omega)
              · obtain rfl : j = ys.length := by omega
                have HN9 := Lib.hid (hfin.out ch M HQ.out)
                go_wp2_with fail
                go_roundw
                case rel => exact ⟨ch, k + 1, M, by omega, by go_num, rfl, HN9.out, HM.out, HG.out, HX.out, HBr.out⟩
                case measure => first | (simp [intOf]; done) | (simp [intOf]; omega)
        · obtain rfl : k = xs.length := by omega
          have hfin := HQ.out.fin
          go_wp2_with fail
          obtain ⟨m, rfl⟩ : ∃ m, gk = m + 1 := ⟨gk - 1, by have := hpt1.out; omega⟩
          go_roundg m
          case measure => omega
          case rel => exact ⟨ch, M, rfl, HQ.out.tab, hfin.1, by have := hpt1.out; have := hfin.2; omega, HM.out, HG.out, HBr.out⟩
end Go.Proofs.Yteflpdfajfljfaa
