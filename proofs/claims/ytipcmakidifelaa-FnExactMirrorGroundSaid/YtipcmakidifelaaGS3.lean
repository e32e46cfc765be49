/-
Levels of a ground, of the program: the spread. Conditions: the ground is valid and has gullies.
-/
import Derived.Test.YtipcmakidifelaaGS2
import Derived.Carry
set_option linter.unusedVariables false
set_option linter.unusedSimpArgs false
set_option maxRecDepth 100000
namespace Go.Proofs.Ytipcmakidifelaa
open Go.RowKit
abbrev SpS (W0 : World) (ab : Nat) (a : Cell) (w' : World) : Prop :=
  Below W0.heap.size W0 w' ∧ w'.cell? ⟨ab, 0, none⟩ = some (.int .i8 a.x) ∧ w'.cell? ⟨ab, 1, none⟩ = some (.int .i8 a.y)
theorem SpS.mk {W0 w : World} {ab : Nat} {a : Cell} {T : TypeId} (h : Below W0.heap.size W0 w) (hb : Bk w ab T #[.int .i8 a.x, .int .i8 a.y]) : SpS W0 ab a w := ⟨h, hb.cell 0 _ rfl, hb.cell 1 _ rfl⟩
theorem SpS.at_ {W0 w w' : World} {ab : Nat} {a : Cell} (h : SpS W0 ab a w) (he : w'.heap = w.heap) (h1 : w'.os = w.os) (h2 : w'.tape = w.tape) (h3 : w'.output = w.output) : SpS W0 ab a w' := ⟨below_at h.1 he h1 h2 h3, by have := h.2.1; simp only [World.cell?, he] at this ⊢; exact this, by have := h.2.2; simp only [World.cell?, he] at this ⊢; exact this⟩
theorem SpS.ext_at {W0 w w1 w2 : World} {ab : Nat} {a : Cell} (k : Below w1.heap.size w1 w2) (h : SpS W0 ab a w) (he : w1.heap = w.heap) (h1 : w1.os = w.os) (h2 : w1.tape = w.tape) (h3 : w1.output = w.output) (hab : ab < w.heap.size) : SpS W0 ab a w2 := by
  obtain ⟨a1, a2, a3⟩ := h
  have hc : ∀ p, w1.cell? p = w.cell? p := fun p => by simp only [World.cell?, he]
  exact ⟨Go.Proofs.Ytipcmakidifelaa.ext_at k a1 he h1 h2 h3, (k.cell (p := ⟨ab, 0, none⟩) (by rw [he]; exact hab)).trans ((hc _).trans a2), (k.cell (p := ⟨ab, 1, none⟩) (by rw [he]; exact hab)).trans ((hc _).trans a3)⟩
theorem SpS.grownM {W0 w w' : World} {ab m : Nat} {a : Cell} (h : SpS W0 ab a w) (hG : w.grownBy w' (some m)) (hne : ab ≠ m) (hm : W0.heap.size ≤ m) : SpS W0 ab a w' := by
  obtain ⟨a1, a2, a3⟩ := h
  have hlt : ab < w.heap.size := by
    simp only [World.cell?] at a2
    by_cases hh : ab < w.heap.size
    · exact hh
    · simp [Array.getElem?_eq_none (Nat.le_of_not_lt hh)] at a2
  have hb := hG.block ab hlt (fun e => by injection e with e; exact hne e)
  have hc : ∀ o, w'.cell? ⟨ab, o, none⟩ = w.cell? ⟨ab, o, none⟩ := fun o => by simp only [World.cell?, hb]
  exact ⟨a1.grown hG a1.size (fun j hj => by injection hj with hj; omega), (hc _).trans a2, (hc _).trans a3⟩
theorem MapC.ext_at {w w1 w2 : World} {g : Nat} {f : Cell → Option Int} (k : Below w1.heap.size w1 w2) (h : MapC w g f) (he : w1.heap = w.heap) : MapC w2 g f := (h.at_ he).ext k
theorem Own.ext_at {α : Type} {w w1 w2 : World} {B : Nat} {E : TypeId} {c : α → List Value} {sz : Nat} {v : Value} {xs : List α} (k : Below w1.heap.size w1 w2) (h : Own w B E c sz v xs) (he : w1.heap = w.heap) : Own w2 B E c sz v xs := (own_at h he).ext k
theorem zeroI64_run (w : World) : (zeroValue 2).run Try.prog w = .ok (.int .i64 0) w := by kernel_rfl
theorem gp_ok {w h : Int} {c : Cell} (hw : w ≤ 9) (hh : h ≤ 9) (hc : gpB w h c = true) : c.ok := by
  obtain ⟨a, b, ha, hb, rfl⟩ := pt_nat hw hh hc
  refine ⟨?_, ?_, ?_, ?_⟩ <;> simp <;> omega
set_option maxHeartbeats 4000000 in
theorem spread_calls {w h : Int} {hs : List Int} {gl : List Cell} (ok : GOk w h hs gl) (hne : gl ≠ []) (hl : hs.length = 81) (z : Value) (pb : Nat) (T : TypeId) (W : World) (hp : Bk W pb T (gdA w h hs z)) (hz : Sl W W.heap.size Cell.c 2 z gl) :
    Calls Try.prog 74 #[.agg (gdA w h hs z), .func (.func 75) #[.agg (gdA w h hs z)] #[], .func (.func 76) #[] #[.pointer (some ⟨pb, 0, none⟩)]] W fun e w' => (∃ F, IsLev w h hs gl F ∧ e = .returned (.agg (hA (levA w h F)))) ∧ Below W.heap.size W w' := by
  have HZ := Lib.hid hz
  have HP := Lib.hid hp
  have ok1 := ok.w0
  have ok2 := ok.w1
  have ok3 := ok.h0
  have ok4 := ok.h1
  have hzz := Lib.hid zeroA81
  obtain ⟨A, cap, rfl, hcap, hcap2, hcellG⟩ := hz.cell
  have hcellG := Lib.hid hcellG
  have e75 := enters_of Try.func75 (by kernel_rfl) rfl
  have e76 := enters_of Try.func76 (by kernel_rfl) rfl
  have e87 := enters_of Try.func87 (by kernel_rfl) rfl
  have e1 : ((w.toNat : Nat) : Int) = w := by omega
  have e2 : ((h.toNat : Nat) : Int) = h := by omega
  have qa := Lib.hid (fun W' => pointsG_calls 87 #[] (fun _ => true) e87 w.toNat h.toNat (by omega) (by omega) hs hl (.slice A gl.length cap) W' (fun c _ W2 _ => spread1_calls c W2))
  rw [e1, e2, show (ptsG w.toNat h.toNat).filter (fun _ => true) = ptsG w.toNat h.toNat from List.filter_eq_self.2 (fun _ _ => rfl)] at qa
  have hpt := Lib.hid (fun c (hcm : c ∈ ptsG w.toNat h.toNat) => show gpB w h c = true from by have := ptsG_pt _ _ c hcm; rwa [e1, e2] at this)
  have hpl := Lib.hid (show (ptsG w.toNat h.toNat).length ≤ 81 from by
    rw [ptsG_len]
    have : h.toNat * w.toNat ≤ 9 * 9 := Nat.mul_le_mul (by omega) (by omega)
    omega)
  have hend := Lib.hid (fun M (t : MapI w h hs gl M) c => t.lev ok hne c)
  generalize ptsG w.toNat h.toNat = xs at *
  clear hz hp e1 e2
  have KG0 := (((Bk.new W 36 (gdA w h hs (.slice A gl.length cap)) W.heap.size rfl).alloc (.cells Try.zeroCells25 25)).alloc (.map #[] 0))
  have KG := Lib.hid KG0
  have KZ := Lib.hid ((Bk.new (W.alloc (.cells (gdA w h hs (.slice A gl.length cap)) 36)) 25 Try.zeroCells25 (W.heap.size + 1) (by simp)).alloc (.map #[] 0))
  have KM := Lib.hid (MapC.new ((W.alloc (.cells (gdA w h hs (.slice A gl.length cap)) 36)).alloc (.cells Try.zeroCells25 25)) (W.heap.size + 1 + 1) (by simp))
  have HB := Lib.hid (ext_alloc (ext_alloc ((Below.refl W.heap.size W).alloc (Nat.le_refl _) (.cells (gdA w h hs (.slice A gl.length cap)) 36)) (.cells Try.zeroCells25 25)) (.map #[] 0))
  have k83 := KG0.cell 83 _ (gdA_z _ _ _ _ hl)
  clear KG0
  have hmk := fun w => run_makeMap (P := Try.prog) 108 w
  go_enter Try.func74, Try.ntmps74
  go_wp2_with fail
  generalize ((W.alloc (.cells (gdA w h hs (.slice A gl.length cap)) 36)).alloc (.cells Try.zeroCells25 25)).alloc (.map #[] 0) = W1 at *
  clear k83 hmk
  go_loopw [26] (fun i wr => ∃ k : Nat, k ≤ gl.length ∧ i = .int .i64 (k : Int) ∧ MapC wr (W.heap.size + 1 + 1) (gulM hs gl k) ∧ Bk wr W.heap.size 36 (gdA w h hs (.slice A gl.length cap)) ∧ Bk wr (W.heap.size + 1) 25 Try.zeroCells25 ∧ Below W.heap.size W wr) (fun i _ => gl.length - (intOf i).toNat)
  case atStart => exact ⟨0, by omega, rfl, by rw [gulM_zero]; exact KM.out, KG.out, KZ.out, HB.out⟩
  case round =>
    clear KM KG KZ HB
    obtain ⟨k, hk, rfl, hM, hG, hK, hb⟩ := hrel
    have HM := Lib.hid hM
    have HG := Lib.hid hG
    have HK := Lib.hid hK
    have HBr := Lib.hid hb
    clear hM hG hK hb
    by_cases hlt : k < gl.length
    · obtain ⟨b2, o2, rfl, hbb, c0, c1⟩ := hcellG.out k hlt
      replace c0 := (HBr.out.cell (p := ⟨b2, _, none⟩) hbb).trans c0
      replace c1 := (HBr.out.cell (p := ⟨b2, _, none⟩) hbb).trans c1
      have hst := Lib.hid (gulM_succ hs gl k hlt)
      have hqpt := Lib.hid (ok.gl gl[k] (List.getElem_mem hlt))
      have hkd : decide ((k : Int) < (gl.length : Int)) = true := by rw [decide_eq_true_eq]; omega
      have hk0 : (0 : Int) ≤ (k : Int) := by omega
      have hk1 : (k : Int) < (gl.length : Int) := by omega
      obtain ⟨q, hqe⟩ : ∃ q, gl[k] = q := ⟨_, rfl⟩
      rw [hqe] at hst hqpt c0 c1
      clear hqe
      have hok := Lib.hid (gp_ok ok2 ok4 hqpt.out)
      have qh := Lib.hid (fun W' => heightP_calls ok hl (.slice (some ⟨b2, o2, none⟩) gl.length cap) q hqpt.out W')
      have hmb := Lib.hid HM.out.lt
      have HB5 := HBr.out.alloc HBr.out.size (.cells #[.int .i8 q.x, .int .i8 q.y] 38)
      have HS5 := Lib.hid (SpS.mk HB5 (Bk.new wr 38 #[.int .i8 q.x, .int .i8 q.y] wr.heap.size rfl))
      have HM5 := Lib.hid (HM.out.ext ((Below.refl wr.heap.size wr).alloc (Nat.le_refl _) (.cells #[.int .i8 q.x, .int .i8 q.y] 38)))
      have HG5 := Lib.hid (HG.out.alloc (.cells #[.int .i8 q.x, .int .i8 q.y] 38))
      have HK5 := Lib.hid (HK.out.alloc (.cells #[.int .i8 q.x, .int .i8 q.y] 38))
      have hab := Lib.hid (show wr.heap.size < (wr.alloc (.cells #[.int .i8 q.x, .int .i8 q.y] 38)).heap.size from by simp)
      clear HB5
      go_wp2_with fail
      generalize wr.alloc (.cells #[.int .i8 q.x, .int .i8 q.y] 38) = w5 at *
      clear c0 c1
      refine wp_region_held_drew (S := (SpS W wr.heap.size q)) (by kernel_rfl) ?r25_hS0 (fun hHeld => ?r25_rest)
      case r25_hS0 => (try dsimp only); first | assumption | exact SpS.at_ HS5.out rfl rfl rfl rfl | exact HS8.out | exact HS9.out
      refine wpAnyH_take (i := 0) (v := ?r25_vv0) (by (simp only [List.getElem?_toArray, List.getElem?_cons_succ, List.getElem?_cons_zero]; rfl)) (by kernel_rfl) (by kernel_rfl) (by kernel_rfl) (by exact fun _ _ _ h => h) (Or.inl ⟨by rfl, ?r25_hy0⟩) (by assumption) ?r25_rest0
      case r25_hy0 => intro w hSw; (try dsimp only at hSw); (go_simp <;> (with_reducible rfl))
      try simp only [Act.put, List.setIfInBounds_toArray, List.set_cons_zero, List.set_cons_succ]
      refine wpAnyH_take (i := 1) (v := ?r25_vv1) (by (simp only [List.getElem?_toArray, List.getElem?_cons_succ, List.getElem?_cons_zero]; rfl)) (by kernel_rfl) (by kernel_rfl) (by kernel_rfl) (by exact fun _ _ _ h => h) (Or.inl ⟨by rfl, ?r25_hy1⟩) (by assumption) ?r25_rest1
      case r25_hy1 => intro w hSw; (try dsimp only at hSw); (go_simp <;> (with_reducible rfl))
      try simp only [Act.put, List.setIfInBounds_toArray, List.set_cons_zero, List.set_cons_succ]
      refine wpAnyH_take (i := 2) (v := ?r25_vv2) (by (simp only [List.getElem?_toArray, List.getElem?_cons_succ, List.getElem?_cons_zero]; rfl)) (by kernel_rfl) (by kernel_rfl) (by kernel_rfl) (by exact fun _ _ _ h => h) (Or.inl ⟨by rfl, ?r25_hy2⟩) (by assumption) ?r25_rest2
      case r25_hy2 => intro w hSw; (try dsimp only at hSw); (go_simp <;> (with_reducible rfl))
      try simp only [Act.put, List.setIfInBounds_toArray, List.set_cons_zero, List.set_cons_succ]
      refine wpAnyH_take (i := 3) (v := ?r25_vv3) (by (simp only [List.getElem?_toArray, List.getElem?_cons_succ, List.getElem?_cons_zero]; rfl)) (by kernel_rfl) (by kernel_rfl) (by kernel_rfl) (by exact fun _ _ _ h => h) (Or.inl ⟨by rfl, ?r25_hy3⟩) (by assumption) ?r25_rest3
      case r25_hy3 => intro w hSw; (try dsimp only at hSw); (go_simp <;> (with_reducible rfl))
      try simp only [Act.put, List.setIfInBounds_toArray, List.set_cons_zero, List.set_cons_succ]
      refine wpAnyH_ready (rs := [4]) (by kernel_rfl) (by simp) ?_
      refine AllReadyH.cons (by (simp only [List.getElem?_toArray, List.getElem?_cons_succ, List.getElem?_cons_zero]; rfl)) (fun K hK => ?_) AllReadyH.nil
      go_simp
      (try rw [e75, Oper.upon_enter]); (with_reducible refine (qh.out _).mono ?_; rintro e w8 ⟨rfl, hb8⟩; have HS8 := Lib.hid (SpS.ext_at hb8 HS5.out rfl rfl rfl rfl hab.out); have HM8 := Lib.hid (MapC.ext_at hb8 HM5.out rfl); have HK8 := Lib.hid (Bk.ext_at hb8 HK5.out rfl); have HG8 := Lib.hid (Bk.ext_at hb8 HG5.out rfl))
      try go_wp2_with fail
      refine hK.out _ _ ?r25_hS4 (fun hHeld => ?r25_r4)
      case r25_hS4 => (try dsimp only); first | assumption | exact SpS.at_ HS5.out rfl rfl rfl rfl | exact HS8.out | exact HS9.out
      clear hK K
      try simp only [Act.put, List.setIfInBounds_toArray, List.set_cons_zero, List.set_cons_succ]
      refine wpAnyH_ready (rs := [5]) (by kernel_rfl) (by simp) ?_
      refine AllReadyH.cons (by (simp only [List.getElem?_toArray, List.getElem?_cons_succ, List.getElem?_cons_zero]; rfl)) (fun K hK => ?_) AllReadyH.nil
      (refine step_mapC rfl _ _ _ 108 2 rfl Try.underlying108 (W.heap.size + 1 + 1) _ rfl HM8.out q hok.out (htL hs q) rfl rfl ?_; intro w9 hM9 hG9; have HS9 := Lib.hid (SpS.grownM HS8.out hG9 (by have := hmb.out; omega) (by omega)))
      refine hK.out _ _ ?r25_hS5 (fun hHeld => ?r25_r5)
      case r25_hS5 => (try dsimp only); first | assumption | exact SpS.at_ HS5.out rfl rfl rfl rfl | exact HS8.out | exact HS9.out
      clear hK K
      try simp only [Act.put, List.setIfInBounds_toArray, List.set_cons_zero, List.set_cons_succ]
      refine wpAnyH_done (by kernel_rfl) ?_ _
      have HM9 := Lib.hid hM9
      rw [hst.out] at HM9
      have HG9 := Lib.hid (HG8.out.grownM hG9 (by omega))
      have HK9 := Lib.hid (HK8.out.grownM hG9 (by omega))
      go_wp2_with fail
      go_roundw
      case rel => exact ⟨k + 1, by omega, by go_num, HM9.out, HG9.out, HK9.out, HS9.out.1⟩
      case measure => first | (simp [intOf]; done) | (simp [intOf]; omega)
    · obtain rfl : k = gl.length := by omega
      have hkd : decide ((gl.length : Int) < (gl.length : Int)) = false := by rw [decide_eq_false_iff_not]; omega
      have hT := Lib.hid (gulM_fin ok)
      go_wp2_with fail
      go_loopg [10] (2 * potM (gulM hs gl gl.length) + 1) (fun n chg wr => ∃ (ch : Bool) (M : Cell → Option Int), chg = .bool ch ∧ MapI w h hs gl M ∧ (ch = false → ∀ a ∈ xs, closM w h hs M a) ∧ 2 * potM M + (if ch then 1 else 0) ≤ n ∧ MapC wr (W.heap.size + 1 + 1) M ∧ Bk wr W.heap.size 36 (gdA w h hs (.slice A gl.length cap)) ∧ Bk wr (W.heap.size + 1) 25 Try.zeroCells25 ∧ Below W.heap.size W wr)
      case atStart => exact ⟨true, _, rfl, hT.out, fun h => (by cases h), Nat.le_refl _, HM.out, HG.out, HK.out, HBr.out⟩
      case round =>
        clear HM HG HK HBr hT
        obtain ⟨ch0, M0, rfl, hT, hcl, hpt0, hM, hG, hK, hb⟩ := hrel
        have HM := Lib.hid hM
        have HG := Lib.hid hG
        have HK := Lib.hid hK
        have HBr := Lib.hid hb
        have HT := Lib.hid hT
        clear hT hM hG hK hb
        cases ch0 with
        | false =>
          have HL := Lib.hid (hend.out M0 HT.out (fun a ha n hn c hc => hcl rfl a ha n hn c hc))
          clear hcl
          have K0 := Lib.hid (Bk.new wr 25 Try.zeroCells25 wr.heap.size rfl)
          have HB0 := Lib.hid (HBr.out.alloc HBr.out.size (.cells Try.zeroCells25 25))
          have HM0 := Lib.hid (HM.out.ext ((Below.refl wr.heap.size wr).alloc (Nat.le_refl _) (.cells Try.zeroCells25 25)))
          have HK0 := Lib.hid (HK.out.alloc (.cells Try.zeroCells25 25))
          have hmt := Lib.hid HM.out.lt
          have hwt := Lib.hid HBr.out.size
          clear HM HG HK HBr
          go_wp2_with (refine wpList_store_m rfl 25 (.tmp 19) (.tmp 84) rfl _ 0 Try.zeroCells25 rfl rfl _ _ K0.out (by omega) (by rw [hzz.out, hA_size]; exact a81_sz _) (by rw [hzz.out]; exact hA_one _) ?_)
          intro w1 hK1 hG1
          rw [writeAt_all _ _ rfl] at hK1
          have HT1 := Lib.hid (show Bk w1 wr.heap.size 25 (hA z81) from by rw [← hzz.out]; simpa using hK1)
          have HM1 := Lib.hid (HM0.out.keep (hG1.block _ HM0.out.lt (fun e => by injection e with e; have := hmt.out; omega)))
          have HK1 := Lib.hid (HK0.out.grownM hG1 (by have := hmt.out; omega))
          have HB1 := Lib.hid (HB0.out.grown hG1 HB0.out.size (fun j hj => by injection hj with hj; have := hwt.out; omega))
          clear hK1 hG1 K0 HB0 HM0 HK0
          generalize wr.heap.size = tb at *
          obtain ⟨w2, kk, hrun, hR, hb2, hsz⟩ := RangeC.begin HM1.out Try.underlying108
          have HR := Lib.hid hR
          have HT2 := Lib.hid (HT1.out.ext hb2)
          have HK2 := Lib.hid (HK1.out.ext hb2)
          have HB2 := Lib.hid (ext_trans HB1.out hb2)
          have htr := Lib.hid (show tb < w1.heap.size from HT1.out.lt)
          have hz0 := Lib.hid (show z81 = outM M0 (fun c => (M0 c).isSome) from (outM_0 M0).symm)
          clear hR hb2 hsz HT1 HK1 HB1 HM1
          go_wp2_with fail
          generalize w1.heap.size = rb at *
          clear hrun
          go_loopg [] kk (fun n wr => ∃ left, RangeC wr (W.heap.size + 1 + 1) rb M0 left n ∧ Bk wr tb 25 (hA (outM M0 left)) ∧ Bk wr (W.heap.size + 1) 25 Try.zeroCells25 ∧ Below W.heap.size W wr)
          case atStart => exact ⟨_, HR.out, by rw [← hz0.out]; exact HT2.out, HK2.out, HB2.out⟩
          case round =>
            clear HR HT2 HK2 HB2
            obtain ⟨left, hR, hTb, hK, hb⟩ := hrel
            have HTb := Lib.hid hTb
            have HK := Lib.hid hK
            have HBr := Lib.hid hb
            have HR := Lib.hid hR
            clear hTb hK hb hR
            rcases HR.out.next 0 with ⟨hno, hrun⟩ | ⟨q, n, w', k', hfc, hok, hleft, hrun, hR', hk', hG', hsz, hent⟩
            · have hE := Lib.hid (outM_end (w := w) (h := h) M0 left HL.out.2 hno)
              have hol := Lib.hid (outM_len M0 left)
              have d25 := load_a81 hol.out HTb.out
              clear hno
              generalize outM M0 left = L0 at *
              go_wp2_with (first | (refine wpList_load_w rfl 25 (.tmp 19) rfl _ rfl _ d25 ?_) | (refine wpList_store_m rfl 25 (.tmp 6) (.tmp 100) rfl _ 0 (hA L0) rfl rfl _ _ HK.out (by rw [hzz.out, hA_size, hA_size, hol.out, z81_len']; omega) (by rw [hA_size, hol.out]; exact a81_sz _) (hA_one L0) ?_))
              intro W9 hK9 hG9
              rw [writeAt_all _ _ (by rw [hzz.out, Array.length_toList, Array.length_toList, hA_size, hA_size, hol.out, z81_len'])] at hK9
              have HK9 := Lib.hid hK9
              have HB9 := Lib.hid (HBr.out.grown hG9 HBr.out.size (fun j hj => by injection hj with hj; omega))
              clear hK9 hG9
              go_wp2_with fail
              exact cellret Try.results74 rfl (load_a81 hol.out HK9.out) rfl ⟨⟨_, HL.out.1, by rw [← hE.out]⟩, HB9.out⟩
            · have hqp := Lib.hid (att_pt ok.gl (HT.out.att q n hfc))
              have hnb := att_bd ok.ht ok.gl (HT.out.att q n hfc)
              have hset := Lib.hid (outM_set M0 left ok2 ok4 hqp.out hfc)
              have hlt := HR.out.lt
              have HTb1 := Lib.hid ((HTb.out.grownM hG' (by have := htr.out; omega)).alloc (.cells #[.int .i8 q.x, .int .i8 q.y] 38))
              have HK1 := Lib.hid ((HK.out.grownM hG' (by have := htr.out; have := hmt.out; omega)).alloc (.cells #[.int .i8 q.x, .int .i8 q.y] 38))
              have HB0 := HBr.out.grown hG' HBr.out.size (fun j hj => by injection hj with hj; have := htr.out; have := hwt.out; omega)
              have HB1 := Lib.hid (HB0.alloc HB0.size (.cells #[.int .i8 q.x, .int .i8 q.y] 38))
              have HR1 := Lib.hid (hR'.keep (w' := w'.alloc (.cells #[.int .i8 q.x, .int .i8 q.y] 38)) ((MapKept.heap_alloc w' _).2 _ hR'.lt.1) ((MapKept.heap_alloc w' _).2 _ hR'.lt.2.1))
              have HK' := Lib.hid hk'
              have hol := Lib.hid (outM_len M0 left)
              simp only [Cell.v] at hrun hent
              clear hfc hok hleft hR' hk' hG' hsz HB0 hlt HR HTb HK HBr
              obtain ⟨a, b, ha, hb, rfl⟩ := pt_nat ok2 ok4 hqp.out
              have i0 : (a : Int) < 9 := by omega
              have i1 : (b : Int) < 9 := by omega
              have wN : IntKind.i16.wrap n = n := wrap16In _ (by omega) (by omega)
              have x1 := HTb1.out.cell _ _ (hA_nat _ hol.out a b ha hb)
              have f1 := HTb1.out.frz (b * 9 + a)
              generalize htL (outM M0 left) ⟨(a : Int), (b : Int)⟩ = old at *
              have HN1 := Lib.hid (Bk.new w' 38 #[.int .i8 (a : Int), .int .i8 (b : Int)] w'.heap.size rfl)
              go_wp2_with fail
              have x2 := HN1.out.cell 0 _ rfl
              have x3 := HN1.out.cell 1 _ rfl
              generalize w'.alloc (.cells #[.int .i8 (a : Int), .int .i8 (b : Int)] 38) = w8 at *
              go_region
              all_goals
                have HTb2 := Lib.hid (HTb1.out.set (b * 9 + a) (.int .i16 n))
                rw [hA_put, hset.out] at HTb2
                have HK2 := Lib.hid (HK1.out.oth (g' := tb) (b * 9 + a) (.int .i16 n) (by have := hmt.out; omega))
                have HR2 := Lib.hid (HR1.out.keep (w' := w8.setCell ⟨tb, b * 9 + a, none⟩ (.int .i16 n)) (Below.heap_setCell _ _ _ _ (by have := hmt.out; simp; omega)) (Below.heap_setCell _ _ _ _ (by have := htr.out; simp; omega)))
                have HB2 := Lib.hid (HB1.out.setCell (p := ⟨tb, b * 9 + a, none⟩) (by have := hmt.out; simp; omega) (.int .i16 n))
                go_wp2_with fail
                go_roundg k'
                case measure => exact HK'.out
                case rel => exact ⟨_, HR2.out.keep rfl rfl, HTb2.out, HK2.out, below_at HB2.out rfl rfl rfl rfl⟩
        | true =>
          have hpt1 := Lib.hid (show 2 * potM M0 + 1 ≤ gk from hpt0)
          have ldg := load_gd hl HG.out
          clear hcl hpt0
          go_wp2_with (refine wpList_load_w rfl 36 (.tmp 3) rfl _ rfl _ ldg ?_)
          refine (qa.out _).mono ?_
          rintro e w2 ⟨v2, rfl, hO2, hb2⟩
          obtain ⟨A2, cap2, rfl, -, -, -⟩ := (hO2.sl Cell.c_len).cell
          have HX2 := Lib.hid hO2
          have HB2 := Lib.hid (ext_trans HBr.out hb2)
          have HM2 := Lib.hid (HM.out.ext hb2)
          have HG2 := Lib.hid (HG.out.ext hb2)
          have HK2 := Lib.hid (HK.out.ext hb2)
          have hmbB := Lib.hid HM.out.lt
          clear hO2 hb2 ldg HM HG HK HBr
          generalize wr.heap.size = B2 at *
          go_wp2_with fail
          go_loopw [10, 40] (fun chg i wr => ∃ (ch : Bool) (k : Nat) (M : Cell → Option Int), k ≤ xs.length ∧ i = .int .i64 (k : Int) ∧ chg = .bool ch ∧ M3 w h hs gl M0 xs k ch M ∧ MapC wr (W.heap.size + 1 + 1) M ∧ Bk wr W.heap.size 36 (gdA w h hs (.slice A gl.length cap)) ∧ Bk wr (W.heap.size + 1) 25 Try.zeroCells25 ∧ Own wr B2 38 Cell.c 2 (.slice A2 xs.length cap2) xs ∧ Below W.heap.size W wr) (fun _ i _ => xs.length - (intOf i).toNat)
          case atStart => exact ⟨false, 0, M0, by omega, rfl, rfl, M3.zero HT.out, HM2.out, HG2.out, HK2.out, HX2.out, HB2.out⟩
          case round =>
            clear HM2 HG2 HK2 HX2 HB2
            obtain ⟨ch, k, M, hk, rfl, rfl, hQ, hM, hG, hK, hX, hb⟩ := hrel
            have HQ := Lib.hid hQ
            have HM := Lib.hid hM
            have HG := Lib.hid hG
            have HK := Lib.hid hK
            have HX := Lib.hid hX
            have HBr := Lib.hid hb
            clear hQ hM hG hK hX hb
            have hp81 := hpl.out
            by_cases hlt : k < xs.length
            · obtain ⟨A3, cap3, hv, -, -, hcell⟩ := (HX.out.sl Cell.c_len).cell
              obtain ⟨rfl, rfl⟩ : A2 = A3 ∧ cap2 = cap3 := by injection hv with e1 e2 e3; exact ⟨e1, e3⟩
              obtain ⟨b1, o1, rfl, hbb, c0, c1⟩ := hcell k hlt
              have hqpt := Lib.hid (hpt.out xs[k] (List.getElem_mem hlt))
              have hkd : decide ((k : Int) < (xs.length : Int)) = true := by rw [decide_eq_true_eq]; omega
              have hk0 : (0 : Int) ≤ (k : Int) := by omega
              have hk1 : (k : Int) < (xs.length : Int) := by omega
              have hskip := Lib.hid (HQ.out.skip hlt)
              have hfin3 := Lib.hid (fun a e n ch M q => M4.fin (w := w) (h := h) (hs := hs) (gl := gl) (M0 := M0) (ch := ch) (M := M) (a := a) (n := n) hlt e q)
              obtain ⟨q, hqe⟩ : ∃ q, xs[k] = q := ⟨_, rfl⟩
              have HQE := Lib.hid hqe
              rw [hqe] at hqpt c0 c1 hskip
              clear hcell hv hqe
              have hfin := Lib.hid (hfin3.out _ HQE.out)
              clear hfin3
              have hok := Lib.hid (gp_ok ok2 ok4 hqpt.out)
              have HBa := Lib.hid (HBr.out.alloc HBr.out.size (.cells #[.int .i8 q.x, .int .i8 q.y] 38))
              have HMa := Lib.hid (HM.out.ext ((Below.refl wr.heap.size wr).alloc (Nat.le_refl _) (.cells #[.int .i8 q.x, .int .i8 q.y] 38)))
              have HGa := Lib.hid (HG.out.alloc (.cells #[.int .i8 q.x, .int .i8 q.y] 38))
              have HKa := Lib.hid (HK.out.alloc (.cells #[.int .i8 q.x, .int .i8 q.y] 38))
              have HXa := Lib.hid (HX.out.alloc (.cells #[.int .i8 q.x, .int .i8 q.y] 38))
              have HNa := Lib.hid (Bk.new wr 38 #[.int .i8 q.x, .int .i8 q.y] wr.heap.size rfl)
              clear HM HG HK HX HBr
              have lk := HMa.out.look2 Try.underlying108 (zeroI64_run _) q hok.out
              cases hMq : M q with
              | none =>
                have HN := Lib.hid (hskip.out hMq)
                rw [hMq] at lk
                clear hMq hfin
                simp only [Option.getD_none, Option.isSome_none, Cell.v] at lk
                go_wp2_with fail
                go_roundw
                case rel => exact ⟨ch, k + 1, M, by omega, by go_num, rfl, HN.out, HMa.out, HGa.out, HKa.out, HXa.out, HBa.out⟩
                case measure => first | (simp [intOf]; done) | (simp [intOf]; omega)
              | some n =>
                have HZE := Lib.hid (fun ys => M4.zero (ys := ys) HQ.out hMq)
                have HATT := Lib.hid (HQ.out.tab.att q n hMq)
                rw [hMq] at lk
                clear hMq hskip HQ
                simp only [Option.getD_some, Option.isSome_some, Cell.v] at lk
                have ldg := load_gd hl HGa.out
                have qb := Lib.hid (fun W' => show Calls Try.prog 88 #[.agg (gdA w h hs (.slice A gl.length cap)), .agg #[.int .i8 q.x, .int .i8 q.y]] W' _ from around_calls w h (by omega) (by omega) (by omega) (by omega) hs hl _ q (by have := (gpB_true.1 hqpt.out); omega) (by have := (gpB_true.1 hqpt.out); omega) (by have := (gpB_true.1 hqpt.out); omega) (by have := (gpB_true.1 hqpt.out); omega) W')
                have hyl := Lib.hid (around_len w h q)
                have hyp := Lib.hid (fun c (hc : c ∈ aroundL w h q) => around_pt hc)
                have hput := Lib.hid (fun c (hc : c ∈ aroundL w h q) j ch M (q4 : M4 w h hs gl M0 xs k q n (aroundL w h q) j ch M) hlt => q4.put ok HATT.out hc hlt)
                replace HZE := Lib.hid (HZE.out (aroundL w h q))
                replace hfin := Lib.hid (hfin.out n)
                have hnb := att_bd ok.ht ok.gl HATT.out
                generalize aroundL w h q = ys at *
                go_wp2_with (refine wpList_load_w rfl 36 (.tmp 3) rfl _ rfl _ ldg ?_)
                generalize wr.alloc (.cells #[.int .i8 q.x, .int .i8 q.y] 38) = w5 at *
                refine (qb.out _).mono ?_
                rintro e w6 ⟨v6, rfl, hO6, hb6⟩
                have HB6 := Lib.hid (ext_trans HBa.out hb6)
                have HM6 := Lib.hid (HMa.out.ext hb6)
                have HG6 := Lib.hid (HGa.out.ext hb6)
                have HK6 := Lib.hid (HKa.out.ext hb6)
                have HX6 := Lib.hid (HXa.out.ext hb6)
                have hm5 := Lib.hid HMa.out.lt
                obtain ⟨A4, cap4, rfl, -, -, -⟩ := (hO6.sl Cell.c_len).cell
                have HY6 := Lib.hid hO6
                clear hO6 hb6 HBa HMa HGa HKa HXa HNa qb c0 c1 ldg lk
                generalize w5.heap.size = B5 at *
                go_wp2_with fail
                go_loopw [10, 56] (fun chg i wr => ∃ (ch : Bool) (j : Nat) (M : Cell → Option Int), j ≤ ys.length ∧ i = .int .i64 (j : Int) ∧ chg = .bool ch ∧ M4 w h hs gl M0 xs k q n ys j ch M ∧ MapC wr (W.heap.size + 1 + 1) M ∧ Bk wr W.heap.size 36 (gdA w h hs (.slice A gl.length cap)) ∧ Bk wr (W.heap.size + 1) 25 Try.zeroCells25 ∧ Own wr B2 38 Cell.c 2 (.slice (some ⟨b1, o1, none⟩) xs.length cap2) xs ∧ Own wr B5 38 Cell.c 2 (.slice A4 ys.length cap4) ys ∧ Below W.heap.size W wr) (fun _ i _ => ys.length - (intOf i).toNat)
                case atStart => exact ⟨ch, 0, M, by omega, rfl, rfl, HZE.out, HM6.out, HG6.out, HK6.out, HX6.out, HY6.out, HB6.out⟩
                case round =>
                  clear HM6 HG6 HK6 HX6 HY6 HB6 HZE
                  obtain ⟨ch, j, M, hj, rfl, rfl, hQ, hM, hG, hK, hX, hY, hb⟩ := hrel
                  have HQ := Lib.hid hQ
                  have HM := Lib.hid hM
                  have HG := Lib.hid hG
                  have HK := Lib.hid hK
                  have HX := Lib.hid hX
                  have HY := Lib.hid hY
                  have HBr := Lib.hid hb
                  clear hQ hM hG hK hX hY hb
                  have hy4 := hyl.out
                  by_cases hjl : j < ys.length
                  · obtain ⟨A5, cap5, hv, -, -, hcell⟩ := (HY.out.sl Cell.c_len).cell
                    obtain ⟨rfl, rfl⟩ : A4 = A5 ∧ cap4 = cap5 := by injection hv with e1 e2 e3; exact ⟨e1, e3⟩
                    obtain ⟨b2, o2, rfl, hbb2, c0, c1⟩ := hcell j hjl
                    have hjd : decide ((j : Int) < (ys.length : Int)) = true := by rw [decide_eq_true_eq]; omega
                    have hj0 : (0 : Int) ≤ (j : Int) := by omega
                    have hj1 : (j : Int) < (ys.length : Int) := by omega
                    have hcpt := Lib.hid (hyp.out ys[j] (List.getElem_mem hjl))
                    have hkp := Lib.hid (fun m => HQ.out.keep (m := m) hjl)
                    have hpp := Lib.hid (hput.out ys[j] (List.getElem_mem hjl) j ch M HQ.out)
                    obtain ⟨d, hde⟩ : ∃ d, ys[j] = d := ⟨_, rfl⟩
                    rw [hde] at hcpt hkp hpp c0 c1
                    clear hde hcell hv
                    have hok := Lib.hid (gp_ok ok2 ok4 hcpt.out)
                    have bH := ok.ht _ hcpt.out
                    have ql := Lib.hid (fun W2 (hk : Below W.heap.size W W2) => levels1_calls ok hl (.slice A gl.length cap) pb T n d hcpt.out W2 (HP.out.ext hk))
                    have HB6 := Lib.hid (HBr.out.alloc HBr.out.size (.cells #[.int .i8 d.x, .int .i8 d.y] 38))
                    have HM6 := Lib.hid (HM.out.ext ((Below.refl wr.heap.size wr).alloc (Nat.le_refl _) (.cells #[.int .i8 d.x, .int .i8 d.y] 38)))
                    have HG6 := Lib.hid (HG.out.alloc (.cells #[.int .i8 d.x, .int .i8 d.y] 38))
                    have HK6 := Lib.hid (HK.out.alloc (.cells #[.int .i8 d.x, .int .i8 d.y] 38))
                    have HX6 := Lib.hid (HX.out.alloc (.cells #[.int .i8 d.x, .int .i8 d.y] 38))
                    have HY6 := Lib.hid (HY.out.alloc (.cells #[.int .i8 d.x, .int .i8 d.y] 38))
                    have HN6 := Lib.hid (Bk.new wr 38 #[.int .i8 d.x, .int .i8 d.y] wr.heap.size rfl)
                    have hmb6 := Lib.hid HM.out.lt
                    have HQA := Lib.hid HQ.out.tab.att
                    clear HM HG HK HX HY HBr HQ
                    have lk := HM6.out.look2 Try.underlying108 (zeroI64_run _) d hok.out
                    cases hMd : M d with
                    | none =>
                      have HN := Lib.hid (hpp.out (fun now hn => by rw [hMd] at hn; cases hn))
                      rw [hMd] at lk
                      clear hMd hkp hpp
                      simp only [Option.getD_none, Option.isSome_none, Cell.v] at lk
                      go_wp2_with fail
                      have HS5 := Lib.hid (SpS.mk HB6.out HN6.out)
                      have hab := Lib.hid HN6.out.lt
                      generalize wr.alloc (.cells #[.int .i8 d.x, .int .i8 d.y] 38) = w5 at *
                      clear lk
                      refine wp_region_held_drew (S := (SpS W wr.heap.size d)) (by kernel_rfl) ?r26_hS0 (fun hHeld => ?r26_rest)
                      case r26_hS0 => (try dsimp only); first | assumption | exact SpS.at_ HS5.out rfl rfl rfl rfl | exact HS8.out | exact HS9.out
                      refine wpAnyH_take (i := 0) (v := ?r26_vv0) (by (simp only [List.getElem?_toArray, List.getElem?_cons_succ, List.getElem?_cons_zero]; rfl)) (by kernel_rfl) (by kernel_rfl) (by kernel_rfl) (by exact fun _ _ _ h => h) (Or.inl ⟨by rfl, ?r26_hy0⟩) (by assumption) ?r26_rest0
                      case r26_hy0 => intro w hSw; (try dsimp only at hSw); (go_simp <;> (with_reducible rfl))
                      try simp only [Act.put, List.setIfInBounds_toArray, List.set_cons_zero, List.set_cons_succ]
                      refine wpAnyH_take (i := 1) (v := ?r26_vv1) (by (simp only [List.getElem?_toArray, List.getElem?_cons_succ, List.getElem?_cons_zero]; rfl)) (by kernel_rfl) (by kernel_rfl) (by kernel_rfl) (by exact fun _ _ _ h => h) (Or.inl ⟨by rfl, ?r26_hy1⟩) (by assumption) ?r26_rest1
                      case r26_hy1 => intro w hSw; (try dsimp only at hSw); (go_simp <;> (with_reducible rfl))
                      try simp only [Act.put, List.setIfInBounds_toArray, List.set_cons_zero, List.set_cons_succ]
                      refine wpAnyH_take (i := 2) (v := ?r26_vv2) (by (simp only [List.getElem?_toArray, List.getElem?_cons_succ, List.getElem?_cons_zero]; rfl)) (by kernel_rfl) (by kernel_rfl) (by kernel_rfl) (by exact fun _ _ _ h => h) (Or.inl ⟨by rfl, ?r26_hy2⟩) (by assumption) ?r26_rest2
                      case r26_hy2 => intro w hSw; (try dsimp only at hSw); (go_simp <;> (with_reducible rfl))
                      try simp only [Act.put, List.setIfInBounds_toArray, List.set_cons_zero, List.set_cons_succ]
                      refine wpAnyH_take (i := 3) (v := ?r26_vv3) (by (simp only [List.getElem?_toArray, List.getElem?_cons_succ, List.getElem?_cons_zero]; rfl)) (by kernel_rfl) (by kernel_rfl) (by kernel_rfl) (by exact fun _ _ _ h => h) (Or.inl ⟨by rfl, ?r26_hy3⟩) (by assumption) ?r26_rest3
                      case r26_hy3 => intro w hSw; (try dsimp only at hSw); (go_simp <;> (with_reducible rfl))
                      try simp only [Act.put, List.setIfInBounds_toArray, List.set_cons_zero, List.set_cons_succ]
                      refine wpAnyH_take (i := 4) (v := ?r26_vv4) (by (simp only [List.getElem?_toArray, List.getElem?_cons_succ, List.getElem?_cons_zero]; rfl)) (by kernel_rfl) (by kernel_rfl) (by kernel_rfl) (by exact fun _ _ _ h => h) (Or.inl ⟨by rfl, ?r26_hy4⟩) (by assumption) ?r26_rest4
                      case r26_hy4 => intro w hSw; (try dsimp only at hSw); (go_simp <;> (with_reducible rfl))
                      try simp only [Act.put, List.setIfInBounds_toArray, List.set_cons_zero, List.set_cons_succ]
                      refine wpAnyH_ready (rs := [5]) (by kernel_rfl) (by simp) ?_
                      refine AllReadyH.cons (by (simp only [List.getElem?_toArray, List.getElem?_cons_succ, List.getElem?_cons_zero]; rfl)) (fun K hK => ?_) AllReadyH.nil
                      go_simp
                      (try rw [e76, Oper.upon_enter]); (with_reducible refine (ql.out _ HB6.out.drew).mono ?_; rintro e w8 ⟨rfl, hb8⟩; have HS8 := Lib.hid (SpS.ext_at hb8 HS5.out rfl rfl rfl rfl hab.out); have HM8 := Lib.hid (MapC.ext_at hb8 HM6.out rfl); have HK8 := Lib.hid (Bk.ext_at hb8 HK6.out rfl); have HG8 := Lib.hid (Bk.ext_at hb8 HG6.out rfl); have HX8 := Lib.hid (Own.ext_at hb8 HX6.out rfl); have HY8 := Lib.hid (Own.ext_at hb8 HY6.out rfl))
                      try go_wp2_with fail
                      refine hK.out _ _ ?r26_hS5 (fun hHeld => ?r26_r5)
                      case r26_hS5 => (try dsimp only); first | assumption | exact SpS.at_ HS5.out rfl rfl rfl rfl | exact HS8.out | exact HS9.out
                      clear hK K
                      try simp only [Act.put, List.setIfInBounds_toArray, List.set_cons_zero, List.set_cons_succ]
                      refine wpAnyH_ready (rs := [6]) (by kernel_rfl) (by simp) ?_
                      refine AllReadyH.cons (by (simp only [List.getElem?_toArray, List.getElem?_cons_succ, List.getElem?_cons_zero]; rfl)) (fun K hK => ?_) AllReadyH.nil
                      (refine step_mapC rfl _ _ _ 108 2 rfl Try.underlying108 (W.heap.size + 1 + 1) _ rfl HM8.out d hok.out (max n (htL hs d)) rfl rfl ?_; intro w9 hM9 hG9; have HS9 := Lib.hid (SpS.grownM HS8.out hG9 (by have := hmb6.out; omega) (by omega)))
                      refine hK.out _ _ ?r26_hS6 (fun hHeld => ?r26_r6)
                      case r26_hS6 => (try dsimp only); first | assumption | exact SpS.at_ HS5.out rfl rfl rfl rfl | exact HS8.out | exact HS9.out
                      clear hK K
                      try simp only [Act.put, List.setIfInBounds_toArray, List.set_cons_zero, List.set_cons_succ]
                      refine wpAnyH_done (by kernel_rfl) ?_ _
                      have HM9 := Lib.hid hM9
                      have HG9 := Lib.hid (HG8.out.grownM hG9 (by omega))
                      have HK9 := Lib.hid (HK8.out.grownM hG9 (by omega))
                      have HX9 := Lib.hid (HX8.out.grownM hG9 (by have := hmbB.out; omega))
                      have HY9 := Lib.hid (HY8.out.grownM hG9 (by have := hm5.out; omega))
                      go_wp2_with fail
                      go_roundw
                      case rel => exact ⟨true, j + 1, _, by omega, by go_num, rfl, HN.out, HM9.out, HG9.out, HK9.out, HX9.out, HY9.out, HS9.out.1⟩
                      case measure => first | (simp [intOf]; done) | (simp [intOf]; omega)
                    | some m =>
                      have bM := att_bd ok.ht ok.gl (show Att w h hs gl d m from HQA.out d m hMd)
                      rw [hMd] at lk
                      simp only [Option.getD_some, Option.isSome_some, Cell.v] at lk
                      by_cases hcmp : max n (htL hs d) < m
                      · have HN := Lib.hid (hpp.out (fun now hn => by rw [hMd] at hn; injection hn with hn; subst hn; exact hcmp))
                        have hcd : decide (max n (htL hs d) < m) = true := decide_eq_true hcmp
                        clear hMd hkp hpp hcmp
                        go_wp2_with fail
                        refine (ql.out _ HB6.out).mono ?_
                        rintro e w7 ⟨rfl, hb7⟩
                        have HM7 := Lib.hid (HM6.out.ext hb7)
                        have HG7 := Lib.hid (HG6.out.ext hb7)
                        have HK7 := Lib.hid (HK6.out.ext hb7)
                        have HX7 := Lib.hid (HX6.out.ext hb7)
                        have HY7 := Lib.hid (HY6.out.ext hb7)
                        have HB7 := Lib.hid (ext_trans HB6.out hb7)
                        have HN7 := Lib.hid (HN6.out.ext hb7)
                        have y0 := HN7.out.cell 0 _ rfl
                        have y1 := HN7.out.cell 1 _ rfl
                        go_wp2_with fail
                        have HS5 := Lib.hid (SpS.mk HB7.out HN7.out)
                        have hab := Lib.hid HN7.out.lt
                        clear lk
                        refine wp_region_held_drew (S := (SpS W wr.heap.size d)) (by kernel_rfl) ?r27_hS0 (fun hHeld => ?r27_rest)
                        case r27_hS0 => (try dsimp only); first | assumption | exact SpS.at_ HS5.out rfl rfl rfl rfl | exact HS8.out | exact HS9.out
                        refine wpAnyH_take (i := 0) (v := ?r27_vv0) (by (simp only [List.getElem?_toArray, List.getElem?_cons_succ, List.getElem?_cons_zero]; rfl)) (by kernel_rfl) (by kernel_rfl) (by kernel_rfl) (by exact fun _ _ _ h => h) (Or.inl ⟨by rfl, ?r27_hy0⟩) (by assumption) ?r27_rest0
                        case r27_hy0 => intro w hSw; (try dsimp only at hSw); (go_simp <;> (with_reducible rfl))
                        try simp only [Act.put, List.setIfInBounds_toArray, List.set_cons_zero, List.set_cons_succ]
                        refine wpAnyH_take (i := 1) (v := ?r27_vv1) (by (simp only [List.getElem?_toArray, List.getElem?_cons_succ, List.getElem?_cons_zero]; rfl)) (by kernel_rfl) (by kernel_rfl) (by kernel_rfl) (by exact fun _ _ _ h => h) (Or.inl ⟨by rfl, ?r27_hy1⟩) (by assumption) ?r27_rest1
                        case r27_hy1 => intro w hSw; (try dsimp only at hSw); (go_simp <;> (with_reducible rfl))
                        try simp only [Act.put, List.setIfInBounds_toArray, List.set_cons_zero, List.set_cons_succ]
                        refine wpAnyH_take (i := 2) (v := ?r27_vv2) (by (simp only [List.getElem?_toArray, List.getElem?_cons_succ, List.getElem?_cons_zero]; rfl)) (by kernel_rfl) (by kernel_rfl) (by kernel_rfl) (by exact fun _ _ _ h => h) (Or.inl ⟨by rfl, ?r27_hy2⟩) (by assumption) ?r27_rest2
                        case r27_hy2 => intro w hSw; (try dsimp only at hSw); (go_simp <;> (with_reducible rfl))
                        try simp only [Act.put, List.setIfInBounds_toArray, List.set_cons_zero, List.set_cons_succ]
                        refine wpAnyH_take (i := 3) (v := ?r27_vv3) (by (simp only [List.getElem?_toArray, List.getElem?_cons_succ, List.getElem?_cons_zero]; rfl)) (by kernel_rfl) (by kernel_rfl) (by kernel_rfl) (by exact fun _ _ _ h => h) (Or.inl ⟨by rfl, ?r27_hy3⟩) (by assumption) ?r27_rest3
                        case r27_hy3 => intro w hSw; (try dsimp only at hSw); (go_simp <;> (with_reducible rfl))
                        try simp only [Act.put, List.setIfInBounds_toArray, List.set_cons_zero, List.set_cons_succ]
                        refine wpAnyH_take (i := 4) (v := ?r27_vv4) (by (simp only [List.getElem?_toArray, List.getElem?_cons_succ, List.getElem?_cons_zero]; rfl)) (by kernel_rfl) (by kernel_rfl) (by kernel_rfl) (by exact fun _ _ _ h => h) (Or.inl ⟨by rfl, ?r27_hy4⟩) (by assumption) ?r27_rest4
                        case r27_hy4 => intro w hSw; (try dsimp only at hSw); (go_simp <;> (with_reducible rfl))
                        try simp only [Act.put, List.setIfInBounds_toArray, List.set_cons_zero, List.set_cons_succ]
                        refine wpAnyH_ready (rs := [5]) (by kernel_rfl) (by simp) ?_
                        refine AllReadyH.cons (by (simp only [List.getElem?_toArray, List.getElem?_cons_succ, List.getElem?_cons_zero]; rfl)) (fun K hK => ?_) AllReadyH.nil
                        go_simp
                        (try rw [e76, Oper.upon_enter]); (with_reducible refine (ql.out _ HB7.out.drew).mono ?_; rintro e w8 ⟨rfl, hb8⟩; have HS8 := Lib.hid (SpS.ext_at hb8 HS5.out rfl rfl rfl rfl hab.out); have HM8 := Lib.hid (MapC.ext_at hb8 HM7.out rfl); have HK8 := Lib.hid (Bk.ext_at hb8 HK7.out rfl); have HG8 := Lib.hid (Bk.ext_at hb8 HG7.out rfl); have HX8 := Lib.hid (Own.ext_at hb8 HX7.out rfl); have HY8 := Lib.hid (Own.ext_at hb8 HY7.out rfl))
                        try go_wp2_with fail
                        refine hK.out _ _ ?r27_hS5 (fun hHeld => ?r27_r5)
                        case r27_hS5 => (try dsimp only); first | assumption | exact SpS.at_ HS5.out rfl rfl rfl rfl | exact HS8.out | exact HS9.out
                        clear hK K
                        try simp only [Act.put, List.setIfInBounds_toArray, List.set_cons_zero, List.set_cons_succ]
                        refine wpAnyH_ready (rs := [6]) (by kernel_rfl) (by simp) ?_
                        refine AllReadyH.cons (by (simp only [List.getElem?_toArray, List.getElem?_cons_succ, List.getElem?_cons_zero]; rfl)) (fun K hK => ?_) AllReadyH.nil
                        (refine step_mapC rfl _ _ _ 108 2 rfl Try.underlying108 (W.heap.size + 1 + 1) _ rfl HM8.out d hok.out (max n (htL hs d)) rfl rfl ?_; intro w9 hM9 hG9; have HS9 := Lib.hid (SpS.grownM HS8.out hG9 (by have := hmb6.out; omega) (by omega)))
                        refine hK.out _ _ ?r27_hS6 (fun hHeld => ?r27_r6)
                        case r27_hS6 => (try dsimp only); first | assumption | exact SpS.at_ HS5.out rfl rfl rfl rfl | exact HS8.out | exact HS9.out
                        clear hK K
                        try simp only [Act.put, List.setIfInBounds_toArray, List.set_cons_zero, List.set_cons_succ]
                        refine wpAnyH_done (by kernel_rfl) ?_ _
                        have HM9 := Lib.hid hM9
                        have HG9 := Lib.hid (HG8.out.grownM hG9 (by omega))
                        have HK9 := Lib.hid (HK8.out.grownM hG9 (by omega))
                        have HX9 := Lib.hid (HX8.out.grownM hG9 (by have := hmbB.out; omega))
                        have HY9 := Lib.hid (HY8.out.grownM hG9 (by have := hm5.out; omega))
                        go_wp2_with fail
                        go_roundw
                        case rel => exact ⟨true, j + 1, _, by omega, by go_num, rfl, HN.out, HM9.out, HG9.out, HK9.out, HX9.out, HY9.out, HS9.out.1⟩
                        case measure => first | (simp [intOf]; done) | (simp [intOf]; omega)
                      · have HN := Lib.hid (hkp.out m hMd hcmp)
                        have hcd : decide (max n (htL hs d) < m) = false := decide_eq_false hcmp
                        clear hMd hkp hpp hcmp
                        go_wp2_with fail
                        refine (ql.out _ HB6.out).mono ?_
                        rintro e w7 ⟨rfl, hb7⟩
                        have HM7 := Lib.hid (HM6.out.ext hb7)
                        have HG7 := Lib.hid (HG6.out.ext hb7)
                        have HK7 := Lib.hid (HK6.out.ext hb7)
                        have HX7 := Lib.hid (HX6.out.ext hb7)
                        have HY7 := Lib.hid (HY6.out.ext hb7)
                        have HB7 := Lib.hid (ext_trans HB6.out hb7)
                        have HN7 := Lib.hid (HN6.out.ext hb7)
                        have y0 := HN7.out.cell 0 _ rfl
                        have y1 := HN7.out.cell 1 _ rfl
                        go_wp2_with fail
                        go_wp2_with fail
                        go_roundw
                        case rel => exact ⟨ch, j + 1, M, by omega, by go_num, rfl, HN.out, HM7.out, HG7.out, HK7.out, HX7.out, HY7.out, HB7.out⟩
                        case measure => first | (simp [intOf]; done) | (simp [intOf]; omega)
                  · obtain rfl : j = ys.length := by omega
                    have hjd : decide ((ys.length : Int) < (ys.length : Int)) = false := by rw [decide_eq_false_iff_not]; omega
                    have HN := Lib.hid (hfin.out ch M HQ.out)
                    go_wp2_with fail
                    go_roundw
                    case rel => exact ⟨ch, k + 1, M, by omega, by go_num, rfl, HN.out, HM.out, HG.out, HK.out, HX.out, HBr.out⟩
                    case measure => first | (simp [intOf]; done) | (simp [intOf]; omega)
            · obtain rfl : k = xs.length := by omega
              have hkd : decide ((xs.length : Int) < (xs.length : Int)) = false := by rw [decide_eq_false_iff_not]; omega
              have hfin := HQ.out.fin
              go_wp2_with fail
              obtain ⟨m, rfl⟩ : ∃ m, gk = m + 1 := ⟨gk - 1, by have := hpt1.out; omega⟩
              go_roundg m
              case measure => omega
              case rel => exact ⟨ch, M, rfl, HQ.out.tab, hfin.1, by have := hpt1.out; have := hfin.2; omega, HM.out, HG.out, HK.out, HBr.out⟩
end Go.Proofs.Ytipcmakidifelaa
