/-
Slabs beside each other, of the program: areBeside. Conditions: numbers are of their kinds, and small.
-/
import Derived.Test.YtpjdgpcdcihogaaBsL
import Derived.Test.YtpjdgpcdcihogaaSQ6
import Derived.Deep.DeepCutAuto
import Derived.Laws.StructEq
set_option linter.unusedVariables false
set_option linter.unusedSimpArgs false
set_option maxRecDepth 100000
namespace Go.Proofs.Ytpjdgpcdcihogaa
open Go.RowKit
set_option maxHeartbeats 2000000 in
theorem areBeside_calls (a b : Slab) (ha : a.ok) (hb : b.ok) (hx : -127 ≤ a.x) (hy : -127 ≤ a.y) (hw : a.w ≤ 125) (hh : a.h ≤ 125) (W : World) :
    Calls Try.prog 157 #[a.v, b.v] W fun e w' => e = .returned (.bool (besB a b)) ∧ Below W.heap.size W w' := by
  have HB := Lib.hid (ext_alloc ((Below.refl W.heap.size W).alloc (Nat.le_refl _) (.cells #[.int .i8 a.x, .int .i8 a.y, .int .i8 a.w, .int .i8 a.h] 117)) (.cells #[.int .i8 b.x, .int .i8 b.y, .int .i8 b.w, .int .i8 b.h] 117))
  have K2 := Lib.hid ((Bk.new W 117 #[.int .i8 a.x, .int .i8 a.y, .int .i8 a.w, .int .i8 a.h] W.heap.size rfl).alloc (.cells #[.int .i8 b.x, .int .i8 b.y, .int .i8 b.w, .int .i8 b.h] 117))
  have K3 := Lib.hid (Bk.new (W.alloc (.cells #[.int .i8 a.x, .int .i8 a.y, .int .i8 a.w, .int .i8 a.h] 117)) 117 #[.int .i8 b.x, .int .i8 b.y, .int .i8 b.w, .int .i8 b.h] (W.heap.size + 1) (by simp))
  have HA := Lib.hid ha
  have HBb := Lib.hid hb
  obtain ⟨x0, x1, y0, y1, w0, w1, h0, h1⟩ := ha
  clear hb
  unfold Slab.v
  go_enter Try.func157, Try.ntmps157
  go_wp2_with fail
  have hsz : W.heap.size + 1 < ((W.alloc (.cells #[.int .i8 a.x, .int .i8 a.y, .int .i8 a.w, .int .i8 a.h] 117)).alloc (.cells #[.int .i8 b.x, .int .i8 b.y, .int .i8 b.w, .int .i8 b.h] 117)).heap.size := by simp
  generalize (W.alloc (.cells #[.int .i8 a.x, .int .i8 a.y, .int .i8 a.w, .int .i8 a.h] 117)).alloc (.cells #[.int .i8 b.x, .int .i8 b.y, .int .i8 b.w, .int .i8 b.h] 117) = W0 at *
  have hsz0 : W.heap.size < W0.heap.size := by omega
  have a0 := K2.out.cell 0 _ rfl
  have a1 := K2.out.cell 1 _ rfl
  have a2 := K2.out.cell 2 _ rfl
  have a3 := K2.out.cell 3 _ rfl
  go_cut [5, 6] (fun p q wx => ∃ g k : Nat, p = .pointer (some ⟨g, 0, none⟩) ∧ q = .pointer (some ⟨k, 0, none⟩) ∧ W.heap.size + 1 < g ∧ W.heap.size + 1 < k ∧ g ≠ k ∧ Bk wx g 117 #[.int .i8 a.x, .int .i8 a.y, .int .i8 a.w, .int .i8 a.h] ∧ Bk wx k 117 #[.int .i8 a.x, .int .i8 a.y, .int .i8 a.w, .int .i8 a.h] ∧ Below W0.heap.size W0 wx)
  case first =>
    go_region
    · go_wp2_with fail
      go_meet
      exact ⟨W0.heap.size, W0.heap.size + 1, rfl, rfl, hsz, by omega, by omega, Bk.drw ((Bk.new W0 _ _ _ rfl).alloc _), Bk.drw (Bk.new _ _ _ _ (by simp)), (((Below.refl _ _).alloc (Nat.le_refl _) _).alloc (by simp) _).drew⟩
    · go_wp2_with fail
      go_meet
      exact ⟨W0.heap.size + 1, W0.heap.size, rfl, rfl, by omega, hsz, by omega, Bk.drw (Bk.new _ _ _ _ (by simp)), Bk.drw ((Bk.new W0 _ _ _ rfl).alloc _), (((Below.refl _ _).alloc (Nat.le_refl _) _).alloc (by simp) _).drew⟩
  case rest =>
    obtain ⟨g, k, rfl, rfl, hg, hk, hne, kg, kk, hb1⟩ := hcut
    generalize wc = W1 at *
    have HB1 := Lib.hid (ext_trans HB.out hb1)
    have KG := Lib.hid kg
    have KK := Lib.hid kk
    have K21 := Lib.hid (K2.out.ext hb1)
    have K31 := Lib.hid (K3.out.ext hb1)
    clear kg kk hb1 a0 a1 a2 a3
    have a0 := K21.out.cell 0 _ rfl
    have a2 := K21.out.cell 2 _ rfl
    have g0 := KG.out.cell 0 _ rfl
    have g2 := KG.out.cell 2 _ rfl
    have f0 := KG.out.frz 0
    have f2 := KG.out.frz 2
    have e1 : IntKind.i8.wrap (a.x - 1) = a.x - 1 := wrap8In _ (by omega) (by omega)
    have e2 : IntKind.i8.wrap (a.w + 2) = a.w + 2 := wrap8In _ (by omega) (by omega)
    go_wp2_with fail
    go_cut [] (fun wx => Bk wx g 117 #[.int .i8 (a.x - 1), .int .i8 a.y, .int .i8 (a.w + 2), .int .i8 a.h] ∧ Bk wx k 117 #[.int .i8 a.x, .int .i8 a.y, .int .i8 a.w, .int .i8 a.h] ∧ Bk wx W.heap.size 117 #[.int .i8 a.x, .int .i8 a.y, .int .i8 a.w, .int .i8 a.h] ∧ Bk wx (W.heap.size + 1) 117 #[.int .i8 b.x, .int .i8 b.y, .int .i8 b.w, .int .i8 b.h] ∧ Below W.heap.size W wx)
    case first =>
      go_region
      go_wp2_with fail
      go_meet
      exact ⟨(KG.out.set 0 _).set 2 _, (KK.out.oth 0 _ (fun e => hne e.symm)).oth 2 _ (fun e => hne e.symm), (K21.out.oth 0 _ (by omega)).oth 2 _ (by omega), (K31.out.oth 0 _ (by omega)).oth 2 _ (by omega), ((HB1.out.setCell (by show W.heap.size ≤ g; omega) _).setCell (by show W.heap.size ≤ g; omega) _).drew⟩
    case rest =>
      obtain ⟨kg, kk, k2, k3, hb2⟩ := hcut
      generalize wc = W2 at *
      have KG := Lib.hid kg
      have KK := Lib.hid kk
      have K22 := Lib.hid k2
      have K32 := Lib.hid k3
      have HB2 := Lib.hid hb2
      clear kg kk k2 k3 hb2 a0 a2 g0 g2 f0 f2 e1 e2
      have a1 := K22.out.cell 1 _ rfl
      have a3 := K22.out.cell 3 _ rfl
      have g1 := KK.out.cell 1 _ rfl
      have g3 := KK.out.cell 3 _ rfl
      have f1 := KK.out.frz 1
      have f3 := KK.out.frz 3
      have e1 : IntKind.i8.wrap (a.y - 1) = a.y - 1 := wrap8In _ (by omega) (by omega)
      have e2 : IntKind.i8.wrap (a.h + 2) = a.h + 2 := wrap8In _ (by omega) (by omega)
      go_wp2_with fail
      go_cut [] (fun wx => Bk wx g 117 #[.int .i8 (a.x - 1), .int .i8 a.y, .int .i8 (a.w + 2), .int .i8 a.h] ∧ Bk wx k 117 #[.int .i8 a.x, .int .i8 (a.y - 1), .int .i8 a.w, .int .i8 (a.h + 2)] ∧ Bk wx W.heap.size 117 #[.int .i8 a.x, .int .i8 a.y, .int .i8 a.w, .int .i8 a.h] ∧ Bk wx (W.heap.size + 1) 117 #[.int .i8 b.x, .int .i8 b.y, .int .i8 b.w, .int .i8 b.h] ∧ Below W.heap.size W wx)
      case first =>
        go_region
        go_wp2_with fail
        go_meet
        exact ⟨(KG.out.oth 1 _ hne).oth 3 _ hne, (KK.out.set 1 _).set 3 _, (K22.out.oth 1 _ (by omega)).oth 3 _ (by omega), (K32.out.oth 1 _ (by omega)).oth 3 _ (by omega), ((HB2.out.setCell (by show W.heap.size ≤ k; omega) _).setCell (by show W.heap.size ≤ k; omega) _).drew⟩
      case rest =>
        obtain ⟨kg, kk, k2, k3, hb2⟩ := hcut
        generalize wc = W3 at *
        have HB3 := Lib.hid hb2
        have a0 := k2.cell 0 _ rfl
        have a1 := k2.cell 1 _ rfl
        have a2 := k2.cell 2 _ rfl
        have a3 := k2.cell 3 _ rfl
        have b0 := k3.cell 0 _ rfl
        have b1 := k3.cell 1 _ rfl
        have b2 := k3.cell 2 _ rfl
        have b3 := k3.cell 3 _ rfl
        have g0 := kg.cell 0 _ rfl
        have g1 := kg.cell 1 _ rfl
        have g2 := kg.cell 2 _ rfl
        have g3 := kg.cell 3 _ rfl
        have h0 := kk.cell 0 _ rfl
        have h1 := kk.cell 1 _ rfl
        have h2 := kk.cell 2 _ rfl
        have h3 := kk.cell 3 _ rfl
        have KK3 := Lib.hid kk
        have hlg : g < W3.heap.size := kg.lt
        have K33 := Lib.hid k3
        clear kg kk k2 k3 hb2
        clear K2 K3 K21 K31 K22 K32 KG KK
        have q1 := Lib.hid (show ∀ W, Calls Try.prog 132 #[.agg #[.int .i8 (a.x - 1), .int .i8 a.y, .int .i8 (a.w + 2), .int .i8 a.h], .agg #[.int .i8 b.x, .int .i8 b.y, .int .i8 b.w, .int .i8 b.h]] W (fun e w' => e = .returned (.bool (meetsB (widerS a) b)) ∧ Below W.heap.size W w') from fun W => meets_calls (widerS a) b (by constructor <;> (simp only [widerS]; omega)) HBb.out W)
        have q2 := Lib.hid (show ∀ W, Calls Try.prog 132 #[.agg #[.int .i8 a.x, .int .i8 (a.y - 1), .int .i8 a.w, .int .i8 (a.h + 2)], .agg #[.int .i8 b.x, .int .i8 b.y, .int .i8 b.w, .int .i8 b.h]] W (fun e w' => e = .returned (.bool (meetsB (higherS a) b)) ∧ Below W.heap.size W w') from fun W => meets_calls (higherS a) b (by constructor <;> (simp only [higherS]; omega)) HBb.out W)
        have hR := Lib.hid (show besB a b = (!decide (a = b) && (meetsB (widerS a) b || meetsB (higherS a) b)) from rfl)
        generalize meetsB (widerS a) b = m1 at *
        generalize meetsB (higherS a) b = m2 at *
        have hkl : k < W3.heap.size := KK3.out.lt
        have h1l : W.heap.size + 1 < W3.heap.size := K33.out.lt
        have hcs : (decide (a = b) = true ∧ (a.x == b.x) = true ∧ (a.y == b.y) = true ∧ (a.w == b.w) = true ∧ (a.h == b.h) = true) ∨ (decide (a = b) = false ∧ ((a.x == b.x) = false ∨ ((a.x == b.x) = true ∧ (a.y == b.y) = false) ∨ ((a.x == b.x) = true ∧ (a.y == b.y) = true ∧ (a.w == b.w) = false) ∨ ((a.x == b.x) = true ∧ (a.y == b.y) = true ∧ (a.w == b.w) = true ∧ (a.h == b.h) = false))) := by
          cases a; cases b
          simp only [Slab.mk.injEq, decide_eq_true_eq, decide_eq_false_iff_not, beq_iff_eq, beq_eq_false_iff_ne]
          omega
        rcases hcs with ⟨hd, r1, r2, r3, r4⟩ | ⟨hd, hcs⟩
        · have hR2 := Lib.hid (hR.out.trans (by rw [hd]; rfl) : besB a b = false)
          clear hd hR
          go_wp2_with fail
          go_ret
          exact ⟨ret_bool hR2.out.symm, HB3.out⟩
        · have hR2 := Lib.hid (hR.out.trans (by rw [hd]; rfl) : besB a b = (m1 || m2))
          clear hd hR
          rcases hcs with r1 | ⟨r1, r2⟩ | ⟨r1, r2, r3⟩ | ⟨r1, r2, r3, r4⟩
          all_goals
            go_wp2_with fail
            refine (q1.out _).mono ?_
            rintro e w4 ⟨rfl, hb4⟩
            have KK4 := Lib.hid (KK3.out.ext hb4)
            have K34 := Lib.hid (K33.out.ext hb4)
            have HB4 := Lib.hid (ext_trans HB3.out hb4)
            have b0 := K34.out.cell 0 _ rfl
            have b1 := K34.out.cell 1 _ rfl
            have b2 := K34.out.cell 2 _ rfl
            have b3 := K34.out.cell 3 _ rfl
            have h0 := KK4.out.cell 0 _ rfl
            have h1 := KK4.out.cell 1 _ rfl
            have h2 := KK4.out.cell 2 _ rfl
            have h3 := KK4.out.cell 3 _ rfl
            clear hb4
            cases m1
            · go_wp2_with fail
              refine (q2.out _).mono ?_
              rintro e w5 ⟨rfl, hb5⟩
              have HB5 := Lib.hid (ext_trans HB4.out hb5)
              clear hb5
              go_wp2_with fail
              go_ret
              exact ⟨ret_bool hR2.out.symm, HB5.out⟩
            · go_wp2_with fail
              go_ret
              exact ⟨ret_bool (by rw [hR2.out]; rfl), HB4.out⟩
end Go.Proofs.Ytpjdgpcdcihogaa
