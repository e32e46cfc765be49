/-
Ways of joints at a point, codes of corners, JointsAt: of the program. Conditions: numbers are of their kinds; slices can be read.
-/
import Derived.Test.YteflpdfajfljfaaSQ8
import Derived.Test.YteflpdfajfljfaaApp
set_option linter.unusedVariables false
set_option linter.unusedSimpArgs false
set_option maxRecDepth 100000
namespace Go.Proofs.Yteflpdfajfljfaa
open Go.RowKit
theorem SqIn.keepB {W W' : World} {w h : Int} {z : Value} {sl : List Slab} (q : SqIn W w h z sl) (hb : Below W.heap.size W W') : SqIn W' w h z sl := q.ext hb
theorem isJoint_calls (w h : Int) (z : Value) (sl : List Slab) (a b : Cell) (ha : a.ok) (hb : b.ok) (W : World) (hq : SqIn W w h z sl) :
    Calls Try.prog 107 #[sqv w h z, a.v, b.v] W fun e w' => e = .returned (.bool (sidesAt sl a b).2.2) ∧ Below W.heap.size W w' := by
  obtain ⟨A, cap, hz, -, -, -⟩ := hq.sl.slab
  subst hz
  have hB := ext_alloc (ext_alloc ((Below.refl W.heap.size W).alloc (Nat.le_refl _) (.cells #[.int .i8 w, .int .i8 h, .slice A sl.length cap] 34)) (.cells #[.int .i8 a.x, .int .i8 a.y] 36)) (.cells #[.int .i8 b.x, .int .i8 b.y] 36)
  have HB := Lib.hid hB
  have qs := Lib.hid (sidesOf_calls w h _ sl a b ha hb _ (hq.ext hB))
  generalize sidesAt sl a b = R at *
  clear hB hq
  unfold sqv Cell.v at *
  go_enter Try.func107, Try.ntmps107
  go_wp2_with fail
  refine qs.out.mono ?_
  rintro e w1 ⟨rfl, hb1⟩
  go_wp2_with fail
  go_ret
  exact ⟨rfl, ext_trans HB.out hb1⟩
theorem cmpC_y (a b : Cell) (h : b.y < a.y) : decide (0 < cmpC a b) = true := by
  have : cmpC a b = 1 := by unfold cmpC cmpI orI; simp [show ¬ a.y < b.y by omega, h]
  rw [this]; rfl
theorem cmpC_y' (a b : Cell) (h : a.y < b.y) : decide (0 < cmpC a b) = false := by
  have : cmpC a b = -1 := by unfold cmpC cmpI orI; simp [h]
  rw [this]; rfl
theorem cmpC_x (a b : Cell) (h0 : a.y = b.y) (h : b.x < a.x) : decide (0 < cmpC a b) = true := by
  have : cmpC a b = 1 := by unfold cmpC cmpI orI; simp [h0, show ¬ a.x < b.x by omega, h]
  rw [this]; rfl
theorem cmpC_x' (a b : Cell) (h0 : a.y = b.y) (h : a.x < b.x) : decide (0 < cmpC a b) = false := by
  have : cmpC a b = -1 := by unfold cmpC cmpI orI; simp [h0, h]
  rw [this]; rfl
/-- The edge ahead of a point is a joint just where the two slabs beside it are two. -/
theorem edge_sides (sl : List Slab) (p : Cell) (way : Int) : (sidesAt sl p (aheadC p way)).2.2 = edgeOf sl p.x p.y way := by
  unfold sidesAt edgeOf aheadC
  by_cases e0 : way = 0
  · rw [if_pos e0, if_pos e0, cmpC_y _ _ (by show p.y - 1 < p.y; omega), if_pos rfl, sides2]
    rw [if_neg (by show ¬ (p.y - 1 = p.y ∧ _); omega), if_pos ⟨rfl, by show p.y = p.y - 1 + 1; omega⟩]
  rw [if_neg e0, if_neg e0]
  by_cases e1 : way = 1
  · rw [if_pos e1, if_pos e1, cmpC_x' p ⟨p.x + 1, p.y⟩ rfl (by show p.x < p.x + 1; omega), if_neg (by simp), sides2, if_pos ⟨rfl, rfl⟩]
  rw [if_neg e1, if_neg e1]
  by_cases e2 : way = 2
  · rw [if_pos e2, if_pos e2, cmpC_y' _ _ (by show p.y < p.y + 1; omega), if_neg (by simp), sides2]
    rw [if_neg (by show ¬ (p.y = p.y + 1 ∧ _); omega), if_pos ⟨rfl, rfl⟩]
  rw [if_neg e2, if_neg e2, cmpC_x p ⟨p.x - 1, p.y⟩ rfl (by show p.x - 1 < p.x; omega), if_pos rfl, sides2, if_pos ⟨rfl, by show p.x = p.x - 1 + 1; omega⟩]
def waysN (sl : List Slab) (x y : Int) (k : Nat) : List Int := ((List.range k).map (fun (i : Nat) => (i : Int))).filter (edgeOf sl x y)
theorem waysN_all (sl : List Slab) (x y : Int) : waysN sl x y 4 = waysOf sl x y := rfl
theorem waysN_succ (sl : List Slab) (x y : Int) (k : Nat) : waysN sl x y (k + 1) = if edgeOf sl x y k = true then waysN sl x y k ++ [(k : Int)] else waysN sl x y k := by
  unfold waysN
  rw [List.range_succ, List.map_append, List.filter_append]
  cases h : edgeOf sl x y k <;> simp [h]
theorem waysN_len (sl : List Slab) (x y : Int) (k : Nat) : (waysN sl x y k).length ≤ k := by
  have := List.length_filter_le (edgeOf sl x y) ((List.range k).map (fun (i : Nat) => (i : Int)))
  simpa [waysN] using this
abbrev WyS (W0 : World) (b c : Nat) (w h : Int) (z : Value) (p : Cell) (w' : World) : Prop :=
  Below W0.heap.size W0 w' ∧ w'.cell? ⟨b, 0, none⟩ = some (.int .i8 w) ∧ w'.cell? ⟨b, 1, none⟩ = some (.int .i8 h) ∧ w'.cell? ⟨b, 2, none⟩ = some z ∧ w'.cell? ⟨c, 0, none⟩ = some (.int .i8 p.x) ∧ w'.cell? ⟨c, 1, none⟩ = some (.int .i8 p.y)
theorem WyS.keep {W0 w1 w2 : World} {b c : Nat} {w h : Int} {z : Value} {p : Cell} (hb : b < W0.heap.size) (hc : c < W0.heap.size) (hS : WyS W0 b c w h z p w1) (k : Below w1.heap.size w1 w2) : WyS W0 b c w h z p w2 := by
  obtain ⟨h0, h1, h2, h3, h4, h5⟩ := hS
  have q : ∀ o, w2.cell? ⟨b, o, none⟩ = w1.cell? ⟨b, o, none⟩ := fun o => k.cell (p := ⟨b, o, none⟩) (Nat.lt_of_lt_of_le hb h0.size)
  have r : ∀ o, w2.cell? ⟨c, o, none⟩ = w1.cell? ⟨c, o, none⟩ := fun o => k.cell (p := ⟨c, o, none⟩) (Nat.lt_of_lt_of_le hc h0.size)
  exact ⟨ext_trans h0 k, (q _).trans h1, (q _).trans h2, (q _).trans h3, (r _).trans h4, (r _).trans h5⟩
theorem ahead_ok (p : Cell) (way : Int) (hx : 0 ≤ p.x ∧ p.x ≤ 100) (hy : 0 ≤ p.y ∧ p.y ≤ 100) : (aheadC p way).ok := by
  unfold aheadC
  split
  · exact ⟨by show -128 ≤ p.x; omega, by show p.x ≤ 127; omega, by show -128 ≤ p.y - 1; omega, by show p.y - 1 ≤ 127; omega⟩
  · split
    · exact ⟨by show -128 ≤ p.x + 1; omega, by show p.x + 1 ≤ 127; omega, by show -128 ≤ p.y; omega, by show p.y ≤ 127; omega⟩
    · split
      · exact ⟨by show -128 ≤ p.x; omega, by show p.x ≤ 127; omega, by show -128 ≤ p.y + 1; omega, by show p.y + 1 ≤ 127; omega⟩
      · exact ⟨by show -128 ≤ p.x - 1; omega, by show p.x - 1 ≤ 127; omega, by show -128 ≤ p.y; omega, by show p.y ≤ 127; omega⟩
set_option maxHeartbeats 2000000 in
theorem ways_calls (w h : Int) (z : Value) (sl : List Slab) (p : Cell) (hx : 0 ≤ p.x ∧ p.x ≤ 100) (hy : 0 ≤ p.y ∧ p.y ≤ 100) (W : World) (hq : SqIn W w h z sl) :
    Calls Try.prog 50 #[sqv w h z, p.v] W fun e w' => ∃ g c, e = .returned (.slice (some ⟨g, 0, none⟩) (waysOf sl p.x p.y).length c) ∧ Own w' W.heap.size 2 i64c 1 (.slice (some ⟨g, 0, none⟩) (waysOf sl p.x p.y).length c) (waysOf sl p.x p.y) ∧ Below W.heap.size W w' := by
  obtain ⟨A, cap, hz, -, -, -⟩ := hq.sl.slab
  subst hz
  have hB0 := ext_alloc ((Below.refl W.heap.size W).alloc (Nat.le_refl _) (.cells #[.int .i8 w, .int .i8 h, .slice A sl.length cap] 34)) (.cells #[.int .i8 p.x, .int .i8 p.y] 36)
  have HBp := Lib.hid hB0
  have hO0 := Lib.hid (Own.empty (α := Int) (c := i64c) (sz := 1) (E := 2) ((W.alloc (.cells #[.int .i8 w, .int .i8 h, .slice A sl.length cap] 34)).alloc (.cells #[.int .i8 p.x, .int .i8 p.y] 36)) (W.heap.size + 1 + 1) (W.heap.size + 1 + 1) (by simp) (by simp))
  have HB := Lib.hid (ext_alloc hB0 (.cells #[] 2))
  have HQ0 := Lib.hid hq
  have K0 := Lib.hid (((Bk.new W 34 #[.int .i8 w, .int .i8 h, .slice A sl.length cap] W.heap.size rfl).alloc (.cells #[.int .i8 p.x, .int .i8 p.y] 36)).alloc (.cells #[] 2))
  have K1 := Lib.hid ((Bk.new (W.alloc (.cells #[.int .i8 w, .int .i8 h, .slice A sl.length cap] 34)) 36 #[.int .i8 p.x, .int .i8 p.y] (W.heap.size + 1) (by simp)).alloc (.cells #[] 2))
  have hW3 := Lib.hid (show ((((W.alloc (.cells #[.int .i8 w, .int .i8 h, .slice A sl.length cap] 34)).alloc (.cells #[.int .i8 p.x, .int .i8 p.y] 36)).alloc (.cells #[] 2)).heap.size = W.heap.size + 1 + 1 + 1) from by simp)
  have hall := Lib.hid (waysN_all sl p.x p.y)
  clear hB0 hq
  unfold sqv Cell.v
  go_enter Try.func50, Try.ntmps50
  go_wp2_with fail
  generalize ((W.alloc (.cells #[.int .i8 w, .int .i8 h, .slice A sl.length cap] 34)).alloc (.cells #[.int .i8 p.x, .int .i8 p.y] 36)).alloc (.cells #[] 2) = W1 at *
  go_loopw [5, 8] (fun o i wr => ∃ (k : Nat) (g c : Nat), k ≤ 4 ∧ i = .int .i64 k ∧ o = .slice (some ⟨g, 0, none⟩) (waysN sl p.x p.y k).length c ∧ Own wr (W.heap.size + 1 + 1) 2 i64c 1 (.slice (some ⟨g, 0, none⟩) (waysN sl p.x p.y k).length c) (waysN sl p.x p.y k) ∧ Below W.heap.size W wr ∧ Below (W.heap.size + 1 + 1) W1 wr) (fun _ i _ => 4 - (intOf i).toNat)
  case atStart => exact ⟨0, _, 0, by omega, rfl, rfl, hO0.out, HB.out, Below.refl _ _⟩
  case round =>
    obtain ⟨k, g, c, hk, rfl, rfl, hO, hb, hb1⟩ := hrel
    obtain ⟨wo, rfl⟩ : ∃ wo : World, wo = wr := ⟨_, rfl⟩
    have HO := Lib.hid hO
    have HBo := Lib.hid hb
    have HB1 := Lib.hid hb1
    have hlen := Lib.hid (waysN_len sl p.x p.y k)
    clear hO hb hb1
    by_cases hlt : k < 4
    · have hst := Lib.hid (waysN_succ sl p.x p.y k)
      have k0 := K0.out.keep (show W.heap.size < W.heap.size + 1 + 1 by omega) HB1.out
      have k1 := K1.out.keep (show W.heap.size + 1 < W.heap.size + 1 + 1 by omega) HB1.out
      have hS : WyS wo W.heap.size (W.heap.size + 1) w h (.slice A sl.length cap) p wo := ⟨Below.refl _ _, k0.cell 0 _ rfl, k0.cell 1 _ rfl, k0.cell 2 _ rfl, k1.cell 0 _ rfl, k1.cell 1 _ rfl⟩
      have hlb : W.heap.size < wo.heap.size := k0.lt
      have hlc : W.heap.size + 1 < wo.heap.size := k1.lt
      have HQo := Lib.hid (HQ0.out.keepB HBo.out)
      clear k0 k1
      have qa := Lib.hid (show ∀ W', Calls Try.prog 108 #[.agg #[.int .i8 p.x, .int .i8 p.y], .int .i64 (k : Int)] W' (fun e w' => e = .returned (.agg #[.int .i8 (aheadC p k).x, .int .i8 (aheadC p k).y]) ∧ Below W'.heap.size W' w') from fun W' => ahead_calls p k hx hy W')
      have qj := Lib.hid (show ∀ W', WyS wo W.heap.size (W.heap.size + 1) w h (.slice A sl.length cap) p W' → Calls Try.prog 107 #[.agg #[.int .i8 w, .int .i8 h, .slice A sl.length cap], .agg #[.int .i8 p.x, .int .i8 p.y], .agg #[.int .i8 (aheadC p k).x, .int .i8 (aheadC p k).y]] W' (fun e w' => e = .returned (.bool (edgeOf sl p.x p.y k)) ∧ Below W'.heap.size W' w') from fun W' h' => edge_sides sl p k ▸ isJoint_calls w h _ sl p (aheadC p k) ⟨by omega, by omega, by omega, by omega⟩ (ahead_ok p k hx hy) W' (HQo.out.ext h'.1))
      generalize aheadC p k = q at *
      generalize edgeOf sl p.x p.y k = E at *
      have hk4 : decide ((k : Int) < 4) = true := by rw [decide_eq_true_eq]; omega
      go_wp2_with fail
      refine wp_region_held_drew (S := (WyS wo W.heap.size (W.heap.size + 1) w h (.slice A sl.length cap) p)) (by kernel_rfl) ?r11_hS0 (fun hHeld => ?r11_rest)
      case r11_hS0 => (try dsimp only); first | assumption | exact WyS.keep hlb hlc (by assumption) ((Below.refl _ _).drew) | exact WyS.keep hlb hlc (by assumption) (by assumption)
      refine wpAnyH_take (i := 0) (v := ?r11_vv0) (by (simp only [List.getElem?_toArray, List.getElem?_cons_succ, List.getElem?_cons_zero]; rfl)) (by kernel_rfl) (by kernel_rfl) (by kernel_rfl) (by exact fun _ _ _ h => h) (Or.inl ⟨by rfl, ?r11_hy0⟩) (by assumption) ?r11_rest0
      case r11_hy0 => intro w hSw; (try dsimp only at hSw); (go_simp <;> (with_reducible rfl))
      try simp only [Act.put, List.setIfInBounds_toArray, List.set_cons_zero, List.set_cons_succ]
      refine wpAnyH_take (i := 1) (v := ?r11_vv1) (by (simp only [List.getElem?_toArray, List.getElem?_cons_succ, List.getElem?_cons_zero]; rfl)) (by kernel_rfl) (by kernel_rfl) (by kernel_rfl) (by exact fun _ _ _ h => h) (Or.inl ⟨by rfl, ?r11_hy1⟩) (by assumption) ?r11_rest1
      case r11_hy1 => intro w hSw; (try dsimp only at hSw); (go_simp <;> (with_reducible rfl))
      try simp only [Act.put, List.setIfInBounds_toArray, List.set_cons_zero, List.set_cons_succ]
      refine wpAnyH_take (i := 2) (v := ?r11_vv2) (by (simp only [List.getElem?_toArray, List.getElem?_cons_succ, List.getElem?_cons_zero]; rfl)) (by kernel_rfl) (by kernel_rfl) (by kernel_rfl) (by exact fun _ _ _ h => h) (Or.inl ⟨by rfl, ?r11_hy2⟩) (by assumption) ?r11_rest2
      case r11_hy2 => intro w hSw; (try dsimp only at hSw); (go_simp <;> (with_reducible rfl))
      try simp only [Act.put, List.setIfInBounds_toArray, List.set_cons_zero, List.set_cons_succ]
      refine wpAnyH_take (i := 3) (v := ?r11_vv3) (by (simp only [List.getElem?_toArray, List.getElem?_cons_succ, List.getElem?_cons_zero]; rfl)) (by kernel_rfl) (by kernel_rfl) (by kernel_rfl) (by exact fun _ _ _ h => h) (Or.inl ⟨by rfl, ?r11_hy3⟩) (by assumption) ?r11_rest3
      case r11_hy3 => intro w hSw; (try dsimp only at hSw); (go_simp <;> (with_reducible rfl))
      try simp only [Act.put, List.setIfInBounds_toArray, List.set_cons_zero, List.set_cons_succ]
      refine wpAnyH_ready (rs := [4]) (by kernel_rfl) (by simp) ?_
      refine AllReadyH.cons (by (simp only [List.getElem?_toArray, List.getElem?_cons_succ, List.getElem?_cons_zero]; rfl)) (fun K hK => ?_) AllReadyH.nil
      go_simp
      (go_at_call 108; with_reducible refine (qa.out _).mono ?_; rintro e w9 ⟨rfl, hb9⟩)
      try go_wp2_with fail
      refine hK.out _ _ ?r11_hS4 (fun hHeld => ?r11_r4)
      case r11_hS4 => (try dsimp only); first | assumption | exact WyS.keep hlb hlc (by assumption) ((Below.refl _ _).drew) | exact WyS.keep hlb hlc (by assumption) (by assumption)
      clear hK K
      try simp only [Act.put, List.setIfInBounds_toArray, List.set_cons_zero, List.set_cons_succ]
      refine wpAnyH_ready (rs := [5]) (by kernel_rfl) (by simp) ?_
      refine AllReadyH.cons (by (simp only [List.getElem?_toArray, List.getElem?_cons_succ, List.getElem?_cons_zero]; rfl)) (fun K hK => ?_) AllReadyH.nil
      go_simp
      (go_at_call 107; with_reducible refine (qj.out _ (by assumption)).mono ?_; rintro e w10 ⟨rfl, hb10⟩)
      try go_wp2_with fail
      refine hK.out _ _ ?r11_hS5 (fun hHeld => ?r11_r5)
      case r11_hS5 => (try dsimp only); first | assumption | exact WyS.keep hlb hlc (by assumption) ((Below.refl _ _).drew) | exact WyS.keep hlb hlc (by assumption) (by assumption)
      clear hK K
      try simp only [Act.put, List.setIfInBounds_toArray, List.set_cons_zero, List.set_cons_succ]
      refine wpAnyH_done (by kernel_rfl) ?_ _
      have HB9 := Lib.hid (show Below wo.heap.size wo _ from And.left (b := _) (by assumption))
      cases E
      · have hs2 := Lib.hid (hst.out.trans (if_neg (by decide)))
        clear hst
        go_wp2_with fail
        go_roundw
        case rel => exact ⟨k + 1, g, c, by omega, by go_num, by rw [hs2.out], by rw [hs2.out]; exact HO.out.ext HB9.out, ext_trans HBo.out HB9.out, HB1.out.trans (HB9.out.mono (by have := HB1.out.size; have := hW3.out; omega))⟩
        case measure => first | (simp [intOf]; done) | (simp [intOf]; omega)
      · have hs2 := Lib.hid (hst.out.trans (if_pos rfl))
        clear hst
        have hO9 := Lib.hid (HO.out.ext HB9.out)
        have hsz9 := Lib.hid (Nat.le_trans HBo.out.size HB9.out.size)
        have hB10 := Lib.hid (ext_trans HBo.out HB9.out)
        have hB11 := Lib.hid (HB1.out.trans (HB9.out.mono (show W.heap.size + 1 + 1 ≤ wo.heap.size by have := HB1.out.size; have := hW3.out; omega)))
        have hsz2 := Lib.hid (show W.heap.size + 1 + 1 ≤ w10.heap.size from by have := HB1.out.size; have := hW3.out; have := HB9.out.size; omega)
        generalize waysN sl p.x p.y k = us at *
        go_wp2_with (at_builtin; refine push_i64 rfl _ _ rfl (W.heap.size + 1 + 1) us _ rfl (hO9.out.alloc _) ⟨_, 0, none⟩ _ rfl ((Bk.new _ _ _ _ rfl).cell 0 _ rfl) (by have := hlen.out; omega) (Nat.le_trans hsz2.out (by simp)) ?_)
        intro v3 w3 hO3 hG3
        rw [← hs2.out] at hO3
        have hb3 := Lib.hid ((hB10.out.alloc hsz9.out _).grown hG3 (Nat.le_trans hsz9.out (by simp)) (fun j hj => Nat.le_trans (by omega) (hO9.out.base j hj)))
        have hb4 := Lib.hid ((hB11.out.alloc hsz2.out _).grown hG3 (Nat.le_trans hsz2.out (by simp)) (fun j hj => hO9.out.base j hj))
        obtain ⟨g3, c3, rfl, _, _, _, _, _, _⟩ := hO3.room i64c_len (by rw [hs2.out]; simp)
        have hO3 := Lib.hid hO3
        clear hG3
        go_wp2_with fail
        go_roundw
        case rel => exact ⟨k + 1, g3, c3, by omega, by go_num, rfl, hO3.out, hb3.out, hb4.out⟩
        case measure => first | (simp [intOf]; done) | (simp [intOf]; omega)
    · obtain rfl : k = 4 := by omega
      rw [hall.out] at HO ⊢
      go_wp2_with fail
      go_ret
      exact ⟨g, c, rfl, HO.out.more (by omega), HBo.out⟩
end Go.Proofs.Yteflpdfajfljfaa
