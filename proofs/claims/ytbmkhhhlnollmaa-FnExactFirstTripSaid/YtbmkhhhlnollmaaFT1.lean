/-
Levels that sink. Of both programs. Conditions: levels and rates are small.
-/
import Derived.Test.YtbmkhhhlnollmaaTR2
import Derived.Test.YtbmkhhhlnollmaaAP
set_option linter.unusedVariables false
set_option linter.unusedSimpArgs false
set_option maxRecDepth 100000
namespace Go.Proofs.Ytbmkhhhlnollmaa
open Go.RowKit
def aftN (lv rt : List Int) (y : Int) (k : Nat) : List Int := (List.range k).map fun i => max (lv.getD i 0 - rt.getD i 0 * y) (-100)
def aftL (lv rt : List Int) (y : Int) : List Int := aftN lv rt y lv.length
theorem aftN_len (lv rt : List Int) (y : Int) (k : Nat) : (aftN lv rt y k).length = k := by simp [aftN]
theorem aftN_succ (lv rt : List Int) (y : Int) (k : Nat) (hk : k < lv.length) (hr : k < rt.length) : aftN lv rt y (k + 1) = aftN lv rt y k ++ [max (lv[k] - rt[k] * y) (-100)] := by
  simp only [aftN, List.range_succ, List.map_append, List.map_cons, List.map_nil]
  rw [getD_mem0 lv k hk, getD_mem0 rt k hr]
def smallR (rt : List Int) : Prop := ∀ n ∈ rt, 0 ≤ n ∧ n ≤ 10
theorem mul_small {r y : Int} (h0 : 0 ≤ r) (h1 : r ≤ 10) (y0 : 0 ≤ y) (y1 : y ≤ 60) : 0 ≤ r * y ∧ r * y ≤ 600 := by
  refine ⟨Int.mul_nonneg h0 y0, ?_⟩
  calc r * y ≤ 10 * y := Int.mul_le_mul_of_nonneg_right h1 y0
    _ ≤ 600 := by omega
theorem aftL_small {lv rt : List Int} {y : Int} (hl : smallL lv) (hr : smallR rt) (hlen : rt.length = lv.length) (y0 : 0 ≤ y) (y1 : y ≤ 60) : smallL (aftL lv rt y) := by
  intro n hn
  simp only [aftL, aftN, List.mem_map, List.mem_range] at hn
  obtain ⟨i, hi, rfl⟩ := hn
  rw [getD_mem0 lv i hi, getD_mem0 rt i (by omega)]
  have h1 := hl _ (List.getElem_mem hi)
  have h2 := hr _ (List.getElem_mem (show i < rt.length by omega))
  have h3 := mul_small h2.1 h2.2 y0 y1
  omega
abbrev AfS (W0 : World) (B b1 o1 : Nat) (x : Int) (b2 o2 : Nat) (y : Int) (w' : World) : Prop :=
  Below B W0 w' ∧ w'.cell? ⟨b1, o1, none⟩ = some (.int .i64 x) ∧ w'.cell? ⟨b2, o2, none⟩ = some (.int .i64 y)
theorem AfS.keep {W0 w1 w2 : World} {B b1 o1 b2 o2 : Nat} {x y : Int} (hB : B ≤ W0.heap.size) (h1 : b1 < B) (h2 : b2 < B) (hS : AfS W0 B b1 o1 x b2 o2 y w1) (k : Below w1.heap.size w1 w2) : AfS W0 B b1 o1 x b2 o2 y w2 := by
  obtain ⟨g0, g1, g2⟩ := hS
  have q : ∀ b o, b < B → w2.cell? ⟨b, o, none⟩ = w1.cell? ⟨b, o, none⟩ := fun b o hb => k.cell (p := ⟨b, o, none⟩) (Nat.lt_of_lt_of_le hb (Nat.le_trans hB g0.size))
  exact ⟨g0.trans (k.mono (Nat.le_trans hB g0.size)), (q _ _ h1).trans g1, (q _ _ h2).trans g2⟩
theorem AfS.keepG {W0 w1 w2 : World} {B b1 o1 b2 o2 : Nat} {x y : Int} {r : Option Nat} (hB : B ≤ W0.heap.size) (h1 : b1 < B) (h2 : b2 < B) (hS : AfS W0 B b1 o1 x b2 o2 y w1) (hG : w1.grownBy w2 r) (hr : ∀ j, r = some j → B ≤ j) : AfS W0 B b1 o1 x b2 o2 y w2 := by
  obtain ⟨g0, g1, g2⟩ := hS
  have k : Below B w1 w2 := (Below.refl _ _).grown hG (Nat.le_trans hB g0.size) hr
  have q : ∀ b o, b < B → w2.cell? ⟨b, o, none⟩ = w1.cell? ⟨b, o, none⟩ := fun b o hb => k.cell (p := ⟨b, o, none⟩) hb
  exact ⟨g0.trans k, (q _ _ h1).trans g1, (q _ _ h2).trans g2⟩
set_option maxHeartbeats 2000000 in
theorem sAfter_calls (lv rt : List Int) (v u : Value) (y : Int) (y0 : 0 ≤ y) (y1 : y ≤ 60) (hl : smallL lv) (hr : smallR rt) (hlen : rt.length = lv.length) (hn : lv.length ≤ 1000) (W : World) (hs : Sl W W.heap.size i64c 1 v lv) (ht : Sl W W.heap.size i64c 1 u rt) :
    Calls Try.prog 94 #[v, u, .int .i64 y] W (RetRow W 2 i64c 1 (aftL lv rt y)) := by
  obtain ⟨A, cap, rfl, hn1, hm1, hcell⟩ := hs.i64
  obtain ⟨A2, cap2, rfl, hn2, hm2, hcell2⟩ := ht.i64
  have HL := Lib.hid hl
  have HR := Lib.hid hr
  have hlen2 := Lib.hid hlen
  have HB := Lib.hid ((Below.refl W.heap.size W).alloc (Nat.le_refl _) (.cells #[] 2))
  have hO0 := Lib.hid (Own.empty (α := Int) (c := i64c) (sz := 1) (E := 2) W W.heap.size W.heap.size rfl (Nat.le_refl _))
  clear hs ht hl hr hlen
  go_enter Try.func94, Try.ntmps94
  go_wp2_with fail
  generalize W.alloc (.cells #[] 2) = W1 at *
  go_loopw [7, 8] (fun r c wr => ∃ k : Nat, k ≤ lv.length ∧ c = .int .i64 (k : Int) ∧ Own wr W.heap.size 2 i64c 1 r (aftN lv rt y k) ∧ Below W.heap.size W wr) (fun _ c _ => lv.length - (intOf c).toNat)
  case atStart => exact ⟨0, by omega, rfl, hO0.out, HB.out⟩
  case round =>
    obtain ⟨k, hk, rfl, hO, hb⟩ := hrel
    have HO := Lib.hid hO
    have HBr := Lib.hid hb
    have hln := Lib.hid (aftN_len lv rt y k)
    clear hO hb
    by_cases hlt : k < lv.length
    · have hlt2 : k < rt.length := by have := hlen2.out; omega
      obtain ⟨b1, o1, rfl, hbb, c0⟩ := hcell k hlt
      obtain ⟨b2, o2, rfl, hbb2, c1⟩ := hcell2 k hlt2
      have hst := Lib.hid (aftN_succ lv rt y k hlt hlt2)
      have hx := HL.out _ (List.getElem_mem hlt)
      have hy := HR.out _ (List.getElem_mem hlt2)
      have c0 := (HBr.out.cell (p := ⟨b1, _, none⟩) hbb).trans c0
      have c1 := (HBr.out.cell (p := ⟨b2, _, none⟩) hbb2).trans c1
      clear hcell hcell2
      generalize lv[k] = a at *
      generalize rt[k] = r at *
      obtain ⟨m0, m1⟩ := mul_small hy.1 hy.2 y0 y1
      have hw1 : IntKind.i64.wrap (r * y) = r * y := wrapIn _ (by omega) (by omega)
      have hw2 : IntKind.i64.wrap (a - r * y) = a - r * y := wrapIn _ (by omega) (by omega)
      have hmx := Lib.hid (show max (-100) (a - r * y) = max (a - r * y) (-100) from by omega)
      have hi0 : (0 : Int) ≤ (k : Int) := by omega
      have hi1 : (k : Int) < (lv.length : Int) := by omega
      have hi2 : (k : Int) < (rt.length : Int) := by omega
      have hszr : W.heap.size ≤ wr.heap.size := HBr.out.size
      have qm := Lib.hid (fun W => max_calls (-100) (a - r * y) W)
      rw [hmx.out] at qm
      generalize max (a - r * y) (-100) = M at *
      generalize aftN lv rt y k = us at *
      have hle := Lib.hid (show us.length ≤ 1000 from by have := hln.out; omega)
      have hS : AfS wr W.heap.size b1 (o1 + k) a b2 (o2 + k) r wr := ⟨Below.refl _ _, c0, c1⟩
      clear c0 c1
      go_wp2_with fail
      refine wp_region_held_drew (S := (AfS wr W.heap.size b1 (o1 + k) a b2 (o2 + k) r)) (by kernel_rfl) ?r22_hS0 (fun hHeld => ?r22_rest)
      case r22_hS0 => (try dsimp only); first | assumption | exact AfS.keep hszr hbb hbb2 (by assumption) ((Below.refl _ _).drew) | exact AfS.keep hszr hbb hbb2 (by assumption) ((Below.refl _ _).alloc (Nat.le_refl _) _) | exact AfS.keepG hszr hbb hbb2 (by assumption) hG4 (fun j hj => HO.out.base j hj)
      refine wpAnyH_take (i := 0) (v := ?r22_vv0) (by (simp only [List.getElem?_toArray, List.getElem?_cons_succ, List.getElem?_cons_zero]; rfl)) (by kernel_rfl) (by kernel_rfl) (by kernel_rfl) (by exact fun _ _ _ h => h) (Or.inl ⟨by rfl, ?r22_hy0⟩) (by assumption) ?r22_rest0
      case r22_hy0 => intro w hSw; (try dsimp only at hSw); (go_simp <;> (with_reducible rfl))
      try simp only [Act.put, List.setIfInBounds_toArray, List.set_cons_zero, List.set_cons_succ]
      refine wpAnyH_take (i := 1) (v := ?r22_vv1) (by (simp only [List.getElem?_toArray, List.getElem?_cons_succ, List.getElem?_cons_zero]; rfl)) (by kernel_rfl) (by kernel_rfl) (by kernel_rfl) (by exact fun _ _ _ h => h) (Or.inl ⟨by rfl, ?r22_hy1⟩) (by assumption) ?r22_rest1
      case r22_hy1 => intro w hSw; (try dsimp only at hSw); (go_simp <;> (with_reducible rfl))
      try simp only [Act.put, List.setIfInBounds_toArray, List.set_cons_zero, List.set_cons_succ]
      refine wpAnyH_take (i := 2) (v := ?r22_vv2) (by (simp only [List.getElem?_toArray, List.getElem?_cons_succ, List.getElem?_cons_zero]; rfl)) (by kernel_rfl) (by kernel_rfl) (by kernel_rfl) (by exact fun _ _ _ h => h) (Or.inl ⟨by rfl, ?r22_hy2⟩) (by assumption) ?r22_rest2
      case r22_hy2 => intro w hSw; (try dsimp only at hSw); (go_simp <;> (with_reducible rfl))
      try simp only [Act.put, List.setIfInBounds_toArray, List.set_cons_zero, List.set_cons_succ]
      refine wpAnyH_take (i := 3) (v := ?r22_vv3) (by (simp only [List.getElem?_toArray, List.getElem?_cons_succ, List.getElem?_cons_zero]; rfl)) (by kernel_rfl) (by kernel_rfl) (by kernel_rfl) (by exact fun _ _ _ h => h) (Or.inl ⟨by rfl, ?r22_hy3⟩) (by assumption) ?r22_rest3
      case r22_hy3 => intro w hSw; (try dsimp only at hSw); (go_simp <;> (with_reducible rfl))
      try simp only [Act.put, List.setIfInBounds_toArray, List.set_cons_zero, List.set_cons_succ]
      refine wpAnyH_take (i := 4) (v := ?r22_vv4) (by (simp only [List.getElem?_toArray, List.getElem?_cons_succ, List.getElem?_cons_zero]; rfl)) (by kernel_rfl) (by kernel_rfl) (by kernel_rfl) (by exact fun _ _ _ h => h) (Or.inl ⟨by rfl, ?r22_hy4⟩) (by assumption) ?r22_rest4
      case r22_hy4 => intro w hSw; (try dsimp only at hSw); (go_simp <;> (with_reducible rfl))
      try simp only [Act.put, List.setIfInBounds_toArray, List.set_cons_zero, List.set_cons_succ]
      refine wpAnyH_take (i := 5) (v := ?r22_vv5) (by (simp only [List.getElem?_toArray, List.getElem?_cons_succ, List.getElem?_cons_zero]; rfl)) (by kernel_rfl) (by kernel_rfl) (by kernel_rfl) (by exact fun _ _ _ h => h) (Or.inl ⟨by rfl, ?r22_hy5⟩) (by assumption) ?r22_rest5
      case r22_hy5 => intro w hSw; (try dsimp only at hSw); (go_simp <;> (with_reducible rfl))
      try simp only [Act.put, List.setIfInBounds_toArray, List.set_cons_zero, List.set_cons_succ]
      refine wpAnyH_take (i := 6) (v := ?r22_vv6) (by (simp only [List.getElem?_toArray, List.getElem?_cons_succ, List.getElem?_cons_zero]; rfl)) (by kernel_rfl) (by kernel_rfl) (by kernel_rfl) (by exact fun _ _ _ h => h) (Or.inl ⟨by rfl, ?r22_hy6⟩) (by assumption) ?r22_rest6
      case r22_hy6 => intro w hSw; (try dsimp only at hSw); (go_simp <;> (with_reducible rfl))
      try simp only [Act.put, List.setIfInBounds_toArray, List.set_cons_zero, List.set_cons_succ]
      refine wpAnyH_take (i := 7) (v := ?r22_vv7) (by (simp only [List.getElem?_toArray, List.getElem?_cons_succ, List.getElem?_cons_zero]; rfl)) (by kernel_rfl) (by kernel_rfl) (by kernel_rfl) (by exact fun _ _ _ h => h) (Or.inl ⟨by rfl, ?r22_hy7⟩) (by assumption) ?r22_rest7
      case r22_hy7 => intro w hSw; (try dsimp only at hSw); (go_simp <;> (with_reducible rfl))
      try simp only [Act.put, List.setIfInBounds_toArray, List.set_cons_zero, List.set_cons_succ]
      refine wpAnyH_take (i := 8) (v := ?r22_vv8) (by (simp only [List.getElem?_toArray, List.getElem?_cons_succ, List.getElem?_cons_zero]; rfl)) (by kernel_rfl) (by kernel_rfl) (by kernel_rfl) (by exact fun _ _ _ h => h) (Or.inl ⟨by rfl, ?r22_hy8⟩) (by assumption) ?r22_rest8
      case r22_hy8 => intro w hSw; (try dsimp only at hSw); (go_simp <;> (with_reducible rfl))
      try simp only [Act.put, List.setIfInBounds_toArray, List.set_cons_zero, List.set_cons_succ]
      refine wpAnyH_take (i := 9) (v := ?r22_vv9) (by (simp only [List.getElem?_toArray, List.getElem?_cons_succ, List.getElem?_cons_zero]; rfl)) (by kernel_rfl) (by kernel_rfl) (by kernel_rfl) (by exact fun _ _ _ h => h) (Or.inl ⟨by rfl, ?r22_hy9⟩) (by assumption) ?r22_rest9
      case r22_hy9 => intro w hSw; (try dsimp only at hSw); (go_simp <;> (with_reducible rfl))
      try simp only [Act.put, List.setIfInBounds_toArray, List.set_cons_zero, List.set_cons_succ]
      refine wpAnyH_take (i := 10) (v := ?r22_vv10) (by (simp only [List.getElem?_toArray, List.getElem?_cons_succ, List.getElem?_cons_zero]; rfl)) (by kernel_rfl) (by kernel_rfl) (by kernel_rfl) (by exact fun _ _ _ h => h) (Or.inl ⟨by rfl, ?r22_hy10⟩) (by assumption) ?r22_rest10
      case r22_hy10 => intro w hSw; (try dsimp only at hSw); (go_simp <;> (with_reducible rfl))
      try simp only [Act.put, List.setIfInBounds_toArray, List.set_cons_zero, List.set_cons_succ]
      refine wpAnyH_take (i := 11) (v := ?r22_vv11) (by (simp only [List.getElem?_toArray, List.getElem?_cons_succ, List.getElem?_cons_zero]; rfl)) (by kernel_rfl) (by kernel_rfl) (by kernel_rfl) (by exact fun _ _ _ h => h) (Or.inl ⟨by rfl, ?r22_hy11⟩) (by assumption) ?r22_rest11
      case r22_hy11 => intro w hSw; (try dsimp only at hSw); (go_simp <;> (with_reducible rfl))
      try simp only [Act.put, List.setIfInBounds_toArray, List.set_cons_zero, List.set_cons_succ]
      refine wpAnyH_ready (rs := [12]) (by kernel_rfl) (by simp) ?_
      refine AllReadyH.cons (by (simp only [List.getElem?_toArray, List.getElem?_cons_succ, List.getElem?_cons_zero]; rfl)) (fun K hK => ?_) AllReadyH.nil
      go_simp
      (go_at_call 146; with_reducible refine (qm.out _).mono ?_; rintro e w3 ⟨rfl, rfl⟩)
      try go_wp2_with fail
      refine hK.out _ _ ?r22_hS12 (fun hHeld => ?r22_r12)
      case r22_hS12 => (try dsimp only); first | assumption | exact AfS.keep hszr hbb hbb2 (by assumption) ((Below.refl _ _).drew) | exact AfS.keep hszr hbb hbb2 (by assumption) ((Below.refl _ _).alloc (Nat.le_refl _) _) | exact AfS.keepG hszr hbb hbb2 (by assumption) hG4 (fun j hj => HO.out.base j hj)
      clear hK K
      try simp only [Act.put, List.setIfInBounds_toArray, List.set_cons_zero, List.set_cons_succ]
      refine wpAnyH_ready (rs := [13]) (by kernel_rfl) (by simp) ?_
      refine AllReadyH.cons (by (simp only [List.getElem?_toArray, List.getElem?_cons_succ, List.getElem?_cons_zero]; rfl)) (fun K hK => ?_) AllReadyH.nil
      go_simp
      skip
      try go_wp2_with fail
      refine hK.out _ _ ?r22_hS13 (fun hHeld => ?r22_r13)
      case r22_hS13 => (try dsimp only); first | assumption | exact AfS.keep hszr hbb hbb2 (by assumption) ((Below.refl _ _).drew) | exact AfS.keep hszr hbb hbb2 (by assumption) ((Below.refl _ _).alloc (Nat.le_refl _) _) | exact AfS.keepG hszr hbb hbb2 (by assumption) hG4 (fun j hj => HO.out.base j hj)
      clear hK K
      try simp only [Act.put, List.setIfInBounds_toArray, List.set_cons_zero, List.set_cons_succ]
      refine wpAnyH_ready (rs := [14]) (by kernel_rfl) (by simp) ?_
      refine AllReadyH.cons (by (simp only [List.getElem?_toArray, List.getElem?_cons_succ, List.getElem?_cons_zero]; rfl)) (fun K hK => ?_) AllReadyH.nil
      (refine step_app appI64 rfl _ _ rfl W.heap.size us [M] _ _ rfl rfl (by first | exact (HO.out.ext ((Below.refl _ _).drew)).alloc _ | exact (HO.out.alloc _).ext ((Below.refl _ _).drew)) (by first | exact bk_i64s [M] (Bk.new _ _ _ _ rfl) rfl (by simp) | exact bk_i64s [M] (Bk.drw (Bk.new _ _ _ _ rfl)) rfl (by simp)) (by have := hle.out; simp; omega) (by have := hle.out; simp; omega) (Nat.le_trans hszr (by simp)) ?_; intro v4 w4 hO4 hG4 hat)
      refine hK.out _ _ ?r22_hS14 (fun hHeld => ?r22_r14)
      case r22_hS14 => (try dsimp only); first | assumption | exact AfS.keep hszr hbb hbb2 (by assumption) ((Below.refl _ _).drew) | exact AfS.keep hszr hbb hbb2 (by assumption) ((Below.refl _ _).alloc (Nat.le_refl _) _) | exact AfS.keepG hszr hbb hbb2 (by assumption) hG4 (fun j hj => HO.out.base j hj)
      clear hK K
      try simp only [Act.put, List.setIfInBounds_toArray, List.set_cons_zero, List.set_cons_succ]
      refine wpAnyH_take (i := 15) (v := ?r22_vv15) (by (simp only [List.getElem?_toArray, List.getElem?_cons_succ, List.getElem?_cons_zero]; rfl)) (by kernel_rfl) (by kernel_rfl) (by kernel_rfl) (by exact fun _ _ _ h => h) (Or.inl ⟨by rfl, ?r22_hy15⟩) (by assumption) ?r22_rest15
      case r22_hy15 => intro w hSw; (try dsimp only at hSw); (go_simp <;> (with_reducible rfl))
      try simp only [Act.put, List.setIfInBounds_toArray, List.set_cons_zero, List.set_cons_succ]
      refine wpAnyH_done (by kernel_rfl) ?_ _
      have h9 := Lib.hid (show AfS wr W.heap.size b1 (o1 + k) a b2 (o2 + k) r w4 from by assumption)
      have HO4 := Lib.hid hO4
      clear hS hO4 hG4 hat
      repeat clear hHeld
      rw [← hst.out] at HO4
      have HB4 := Lib.hid (HBr.out.trans h9.out.1)
      go_wp2_with fail
      go_roundw
      case rel => exact ⟨k + 1, by omega, by go_num, HO4.out, HB4.out⟩
      case measure => first | (simp [intOf]; done) | (simp [intOf]; omega)
    · obtain rfl : k = lv.length := by omega
      have hE := Lib.hid (show aftN lv rt y lv.length = aftL lv rt y from rfl)
      rw [hE.out] at HO
      go_wp2_with fail
      go_ret
      exact ⟨_, rfl, HO.out, HBr.out⟩
set_option maxHeartbeats 2000000 in
theorem sunk_calls (lv rt : List Int) (v u : Value) (y : Int) (y0 : 0 ≤ y) (y1 : y ≤ 60) (hl : smallL lv) (hr : smallR rt) (hlen : rt.length = lv.length) (hn : lv.length ≤ 1000) (W : World) (hs : Sl W W.heap.size i64c 1 v lv) (ht : Sl W W.heap.size i64c 1 u rt) :
    Calls Try.prog 97 #[v, u, .int .i64 y] W (RetRow W 2 i64c 1 (aftL lv rt y)) := by
  obtain ⟨A, cap, rfl, hn1, hm1, hcell⟩ := hs.i64
  obtain ⟨A2, cap2, rfl, hn2, hm2, hcell2⟩ := ht.i64
  have HL := Lib.hid hl
  have HR := Lib.hid hr
  have hlen2 := Lib.hid hlen
  have HB := Lib.hid ((Below.refl W.heap.size W).alloc (Nat.le_refl _) (.cells #[] 2))
  have hO0 := Lib.hid (Own.empty (α := Int) (c := i64c) (sz := 1) (E := 2) W W.heap.size W.heap.size rfl (Nat.le_refl _))
  clear hs ht hl hr hlen
  go_enter Try.func97, Try.ntmps97
  go_wp2_with fail
  generalize W.alloc (.cells #[] 2) = W1 at *
  go_loopw [7, 8, 9, 13] (fun r _ _ c wr => ∃ k : Nat, k ≤ lv.length ∧ c = .int .i64 (k : Int) ∧ Own wr W.heap.size 2 i64c 1 r (aftN lv rt y k) ∧ Below W.heap.size W wr) (fun _ _ _ c _ => lv.length - (intOf c).toNat)
  case atStart => exact ⟨0, by omega, rfl, hO0.out, HB.out⟩
  case round =>
    obtain ⟨k, hk, rfl, hO, hb⟩ := hrel
    have HO := Lib.hid hO
    have HBr := Lib.hid hb
    have hln := Lib.hid (aftN_len lv rt y k)
    clear hO hb
    by_cases hlt : k < lv.length
    · have hlt2 : k < rt.length := by have := hlen2.out; omega
      obtain ⟨b1, o1, rfl, hbb, c0⟩ := hcell k hlt
      obtain ⟨b2, o2, rfl, hbb2, c1⟩ := hcell2 k hlt2
      have hst := Lib.hid (aftN_succ lv rt y k hlt hlt2)
      have hx := HL.out _ (List.getElem_mem hlt)
      have hy := HR.out _ (List.getElem_mem hlt2)
      have c0 := (HBr.out.cell (p := ⟨b1, _, none⟩) hbb).trans c0
      have c1 := (HBr.out.cell (p := ⟨b2, _, none⟩) hbb2).trans c1
      clear hcell hcell2
      generalize lv[k] = a at *
      generalize rt[k] = r at *
      obtain ⟨m0, m1⟩ := mul_small hy.1 hy.2 y0 y1
      generalize aftN lv rt y k = us at *
      have hle := Lib.hid (show us.length ≤ 1000 from by have := hln.out; omega)
      have hszr := HBr.out.size
      by_cases hge : -100 ≤ a - r * y
      · have hM := Lib.hid (show max (a - r * y) (-100) = a - r * y from by omega)
        rw [hM.out] at hst
        have hba := Lib.hid (HBr.out.alloc HBr.out.size (.cells #[.int .i64 (a - r * y)] 2))
        go_wp2_with (at_builtin; refine push_i64at rfl _ _ rfl W.heap.size us _ rfl (HO.out.alloc _) ⟨_, 0, none⟩ (a - r * y) rfl ((Bk.new _ _ _ _ rfl).cell 0 _ rfl) (by have := hle.out; omega) (Nat.le_trans hszr (by simp)) ?_)
        intro v4 w4 hO4 hG4 hat
        have hb4 := Lib.hid (hba.out.grown hG4 hba.out.size (fun j hj => HO.out.base j hj))
        rw [← hst.out] at hO4
        have hO4 := Lib.hid hO4
        clear hG4 hat
        go_wp2_with fail
        go_roundw
        case rel => exact ⟨k + 1, by omega, by go_num, hO4.out, hb4.out⟩
        case measure => first | (simp [intOf]; done) | (simp [intOf]; omega)
      · have hM := Lib.hid (show max (a - r * y) (-100) = -100 from by omega)
        rw [hM.out] at hst
        have hba := Lib.hid (HBr.out.alloc HBr.out.size (.cells #[.int .i64 (-100)] 2))
        go_wp2_with (at_builtin; refine push_i64at rfl _ _ rfl W.heap.size us _ rfl (HO.out.alloc _) ⟨_, 0, none⟩ (-100) rfl ((Bk.new _ _ _ _ rfl).cell 0 _ rfl) (by have := hle.out; omega) (Nat.le_trans hszr (by simp)) ?_)
        intro v4 w4 hO4 hG4 hat
        have hb4 := Lib.hid (hba.out.grown hG4 hba.out.size (fun j hj => HO.out.base j hj))
        rw [← hst.out] at hO4
        have hO4 := Lib.hid hO4
        clear hG4 hat
        go_wp2_with fail
        go_roundw
        case rel => exact ⟨k + 1, by omega, by go_num, hO4.out, hb4.out⟩
        case measure => first | (simp [intOf]; done) | (simp [intOf]; omega)
    · obtain rfl : k = lv.length := by omega
      have hE := Lib.hid (show aftN lv rt y lv.length = aftL lv rt y from rfl)
      rw [hE.out] at HO
      go_wp2_with fail
      go_ret
      exact ⟨_, rfl, HO.out, HBr.out⟩
def sinkB (w h : Int) (sl : List Slab) (lv rt : List Int) : Bool := levB w h sl lv && numsB w h sl rt 0 10
def sinkC (w h : Int) (sl : List Slab) (lv rt : List Int) (fine : Bool) : Int := if sinkB w h sl lv rt = true then (if fine = true then 0 else 2) else 1
theorem sinkC_ok {w h : Int} {sl : List Slab} {lv rt : List Int} {fine : Bool} (hc : sinkC w h sl lv rt fine = 0) : levB w h sl lv = true ∧ numsB w h sl rt 0 10 = true ∧ fine = true := by
  unfold sinkC at hc
  split at hc
  · rename_i hs
    rw [sinkB, Bool.and_eq_true] at hs
    split at hc
    · exact ⟨hs.1, hs.2, by assumption⟩
    · cases hc
  · cases hc
set_option maxHeartbeats 1000000 in
theorem sSinks_calls (b o : Nat) (w h : Int) (z : Value) (sl : List Slab) (lv : List Int) (v : Value) (rt : List Int) (u : Value) (fine : Bool) (W : World) (hq : SqIn W w h z sl) (ha : Sq.at_ W b o w h z) (hs : Sl W W.heap.size i64c 1 v lv) (ht : Sl W W.heap.size i64c 1 u rt) :
    Calls Try.prog 92 #[.pointer (some ⟨b, o, none⟩), v, u, .bool fine] W fun e w' => e = .returned (.int .i64 (sinkC w h sl lv rt fine)) ∧ Below W.heap.size W w' := by
  have qn := Lib.hid (sLevels_calls b o w h z sl lv v W hq ha hs)
  have qm := Lib.hid (fun w' (hb : Below W.heap.size W w') => sNums_calls b o w h z sl rt u 0 10 w' (hq.ext hb) (ha.ext hb) (ht.ext hb))
  have hR := Lib.hid (show sinkC w h sl lv rt fine = if (levB w h sl lv && numsB w h sl rt 0 10) = true then (if fine = true then 0 else 2) else 1 from rfl)
  clear hq ha hs ht
  generalize levB w h sl lv = E at *
  generalize numsB w h sl rt 0 10 = F at *
  go_enter Try.func92, Try.ntmps92
  go_wp2_with fail
  refine qn.out.mono ?_
  rintro e w1 ⟨rfl, hb1⟩
  have HB1 := Lib.hid hb1
  have qm1 := Lib.hid (qm.out w1 hb1)
  clear hb1 qm
  cases E
  · go_wp2_with fail
    go_ret
    exact ⟨ret_int (by rw [hR.out]; rfl), HB1.out⟩
  · go_wp2_with fail
    refine qm1.out.mono ?_
    rintro e w2 ⟨rfl, hb2⟩
    have HB2 := Lib.hid (ext_trans HB1.out hb2)
    clear hb2
    cases F <;> cases fine
    all_goals
      go_wp2_with fail
      go_ret
      exact ⟨ret_int (by rw [hR.out]; rfl), HB2.out⟩
end Go.Proofs.Ytbmkhhhlnollmaa
