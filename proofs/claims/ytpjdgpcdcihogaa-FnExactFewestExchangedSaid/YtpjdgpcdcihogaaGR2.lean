/-
How a crack grows: in plain lists, and of the program. Conditions: numbers are of their kinds; slices can be read.
-/
import Derived.Test.YtpjdgpcdcihogaaSQ10
import Derived.Test.YtpjdgpcdcihogaaGR1
set_option linter.unusedVariables false
set_option linter.unusedSimpArgs false
set_option maxRecDepth 100000
namespace Go.Proofs.Ytpjdgpcdcihogaa
open Go.RowKit
def turnsOf (way : Int) : List Int := [way, (way + 3) % 4, (way + 1) % 4]
def nextWay (sl : List Slab) (p : Cell) (way : Int) : Int := findI (fun t => edgeOf sl p.x p.y t) (turnsOf way)
def turnAt (sl : List Slab) (p : Cell) (way : Int) : Int := (turnsOf way).getD (nextWay sl p way).toNat 0
/-- The points of a crack, some of which are known, when so many years are left. -/
def growL (sl : List Slab) : Nat → List Cell → Cell → Int → List Cell
  | 0, out, _, _ => out
  | n + 1, out, p, way => if nextWay sl p way < 0 then out else if aheadC p (turnAt sl p way) ∈ out then out else growL sl n (out ++ [aheadC p (turnAt sl p way)]) (aheadC p (turnAt sl p way)) (turnAt sl p way)
theorem turns_in {way : Int} (h : 0 ≤ way ∧ way ≤ 3) : ∀ t ∈ turnsOf way, 0 ≤ t ∧ t ≤ 3 := by
  intro t ht
  simp [turnsOf] at ht
  rcases ht with rfl | rfl | rfl <;> omega
theorem findI_congr {α : Type} (p q : α → Bool) : ∀ (xs : List α), (∀ x ∈ xs, p x = q x) → findI p xs = findI q xs := by
  intro xs h
  unfold findI
  have : xs.findIdx? p = xs.findIdx? q := by
    induction xs with
    | nil => rfl
    | cons x xs ih =>
      rw [List.findIdx?_cons, List.findIdx?_cons, h x (by simp), ih (fun y hy => h y (List.mem_cons_of_mem _ hy))]
  rw [this]
theorem findI_spec {α : Type} (p : α → Bool) (xs : List α) (j : Nat) (h : findI p xs = (j : Int)) : ∃ hj : j < xs.length, p xs[j] = true := by
  unfold findI at h
  cases hx : xs.findIdx? p with
  | none => rw [hx] at h; simp at h
  | some i =>
    rw [hx] at h
    have h : i = j := by have h2 : (i : Int) = (j : Int) := h; omega
    subst h
    obtain ⟨hi, hp, _⟩ := List.findIdx?_eq_some_iff_getElem.1 hx
    exact ⟨hi, hp⟩
theorem nextWay_spec {sl : List Slab} {p : Cell} {way : Int} (hw : 0 ≤ way ∧ way ≤ 3) (h : ¬ nextWay sl p way < 0) : ∃ j : Nat, j < 3 ∧ nextWay sl p way = (j : Int) ∧ (turnsOf way)[j]? = some (turnAt sl p way) ∧ edgeOf sl p.x p.y (turnAt sl p way) = true ∧ 0 ≤ turnAt sl p way ∧ turnAt sl p way ≤ 3 := by
  obtain ⟨j, hj⟩ : ∃ j : Nat, nextWay sl p way = (j : Int) := ⟨(nextWay sl p way).toNat, (Int.toNat_of_nonneg (by omega)).symm⟩
  obtain ⟨hl, hp⟩ := findI_spec _ _ j hj
  have h3 : (turnsOf way).length = 3 := rfl
  have ht : turnAt sl p way = (turnsOf way)[j] := by
    unfold turnAt
    rw [hj]
    simp [List.getD_eq_getElem?_getD, hl]
  refine ⟨j, by omega, hj, by rw [ht]; simp [hl], by rw [ht]; exact hp, ?_⟩
  have := turns_in hw _ (List.getElem_mem hl)
  rw [ht]; exact this
/-- Along a joint one stays within the square. -/
theorem edge_in {w h : Int} {sl : List Slab} (hl : ∀ t ∈ sl, liesB w h t = true) {p : Cell} (hx : 0 ≤ p.x ∧ p.x ≤ w) (hy : 0 ≤ p.y ∧ p.y ≤ h) {t : Int} (ht : 0 ≤ t ∧ t ≤ 3) (he : edgeOf sl p.x p.y t = true) : (0 ≤ (aheadC p t).x ∧ (aheadC p t).x ≤ w) ∧ (0 ≤ (aheadC p t).y ∧ (aheadC p t).y ≤ h) := by
  unfold edgeOf at he
  unfold aheadC
  by_cases e0 : t = 0
  · rw [if_pos e0] at he ⊢
    refine ⟨hx, ?_, by show p.y - 1 ≤ h; omega⟩
    show 0 ≤ p.y - 1
    refine Decidable.byContradiction fun hn => ?_
    rw [jointB_out1 hl _ _ (by omega)] at he
    cases he
  rw [if_neg e0] at he ⊢
  by_cases e1 : t = 1
  · rw [if_pos e1] at he ⊢
    refine ⟨⟨by show 0 ≤ p.x + 1; omega, ?_⟩, hy⟩
    show p.x + 1 ≤ w
    refine Decidable.byContradiction fun hn => ?_
    rw [jointB_out1 hl _ _ (by omega)] at he
    cases he
  rw [if_neg e1] at he ⊢
  by_cases e2 : t = 2
  · rw [if_pos e2] at he ⊢
    refine ⟨hx, by show 0 ≤ p.y + 1; omega, ?_⟩
    show p.y + 1 ≤ h
    refine Decidable.byContradiction fun hn => ?_
    rw [jointB_out1 hl _ _ (by omega)] at he
    cases he
  rw [if_neg e2] at he ⊢
  refine ⟨⟨?_, by show p.x - 1 ≤ w; omega⟩, hy⟩
  show 0 ≤ p.x - 1
  refine Decidable.byContradiction fun hn => ?_
  rw [jointB_out1 hl _ _ (by omega)] at he
  cases he
theorem growFn (ws : List Int) (zw : Value) (b : Nat) (W : World) (hs : Sl W W.heap.size i64c 1 zw ws) (hb : b < W.heap.size) (hc : W.cell? ⟨b, 0, none⟩ = some zw) (t : Int) : Tells Try.prog 100 #[.pointer (some ⟨b, 0, none⟩)] i64v (fun t => decide (t ∈ ws)) W t := by
  intro W' hW
  obtain ⟨A, cap, rfl, -, -, -⟩ := hs.i64
  have c0 := (hW.cell (p := ⟨b, 0, none⟩) hb).trans hc
  have qc := Lib.hid (containsI64 ws _ t _ (hs.ext hW))
  unfold i64v
  go_enter Try.func100, Try.ntmps100
  go_wp2_with fail
  refine qc.out.mono ?_
  rintro e w1 ⟨rfl, rfl⟩
  go_wp2_with fail
  go_ret
  exact ⟨rfl, Below.refl _ _⟩
theorem sl3i (W : World) (a b c : Int) (g : Nat) (hg : g = W.heap.size) (E : TypeId) : Sl (W.alloc (.cells #[.int .i64 a, .int .i64 b, .int .i64 c] E)) (W.alloc (.cells #[.int .i64 a, .int .i64 b, .int .i64 c] E)).heap.size i64c 1 (.slice (some ⟨g, 0, none⟩) 3 3) [a, b, c] :=
  Sl.litw i64c 1 i64c_len W [a, b, c] _ rfl g hg E (by simp)
set_option maxHeartbeats 4000000 in
theorem grow_calls (w h : Int) (z : Value) (sl : List Slab) (hl : ∀ t ∈ sl, liesB w h t = true) (hw : w ≤ 12 ∧ h ≤ 12) (p0 : Cell) (hx : 0 ≤ p0.x ∧ p0.x ≤ w) (hy : 0 ≤ p0.y ∧ p0.y ≤ h) (way0 : Int) (hway : 0 ≤ way0 ∧ way0 ≤ 3) (n : Nat) (hn : n ≤ 60) (W : World) (hq : SqIn W w h z sl) :
    Calls Try.prog 53 #[sqv w h z, p0.v, .int .i64 way0, .int .i64 (n : Int)] W fun e w' => ∃ g c, e = .returned (.slice (some ⟨g, 0, none⟩) (growL sl n [p0] p0 way0).length c) ∧ Own w' W.heap.size 36 Cell.c 2 (.slice (some ⟨g, 0, none⟩) (growL sl n [p0] p0 way0).length c) (growL sl n [p0] p0 way0) ∧ Below W.heap.size W w' := by
  obtain ⟨A, cap, hz, -, -, -⟩ := hq.sl.slab
  subst hz
  have eg := Lib.hid (enters_of Try.func100 (by kernel_rfl) rfl)
  obtain ⟨RES, hRES0⟩ : ∃ R, R = growL sl n [p0] p0 way0 := ⟨_, rfl⟩
  rw [← hRES0]
  have hRES := Lib.hid hRES0
  clear hRES0
  have HB := Lib.hid (ext_alloc (ext_alloc ((Below.refl W.heap.size W).alloc (Nat.le_refl _) (.cells #[.int .i8 w, .int .i8 h, .slice A sl.length cap] 34)) (.cells #[.int .i8 p0.x, .int .i8 p0.y] 36)) (.cells #[.int .i8 p0.x, .int .i8 p0.y] 36))
  have HQ := Lib.hid hq
  have K0 := Lib.hid (((Bk.new W 34 #[.int .i8 w, .int .i8 h, .slice A sl.length cap] W.heap.size rfl).alloc (.cells #[.int .i8 p0.x, .int .i8 p0.y] 36)).alloc (.cells #[.int .i8 p0.x, .int .i8 p0.y] 36))
  have K1 := Lib.hid ((Bk.new (W.alloc (.cells #[.int .i8 w, .int .i8 h, .slice A sl.length cap] 34)) 36 #[.int .i8 p0.x, .int .i8 p0.y] (W.heap.size + 1) (by simp)).alloc (.cells #[.int .i8 p0.x, .int .i8 p0.y] 36))
  have hO0 := Lib.hid (show Own (((W.alloc (.cells #[.int .i8 w, .int .i8 h, .slice A sl.length cap] 34)).alloc (.cells #[.int .i8 p0.x, .int .i8 p0.y] 36)).alloc (.cells #[.int .i8 p0.x, .int .i8 p0.y] 36)) (W.heap.size + 1 + 1) 36 Cell.c 2 (.slice (some ⟨W.heap.size + 1 + 1, 0, none⟩) 1 1) [p0] from by
    have := World.ownsRow_lit (base := W.heap.size + 1 + 1) (e := 36) (size := 2) ((W.alloc (.cells #[.int .i8 w, .int .i8 h, .slice A sl.length cap] 34)).alloc (.cells #[.int .i8 p0.x, .int .i8 p0.y] 36)) #[.int .i8 p0.x, .int .i8 p0.y] 1 (by simp) (by simp [maxLen]) (by simp)
    refine ⟨?_⟩
    simpa [Cell.c] using this)
  have HL := Lib.hid hl
  clear hq
  unfold sqv Cell.v
  go_enter Try.func53, Try.ntmps53
  go_wp2_with fail
  generalize ((W.alloc (.cells #[.int .i8 w, .int .i8 h, .slice A sl.length cap] 34)).alloc (.cells #[.int .i8 p0.x, .int .i8 p0.y] 36)).alloc (.cells #[.int .i8 p0.x, .int .i8 p0.y] 36) = W1 at *
  go_loopw [2, 9, 15] (fun t o i wr => ∃ (k : Nat) (way : Int) (out : List Cell) (p : Cell) (g c : Nat), k ≤ n ∧ i = .int .i64 k ∧ t = .int .i64 way ∧ (0 ≤ way ∧ way ≤ 3) ∧ o = .slice (some ⟨g, 0, none⟩) out.length c ∧ out.length ≤ k + 1 ∧ RES = growL sl (n - k) out p way ∧ (0 ≤ p.x ∧ p.x ≤ w) ∧ (0 ≤ p.y ∧ p.y ≤ h) ∧
    Own wr (W.heap.size + 1 + 1) 36 Cell.c 2 (.slice (some ⟨g, 0, none⟩) out.length c) out ∧ Bk wr W.heap.size 34 #[.int .i8 w, .int .i8 h, .slice A sl.length cap] ∧ Bk wr (W.heap.size + 1) 36 #[.int .i8 p.x, .int .i8 p.y] ∧ Below W.heap.size W wr) (fun _ _ i _ => n - (intOf i).toNat)
  case atStart => exact ⟨0, way0, [p0], p0, _, 1, by omega, rfl, rfl, hway, rfl, by simp, hRES.out, hx, hy, hO0.out, K0.out, K1.out, HB.out⟩
  case round =>
    obtain ⟨k, way, out, p, g, c, hk, rfl, rfl, hwy, rfl, hlen, hres, hpx, hpy, hO, kq, kp, hb⟩ := hrel
    obtain ⟨wo, rfl⟩ : ∃ wo : World, wo = wr := ⟨_, rfl⟩
    have HO := Lib.hid hO
    have HBo := Lib.hid hb
    have KQ := Lib.hid kq
    have KP := Lib.hid kp
    have HRES := Lib.hid hres
    have HLEN := Lib.hid hlen
    clear hO hb hres hlen
    by_cases hlt : k < n
    · have s0 := kq.cell 0 _ rfl
      have s1 := kq.cell 1 _ rfl
      have s2 := kq.cell 2 _ rfl
      have t0 := kp.cell 0 _ rfl
      have t1 := kp.cell 1 _ rfl
      have qw := Lib.hid (ways_calls w h _ sl p ⟨hpx.1, by omega⟩ ⟨hpy.1, by omega⟩ wo (HQ.out.ext HBo.out))
      have hstep := Lib.hid (show growL sl (n - k) out p way = if nextWay sl p way < 0 then out else if aheadC p (turnAt sl p way) ∈ out then out else growL sl (n - (k + 1)) (out ++ [aheadC p (turnAt sl p way)]) (aheadC p (turnAt sl p way)) (turnAt sl p way) from by rw [show n - k = (n - (k + 1)) + 1 by omega, growL])
      have hkn : decide ((k : Int) < (n : Int)) = true := by rw [decide_eq_true_eq]; omega
      clear kq kp
      unfold sqv Cell.v at qw
      go_wp2_with fail
      refine qw.out.mono ?_
      rintro e w1 ⟨gw, cw, rfl, hOw, hb1⟩
      have hal := (Below.refl w1.heap.size w1).alloc (Nat.le_refl _) (.cells #[.slice (some ⟨gw, 0, none⟩) (waysOf sl p.x p.y).length cw] 29)
      have HBA := Lib.hid (ext_trans hb1 hal)
      have hSw := Lib.hid ((hOw.sl i64c_len).ext hal)
      have hcw := Lib.hid ((Bk.new w1 29 #[.slice (some ⟨gw, 0, none⟩) (waysOf sl p.x p.y).length cw] w1.heap.size rfl).cell 0 _ rfl)
      have hlw := Lib.hid (show w1.heap.size < (w1.alloc (.cells #[.slice (some ⟨gw, 0, none⟩) (waysOf sl p.x p.y).length cw] 29)).heap.size from by simp)
      have hnw := Lib.hid (show findI (fun t => decide (t ∈ waysOf sl p.x p.y)) [way, (way + 3) % 4, (way + 1) % 4] = nextWay sl p way from findI_congr _ _ _ (fun t ht => by
        have := turns_in hwy t ht
        rw [Bool.eq_iff_iff, decide_eq_true_eq]
        exact waysOf_mem sl p.x p.y t this.1 this.2))
      clear hb1 hal hOw
      generalize waysOf sl p.x p.y = ws at *
      have b0 : (0 : Int) ≤ way + 3 := by omega
      have b1 : (0 : Int) ≤ way + 1 := by omega
      obtain ⟨y0, y1⟩ := hwy
      have hal2 := Lib.hid ((Below.refl (w1.alloc (.cells #[.slice (some ⟨gw, 0, none⟩) ws.length cw] 29)).heap.size (w1.alloc (.cells #[.slice (some ⟨gw, 0, none⟩) ws.length cw] 29))).alloc (Nat.le_refl _) (.cells #[.int .i64 way, .int .i64 ((way + 3) % 4), .int .i64 ((way + 1) % 4)] 2))
      go_wp2_with fail
      refine (indexFunci64 [way, (way + 3) % 4, (way + 1) % 4] _ _ (sl3i _ _ _ _ _ (by simp) _) _ _ (fun t => decide (t ∈ ws)) eg.out (fun t _ => growFn ws _ _ _ (hSw.out.ext hal2.out) (Nat.lt_of_lt_of_le hlw.out hal2.out.size) ((hal2.out.cell (p := ⟨_, 0, none⟩) hlw.out).trans hcw.out) t)).mono ?_
      rintro e w5 ⟨rfl, hb5⟩
      rw [hnw.out]
      have HB5 := Lib.hid (ext_trans HBA.out (ext_trans hal2.out hb5))
      clear hb5 hnw hcw hSw hlw HBA hal2
      by_cases hneg : nextWay sl p way < 0
      · have hR := Lib.hid ((HRES.out.trans hstep.out).trans (if_pos hneg))
        have hd : decide (nextWay sl p way < 0) = true := decide_eq_true hneg
        clear hneg hstep
        generalize nextWay sl p way = j at *
        go_wp2_with fail
        go_ret
        exact ⟨g, c, by rw [hR.out]; rfl, by rw [hR.out]; exact (HO.out.ext HB5.out).more (by omega), ext_trans HBo.out HB5.out⟩
      · obtain ⟨jn, hj3, hjn, hjt, hedge, ht0, ht3⟩ := nextWay_spec ⟨y0, y1⟩ hneg
        have hin := edge_in HL.out hpx hpy ⟨ht0, ht3⟩ hedge
        have hstep2 := Lib.hid (hstep.out.trans (if_neg hneg))
        rw [hjn]
        have hd : decide ((jn : Int) < 0) = false := by rw [decide_eq_false_iff_not]; omega
        clear hneg hjn hedge hstep
        generalize turnAt sl p way = t at *
        have j0 : (0 : Int) ≤ (jn : Int) := by omega
        have j3 : (jn : Int) < 3 := by omega
        have hkc : (w5.alloc (.cells #[.int .i64 way, .int .i64 ((way + 3) % 4), .int .i64 ((way + 1) % 4)] 2)).cell? ⟨w5.heap.size, jn, none⟩ = some (.int .i64 t) := (Bk.new w5 2 #[.int .i64 way, .int .i64 ((way + 3) % 4), .int .i64 ((way + 1) % 4)] w5.heap.size rfl).cell jn (.int .i64 t) (by
          rcases (show jn = 0 ∨ jn = 1 ∨ jn = 2 by omega) with rfl | rfl | rfl <;> simpa [turnsOf] using hjt)
        have hal3 := (Below.refl w5.heap.size w5).alloc (Nat.le_refl _) (.cells #[.int .i64 way, .int .i64 ((way + 3) % 4), .int .i64 ((way + 1) % 4)] 2)
        have HB6 := Lib.hid (ext_trans HB5.out hal3)
        have kp6 := KP.out.ext HB6.out
        have t0 := kp6.cell 0 _ rfl
        have t1 := kp6.cell 1 _ rfl
        have qa := Lib.hid (ahead_calls p t ⟨hpx.1, by omega⟩ ⟨hpy.1, by omega⟩ (w5.alloc (.cells #[.int .i64 way, .int .i64 ((way + 3) % 4), .int .i64 ((way + 1) % 4)] 2)))
        generalize aheadC p t = a at *
        clear hal3 kp6 hjt
        unfold Cell.v at qa
        go_wp2_with fail
        refine qa.out.mono ?_
        rintro e w6 ⟨rfl, hb6⟩
        have HB7 := Lib.hid (ext_trans HB6.out hb6)
        clear t0 t1 hb6 hkc qa
        have KQ6 := Lib.hid (KQ.out.ext HB7.out)
        have kp7 := KP.out.ext HB7.out
        have hO6 := Lib.hid (HO.out.ext HB7.out)
        have t0 := kp7.cell 0 _ rfl
        have t1 := kp7.cell 1 _ rfl
        have f0 := kp7.frz 0
        have f1 := kp7.frz 1
        have M1 := Lib.hid ((kp7.set 0 (.int .i8 a.x)).set 1 (.int .i8 a.y))
        have MQ := Lib.hid ((KQ6.out.oth 0 (.int .i8 a.x) (show W.heap.size ≠ W.heap.size + 1 by omega)).oth 1 (.int .i8 a.y) (show W.heap.size ≠ W.heap.size + 1 by omega))
        have G7 := Lib.hid ((gby_set w6 (W.heap.size + 1) 0 (.int .i8 a.x)).trans (gby_set (w6.setCell ⟨W.heap.size + 1, 0, none⟩ (.int .i8 a.x)) (W.heap.size + 1) 1 (.int .i8 a.y)))
        have hO7 := Lib.hid (hO6.out.keep fun k hk => G7.out.block k (hO6.out.lt k hk) (fun he => by injection he with he; have := hO6.out.base k hk; omega))
        have HB8 := Lib.hid ((ext_trans HBo.out HB7.out).grown G7.out (ext_trans HBo.out HB7.out).size (fun j hj => by injection hj with hj; omega))
        have HBsz := Lib.hid (show W.heap.size + 1 + 1 ≤ ((w6.setCell ⟨W.heap.size + 1, 0, none⟩ (.int .i8 a.x)).setCell ⟨W.heap.size + 1, 1, none⟩ (.int .i8 a.y)).heap.size from M1.out.lt)
        have m0 := M1.out.cell 0 (.int .i8 a.x) (by simp)
        have m1 := M1.out.cell 1 (.int .i8 a.y) (by simp)
        have qc := Lib.hid (containsCell out _ a _ (hO7.out.sl Cell.c_len))
        clear kp7 hO6 KQ6 HB7 G7
        unfold Cell.v at qc
        go_wp2_with fail
        refine qc.out.mono ?_
        rintro e w8 ⟨rfl, hb8⟩
        have HB9 := Lib.hid (ext_trans HB8.out hb8)
        have N1 := Lib.hid (M1.out.ext hb8)
        have NQ := Lib.hid (MQ.out.ext hb8)
        have hO9 := Lib.hid (hO7.out.ext hb8)
        have hs9 := Lib.hid (Nat.le_trans HBsz.out hb8.size)
        have hN1 := Lib.hid (show Bk w8 (W.heap.size + 1) 36 #[.int .i8 a.x, .int .i8 a.y] from N1.out)
        clear m0 m1 t0 t1 f0 f1 hb8 qc M1 MQ HBsz HB8 hO7 N1
        by_cases hmem : a ∈ out
        · have hR := Lib.hid ((HRES.out.trans hstep2.out).trans (if_pos hmem))
          have hdm : decide (a ∈ out) = true := decide_eq_true hmem
          rw [hdm]
          clear hmem hdm hstep2
          go_wp2_with fail
          go_ret
          exact ⟨g, c, by rw [hR.out]; rfl, by rw [hR.out]; exact hO9.out.more (by omega), HB9.out⟩
        · have hR := Lib.hid ((HRES.out.trans hstep2.out).trans (if_neg hmem))
          have hdm : decide (a ∈ out) = false := decide_eq_false hmem
          rw [hdm]
          clear hmem hdm hstep2
          have n0 := hN1.out.cell 0 _ rfl
          have n1 := hN1.out.cell 1 _ rfl
          have NQ2 := Lib.hid (NQ.out.alloc (.cells #[.int .i8 a.x, .int .i8 a.y] 36))
          have NP2 := Lib.hid (hN1.out.alloc (.cells #[.int .i8 a.x, .int .i8 a.y] 36))
          have HB10 := Lib.hid (HB9.out.alloc HB9.out.size (.cells #[.int .i8 a.x, .int .i8 a.y] 36))
          go_wp2_with (at_builtin; refine push_cellat rfl _ _ rfl (W.heap.size + 1 + 1) out _ rfl (hO9.out.alloc _) _ a rfl (Bk.new _ _ _ _ rfl) (by have := HLEN.out; omega) (Nat.le_trans hs9.out (by simp)) ?_)
          intro v3 w3 hO3 hG3 hat
          have hg3 : (w8.alloc (.cells #[.int .i8 a.x, .int .i8 a.y] 36)).grownBy w3 (some g) := by simpa [Value.ownBlock] using hG3
          have hbase := Lib.hid (hO9.out.base g rfl)
          have kq3 := Lib.hid (NQ2.out.grown hg3 (by have := hbase.out; omega))
          have kp3 := Lib.hid (NP2.out.grown hg3 (by have := hbase.out; omega))
          have hb3 := Lib.hid (HB10.out.grown hg3 HB10.out.size (fun j hj => by injection hj with hj; have := hbase.out; omega))
          obtain ⟨g3, c3, rfl, _, _, _, _, _, _⟩ := hO3.room Cell.c_len (by simp)
          have hO3 := Lib.hid hO3
          obtain ⟨nx, hnx⟩ : ∃ nx : List Cell, nx = out ++ [a] := ⟨_, rfl⟩
          rw [← hnx] at hO3 hR ⊢
          have hnl := Lib.hid (show nx.length ≤ k + 1 + 1 from by rw [hnx]; have := HLEN.out; simp; omega)
          clear hG3 hat hg3 n0 n1 hnx
          go_wp2_with fail
          go_roundw
          case rel => exact ⟨k + 1, t, nx, a, g3, c3, by omega, by go_num, rfl, ⟨ht0, ht3⟩, rfl, hnl.out, hR.out, hin.1, hin.2, hO3.out, kq3.out, kp3.out, hb3.out⟩
          case measure => first | (simp [intOf]; done) | (simp [intOf]; omega)
    · obtain rfl : k = n := by omega
      rw [Nat.sub_self] at HRES
      have hE := Lib.hid (show RES = out from HRES.out)
      go_wp2_with fail
      go_ret
      exact ⟨g, c, by rw [hE.out]; rfl, by rw [hE.out]; exact HO.out.more (by omega), HBo.out⟩
end Go.Proofs.Ytpjdgpcdcihogaa
