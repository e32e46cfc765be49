/-
How a crack grows: of the reference. Conditions: numbers are of their kinds; slices can be read.
-/
import Derived.Test.YtpjdgpcdcihogaaGR2
import Derived.Test.YtpjdgpcdcihogaaSQ12
set_option linter.unusedVariables false
set_option linter.unusedSimpArgs false
set_option maxRecDepth 100000
namespace Go.Proofs.Ytpjdgpcdcihogaa
open Go.RowKit
set_option maxHeartbeats 1000000 in
theorem has_calls (xs : List Cell) (v : Value) (x : Cell) (W : World) (hs : Sl W W.heap.size Cell.c 2 v xs) :
    Calls Try.prog 95 #[v, x.v] W fun e w' => e = .returned (.bool (decide (x ∈ xs))) ∧ Below W.heap.size W w' := by
  obtain ⟨A, cap, rfl, hl, hm, hcell⟩ := hs.cell
  have HB := Lib.hid ((Below.refl W.heap.size W).alloc (Nat.le_refl _) (.cells #[.int .i8 x.x, .int .i8 x.y] 36))
  have K := Lib.hid (Bk.new W 36 #[.int .i8 x.x, .int .i8 x.y] W.heap.size rfl)
  clear hs
  unfold Cell.v
  go_enter Try.func95, Try.ntmps95
  go_wp2_with fail
  generalize W.alloc (.cells #[.int .i8 x.x, .int .i8 x.y] 36) = W1 at *
  go_loopw [5] (fun i wr => ∃ k : Nat, k ≤ xs.length ∧ i = .int .i64 k ∧ (xs.take k).all (fun y => !(y == x)) = true ∧ Below W1.heap.size W1 wr) (fun i _ => xs.length - (intOf i).toNat)
  case atStart => exact ⟨0, by omega, rfl, rfl, Below.refl _ _⟩
  case round =>
    obtain ⟨k, hk, rfl, hall, hb⟩ := hrel
    have HA := Lib.hid hall
    have HBo := Lib.hid (HB.out.trans (hb.mono HB.out.size))
    have H1 := Lib.hid hb
    have k0 := (K.out.ext hb).cell 0 _ rfl
    have k1 := (K.out.ext hb).cell 1 _ rfl
    clear hall
    by_cases hlt : k < xs.length
    · obtain ⟨b, o, rfl, hbb, h0, h1⟩ := hcell k hlt
      have h0 := (HBo.out.cell (p := ⟨b, _, none⟩) hbb).trans h0
      have h1 := (HBo.out.cell (p := ⟨b, _, none⟩) hbb).trans h1
      have hk8 : (0 : Int) ≤ (k : Int) := by omega
      have hk9 : (k : Int) < (xs.length : Int) := by omega
      clear hcell hb
      by_cases e1 : xs[k].x = x.x
      · by_cases e2 : xs[k].y = x.y
        · have hE := Lib.hid (show decide (x ∈ xs) = true from by
            rw [decide_eq_true_eq]
            have : xs[k] = x := by cases hx : xs[k]; cases x; simp_all
            rw [← this]; exact List.getElem_mem hlt)
          have q1 : (xs[k].x == x.x) = true := by simp [e1]
          have q2 : (xs[k].y == x.y) = true := by simp [e2]
          clear e1 e2
          go_wp2_with fail
          go_quiet (fail)
          go_wp2_with fail
          go_ret
          exact ⟨ret_bool hE.out.symm, ext_drewN HBo.out _⟩
        · have hE := Lib.hid (take_all_succ _ xs k hlt HA.out (by
            have : ¬ xs[k] = x := by intro h; exact e2 (by rw [h])
            simp [this]))
          have q1 : (xs[k].x == x.x) = true := by simp [e1]
          have q2 : (xs[k].y == x.y) = false := by simp [e2]
          clear e1 e2
          go_wp2_with fail
          go_quiet (fail)
          go_wp2_with fail
          go_roundw
          case rel => exact ⟨k + 1, by omega, by go_num, hE.out, ext_drewN H1.out _⟩
          case measure => first | (simp [intOf]; done) | (simp [intOf]; omega)
      · have hE := Lib.hid (take_all_succ _ xs k hlt HA.out (by
          have : ¬ xs[k] = x := by intro h; exact e1 (by rw [h])
          simp [this]))
        have q1 : (xs[k].x == x.x) = false := by simp [e1]
        clear e1
        go_wp2_with fail
        go_quiet (fail)
        go_wp2_with fail
        go_roundw
        case rel => exact ⟨k + 1, by omega, by go_num, hE.out, ext_drewN H1.out _⟩
        case measure => first | (simp [intOf]; done) | (simp [intOf]; omega)
    · have hE := Lib.hid (show decide (x ∈ xs) = false from by
        rw [decide_eq_false_iff_not]
        intro hx
        have h1 := all_of_take _ xs k (by omega) HA.out
        have := List.all_eq_true.1 h1 x hx
        simp at this)
      go_wp2_with fail
      go_ret
      exact ⟨ret_bool hE.out.symm, HBo.out⟩
theorem next_calls (p : Cell) (way : Int) (hx : 0 ≤ p.x ∧ p.x ≤ 100) (hy : 0 ≤ p.y ∧ p.y ≤ 100) (W : World) :
    Calls Try.prog 94 #[p.v, .int .i64 way] W fun e w' => e = .returned (aheadC p way).v ∧ Below W.heap.size W w' := by
  have a1 : IntKind.i8.wrap (p.y - 1) = p.y - 1 := wrap8In' _ (by omega) (by omega)
  have a2 : IntKind.i8.wrap (p.x + 1) = p.x + 1 := wrap8In' _ (by omega) (by omega)
  have a3 : IntKind.i8.wrap (p.y + 1) = p.y + 1 := wrap8In' _ (by omega) (by omega)
  have a4 : IntKind.i8.wrap (p.x - 1) = p.x - 1 := wrap8In' _ (by omega) (by omega)
  by_cases e0 : way = 0
  · subst e0
    have hA := Lib.hid (show aheadC p 0 = ⟨p.x, p.y - 1⟩ from rfl)
    rw [hA.out]
    unfold Cell.v
    go_enter Try.func94, Try.ntmps94
    go_wp2_with fail
    (try simp only [Exit.inBlock, Exit.then])
    exact bodyPost_ret (v := .agg #[.int .i8 p.x, .int .i8 (p.y - 1)]) (by simp [results, Try.results94, go_sem]) rfl ⟨rfl, ext_alloc ((Below.refl _ _).alloc (Nat.le_refl _) _) _⟩
  have d0 : (way == 0) = false := by simpa using e0
  by_cases e1 : way = 1
  · subst e1
    have hA := Lib.hid (show aheadC p 1 = ⟨p.x + 1, p.y⟩ from rfl)
    rw [hA.out]
    unfold Cell.v
    go_enter Try.func94, Try.ntmps94
    go_wp2_with fail
    (try simp only [Exit.inBlock, Exit.then])
    exact bodyPost_ret (v := .agg #[.int .i8 (p.x + 1), .int .i8 p.y]) (by simp [results, Try.results94, go_sem]) rfl ⟨rfl, ext_alloc ((Below.refl _ _).alloc (Nat.le_refl _) _) _⟩
  have d1 : (way == 1) = false := by simpa using e1
  by_cases e2 : way = 2
  · subst e2
    have hA := Lib.hid (show aheadC p 2 = ⟨p.x, p.y + 1⟩ from rfl)
    rw [hA.out]
    unfold Cell.v
    go_enter Try.func94, Try.ntmps94
    go_wp2_with fail
    (try simp only [Exit.inBlock, Exit.then])
    exact bodyPost_ret (v := .agg #[.int .i8 p.x, .int .i8 (p.y + 1)]) (by simp [results, Try.results94, go_sem]) rfl ⟨rfl, ext_alloc ((Below.refl _ _).alloc (Nat.le_refl _) _) _⟩
  have d2 : (way == 2) = false := by simpa using e2
  have hA := Lib.hid (show aheadC p way = ⟨p.x - 1, p.y⟩ from by simp [aheadC, e0, e1, e2])
  rw [hA.out]
  clear e0 e1 e2
  unfold Cell.v
  go_enter Try.func94, Try.ntmps94
  go_wp2_with fail
  (try simp only [Exit.inBlock, Exit.then])
  exact bodyPost_ret (v := .agg #[.int .i8 (p.x - 1), .int .i8 p.y]) (by simp [results, Try.results94, go_sem]) rfl ⟨rfl, ext_alloc ((Below.refl _ _).alloc (Nat.le_refl _) _) _⟩
abbrev GwS (W0 : World) (b c : Nat) (p : Cell) (x y z : Int) (w' : World) : Prop :=
  Below W0.heap.size W0 w' ∧ w'.cell? ⟨b, 0, none⟩ = some (.int .i8 p.x) ∧ w'.cell? ⟨b, 1, none⟩ = some (.int .i8 p.y) ∧ w'.cell? ⟨c, 0, none⟩ = some (.int .i64 x) ∧ w'.cell? ⟨c, 1, none⟩ = some (.int .i64 y) ∧ w'.cell? ⟨c, 2, none⟩ = some (.int .i64 z)
theorem GwS.keep {W0 w1 w2 : World} {b c : Nat} {p : Cell} {x y z : Int} (hb : b < W0.heap.size) (hc : c < W0.heap.size) (hS : GwS W0 b c p x y z w1) (k : Below w1.heap.size w1 w2) : GwS W0 b c p x y z w2 := by
  obtain ⟨h0, h1, h2, h3, h4, h5⟩ := hS
  have q : ∀ o, w2.cell? ⟨b, o, none⟩ = w1.cell? ⟨b, o, none⟩ := fun o => k.cell (p := ⟨b, o, none⟩) (Nat.lt_of_lt_of_le hb h0.size)
  have r : ∀ o, w2.cell? ⟨c, o, none⟩ = w1.cell? ⟨c, o, none⟩ := fun o => k.cell (p := ⟨c, o, none⟩) (Nat.lt_of_lt_of_le hc h0.size)
  exact ⟨ext_trans h0 k, (q _).trans h1, (q _).trans h2, (r _).trans h3, (r _).trans h4, (r _).trans h5⟩
abbrev GtS (W0 : World) (b c : Nat) (p : Cell) (x y z : Int) (m : Nat) (t : Int) (w' : World) : Prop := GwS W0 b c p x y z w' ∧ w'.cell? ⟨c, m, none⟩ = some (.int .i64 t)
theorem GtS.keep {W0 w1 w2 : World} {b c : Nat} {p : Cell} {x y z : Int} {m : Nat} {t : Int} (hb : b < W0.heap.size) (hc : c < W0.heap.size) (hS : GtS W0 b c p x y z m t w1) (k : Below w1.heap.size w1 w2) : GtS W0 b c p x y z m t w2 :=
  ⟨hS.1.keep hb hc k, (k.cell (p := ⟨c, m, none⟩) (Nat.lt_of_lt_of_le hc hS.1.1.size)).trans hS.2⟩
set_option maxHeartbeats 4000000 in
theorem sGrow_calls (w h : Int) (sl : List Slab) (hl : ∀ t ∈ sl, liesB w h t = true) (hw : w ≤ 12 ∧ h ≤ 12) (p0 : Cell) (hx : 0 ≤ p0.x ∧ p0.x ≤ w) (hy : 0 ≤ p0.y ∧ p0.y ≤ h) (way0 : Int) (hway : 0 ≤ way0 ∧ way0 ≤ 3) (n : Nat) (hn : n ≤ 60) (gg : Nat) (W : World) (hg : Bk W gg 68 (gcells (gridL sl))) :
    Calls Try.prog 51 #[.pointer (some ⟨gg, 0, none⟩), p0.v, .int .i64 way0, .int .i64 (n : Int)] W fun e w' => ∃ g c, e = .returned (.slice (some ⟨g, 0, none⟩) (growL sl n [p0] p0 way0).length c) ∧ Own w' W.heap.size 36 Cell.c 2 (.slice (some ⟨g, 0, none⟩) (growL sl n [p0] p0 way0).length c) (growL sl n [p0] p0 way0) ∧ Below W.heap.size W w' := by
  obtain ⟨RES, hRES0⟩ : ∃ R, R = growL sl n [p0] p0 way0 := ⟨_, rfl⟩
  rw [← hRES0]
  have hRES := Lib.hid hRES0
  clear hRES0
  have HB := Lib.hid (ext_alloc ((Below.refl W.heap.size W).alloc (Nat.le_refl _) (.cells #[.int .i8 p0.x, .int .i8 p0.y] 36)) (.cells #[.int .i8 p0.x, .int .i8 p0.y] 36))
  have HG := Lib.hid hg
  have K1 := Lib.hid ((Bk.new W 36 #[.int .i8 p0.x, .int .i8 p0.y] W.heap.size rfl).alloc (.cells #[.int .i8 p0.x, .int .i8 p0.y] 36))
  have hO0 := Lib.hid (show Own ((W.alloc (.cells #[.int .i8 p0.x, .int .i8 p0.y] 36)).alloc (.cells #[.int .i8 p0.x, .int .i8 p0.y] 36)) (W.heap.size + 1) 36 Cell.c 2 (.slice (some ⟨W.heap.size + 1, 0, none⟩) 1 1) [p0] from by
    have := World.ownsRow_lit (base := W.heap.size + 1) (e := 36) (size := 2) (W.alloc (.cells #[.int .i8 p0.x, .int .i8 p0.y] 36)) #[.int .i8 p0.x, .int .i8 p0.y] 1 (by simp) (by simp [maxLen]) (by simp)
    refine ⟨?_⟩
    simpa [Cell.c] using this)
  have HL := Lib.hid hl
  clear hg
  unfold Cell.v
  go_enter Try.func51, Try.ntmps51
  go_wp2_with fail
  generalize (W.alloc (.cells #[.int .i8 p0.x, .int .i8 p0.y] 36)).alloc (.cells #[.int .i8 p0.x, .int .i8 p0.y] 36) = W1 at *
  go_loopw [2, 9, 10] (fun t o i wr => ∃ (k : Nat) (way : Int) (out : List Cell) (p : Cell) (g c : Nat), k ≤ n ∧ i = .int .i64 k ∧ t = .int .i64 way ∧ (0 ≤ way ∧ way ≤ 3) ∧ o = .slice (some ⟨g, 0, none⟩) out.length c ∧ out.length ≤ k + 1 ∧ RES = growL sl (n - k) out p way ∧ (0 ≤ p.x ∧ p.x ≤ w) ∧ (0 ≤ p.y ∧ p.y ≤ h) ∧
    Own wr (W.heap.size + 1) 36 Cell.c 2 (.slice (some ⟨g, 0, none⟩) out.length c) out ∧ Bk wr W.heap.size 36 #[.int .i8 p.x, .int .i8 p.y] ∧ Below W.heap.size W wr) (fun _ _ i _ => n - (intOf i).toNat)
  case atStart => exact ⟨0, way0, [p0], p0, _, 1, by omega, rfl, rfl, hway, rfl, by simp, hRES.out, hx, hy, hO0.out, K1.out, HB.out⟩
  case round =>
    obtain ⟨k, way, out, p, g, c, hk, rfl, rfl, hwy, rfl, hlen, hres, hpx, hpy, hO, kp, hb⟩ := hrel
    obtain ⟨wo, rfl⟩ : ∃ wo : World, wo = wr := ⟨_, rfl⟩
    have HO := Lib.hid hO
    have HBo := Lib.hid hb
    have KP := Lib.hid kp
    have HRES := Lib.hid hres
    have HLEN := Lib.hid hlen
    clear hO hb hres hlen
    by_cases hlt : k < n
    · have hstep := Lib.hid (show growL sl (n - k) out p way = if nextWay sl p way < 0 then out else if aheadC p (turnAt sl p way) ∈ out then out else growL sl (n - (k + 1)) (out ++ [aheadC p (turnAt sl p way)]) (aheadC p (turnAt sl p way)) (turnAt sl p way) from by rw [show n - k = (n - (k + 1)) + 1 by omega, growL])
      have hkn : decide ((k : Int) < (n : Int)) = true := by rw [decide_eq_true_eq]; omega
      obtain ⟨y0, y1⟩ := hwy
      have b0 : (0 : Int) ≤ way + 3 := by omega
      have b1 : (0 : Int) ≤ way + 1 := by omega
      have hal := (Below.refl wo.heap.size wo).alloc (Nat.le_refl _) (.cells #[.int .i64 way, .int .i64 ((way + 3) % 4), .int .i64 ((way + 1) % 4)] 2)
      have HA := Lib.hid hal
      have KT := Lib.hid (Bk.new wo 2 #[.int .i64 way, .int .i64 ((way + 3) % 4), .int .i64 ((way + 1) % 4)] wo.heap.size rfl)
      clear kp hal
      go_wp2_with fail
      generalize wo.alloc (.cells #[.int .i64 way, .int .i64 ((way + 3) % 4), .int .i64 ((way + 1) % 4)] 2) = wi0 at *
      have hT := Lib.hid (show turnsOf way = [way, (way + 3) % 4, (way + 1) % 4] from rfl)
      have hTi := Lib.hid (turns_in (way := way) ⟨y0, y1⟩)
      generalize (way + 3) % 4 = a3 at *
      generalize (way + 1) % 4 = a1 at *
      generalize hbT : wo.heap.size = bT at *
      go_loopw [12] (fun i wr => ∃ m : Nat, m ≤ 3 ∧ i = .int .i64 m ∧ ((turnsOf way).take m).all (fun t => !edgeOf sl p.x p.y t) = true ∧ Below wi0.heap.size wi0 wr) (fun i _ => 3 - (intOf i).toNat)
      case atStart => exact ⟨0, by omega, rfl, rfl, Below.refl _ _⟩
      case round =>
        obtain ⟨m, hm, rfl, hall, hbi⟩ := hrel
        obtain ⟨wi, rfl⟩ : ∃ wi : World, wi = wr := ⟨_, rfl⟩
        have HALL := Lib.hid hall
        have HBI := Lib.hid hbi
        have hwoi := Lib.hid (HA.out.trans (hbi.mono (by have := HA.out.size; omega)))
        have hwoi2 := Lib.hid (show Below wo.heap.size wo wi from by rw [hbT]; exact hwoi.out)
        have kt := KT.out.ext hbi
        have kp := Lib.hid ((KP.out.keep (by have := KP.out.lt; omega) HA.out).ext hbi)
        have kg := Lib.hid (HG.out.ext (HBo.out.trans ((hwoi.out).mono (by have := HBo.out.size; omega))))
        have hl1 := kp.out.lt
        have hl2 := kt.lt
        have hS : GwS wi W.heap.size bT p way a3 a1 wi := ⟨Below.refl _ _, kp.out.cell 0 _ rfl, kp.out.cell 1 _ rfl, kt.cell 0 _ rfl, kt.cell 1 _ rfl, kt.cell 2 _ rfl⟩
        have KT2 := Lib.hid kt
        clear hall hbi kt
        by_cases hm3 : m < 3
        · have hm3I : decide ((m : Int) < 3) = true := by rw [decide_eq_true_eq]; omega
          have m0 : (0 : Int) ≤ (m : Int) := by omega
          have m1 : (m : Int) < 3 := by omega
          have hml : m < (turnsOf way).length := hm3
          obtain ⟨t, ht⟩ : ∃ t, t = (turnsOf way)[m] := ⟨_, rfl⟩
          have htr := Lib.hid (hTi.out t (ht ▸ List.getElem_mem hml))
          have hct : ∀ w', GwS wi W.heap.size bT p way a3 a1 w' → w'.cell? ⟨bT, m, none⟩ = some (.int .i64 t) := by
            intro w' hS'
            obtain ⟨_, _, _, q0, q1, q2⟩ := hS'
            have hT2 := hT.out
            rcases (show m = 0 ∨ m = 1 ∨ m = 2 by omega) with rfl | rfl | rfl
            · rw [ht]; simpa [hT2] using q0
            · rw [ht]; simpa [hT2] using q1
            · rw [ht]; simpa [hT2] using q2
          have hS2 : GtS wi W.heap.size bT p way a3 a1 m t wi := ⟨hS, hct wi hS⟩
          have qe := Lib.hid (show ∀ W', GtS wi W.heap.size bT p way a3 a1 m t W' → Calls Try.prog 43 #[.pointer (some ⟨gg, 0, none⟩), .agg #[.int .i8 p.x, .int .i8 p.y], .int .i64 t] W' (fun e w' => e = .returned (.bool (edgeOf sl p.x p.y t)) ∧ Below W'.heap.size W' w') from fun W' hS' => sEdge_calls sl gg W' w h hw HL.out (kg.out.ext hS'.1.1) p ⟨hpx.1, by omega⟩ ⟨hpy.1, by omega⟩ t)
          have hte := Lib.hid (show edgeOf sl p.x p.y (turnsOf way)[m] = edgeOf sl p.x p.y t from by rw [ht])
          have htt := Lib.hid ht
          clear hS hct ht
          cases hE : edgeOf sl p.x p.y t
          · have hn2 := Lib.hid (take_all_succ _ (turnsOf way) m hml HALL.out (by rw [hte.out, hE]; rfl))
            rw [hE] at qe
            clear hE
            go_wp2_with fail
            refine wp_region_held_drew (S := (GtS wi W.heap.size bT p way a3 a1 m t)) (by kernel_rfl) ?r18_hS0 (fun hHeld => ?r18_rest)
            case r18_hS0 => (try dsimp only); first | assumption | exact GtS.keep hl1 hl2 (by assumption) ((Below.refl _ _).drew) | exact GtS.keep hl1 hl2 (by assumption) (by assumption)
            refine wpAnyH_take (i := 0) (v := ?r18_vv0) (by (simp only [List.getElem?_toArray, List.getElem?_cons_succ, List.getElem?_cons_zero]; rfl)) (by kernel_rfl) (by kernel_rfl) (by kernel_rfl) (by exact fun _ _ _ h => h) (Or.inl ⟨by rfl, ?r18_hy0⟩) (by assumption) ?r18_rest0
            case r18_hy0 => intro w hSw; (try dsimp only at hSw); (go_simp <;> (with_reducible rfl))
            try simp only [Act.put, List.setIfInBounds_toArray, List.set_cons_zero, List.set_cons_succ]
            refine wpAnyH_take (i := 1) (v := ?r18_vv1) (by (simp only [List.getElem?_toArray, List.getElem?_cons_succ, List.getElem?_cons_zero]; rfl)) (by kernel_rfl) (by kernel_rfl) (by kernel_rfl) (by exact fun _ _ _ h => h) (Or.inl ⟨by rfl, ?r18_hy1⟩) (by assumption) ?r18_rest1
            case r18_hy1 => intro w hSw; (try dsimp only at hSw); (go_simp <;> (with_reducible rfl))
            try simp only [Act.put, List.setIfInBounds_toArray, List.set_cons_zero, List.set_cons_succ]
            refine wpAnyH_take (i := 2) (v := ?r18_vv2) (by (simp only [List.getElem?_toArray, List.getElem?_cons_succ, List.getElem?_cons_zero]; rfl)) (by kernel_rfl) (by kernel_rfl) (by kernel_rfl) (by exact fun _ _ _ h => h) (Or.inl ⟨by rfl, ?r18_hy2⟩) (by assumption) ?r18_rest2
            case r18_hy2 => intro w hSw; (try dsimp only at hSw); (go_simp <;> (with_reducible rfl))
            try simp only [Act.put, List.setIfInBounds_toArray, List.set_cons_zero, List.set_cons_succ]
            refine wpAnyH_take (i := 3) (v := ?r18_vv3) (by (simp only [List.getElem?_toArray, List.getElem?_cons_succ, List.getElem?_cons_zero]; rfl)) (by kernel_rfl) (by kernel_rfl) (by kernel_rfl) (by exact fun _ _ _ h => h) (Or.inl ⟨by rfl, ?r18_hy3⟩) (by assumption) ?r18_rest3
            case r18_hy3 => intro w hSw; (try dsimp only at hSw); (go_simp <;> (with_reducible rfl))
            try simp only [Act.put, List.setIfInBounds_toArray, List.set_cons_zero, List.set_cons_succ]
            refine wpAnyH_take (i := 4) (v := ?r18_vv4) (by (simp only [List.getElem?_toArray, List.getElem?_cons_succ, List.getElem?_cons_zero]; rfl)) (by kernel_rfl) (by kernel_rfl) (by kernel_rfl) (by exact fun _ _ _ h => h) (Or.inl ⟨by rfl, ?r18_hy4⟩) (by assumption) ?r18_rest4
            case r18_hy4 => intro w hSw; (try dsimp only at hSw); (go_simp <;> (with_reducible rfl))
            try simp only [Act.put, List.setIfInBounds_toArray, List.set_cons_zero, List.set_cons_succ]
            refine wpAnyH_take (i := 5) (v := ?r18_vv5) (by (simp only [List.getElem?_toArray, List.getElem?_cons_succ, List.getElem?_cons_zero]; rfl)) (by kernel_rfl) (by kernel_rfl) (by kernel_rfl) (by exact fun _ _ _ h => h) (Or.inl ⟨by rfl, ?r18_hy5⟩) (by assumption) ?r18_rest5
            case r18_hy5 => intro w hSw; (try dsimp only at hSw); (go_simp <;> (with_reducible rfl))
            try simp only [Act.put, List.setIfInBounds_toArray, List.set_cons_zero, List.set_cons_succ]
            refine wpAnyH_take (i := 6) (v := ?r18_vv6) (by (simp only [List.getElem?_toArray, List.getElem?_cons_succ, List.getElem?_cons_zero]; rfl)) (by kernel_rfl) (by kernel_rfl) (by kernel_rfl) (by exact fun _ _ _ h => h) (Or.inl ⟨by rfl, ?r18_hy6⟩) (by assumption) ?r18_rest6
            case r18_hy6 => intro w hSw; (try dsimp only at hSw); (go_simp <;> (with_reducible rfl))
            try simp only [Act.put, List.setIfInBounds_toArray, List.set_cons_zero, List.set_cons_succ]
            refine wpAnyH_take (i := 7) (v := ?r18_vv7) (by (simp only [List.getElem?_toArray, List.getElem?_cons_succ, List.getElem?_cons_zero]; rfl)) (by kernel_rfl) (by kernel_rfl) (by kernel_rfl) (by exact fun _ _ _ h => h) (Or.inl ⟨by rfl, ?r18_hy7⟩) (by assumption) ?r18_rest7
            case r18_hy7 => intro w hSw; (try dsimp only at hSw); (go_simp <;> (with_reducible rfl))
            try simp only [Act.put, List.setIfInBounds_toArray, List.set_cons_zero, List.set_cons_succ]
            refine wpAnyH_take (i := 8) (v := ?r18_vv8) (by (simp only [List.getElem?_toArray, List.getElem?_cons_succ, List.getElem?_cons_zero]; rfl)) (by kernel_rfl) (by kernel_rfl) (by kernel_rfl) (by exact fun _ _ _ h => h) (Or.inl ⟨by rfl, ?r18_hy8⟩) (by assumption) ?r18_rest8
            case r18_hy8 => intro w hSw; (try dsimp only at hSw); (go_simp <;> (with_reducible rfl))
            try simp only [Act.put, List.setIfInBounds_toArray, List.set_cons_zero, List.set_cons_succ]
            refine wpAnyH_ready (rs := [9]) (by kernel_rfl) (by simp) ?_
            refine AllReadyH.cons (by (simp only [List.getElem?_toArray, List.getElem?_cons_succ, List.getElem?_cons_zero]; rfl)) (fun K hK => ?_) AllReadyH.nil
            go_simp
            (go_at_call 43; with_reducible refine (qe.out _ (by assumption)).mono ?_; rintro e w9 ⟨rfl, hb9⟩)
            try go_wp2_with fail
            refine hK.out _ _ ?r18_hS9 (fun hHeld => ?r18_r9)
            case r18_hS9 => (try dsimp only); first | assumption | exact GtS.keep hl1 hl2 (by assumption) ((Below.refl _ _).drew) | exact GtS.keep hl1 hl2 (by assumption) (by assumption)
            clear hK K
            try simp only [Act.put, List.setIfInBounds_toArray, List.set_cons_zero, List.set_cons_succ]
            refine wpAnyH_take (i := 10) (v := ?r18_vv10) (by (simp only [List.getElem?_toArray, List.getElem?_cons_succ, List.getElem?_cons_zero]; rfl)) (by kernel_rfl) (by kernel_rfl) (by kernel_rfl) (by exact fun _ _ _ h => h) (Or.inl ⟨by rfl, ?r18_hy10⟩) (by assumption) ?r18_rest10
            case r18_hy10 => intro w hSw; (try dsimp only at hSw); (go_simp <;> (with_reducible rfl))
            try simp only [Act.put, List.setIfInBounds_toArray, List.set_cons_zero, List.set_cons_succ]
            refine wpAnyH_take (i := 11) (v := ?r18_vv11) (by (simp only [List.getElem?_toArray, List.getElem?_cons_succ, List.getElem?_cons_zero]; rfl)) (by kernel_rfl) (by kernel_rfl) (by kernel_rfl) (by exact fun _ _ _ h => h) (Or.inl ⟨by rfl, ?r18_hy11⟩) (by assumption) ?r18_rest11
            case r18_hy11 => intro w hSw; (try dsimp only at hSw); (go_simp <;> (with_reducible rfl))
            try simp only [Act.put, List.setIfInBounds_toArray, List.set_cons_zero, List.set_cons_succ]
            refine wpAnyH_done (by kernel_rfl) ?_ _
            have HB9 := Lib.hid (show Below wi.heap.size wi _ from And.left (b := _) (And.left (b := _) (by assumption)))
            go_wp2_with fail
            go_roundw
            case rel => exact ⟨m + 1, by omega, by go_num, hn2.out, HBI.out.trans (HB9.out.mono HBI.out.size)⟩
            case measure => first | (simp [intOf]; done) | (simp [intOf]; omega)
          · have hnx := Lib.hid (show nextWay sl p way = (m : Int) from findI_at _ _ m hml HALL.out (by rw [hte.out, hE]))
            have hta := Lib.hid (show turnAt sl p way = t from by
              unfold turnAt
              rw [hnx.out, htt.out]
              simp [List.getD_eq_getElem?_getD, hml])
            rw [hE] at qe
            have hRn := Lib.hid (hstep.out.trans (if_neg (by rw [hnx.out]; omega)))
            rw [hta.out] at hRn
            have hed := Lib.hid hE
            have hin := edge_in HL.out hpx hpy htr.out hed.out
            have hm3e : ((m : Int) == 3) = false := by rw [beq_eq_false_iff_ne]; omega
            clear hE hstep hnx hta
            go_wp2_with fail
            refine wp_region_held_drew (S := (GtS wi W.heap.size bT p way a3 a1 m t)) (by kernel_rfl) ?r19_hS0 (fun hHeld => ?r19_rest)
            case r19_hS0 => (try dsimp only); first | assumption | exact GtS.keep hl1 hl2 (by assumption) ((Below.refl _ _).drew) | exact GtS.keep hl1 hl2 (by assumption) (by assumption)
            refine wpAnyH_take (i := 0) (v := ?r19_vv0) (by (simp only [List.getElem?_toArray, List.getElem?_cons_succ, List.getElem?_cons_zero]; rfl)) (by kernel_rfl) (by kernel_rfl) (by kernel_rfl) (by exact fun _ _ _ h => h) (Or.inl ⟨by rfl, ?r19_hy0⟩) (by assumption) ?r19_rest0
            case r19_hy0 => intro w hSw; (try dsimp only at hSw); (go_simp <;> (with_reducible rfl))
            try simp only [Act.put, List.setIfInBounds_toArray, List.set_cons_zero, List.set_cons_succ]
            refine wpAnyH_take (i := 1) (v := ?r19_vv1) (by (simp only [List.getElem?_toArray, List.getElem?_cons_succ, List.getElem?_cons_zero]; rfl)) (by kernel_rfl) (by kernel_rfl) (by kernel_rfl) (by exact fun _ _ _ h => h) (Or.inl ⟨by rfl, ?r19_hy1⟩) (by assumption) ?r19_rest1
            case r19_hy1 => intro w hSw; (try dsimp only at hSw); (go_simp <;> (with_reducible rfl))
            try simp only [Act.put, List.setIfInBounds_toArray, List.set_cons_zero, List.set_cons_succ]
            refine wpAnyH_take (i := 2) (v := ?r19_vv2) (by (simp only [List.getElem?_toArray, List.getElem?_cons_succ, List.getElem?_cons_zero]; rfl)) (by kernel_rfl) (by kernel_rfl) (by kernel_rfl) (by exact fun _ _ _ h => h) (Or.inl ⟨by rfl, ?r19_hy2⟩) (by assumption) ?r19_rest2
            case r19_hy2 => intro w hSw; (try dsimp only at hSw); (go_simp <;> (with_reducible rfl))
            try simp only [Act.put, List.setIfInBounds_toArray, List.set_cons_zero, List.set_cons_succ]
            refine wpAnyH_take (i := 3) (v := ?r19_vv3) (by (simp only [List.getElem?_toArray, List.getElem?_cons_succ, List.getElem?_cons_zero]; rfl)) (by kernel_rfl) (by kernel_rfl) (by kernel_rfl) (by exact fun _ _ _ h => h) (Or.inl ⟨by rfl, ?r19_hy3⟩) (by assumption) ?r19_rest3
            case r19_hy3 => intro w hSw; (try dsimp only at hSw); (go_simp <;> (with_reducible rfl))
            try simp only [Act.put, List.setIfInBounds_toArray, List.set_cons_zero, List.set_cons_succ]
            refine wpAnyH_take (i := 4) (v := ?r19_vv4) (by (simp only [List.getElem?_toArray, List.getElem?_cons_succ, List.getElem?_cons_zero]; rfl)) (by kernel_rfl) (by kernel_rfl) (by kernel_rfl) (by exact fun _ _ _ h => h) (Or.inl ⟨by rfl, ?r19_hy4⟩) (by assumption) ?r19_rest4
            case r19_hy4 => intro w hSw; (try dsimp only at hSw); (go_simp <;> (with_reducible rfl))
            try simp only [Act.put, List.setIfInBounds_toArray, List.set_cons_zero, List.set_cons_succ]
            refine wpAnyH_take (i := 5) (v := ?r19_vv5) (by (simp only [List.getElem?_toArray, List.getElem?_cons_succ, List.getElem?_cons_zero]; rfl)) (by kernel_rfl) (by kernel_rfl) (by kernel_rfl) (by exact fun _ _ _ h => h) (Or.inl ⟨by rfl, ?r19_hy5⟩) (by assumption) ?r19_rest5
            case r19_hy5 => intro w hSw; (try dsimp only at hSw); (go_simp <;> (with_reducible rfl))
            try simp only [Act.put, List.setIfInBounds_toArray, List.set_cons_zero, List.set_cons_succ]
            refine wpAnyH_take (i := 6) (v := ?r19_vv6) (by (simp only [List.getElem?_toArray, List.getElem?_cons_succ, List.getElem?_cons_zero]; rfl)) (by kernel_rfl) (by kernel_rfl) (by kernel_rfl) (by exact fun _ _ _ h => h) (Or.inl ⟨by rfl, ?r19_hy6⟩) (by assumption) ?r19_rest6
            case r19_hy6 => intro w hSw; (try dsimp only at hSw); (go_simp <;> (with_reducible rfl))
            try simp only [Act.put, List.setIfInBounds_toArray, List.set_cons_zero, List.set_cons_succ]
            refine wpAnyH_take (i := 7) (v := ?r19_vv7) (by (simp only [List.getElem?_toArray, List.getElem?_cons_succ, List.getElem?_cons_zero]; rfl)) (by kernel_rfl) (by kernel_rfl) (by kernel_rfl) (by exact fun _ _ _ h => h) (Or.inl ⟨by rfl, ?r19_hy7⟩) (by assumption) ?r19_rest7
            case r19_hy7 => intro w hSw; (try dsimp only at hSw); (go_simp <;> (with_reducible rfl))
            try simp only [Act.put, List.setIfInBounds_toArray, List.set_cons_zero, List.set_cons_succ]
            refine wpAnyH_take (i := 8) (v := ?r19_vv8) (by (simp only [List.getElem?_toArray, List.getElem?_cons_succ, List.getElem?_cons_zero]; rfl)) (by kernel_rfl) (by kernel_rfl) (by kernel_rfl) (by exact fun _ _ _ h => h) (Or.inl ⟨by rfl, ?r19_hy8⟩) (by assumption) ?r19_rest8
            case r19_hy8 => intro w hSw; (try dsimp only at hSw); (go_simp <;> (with_reducible rfl))
            try simp only [Act.put, List.setIfInBounds_toArray, List.set_cons_zero, List.set_cons_succ]
            refine wpAnyH_ready (rs := [9]) (by kernel_rfl) (by simp) ?_
            refine AllReadyH.cons (by (simp only [List.getElem?_toArray, List.getElem?_cons_succ, List.getElem?_cons_zero]; rfl)) (fun K hK => ?_) AllReadyH.nil
            go_simp
            (go_at_call 43; with_reducible refine (qe.out _ (by assumption)).mono ?_; rintro e w9 ⟨rfl, hb9⟩)
            try go_wp2_with fail
            refine hK.out _ _ ?r19_hS9 (fun hHeld => ?r19_r9)
            case r19_hS9 => (try dsimp only); first | assumption | exact GtS.keep hl1 hl2 (by assumption) ((Below.refl _ _).drew) | exact GtS.keep hl1 hl2 (by assumption) (by assumption)
            clear hK K
            try simp only [Act.put, List.setIfInBounds_toArray, List.set_cons_zero, List.set_cons_succ]
            refine wpAnyH_take (i := 10) (v := ?r19_vv10) (by (simp only [List.getElem?_toArray, List.getElem?_cons_succ, List.getElem?_cons_zero]; rfl)) (by kernel_rfl) (by kernel_rfl) (by kernel_rfl) (by exact fun _ _ _ h => h) (Or.inl ⟨by rfl, ?r19_hy10⟩) (by assumption) ?r19_rest10
            case r19_hy10 => intro w hSw; (try dsimp only at hSw); (go_simp <;> (with_reducible rfl))
            try simp only [Act.put, List.setIfInBounds_toArray, List.set_cons_zero, List.set_cons_succ]
            refine wpAnyH_take (i := 11) (v := ?r19_vv11) (by (simp only [List.getElem?_toArray, List.getElem?_cons_succ, List.getElem?_cons_zero]; rfl)) (by kernel_rfl) (by kernel_rfl) (by kernel_rfl) (by exact fun _ _ _ h => h) (Or.inl ⟨by rfl, ?r19_hy11⟩) (by assumption) ?r19_rest11
            case r19_hy11 => intro w hSw; (try dsimp only at hSw); (go_simp <;> (with_reducible rfl))
            try simp only [Act.put, List.setIfInBounds_toArray, List.set_cons_zero, List.set_cons_succ]
            refine wpAnyH_done (by kernel_rfl) ?_ _
            have hS9 : GtS wi W.heap.size bT p way a3 a1 m t w9 := by assumption
            obtain ⟨⟨hB9, p0', p1', q0, q1, q2⟩, qm⟩ := hS9
            have HB9 := Lib.hid (ext_trans hwoi2.out hB9)
            have kp9 := Lib.hid (kp.out.ext hB9)
            clear hB9 q0 q1 q2 hS2
            repeat clear hHeld
            have qn := Lib.hid (next_calls p t ⟨hpx.1, by omega⟩ ⟨hpy.1, by omega⟩ w9)
            generalize aheadC p t = a at *
            unfold Cell.v at qn
            go_wp2_with fail
            refine qn.out.mono ?_
            rintro e w10 ⟨rfl, hb10⟩
            have hal := (Below.refl w10.heap.size w10).alloc (Nat.le_refl _) (.cells #[.int .i8 a.x, .int .i8 a.y] 36)
            have HB11 := Lib.hid (ext_trans (ext_trans HB9.out hb10) hal)
            have K13 := Lib.hid (Bk.new w10 36 #[.int .i8 a.x, .int .i8 a.y] w10.heap.size rfl)
            have kp11 := Lib.hid ((kp9.out.ext hb10).ext hal)
            have qh := Lib.hid (has_calls out _ a _ ((HO.out.ext HB11.out).sl Cell.c_len))
            clear hb10 hal p0' p1' qm
            unfold Cell.v at qh
            go_wp2_with fail
            refine qh.out.mono ?_
            rintro e w12 ⟨rfl, hb12⟩
            have HB12 := Lib.hid (ext_trans HB11.out hb12)
            have k13 := K13.out.ext hb12
            have kp12 := kp11.out.ext hb12
            have z0 := k13.cell 0 _ rfl
            have z1 := k13.cell 1 _ rfl
            have f0 := kp12.frz 0
            have f1 := kp12.frz 1
            have e0 := kp12.cell 0 _ rfl
            have e1 := kp12.cell 1 _ rfl
            have KP12 := Lib.hid kp12
            clear hb12 k13 kp12 K13 kp11 HB11
            by_cases hmem : a ∈ out
            · have hR := Lib.hid ((HRES.out.trans hRn.out).trans (if_pos hmem))
              have hdm : decide (a ∈ out) = true := decide_eq_true hmem
              rw [hdm]
              clear hmem hdm hRn
              go_wp2_with fail
              go_ret
              exact ⟨g, c, by rw [hR.out]; rfl, by rw [hR.out]; exact (HO.out.ext HB12.out).more (by omega), ext_trans HBo.out HB12.out⟩
            · have hR := Lib.hid ((HRES.out.trans hRn.out).trans (if_neg hmem))
              have hdm : decide (a ∈ out) = false := decide_eq_false hmem
              rw [hdm]
              clear hmem hdm hRn
              have M1 := Lib.hid ((KP12.out.set 0 (.int .i8 a.x)).set 1 (.int .i8 a.y))
              have G7 := Lib.hid ((gby_set w12 W.heap.size 0 (.int .i8 a.x)).trans (gby_set (w12.setCell ⟨W.heap.size, 0, none⟩ (.int .i8 a.x)) W.heap.size 1 (.int .i8 a.y)))
              have hO12 := Lib.hid (HO.out.ext HB12.out)
              have hO13 := Lib.hid (hO12.out.keep fun k hk => G7.out.block k (hO12.out.lt k hk) (fun he => by injection he with he; have := hO12.out.base k hk; omega))
              have HB13 := Lib.hid ((ext_trans HBo.out HB12.out).grown G7.out (ext_trans HBo.out HB12.out).size (fun j hj => by injection hj with hj; omega))
              have m0' := M1.out.cell 0 (.int .i8 a.x) (by simp)
              have m1' := M1.out.cell 1 (.int .i8 a.y) (by simp)
              have hs13 := Lib.hid (show W.heap.size + 1 ≤ ((w12.setCell ⟨W.heap.size, 0, none⟩ (.int .i8 a.x)).setCell ⟨W.heap.size, 1, none⟩ (.int .i8 a.y)).heap.size from M1.out.lt)
              have NP2 := Lib.hid (show Bk (((w12.setCell ⟨W.heap.size, 0, none⟩ (.int .i8 a.x)).setCell ⟨W.heap.size, 1, none⟩ (.int .i8 a.y)).alloc (.cells #[.int .i8 a.x, .int .i8 a.y] 36)) W.heap.size 36 #[.int .i8 a.x, .int .i8 a.y] from M1.out.alloc _)
              have HB14 := Lib.hid (HB13.out.alloc HB13.out.size (.cells #[.int .i8 a.x, .int .i8 a.y] 36))
              clear G7 hO12 KP12
              go_wp2_with (at_builtin; refine push_cellat rfl _ _ rfl (W.heap.size + 1) out _ rfl (hO13.out.alloc _) _ a rfl (Bk.new _ _ _ _ (by simp)) (by have := HLEN.out; omega) (Nat.le_trans hs13.out (by simp)) ?_)
              intro v3 w3 hO3 hG3 hat
              have hbase := Lib.hid (hO13.out.base g rfl)
              have kp3 := Lib.hid (NP2.out.grown (g' := g) (by simpa [Value.ownBlock] using hG3) (by have := hbase.out; omega))
              have hb3 := Lib.hid (HB14.out.grown hG3 HB14.out.size (fun j hj => by have h1 : g = j := by simpa [Value.ownBlock] using hj
                                                                                    have := hbase.out
                                                                                    omega))
              obtain ⟨g3, c3, rfl, _, _, _, _, _, _⟩ := hO3.room Cell.c_len (by simp)
              have hO3 := Lib.hid hO3
              obtain ⟨nx, hnx⟩ : ∃ nx : List Cell, nx = out ++ [a] := ⟨_, rfl⟩
              rw [← hnx] at hO3 hR ⊢
              have hnl := Lib.hid (show nx.length ≤ k + 1 + 1 from by rw [hnx]; have := HLEN.out; simp; omega)
              have ht3 := htr.out
              clear hG3 hat m0' m1' z0 z1 f0 f1 e0 e1 hnx
              go_wp2_with fail
              go_roundw
              case rel => exact ⟨k + 1, t, nx, a, g3, c3, by omega, by go_num, rfl, ht3, rfl, hnl.out, hR.out, hin.1, hin.2, hO3.out, kp3.out, hb3.out⟩
              case measure => first | (simp [intOf]; done) | (simp [intOf]; omega)
        · obtain rfl : m = 3 := by omega
          have hnx := Lib.hid (show nextWay sl p way = -1 from findI_none _ _ (all_of_take _ _ 3 rfl HALL.out))
          have hR := Lib.hid ((HRES.out.trans hstep.out).trans (if_pos (by rw [hnx.out]; omega)))
          have hm3I : decide (((3 : Nat) : Int) < 3) = false := by decide
          clear hstep hnx
          go_wp2_with fail
          refine wp_region_held_drew (S := (GwS wi W.heap.size bT p way a3 a1)) (by kernel_rfl) ?r20_hS0 (fun hHeld => ?r20_rest)
          case r20_hS0 => (try dsimp only); first | assumption | exact GwS.keep hl1 hl2 (by assumption) ((Below.refl _ _).drew) | exact GwS.keep hl1 hl2 (by assumption) (by assumption)
          refine wpAnyH_take (i := 0) (v := ?r20_vv0) (by (simp only [List.getElem?_toArray, List.getElem?_cons_succ, List.getElem?_cons_zero]; rfl)) (by kernel_rfl) (by kernel_rfl) (by kernel_rfl) (by exact fun _ _ _ h => h) (Or.inl ⟨by rfl, ?r20_hy0⟩) (by assumption) ?r20_rest0
          case r20_hy0 => intro w hSw; (try dsimp only at hSw); (go_simp <;> (with_reducible rfl))
          try simp only [Act.put, List.setIfInBounds_toArray, List.set_cons_zero, List.set_cons_succ]
          refine wpAnyH_take (i := 1) (v := ?r20_vv1) (by (simp only [List.getElem?_toArray, List.getElem?_cons_succ, List.getElem?_cons_zero]; rfl)) (by kernel_rfl) (by kernel_rfl) (by kernel_rfl) (by exact fun _ _ _ h => h) (Or.inl ⟨by rfl, ?r20_hy1⟩) (by assumption) ?r20_rest1
          case r20_hy1 => intro w hSw; (try dsimp only at hSw); (go_simp <;> (with_reducible rfl))
          try simp only [Act.put, List.setIfInBounds_toArray, List.set_cons_zero, List.set_cons_succ]
          refine wpAnyH_take (i := 2) (v := ?r20_vv2) (by (simp only [List.getElem?_toArray, List.getElem?_cons_succ, List.getElem?_cons_zero]; rfl)) (by kernel_rfl) (by kernel_rfl) (by kernel_rfl) (by exact fun _ _ _ h => h) (Or.inl ⟨by rfl, ?r20_hy2⟩) (by assumption) ?r20_rest2
          case r20_hy2 => intro w hSw; (try dsimp only at hSw); (go_simp <;> (with_reducible rfl))
          try simp only [Act.put, List.setIfInBounds_toArray, List.set_cons_zero, List.set_cons_succ]
          refine wpAnyH_take (i := 3) (v := undef) (by (simp only [List.getElem?_toArray, List.getElem?_cons_succ, List.getElem?_cons_zero]; rfl)) (by kernel_rfl) (by kernel_rfl) (by kernel_rfl) (by exact fun _ _ _ h => h) (Or.inr ⟨by rfl, rfl⟩) (by assumption) ?_
          try simp only [Act.put, List.setIfInBounds_toArray, List.set_cons_zero, List.set_cons_succ]
          refine wpAnyH_take (i := 4) (v := undef) (by (simp only [List.getElem?_toArray, List.getElem?_cons_succ, List.getElem?_cons_zero]; rfl)) (by kernel_rfl) (by kernel_rfl) (by kernel_rfl) (by exact fun _ _ _ h => h) (Or.inr ⟨by rfl, rfl⟩) (by assumption) ?_
          try simp only [Act.put, List.setIfInBounds_toArray, List.set_cons_zero, List.set_cons_succ]
          refine wpAnyH_take (i := 5) (v := undef) (by (simp only [List.getElem?_toArray, List.getElem?_cons_succ, List.getElem?_cons_zero]; rfl)) (by kernel_rfl) (by kernel_rfl) (by kernel_rfl) (by exact fun _ _ _ h => h) (Or.inr ⟨by rfl, rfl⟩) (by assumption) ?_
          try simp only [Act.put, List.setIfInBounds_toArray, List.set_cons_zero, List.set_cons_succ]
          refine wpAnyH_take (i := 6) (v := undef) (by (simp only [List.getElem?_toArray, List.getElem?_cons_succ, List.getElem?_cons_zero]; rfl)) (by kernel_rfl) (by kernel_rfl) (by kernel_rfl) (by exact fun _ _ _ h => h) (Or.inr ⟨by rfl, rfl⟩) (by assumption) ?_
          try simp only [Act.put, List.setIfInBounds_toArray, List.set_cons_zero, List.set_cons_succ]
          refine wpAnyH_take (i := 7) (v := undef) (by (simp only [List.getElem?_toArray, List.getElem?_cons_succ, List.getElem?_cons_zero]; rfl)) (by kernel_rfl) (by kernel_rfl) (by kernel_rfl) (by exact fun _ _ _ h => h) (Or.inr ⟨by rfl, rfl⟩) (by assumption) ?_
          try simp only [Act.put, List.setIfInBounds_toArray, List.set_cons_zero, List.set_cons_succ]
          refine wpAnyH_take (i := 8) (v := undef) (by (simp only [List.getElem?_toArray, List.getElem?_cons_succ, List.getElem?_cons_zero]; rfl)) (by kernel_rfl) (by kernel_rfl) (by kernel_rfl) (by exact fun _ _ _ h => h) (Or.inr ⟨by rfl, rfl⟩) (by assumption) ?_
          try simp only [Act.put, List.setIfInBounds_toArray, List.set_cons_zero, List.set_cons_succ]
          refine wpAnyH_take (i := 9) (v := undef) (by (simp only [List.getElem?_toArray, List.getElem?_cons_succ, List.getElem?_cons_zero]; rfl)) (by kernel_rfl) (by kernel_rfl) (by kernel_rfl) (by exact fun _ _ _ h => h) (Or.inr ⟨by rfl, rfl⟩) (by assumption) ?_
          try simp only [Act.put, List.setIfInBounds_toArray, List.set_cons_zero, List.set_cons_succ]
          refine wpAnyH_take (i := 10) (v := undef) (by (simp only [List.getElem?_toArray, List.getElem?_cons_succ, List.getElem?_cons_zero]; rfl)) (by kernel_rfl) (by kernel_rfl) (by kernel_rfl) (by exact fun _ _ _ h => h) (Or.inr ⟨by rfl, rfl⟩) (by assumption) ?_
          try simp only [Act.put, List.setIfInBounds_toArray, List.set_cons_zero, List.set_cons_succ]
          refine wpAnyH_take (i := 11) (v := ?r20_vv11) (by (simp only [List.getElem?_toArray, List.getElem?_cons_succ, List.getElem?_cons_zero]; rfl)) (by kernel_rfl) (by kernel_rfl) (by kernel_rfl) (by exact fun _ _ _ h => h) (Or.inl ⟨by rfl, ?r20_hy11⟩) (by assumption) ?r20_rest11
          case r20_hy11 => intro w hSw; (try dsimp only at hSw); (go_simp <;> (with_reducible rfl))
          try simp only [Act.put, List.setIfInBounds_toArray, List.set_cons_zero, List.set_cons_succ]
          refine wpAnyH_done (by kernel_rfl) ?_ _
          have HB9 := Lib.hid (show Below wi.heap.size wi _ from And.left (b := _) (by assumption))
          go_wp2_with fail
          go_ret
          exact ⟨g, c, by rw [hR.out]; rfl, by rw [hR.out]; exact ((HO.out.ext hwoi2.out).ext HB9.out).more (by omega), (HBo.out.trans (hwoi.out.mono (by have := HBo.out.size; omega))).trans (HB9.out.mono (by have := hl1; omega))⟩
    · obtain rfl : k = n := by omega
      rw [Nat.sub_self] at HRES
      have hE := Lib.hid (show RES = out from HRES.out)
      go_wp2_with fail
      go_ret
      exact ⟨g, c, by rw [hE.out]; rfl, by rw [hE.out]; exact HO.out.more (by omega), HBo.out⟩
end Go.Proofs.Ytpjdgpcdcihogaa
