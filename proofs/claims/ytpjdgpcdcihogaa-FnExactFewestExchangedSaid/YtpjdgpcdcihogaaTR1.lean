/-
Trips: pairs of slabs whose levels differ by more than a limit. Of both programs. Conditions: levels are small, pairs are pairs of indices.
-/
import Derived.Test.YtpjdgpcdcihogaaDF1
set_option linter.unusedVariables false
set_option linter.unusedSimpArgs false
set_option maxRecDepth 100000
namespace Go.Proofs.Ytpjdgpcdcihogaa
open Go.RowKit
def offI (lv : List Int) (p : Pair) : Int := max (lv.getD p.a.toNat 0 - lv.getD p.b.toNat 0) (-(lv.getD p.a.toNat 0 - lv.getD p.b.toNat 0))
def tripsL (lv : List Int) (limit : Int) (ps : List Pair) : List Pair := ps.filter fun p => decide (limit < offI lv p)
/-- A pair of indices. -/
def idxP (n : Nat) (p : Pair) : Prop := 0 ≤ p.a ∧ p.a < n ∧ 0 ≤ p.b ∧ p.b < n
def smallL (lv : List Int) : Prop := ∀ n ∈ lv, -100 ≤ n ∧ n ≤ 100
theorem getD_mem0 (lv : List Int) (k : Nat) (hk : k < lv.length) : lv.getD k 0 = lv[k] := by simp [List.getD_eq_getElem?_getD, hk]
set_option maxHeartbeats 1000000 in
theorem sOff_calls (lv : List Int) (v : Value) (p : Pair) (W : World) (hs : Sl W W.heap.size i64c 1 v lv) (hp : idxP lv.length p) (hl : smallL lv) :
    Calls Try.prog 111 #[v, p.v] W fun e w' => e = .returned (.int .i64 (offI lv p)) ∧ Below W.heap.size W w' := by
  obtain ⟨A, cap, rfl, hn, hm, hcell⟩ := hs.i64
  obtain ⟨ha0, ha1, hb0, hb1⟩ := hp
  obtain ⟨pa, pb⟩ := p
  obtain ⟨an, rfl⟩ : ∃ n : Nat, pa = (n : Int) := ⟨pa.toNat, (Int.toNat_of_nonneg ha0).symm⟩
  obtain ⟨bn, rfl⟩ : ∃ n : Nat, pb = (n : Int) := ⟨pb.toNat, (Int.toNat_of_nonneg hb0).symm⟩
  have ha : an < lv.length := by simp only at ha1; omega
  have hb : bn < lv.length := by simp only at hb1; omega
  have hR := Lib.hid (show offI lv ⟨(an : Int), (bn : Int)⟩ = max (lv[an] - lv[bn]) (-(lv[an] - lv[bn])) from by simp only [offI, Int.toNat_natCast, getD_mem0 lv an ha, getD_mem0 lv bn hb])
  obtain ⟨b1, o1, rfl, hbb, c0⟩ := hcell an ha
  obtain ⟨b2, o2, he, hbb2, c1⟩ := hcell bn hb
  obtain ⟨rfl, rfl⟩ : b1 = b2 ∧ o1 = o2 := by injection he with he; injection he with e1 e2; exact ⟨e1, e2⟩
  have hx := hl _ (List.getElem_mem ha)
  have hy := hl _ (List.getElem_mem hb)
  generalize lv[an] = x at *
  generalize lv[bn] = y at *
  clear he hcell hs hl hbb2
  have hw := wrapIn (x - y) (by omega) (by omega)
  have HB := Lib.hid ((Below.refl W.heap.size W).alloc (Nat.le_refl _) (.cells #[.int .i64 (an : Int), .int .i64 (bn : Int)] 98))
  have K := Lib.hid (Bk.new W 98 #[.int .i64 (an : Int), .int .i64 (bn : Int)] W.heap.size rfl)
  have i0 : (0 : Int) ≤ (an : Int) := by omega
  have i1 : (an : Int) < (lv.length : Int) := by omega
  have i2 : (0 : Int) ≤ (bn : Int) := by omega
  have i3 : (bn : Int) < (lv.length : Int) := by omega
  have hmx := Lib.hid (show max (x - y) (-(x - y)) = _ from Int.max_def _ _)
  unfold Pair.v
  go_enter Try.func111, Try.ntmps111
  go_wp2_with fail
  have hlt : W.heap.size < (W.alloc (.cells #[.int .i64 (an : Int), .int .i64 (bn : Int)] 98)).heap.size := by simp
  have hcW := (HB.out.cell (p := ⟨b1, o1 + an, none⟩) hbb).trans c0
  have hcW2 := (HB.out.cell (p := ⟨b1, o1 + bn, none⟩) hbb).trans c1
  have k0 := K.out.cell 0 _ rfl
  have k1 := K.out.cell 1 _ rfl
  generalize W.alloc (.cells #[.int .i64 (an : Int), .int .i64 (bn : Int)] 98) = W1 at *
  clear c0 c1
  go_quiet (fail)
  go_wp2_with fail
  refine (max_calls _ _ _).mono ?_
  rintro e w3 ⟨rfl, rfl⟩
  go_wp2_with fail
  all_goals
    go_ret
    refine ⟨ret_int ?_, ext_drewN HB.out _⟩
    have e1 := hR.out
    have e2 := hmx.out
    clear hR hmx
    first | exact e1.symm | (rw [e1, e2]; split <;> omega)
set_option maxHeartbeats 1000000 in
theorem difference_calls (lv : List Int) (v : Value) (p : Pair) (W : World) (hs : Sl W W.heap.size i64c 1 v lv) (hp : idxP lv.length p) (hl : smallL lv) :
    Calls Try.prog 115 #[v, p.v] W fun e w' => e = .returned (.int .i64 (offI lv p)) ∧ Below W.heap.size W w' := by
  obtain ⟨A, cap, rfl, hn, hm, hcell⟩ := hs.i64
  obtain ⟨ha0, ha1, hb0, hb1⟩ := hp
  obtain ⟨pa, pb⟩ := p
  obtain ⟨an, rfl⟩ : ∃ n : Nat, pa = (n : Int) := ⟨pa.toNat, (Int.toNat_of_nonneg ha0).symm⟩
  obtain ⟨bn, rfl⟩ : ∃ n : Nat, pb = (n : Int) := ⟨pb.toNat, (Int.toNat_of_nonneg hb0).symm⟩
  have ha : an < lv.length := by simp only at ha1; omega
  have hb : bn < lv.length := by simp only at hb1; omega
  have hR := Lib.hid (show offI lv ⟨(an : Int), (bn : Int)⟩ = max (lv[an] - lv[bn]) (-(lv[an] - lv[bn])) from by simp only [offI, Int.toNat_natCast, getD_mem0 lv an ha, getD_mem0 lv bn hb])
  obtain ⟨b1, o1, rfl, hbb, c0⟩ := hcell an ha
  obtain ⟨b2, o2, he, hbb2, c1⟩ := hcell bn hb
  obtain ⟨rfl, rfl⟩ : b1 = b2 ∧ o1 = o2 := by injection he with he; injection he with e1 e2; exact ⟨e1, e2⟩
  have hx := hl _ (List.getElem_mem ha)
  have hy := hl _ (List.getElem_mem hb)
  generalize lv[an] = x at *
  generalize lv[bn] = y at *
  clear he hcell hs hl hbb2
  have hw := wrapIn (x - y) (by omega) (by omega)
  have HB := Lib.hid ((Below.refl W.heap.size W).alloc (Nat.le_refl _) (.cells #[.int .i64 (an : Int), .int .i64 (bn : Int)] 98))
  have K := Lib.hid (Bk.new W 98 #[.int .i64 (an : Int), .int .i64 (bn : Int)] W.heap.size rfl)
  have i0 : (0 : Int) ≤ (an : Int) := by omega
  have i1 : (an : Int) < (lv.length : Int) := by omega
  have i2 : (0 : Int) ≤ (bn : Int) := by omega
  have i3 : (bn : Int) < (lv.length : Int) := by omega
  have hmx := Lib.hid (show max (x - y) (-(x - y)) = _ from Int.max_def _ _)
  unfold Pair.v
  go_enter Try.func115, Try.ntmps115
  go_wp2_with fail
  have hlt : W.heap.size < (W.alloc (.cells #[.int .i64 (an : Int), .int .i64 (bn : Int)] 98)).heap.size := by simp
  have hcW := (HB.out.cell (p := ⟨b1, o1 + an, none⟩) hbb).trans c0
  have hcW2 := (HB.out.cell (p := ⟨b1, o1 + bn, none⟩) hbb).trans c1
  have k0 := K.out.cell 0 _ rfl
  have k1 := K.out.cell 1 _ rfl
  generalize W.alloc (.cells #[.int .i64 (an : Int), .int .i64 (bn : Int)] 98) = W1 at *
  clear c0 c1
  go_quiet (fail)
  go_wp2_with fail
  all_goals
    go_ret
    refine ⟨ret_int ?_, ext_drewN HB.out _⟩
    have e1 := hR.out
    have e2 := hmx.out
    clear hR hmx
    first | exact e1.symm | (rw [e1, e2]; split <;> omega)
theorem below_of_grown {w W : World} {g B : Nat} (h : w.grownBy W (some g)) (hg : B ≤ g) (hB : B ≤ w.heap.size) : Below B w W :=
  ⟨h.os, h.tape, h.output, h.size, fun k hk => h.block k (by omega) (fun e => by injection e with e; omega)⟩
abbrev TpS (W0 : World) (b1 b2 c : Nat) (v : Value) (limit : Int) (p : Pair) (w' : World) : Prop :=
  Below W0.heap.size W0 w' ∧ w'.cell? ⟨b1, 0, none⟩ = some v ∧ w'.cell? ⟨b2, 0, none⟩ = some (.int .i64 limit) ∧ w'.cell? ⟨c, 0, none⟩ = some (.int .i64 p.a) ∧ w'.cell? ⟨c, 1, none⟩ = some (.int .i64 p.b)
theorem TpS.keep {W0 w1 w2 : World} {b1 b2 c : Nat} {v : Value} {limit : Int} {p : Pair} (h1 : b1 < W0.heap.size) (h2 : b2 < W0.heap.size) (h3 : c < W0.heap.size) (hS : TpS W0 b1 b2 c v limit p w1) (k : Below w1.heap.size w1 w2) : TpS W0 b1 b2 c v limit p w2 := by
  obtain ⟨g0, g1, g2, g3, g4⟩ := hS
  have q : ∀ b o, b < W0.heap.size → w2.cell? ⟨b, o, none⟩ = w1.cell? ⟨b, o, none⟩ := fun b o hb => k.cell (p := ⟨b, o, none⟩) (Nat.lt_of_lt_of_le hb g0.size)
  exact ⟨ext_trans g0 k, (q _ _ h1).trans g1, (q _ _ h2).trans g2, (q _ _ h3).trans g3, (q _ _ h3).trans g4⟩
set_option maxHeartbeats 1000000 in
theorem trip1Fn (lv : List Int) (v : Value) (limit : Int) (b1 b2 g0 : Nat) (w : World) (h1 : w.cell? ⟨b1, 0, none⟩ = some v) (h2 : w.cell? ⟨b2, 0, none⟩ = some (.int .i64 limit)) (B : Nat) (hb1 : b1 < B) (hb2 : b2 < B) (hs : Sl w B i64c 1 v lv) (hBg : B ≤ g0) (hBw : B ≤ w.heap.size) (x : Pair) (hx : idxP lv.length x) (hl : smallL lv) :
    TellsR Try.prog 114 #[.pointer (some ⟨b1, 0, none⟩), .pointer (some ⟨b2, 0, none⟩)] Pair.v (fun p => decide (offI lv p ≤ limit)) w (some g0) x := by
  intro W hW
  have hb := below_of_grown hW hBg hBw
  have c1 := (hb.cell (p := ⟨b1, 0, none⟩) hb1).trans h1
  have c2 := (hb.cell (p := ⟨b2, 0, none⟩) hb2).trans h2
  have HS := Lib.hid ((hs.keep hb).more (Nat.le_trans hBw hb.size))
  have l1 : b1 < W.heap.size := Nat.lt_of_lt_of_le hb1 (Nat.le_trans hBw hb.size)
  have l2 : b2 < W.heap.size := Nat.lt_of_lt_of_le hb2 (Nat.le_trans hBw hb.size)
  obtain ⟨A, cap, rfl, -, -, -⟩ := hs.i64
  clear hs hb hW h1 h2 hb1 hb2 hBg hBw
  have HB := Lib.hid ((Below.refl W.heap.size W).alloc (Nat.le_refl _) (.cells #[.int .i64 x.a, .int .i64 x.b] 98))
  have K := Lib.hid (Bk.new W 98 #[.int .i64 x.a, .int .i64 x.b] W.heap.size rfl)
  have hS : TpS (W.alloc (.cells #[.int .i64 x.a, .int .i64 x.b] 98)) b1 b2 W.heap.size (.slice A lv.length cap) limit x (W.alloc (.cells #[.int .i64 x.a, .int .i64 x.b] 98)) := ⟨Below.refl _ _, (HB.out.cell (p := ⟨b1, 0, none⟩) l1).trans c1, (HB.out.cell (p := ⟨b2, 0, none⟩) l2).trans c2, K.out.cell 0 _ rfl, K.out.cell 1 _ rfl⟩
  have hlt : W.heap.size < (W.alloc (.cells #[.int .i64 x.a, .int .i64 x.b] 98)).heap.size := by simp
  have hl1 : b1 < (W.alloc (.cells #[.int .i64 x.a, .int .i64 x.b] 98)).heap.size := by omega
  have hl2 : b2 < (W.alloc (.cells #[.int .i64 x.a, .int .i64 x.b] 98)).heap.size := by omega
  have HSa := Lib.hid (HS.out.alloc (.cells #[.int .i64 x.a, .int .i64 x.b] 98))
  unfold Pair.v
  have qd := Lib.hid (show ∀ W', Sl W' W'.heap.size i64c 1 (.slice A lv.length cap) lv → Calls Try.prog 115 #[.slice A lv.length cap, .agg #[.int .i64 x.a, .int .i64 x.b]] W' (fun e w' => e = .returned (.int .i64 (offI lv x)) ∧ Below W'.heap.size W' w') from fun W' h => difference_calls lv _ x W' h hx hl)
  have hR := Lib.hid (show (fun p => decide (offI lv p ≤ limit)) x = decide (offI lv x ≤ limit) from rfl)
  clear c1 c2 HS K hl hx
  generalize offI lv x = d at *
  go_enter Try.func114, Try.ntmps114
  go_wp2_with fail
  generalize W.alloc (.cells #[.int .i64 x.a, .int .i64 x.b] 98) = W1 at *
  refine wp_region_held_drew (S := (TpS W1 b1 b2 W.heap.size (.slice A lv.length cap) limit x)) (by kernel_rfl) ?r21_hS0 (fun hHeld => ?r21_rest)
  case r21_hS0 => (try dsimp only); first | assumption | exact TpS.keep hl1 hl2 hlt (by assumption) ((Below.refl _ _).drew) | exact TpS.keep hl1 hl2 hlt (by assumption) (by assumption)
  refine wpAnyH_take (i := 0) (v := ?r21_vv0) (by (simp only [List.getElem?_toArray, List.getElem?_cons_succ, List.getElem?_cons_zero]; rfl)) (by kernel_rfl) (by kernel_rfl) (by kernel_rfl) (by exact fun _ _ _ h => h) (Or.inl ⟨by rfl, ?r21_hy0⟩) (by assumption) ?r21_rest0
  case r21_hy0 => intro w hSw; (try dsimp only at hSw); (go_simp <;> (with_reducible rfl))
  try simp only [Act.put, List.setIfInBounds_toArray, List.set_cons_zero, List.set_cons_succ]
  refine wpAnyH_take (i := 1) (v := ?r21_vv1) (by (simp only [List.getElem?_toArray, List.getElem?_cons_succ, List.getElem?_cons_zero]; rfl)) (by kernel_rfl) (by kernel_rfl) (by kernel_rfl) (by exact fun _ _ _ h => h) (Or.inl ⟨by rfl, ?r21_hy1⟩) (by assumption) ?r21_rest1
  case r21_hy1 => intro w hSw; (try dsimp only at hSw); (go_simp <;> (with_reducible rfl))
  try simp only [Act.put, List.setIfInBounds_toArray, List.set_cons_zero, List.set_cons_succ]
  refine wpAnyH_take (i := 3) (v := ?r21_vv3) (by (simp only [List.getElem?_toArray, List.getElem?_cons_succ, List.getElem?_cons_zero]; rfl)) (by kernel_rfl) (by kernel_rfl) (by kernel_rfl) (by exact fun _ _ _ h => h) (Or.inl ⟨by rfl, ?r21_hy3⟩) (by assumption) ?r21_rest3
  case r21_hy3 => intro w hSw; (try dsimp only at hSw); (go_simp <;> (with_reducible rfl))
  try simp only [Act.put, List.setIfInBounds_toArray, List.set_cons_zero, List.set_cons_succ]
  refine wpAnyH_ready (rs := [2]) (by kernel_rfl) (by simp) ?_
  refine AllReadyH.cons (by (simp only [List.getElem?_toArray, List.getElem?_cons_succ, List.getElem?_cons_zero]; rfl)) (fun K hK => ?_) AllReadyH.nil
  go_simp
  (go_at_call 115; with_reducible refine (qd.out _ (HSa.out.ext (And.left (b := _) (by assumption)))).mono ?_; rintro e w10 ⟨rfl, hb10⟩)
  try go_wp2_with fail
  refine hK.out _ _ ?r21_hS2 (fun hHeld => ?r21_r2)
  case r21_hS2 => (try dsimp only); first | assumption | exact TpS.keep hl1 hl2 hlt (by assumption) ((Below.refl _ _).drew) | exact TpS.keep hl1 hl2 hlt (by assumption) (by assumption)
  clear hK K
  try simp only [Act.put, List.setIfInBounds_toArray, List.set_cons_zero, List.set_cons_succ]
  refine wpAnyH_take (i := 4) (v := ?r21_vv4) (by (simp only [List.getElem?_toArray, List.getElem?_cons_succ, List.getElem?_cons_zero]; rfl)) (by kernel_rfl) (by kernel_rfl) (by kernel_rfl) (by exact fun _ _ _ h => h) (Or.inl ⟨by rfl, ?r21_hy4⟩) (by assumption) ?r21_rest4
  case r21_hy4 => intro w hSw; (try dsimp only at hSw); (go_simp <;> (with_reducible rfl))
  try simp only [Act.put, List.setIfInBounds_toArray, List.set_cons_zero, List.set_cons_succ]
  refine wpAnyH_take (i := 5) (v := ?r21_vv5) (by (simp only [List.getElem?_toArray, List.getElem?_cons_succ, List.getElem?_cons_zero]; rfl)) (by kernel_rfl) (by kernel_rfl) (by kernel_rfl) (by exact fun _ _ _ h => h) (Or.inl ⟨by rfl, ?r21_hy5⟩) (by assumption) ?r21_rest5
  case r21_hy5 => intro w hSw; (try dsimp only at hSw); (go_simp <;> (with_reducible rfl))
  try simp only [Act.put, List.setIfInBounds_toArray, List.set_cons_zero, List.set_cons_succ]
  refine wpAnyH_done (by kernel_rfl) ?_ _
  have HB9 := Lib.hid (show Below W1.heap.size W1 _ from And.left (b := _) (by assumption))
  repeat clear hHeld
  go_wp2_with fail
  go_ret
  exact ⟨ret_bool hR.out.symm, ext_trans HB.out HB9.out⟩
theorem deleteFuncNil (W : World) (f : FuncId) (lb : Array Value) (p : Pair → Bool) (eg : Enters Try.prog f) :
    Calls Try.prog 76 #[.slice none 0 0, .func (.func f) #[] lb] W fun e w' => e = .returned (.slice none 0 0) ∧ Below W.heap.size W w' := by
  have qi := Lib.hid (indexFuncPair [] _ W (Sl.nil_ _ _ _ _) f lb p eg (fun x hx => by cases hx))
  rw [show findI p [] = -1 from rfl] at qi
  go_enter Try.func76, Try.ntmps76
  go_wp2_with fail
  refine qi.out.mono ?_
  rintro e w1 ⟨rfl, hb1⟩
  have HB1 := Lib.hid hb1
  clear hb1
  go_wp2_with fail
  go_ret
  exact ⟨rfl, HB1.out⟩
theorem not_le_dec (lv : List Int) (limit : Int) (ps : List Pair) : (ps.filter fun x => !decide (offI lv x ≤ limit)) = tripsL lv limit ps := by
  unfold tripsL
  apply List.filter_congr
  intro x _
  rw [Bool.eq_iff_iff]
  simp
set_option maxHeartbeats 1000000 in
theorem trips_calls (ps : List Pair) (v : Value) (lv : List Int) (u : Value) (limit : Int) (W : World) (hs : Sl W W.heap.size Pair.c 2 v ps) (hn : ps.length ≤ 1000000) (ht : Sl W W.heap.size i64c 1 u lv) (hp : ∀ p ∈ ps, idxP lv.length p) (hl : smallL lv) :
    Calls Try.prog 65 #[v, u, .int .i64 limit] W (RetRow W 98 Pair.c 2 (tripsL lv limit ps)) := by
  obtain ⟨A, cap, rfl, -, -, -⟩ := hs.pair
  obtain ⟨A2, cap2, rfl, -, -, -⟩ := ht.i64
  have eg := enters_of Try.func114 (by kernel_rfl) rfl
  have HS := Lib.hid hs
  have HT := Lib.hid ht
  have HB := Lib.hid (ext_alloc ((Below.refl W.heap.size W).alloc (Nat.le_refl _) (.cells #[.slice A2 lv.length cap2] 29)) (.cells #[.int .i64 limit] 2))
  have K1 := Lib.hid ((Bk.new W 29 #[.slice A2 lv.length cap2] W.heap.size rfl).alloc (.cells #[.int .i64 limit] 2))
  have K2 := Lib.hid (Bk.new (W.alloc (.cells #[.slice A2 lv.length cap2] 29)) 2 #[.int .i64 limit] (W.heap.size + 1) (by simp))
  have hsz := Lib.hid (show ((W.alloc (.cells #[.slice A2 lv.length cap2] 29)).alloc (.cells #[.int .i64 limit] 2)).heap.size = W.heap.size + 1 + 1 from by simp)
  have qc := Lib.hid (clonePair_calls ps _ _ (HS.out.ext HB.out) hn)
  have hpr := Lib.hid (not_le_dec lv limit ps)
  have HP := Lib.hid hp
  have HL := Lib.hid hl
  clear hs ht hp hl
  go_enter Try.func65, Try.ntmps65
  go_wp2_with fail
  refine qc.out.mono ?_
  rintro e w1 ⟨v1, rfl, hO1, hb1⟩
  have HO1 := Lib.hid hO1
  have HB1 := Lib.hid (ext_trans HB.out hb1)
  have K11 := Lib.hid (K1.out.ext hb1)
  have K21 := Lib.hid (K2.out.ext hb1)
  have hs1 := Lib.hid hb1.size
  rcases hO1.out.2 with ⟨rfl, hl0⟩ | ⟨g1, cap1, cur, rfl, hg1, -⟩
  · have h0 : ps = [] := List.eq_nil_of_length_eq_zero hl0
    have qd := Lib.hid (deleteFuncNil w1 114 #[.pointer (some ⟨W.heap.size, 0, none⟩), .pointer (some ⟨W.heap.size + 1, 0, none⟩)] (fun p => decide (offI lv p ≤ limit)) eg)
    have hE := Lib.hid (show tripsL lv limit ps = [] from by rw [h0]; rfl)
    clear hO1 hb1 h0 hl0
    go_wp2_with fail
    refine qd.out.mono ?_
    rintro e w2 ⟨rfl, hb2⟩
    have HB2 := Lib.hid (ext_trans HB1.out hb2)
    clear hb2
    go_wp2_with fail
    go_ret
    exact ⟨_, rfl, by rw [hE.out]; exact Own.nil_ _ _ _ _ _, HB2.out⟩
  · have qd := Lib.hid (deleteFuncPair ps g1 cap1 _ w1 HO1.out hs1.out 114 #[.pointer (some ⟨W.heap.size, 0, none⟩), .pointer (some ⟨W.heap.size + 1, 0, none⟩)] (fun p => decide (offI lv p ≤ limit)) eg (fun x hx => trip1Fn lv _ limit W.heap.size (W.heap.size + 1) g1 w1 (K11.out.cell 0 _ rfl) (K21.out.cell 0 _ rfl) _ (by rw [hsz.out]; omega) (by rw [hsz.out]; omega) ((HT.out.keep HB1.out).more (by rw [hsz.out]; omega)) hg1 hs1.out x (HP.out x hx) HL.out))
    rw [hpr.out] at qd
    clear hO1 hb1 hg1
    go_wp2_with fail
    refine qd.out.mono ?_
    rintro e w2 ⟨rfl, hO2, hG2⟩
    have HB2 := Lib.hid (HB1.out.grown hG2 HB1.out.size (fun j hj => by injection hj with hj; have := HO1.out.base j (by rw [← hj]; rfl); rw [hsz.out] at this; omega))
    have HO2 := Lib.hid (hO2.more (show W.heap.size ≤ _ from by rw [hsz.out]; omega))
    clear hO2 hG2
    go_wp2_with fail
    go_ret
    exact ⟨_, rfl, HO2.out, HB2.out⟩
end Go.Proofs.Ytpjdgpcdcihogaa
