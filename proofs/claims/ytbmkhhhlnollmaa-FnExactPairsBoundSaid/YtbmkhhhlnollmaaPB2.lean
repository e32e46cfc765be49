/-
PairsBound of both programs. Conditions: slices can be read.
-/
import Derived.Test.YtbmkhhhlnollmaaPB1
import Derived.Test.YtbmkhhhlnollmaaCT1
import Derived.Test.YtbmkhhhlnollmaaAP
set_option linter.unusedVariables false
set_option linter.unusedSimpArgs false
set_option maxRecDepth 100000
namespace Go.Proofs.Ytbmkhhhlnollmaa
open Go.RowKit
def pbStep (us : List Int) (p : Pair) : List Int := if p.a ∈ us ∨ p.b ∈ us then us else us ++ [p.a, p.b]
def pbFold (ps : List Pair) : List Int := ps.foldl pbStep []
theorem pbFold_succ (ps : List Pair) (k : Nat) (hk : k < ps.length) : pbFold (ps.take (k + 1)) = pbStep (pbFold (ps.take k)) ps[k] := by
  rw [List.take_succ_eq_append_getElem hk, pbFold, List.foldl_append]; rfl
theorem pbStep_len (us : List Int) (p : Pair) : (pbStep us p).length ≤ us.length + 2 := by
  unfold pbStep
  split <;> simp
theorem pbFold_len (ps : List Pair) : ∀ k, (pbFold (ps.take k)).length ≤ 2 * k
  | 0 => by simp [pbFold]
  | k + 1 => by
    have ih := pbFold_len ps k
    by_cases hk : k < ps.length
    · rw [pbFold_succ ps k hk]
      have := pbStep_len (pbFold (ps.take k)) ps[k]
      omega
    · have e1 : ps.take (k + 1) = ps := List.take_of_length_le (by omega)
      have e2 : ps.take k = ps := List.take_of_length_le (by omega)
      rw [e1]
      rw [e2] at ih
      omega
def pairsBound (w h : Int) (sl : List Slab) (lv : List Int) (limit : Int) : Int × Int := if tripC w h sl lv (inB limit 0 200) = 0 then ((((pbFold (tripsL lv limit (prsL sl))).length / 2 : Nat) : Int), 0) else (0, tripC w h sl lv (inB limit 0 200))
theorem pairsBound_ok {w h : Int} {sl : List Slab} {lv : List Int} {limit : Int} (hc : tripC w h sl lv (inB limit 0 200) = 0) : pairsBound w h sl lv limit = ((((pbFold (tripsL lv limit (prsL sl))).length / 2 : Nat) : Int), 0) := if_pos hc
theorem pairsBound_no {w h : Int} {sl : List Slab} {lv : List Int} {limit : Int} (hc : ¬ tripC w h sl lv (inB limit 0 200) = 0) : pairsBound w h sl lv limit = (0, tripC w h sl lv (inB limit 0 200)) := if_neg hc
def RetII (W : World) (r : Int × Int) (e : Ending) (w' : World) : Prop := e = .returned (.tuple #[.int .i64 r.1, .int .i64 r.2]) ∧ Below W.heap.size W w'
abbrev PbS (W0 : World) (B b o : Nat) (p : Pair) (w' : World) : Prop :=
  Below B W0 w' ∧ w'.cell? ⟨b, o, none⟩ = some (.int .i64 p.a) ∧ w'.cell? ⟨b, o + 1, none⟩ = some (.int .i64 p.b)
theorem PbS.keep {W0 w1 w2 : World} {B b o : Nat} {p : Pair} (hB : B ≤ W0.heap.size) (hb : b < B) (hS : PbS W0 B b o p w1) (k : Below w1.heap.size w1 w2) : PbS W0 B b o p w2 := by
  obtain ⟨h0, h1, h2⟩ := hS
  have q : ∀ o, w2.cell? ⟨b, o, none⟩ = w1.cell? ⟨b, o, none⟩ := fun o => k.cell (p := ⟨b, o, none⟩) (Nat.lt_of_lt_of_le hb (Nat.le_trans hB h0.size))
  exact ⟨h0.trans (k.mono (Nat.le_trans hB h0.size)), (q _).trans h1, (q _).trans h2⟩
theorem PbS.keepG {W0 w1 w2 : World} {B b o : Nat} {p : Pair} {r : Option Nat} (hB : B ≤ W0.heap.size) (hb : b < B) (hS : PbS W0 B b o p w1) (hG : w1.grownBy w2 r) (hr : ∀ j, r = some j → B ≤ j) : PbS W0 B b o p w2 := by
  obtain ⟨h0, h1, h2⟩ := hS
  have k : Below B w1 w2 := (Below.refl _ _).grown hG (Nat.le_trans hB h0.size) hr
  have q : ∀ o, w2.cell? ⟨b, o, none⟩ = w1.cell? ⟨b, o, none⟩ := fun o => k.cell (p := ⟨b, o, none⟩) hb
  exact ⟨h0.trans k, (q _).trans h1, (q _).trans h2⟩
set_option maxHeartbeats 2000000 in
theorem specPairsBound_calls (w h : Int) (z : Value) (sl : List Slab) (lv : List Int) (u : Value) (limit : Int) (W : World) (hq : SqIn W w h z sl) (ht : Sl W W.heap.size i64c 1 u lv) :
    Calls Try.prog 49 #[sqv w h z, u, .int .i64 limit] W (RetII W (pairsBound w h sl lv limit)) := by
  obtain ⟨A, cap, hz, -, -, -⟩ := hq.sl.slab
  subst hz
  obtain ⟨A2, cap2, rfl, -, -, -⟩ := ht.i64
  have HQ := Lib.hid hq
  have HT := Lib.hid ht
  have HB := Lib.hid ((Below.refl W.heap.size W).alloc (Nat.le_refl _) (.cells #[.int .i8 w, .int .i8 h, .slice A sl.length cap] 34))
  have K0 := Lib.hid (Bk.new W 34 #[.int .i8 w, .int .i8 h, .slice A sl.length cap] W.heap.size rfl)
  have HA := Lib.hid (show Sq.at_ (W.alloc (.cells #[.int .i8 w, .int .i8 h, .slice A sl.length cap] 34)) W.heap.size 0 w h (.slice A sl.length cap) from ⟨K0.out.cell 0 _ rfl, K0.out.cell 1 _ rfl, K0.out.cell 2 _ rfl, K0.out.lt⟩)
  have qa := Lib.hid (fun fine => sAsked_calls W.heap.size 0 w h _ sl lv _ fine _ (hq.ext HB.out) HA.out (ht.ext HB.out))
  clear hq ht
  unfold sqv
  go_enter Try.func49, Try.ntmps49
  go_wp2_with fail
  refine (sLimit_calls _ _).mono ?_
  rintro e w1 ⟨rfl, rfl⟩
  go_wp2_with fail
  refine (qa.out _).mono ?_
  rintro e w1 ⟨rfl, hb1⟩
  have HB1 := Lib.hid (ext_trans HB.out hb1)
  have HA1 := Lib.hid (HA.out.ext hb1)
  clear hb1 qa
  by_cases hc : tripC w h sl lv (inB limit 0 200) = 0
  · have hE := Lib.hid (pairsBound_ok hc)
    obtain ⟨hlb, -⟩ := tripC_ok hc
    obtain ⟨hv, hll, hsm⟩ := levB_ok hlb
    have qt := Lib.hid (sTrips_calls W.heap.size 0 w h _ sl lv _ limit hv hsm hll w1 (HQ.out.ext HB1.out) HA1.out (HT.out.ext HB1.out))
    have hpl := Lib.hid (Nat.le_trans (tripsL_len lv limit (prsL sl)) (prsL_len60 (sqOk_len hv)))
    rw [hc]
    clear hc hv hll hsm hlb
    generalize tripsL lv limit (prsL sl) = ps at *
    go_wp2_with fail
    refine qt.out.mono ?_
    rintro e w2 ⟨v2, rfl, hO2, hb2⟩
    obtain ⟨A4, cap4, rfl, -, -, -⟩ := (hO2.sl Pair.c_len).pair
    have HB2 := Lib.hid (ext_trans HB1.out hb2)
    have HB3 := Lib.hid (HB2.out.alloc HB2.out.size (.cells #[] 2))
    have HP := Lib.hid (hO2.alloc (.cells #[] 2))
    have hU0 := Lib.hid (Own.empty (α := Int) (c := i64c) (sz := 1) (E := 2) w2 w2.heap.size w2.heap.size rfl (Nat.le_refl _))
    have hsz2 := Lib.hid HB2.out.size
    have HPL := Lib.hid (show ∀ j, (Value.slice A4 ps.length cap4).ownBlock = some j → j < w2.heap.size from fun j hj => hO2.lt j hj)
    clear hO2 hb2
    go_wp2_with fail
    generalize w2.alloc (.cells #[] 2) = w3 at *
    generalize w2.heap.size = B2 at *
    go_loopw [10, 11] (fun r c wr => ∃ k : Nat, k ≤ ps.length ∧ c = .int .i64 (k : Int) ∧ Own wr B2 2 i64c 1 r (pbFold (ps.take k)) ∧ Own wr w1.heap.size 120 Pair.c 2 (.slice A4 ps.length cap4) ps ∧ Below W.heap.size W wr ∧ B2 ≤ wr.heap.size) (fun _ c _ => ps.length - (intOf c).toNat)
    case atStart => exact ⟨0, by omega, rfl, hU0.out, HP.out, HB3.out, Nat.le_of_lt (hU0.out.lt _ rfl)⟩
    case round =>
      obtain ⟨k, hk, rfl, hO, hP, hb, hszr⟩ := hrel
      have HO := Lib.hid hO
      have HPr := Lib.hid hP
      have HBr := Lib.hid hb
      obtain ⟨A5, cap5, rfl, -, -, -⟩ := (hO.sl i64c_len).i64
      have hlen := Lib.hid (Nat.le_trans (pbFold_len ps k) (show 2 * k ≤ 7200 from by have := hpl.out; omega))
      clear hO hP hb
      by_cases hlt : k < ps.length
      · obtain ⟨A6, cap6, hv, _, _, hcell⟩ := (HPr.out.sl Pair.c_len).pair
        obtain ⟨rfl, rfl⟩ : A4 = A6 ∧ cap4 = cap6 := by injection hv with e1 e2 e3; exact ⟨e1, e3⟩
        obtain ⟨b1, o1, rfl, hbb, c0, c1⟩ := hcell k hlt
        have hst := Lib.hid (pbFold_succ ps k hlt)
        clear hcell hv
        generalize ps[k] = p at *
        generalize pbFold (ps.take k) = us at *
        have q1 := Lib.hid (l00Has_calls us _ p.a wr (HO.out.sl i64c_len))
        have q2 := Lib.hid (l00Has_calls us _ p.b wr (HO.out.sl i64c_len))
        have hi0 : (0 : Int) ≤ (k : Int) := by omega
        have hi1 : (k : Int) < (ps.length : Int) := by omega
        by_cases h1 : p.a ∈ us
        · have hs2 := Lib.hid (show pbFold (ps.take (k + 1)) = us from by rw [hst.out, pbStep, if_pos (.inl h1)])
          rw [decide_eq_true h1] at q1
          have h1 := Lib.hid h1
          clear hst
          go_wp2_with fail
          refine q1.out.mono ?_
          rintro e w4 ⟨rfl, rfl⟩
          go_wp2_with fail
          go_roundw
          case rel => exact ⟨k + 1, by omega, by go_num, by rw [hs2.out]; exact HO.out, HPr.out, HBr.out, hszr⟩
          case measure => first | (simp [intOf]; done) | (simp [intOf]; omega)
        · rw [decide_eq_false h1] at q1
          by_cases h2 : p.b ∈ us
          · have hs2 := Lib.hid (show pbFold (ps.take (k + 1)) = us from by rw [hst.out, pbStep, if_pos (.inr h2)])
            rw [decide_eq_true h2] at q2
            have h1 := Lib.hid h1
            have h2 := Lib.hid h2
            clear hst
            go_wp2_with fail
            refine q1.out.mono ?_
            rintro e w4 ⟨rfl, rfl⟩
            go_wp2_with fail
            refine q2.out.mono ?_
            rintro e w4 ⟨rfl, rfl⟩
            go_wp2_with fail
            go_roundw
            case rel => exact ⟨k + 1, by omega, by go_num, by rw [hs2.out]; exact HO.out, HPr.out, HBr.out, hszr⟩
            case measure => first | (simp [intOf]; done) | (simp [intOf]; omega)
          · have hs2 := Lib.hid (show pbFold (ps.take (k + 1)) = us ++ [p.a, p.b] from by rw [hst.out, pbStep, if_neg (by rintro (h | h); exact h1 h; exact h2 h)])
            rw [decide_eq_false h2] at q2
            have h1 := Lib.hid h1
            have h2 := Lib.hid h2
            clear hst
            go_wp2_with fail
            refine q1.out.mono ?_
            rintro e w4 ⟨rfl, rfl⟩
            go_wp2_with fail
            refine q2.out.mono ?_
            rintro e w4 ⟨rfl, rfl⟩
            have hb1B : b1 < B2 := by
              have := HPL.out b1
              rcases HPr.out.out.2 with ⟨hn0, _⟩ | ⟨g, cp, cur, hvv, _⟩
              · cases hn0
              · injection hvv with e1 _ _
                injection e1 with e1
                injection e1 with e1 e2
                exact HPL.out b1 (by rw [e1, e2]; rfl)
            have hS : PbS wr B2 b1 (o1 + k * 2) p wr := ⟨Below.refl _ _, c0, c1⟩
            have hle := Lib.hid (show us.length ≤ 7200 from hlen.out)
            clear c0 c1
            go_wp2_with fail
            refine wp_region_held_drew (S := (PbS wr B2 b1 (o1 + k * 2) p)) (by kernel_rfl) ?r22_hS0 (fun hHeld => ?r22_rest)
            case r22_hS0 => (try dsimp only); first | assumption | exact PbS.keep hszr hb1B (by assumption) ((Below.refl _ _).drew) | exact PbS.keep hszr hb1B (by assumption) ((Below.refl _ _).alloc (Nat.le_refl _) _) | exact PbS.keepG hszr hb1B (by assumption) hG4 (fun j hj => HO.out.base j hj)
            refine wpAnyH_take (i := 0) (v := ?r22_vv0) (by (simp only [List.getElem?_toArray, List.getElem?_cons_succ, List.getElem?_cons_zero]; rfl)) (by kernel_rfl) (by kernel_rfl) (by kernel_rfl) (by exact fun _ _ _ h => h) (Or.inl ⟨by rfl, ?r22_hy0⟩) (by assumption) ?r22_rest0
            case r22_hy0 => intro w hSw; (try dsimp only at hSw); (go_simp <;> (with_reducible rfl))
            try simp only [Act.put, List.setIfInBounds_toArray, List.set_cons_zero, List.set_cons_succ]
            refine wpAnyH_take (i := 1) (v := ?r22_vv1) (by (simp only [List.getElem?_toArray, List.getElem?_cons_succ, List.getElem?_cons_zero]; rfl)) (by kernel_rfl) (by kernel_rfl) (by kernel_rfl) (by exact fun _ _ _ h => h) (Or.inl ⟨by rfl, ?r22_hy1⟩) (by assumption) ?r22_rest1
            case r22_hy1 => intro w hSw; (try dsimp only at hSw); (go_simp <;> (with_reducible rfl))
            try simp only [Act.put, List.setIfInBounds_toArray, List.set_cons_zero, List.set_cons_succ]
            refine wpAnyH_take (i := 2) (v := ?r22_vv2) (by (simp only [List.getElem?_toArray, List.getElem?_cons_succ, List.getElem?_cons_zero]; rfl)) (by kernel_rfl) (by kernel_rfl) (by kernel_rfl) (by exact fun _ _ _ h => h) (Or.inl ⟨by rfl, ?r22_hy2⟩) (by assumption) ?r22_rest2
            case r22_hy2 => intro w hSw; (try dsimp only at hSw); (go_simp <;> (with_reducible rfl))
            try simp only [Act.put, List.setIfInBounds_toArray, List.set_cons_zero, List.set_cons_succ]
            refine wpAnyH_take (i := 3) (v := ?r22_vv3) (by (simp only [List.getElem?_toArray, List.getElem?_cons_succ, List.getElem?_cons_zero]; rfl)) (by kernel_rfl) (by kernel_rfl) (by kernel_rfl) (by exact fun _ _ _ h => h) (Or.inl ⟨by rfl, ?r22_hy3⟩) (by assumption) ?r22_rest3
            case r22_hy3 => intro w hSw; (try dsimp only at hSw); (go_simp <;> (with_reducible rfl))
            try simp only [Act.put, List.setIfInBounds_toArray, List.set_cons_zero, List.set_cons_succ]
            refine wpAnyH_take (i := 4) (v := ?r22_vv4) (by (simp only [List.getElem?_toArray, List.getElem?_cons_succ, List.getElem?_cons_zero]; rfl)) (by kernel_rfl) (by kernel_rfl) (by kernel_rfl) (by exact fun _ _ _ h => h) (Or.inl ⟨by rfl, ?r22_hy4⟩) (by assumption) ?r22_rest4
            case r22_hy4 => intro w hSw; (try dsimp only at hSw); (go_simp <;> (with_reducible rfl))
            try simp only [Act.put, List.setIfInBounds_toArray, List.set_cons_zero, List.set_cons_succ]
            refine wpAnyH_take (i := 5) (v := ?r22_vv5) (by (simp only [List.getElem?_toArray, List.getElem?_cons_succ, List.getElem?_cons_zero]; rfl)) (by kernel_rfl) (by kernel_rfl) (by kernel_rfl) (by exact fun _ _ _ h => h) (Or.inl ⟨by rfl, ?r22_hy5⟩) (by assumption) ?r22_rest5
            case r22_hy5 => intro w hSw; (try dsimp only at hSw); (go_simp <;> (with_reducible rfl))
            try simp only [Act.put, List.setIfInBounds_toArray, List.set_cons_zero, List.set_cons_succ]
            refine wpAnyH_take (i := 6) (v := ?r22_vv6) (by (simp only [List.getElem?_toArray, List.getElem?_cons_succ, List.getElem?_cons_zero]; rfl)) (by kernel_rfl) (by kernel_rfl) (by kernel_rfl) (by exact fun _ _ _ h => h) (Or.inl ⟨by rfl, ?r22_hy6⟩) (by assumption) ?r22_rest6
            case r22_hy6 => intro w hSw; (try dsimp only at hSw); (go_simp <;> (with_reducible rfl))
            try simp only [Act.put, List.setIfInBounds_toArray, List.set_cons_zero, List.set_cons_succ]
            refine wpAnyH_take (i := 7) (v := ?r22_vv7) (by (simp only [List.getElem?_toArray, List.getElem?_cons_succ, List.getElem?_cons_zero]; rfl)) (by kernel_rfl) (by kernel_rfl) (by kernel_rfl) (by exact fun _ _ _ h => h) (Or.inl ⟨by rfl, ?r22_hy7⟩) (by assumption) ?r22_rest7
            case r22_hy7 => intro w hSw; (try dsimp only at hSw); (go_simp <;> (with_reducible rfl))
            try simp only [Act.put, List.setIfInBounds_toArray, List.set_cons_zero, List.set_cons_succ]
            refine wpAnyH_take (i := 8) (v := ?r22_vv8) (by (simp only [List.getElem?_toArray, List.getElem?_cons_succ, List.getElem?_cons_zero]; rfl)) (by kernel_rfl) (by kernel_rfl) (by kernel_rfl) (by exact fun _ _ _ h => h) (Or.inl ⟨by rfl, ?r22_hy8⟩) (by assumption) ?r22_rest8
            case r22_hy8 => intro w hSw; (try dsimp only at hSw); (go_simp <;> (with_reducible rfl))
            try simp only [Act.put, List.setIfInBounds_toArray, List.set_cons_zero, List.set_cons_succ]
            refine wpAnyH_take (i := 9) (v := ?r22_vv9) (by (simp only [List.getElem?_toArray, List.getElem?_cons_succ, List.getElem?_cons_zero]; rfl)) (by kernel_rfl) (by kernel_rfl) (by kernel_rfl) (by exact fun _ _ _ h => h) (Or.inl ⟨by rfl, ?r22_hy9⟩) (by assumption) ?r22_rest9
            case r22_hy9 => intro w hSw; (try dsimp only at hSw); (go_simp <;> (with_reducible rfl))
            try simp only [Act.put, List.setIfInBounds_toArray, List.set_cons_zero, List.set_cons_succ]
            refine wpAnyH_take (i := 10) (v := ?r22_vv10) (by (simp only [List.getElem?_toArray, List.getElem?_cons_succ, List.getElem?_cons_zero]; rfl)) (by kernel_rfl) (by kernel_rfl) (by kernel_rfl) (by exact fun _ _ _ h => h) (Or.inl ⟨by rfl, ?r22_hy10⟩) (by assumption) ?r22_rest10
            case r22_hy10 => intro w hSw; (try dsimp only at hSw); (go_simp <;> (with_reducible rfl))
            try simp only [Act.put, List.setIfInBounds_toArray, List.set_cons_zero, List.set_cons_succ]
            refine wpAnyH_ready (rs := [11]) (by kernel_rfl) (by simp) ?_
            refine AllReadyH.cons (by (simp only [List.getElem?_toArray, List.getElem?_cons_succ, List.getElem?_cons_zero]; rfl)) (fun K hK => ?_) AllReadyH.nil
            go_simp
            skip
            try go_wp2_with fail
            refine hK.out _ _ ?r22_hS11 (fun hHeld => ?r22_r11)
            case r22_hS11 => (try dsimp only); first | assumption | exact PbS.keep hszr hb1B (by assumption) ((Below.refl _ _).drew) | exact PbS.keep hszr hb1B (by assumption) ((Below.refl _ _).alloc (Nat.le_refl _) _) | exact PbS.keepG hszr hb1B (by assumption) hG4 (fun j hj => HO.out.base j hj)
            clear hK K
            try simp only [Act.put, List.setIfInBounds_toArray, List.set_cons_zero, List.set_cons_succ]
            refine wpAnyH_ready (rs := [12]) (by kernel_rfl) (by simp) ?_
            refine AllReadyH.cons (by (simp only [List.getElem?_toArray, List.getElem?_cons_succ, List.getElem?_cons_zero]; rfl)) (fun K hK => ?_) AllReadyH.nil
            (refine step_app appI64 rfl _ _ rfl B2 us [p.a, p.b] _ _ rfl rfl (by first | exact (HO.out.ext ((Below.refl _ _).drew)).alloc _ | exact (HO.out.alloc _).ext ((Below.refl _ _).drew)) (by first | exact bk_i64s [p.a, p.b] (Bk.new _ _ _ _ rfl) rfl (by simp) | exact bk_i64s [p.a, p.b] (Bk.drw (Bk.new _ _ _ _ rfl)) rfl (by simp)) (by have := hle.out; simp; omega) (by have := hle.out; simp; omega) (Nat.le_trans hszr (by simp)) ?_; intro v4 w4 hO4 hG4 hat)
            refine hK.out _ _ ?r22_hS12 (fun hHeld => ?r22_r12)
            case r22_hS12 => (try dsimp only); first | assumption | exact PbS.keep hszr hb1B (by assumption) ((Below.refl _ _).drew) | exact PbS.keep hszr hb1B (by assumption) ((Below.refl _ _).alloc (Nat.le_refl _) _) | exact PbS.keepG hszr hb1B (by assumption) hG4 (fun j hj => HO.out.base j hj)
            clear hK K
            try simp only [Act.put, List.setIfInBounds_toArray, List.set_cons_zero, List.set_cons_succ]
            refine wpAnyH_take (i := 13) (v := ?r22_vv13) (by (simp only [List.getElem?_toArray, List.getElem?_cons_succ, List.getElem?_cons_zero]; rfl)) (by kernel_rfl) (by kernel_rfl) (by kernel_rfl) (by exact fun _ _ _ h => h) (Or.inl ⟨by rfl, ?r22_hy13⟩) (by assumption) ?r22_rest13
            case r22_hy13 => intro w hSw; (try dsimp only at hSw); (go_simp <;> (with_reducible rfl))
            try simp only [Act.put, List.setIfInBounds_toArray, List.set_cons_zero, List.set_cons_succ]
            refine wpAnyH_done (by kernel_rfl) ?_ _
            have h9 := Lib.hid (show PbS wr B2 b1 (o1 + k * 2) p w4 from by assumption)
            have HO4 := Lib.hid hO4
            clear hS hO4 hG4 hat
            repeat clear hHeld
            rw [← hs2.out] at HO4
            have HP4 := Lib.hid (HPr.out.keep (fun j hj => h9.out.1.block j (HPL.out j hj)))
            have HB4 := Lib.hid (HBr.out.trans (h9.out.1.mono hsz2.out))
            have hsz4 := Lib.hid (Nat.le_trans hszr h9.out.1.size)
            go_wp2_with fail
            go_roundw
            case rel => exact ⟨k + 1, by omega, by go_num, HO4.out, HP4.out, HB4.out, hsz4.out⟩
            case measure => first | (simp [intOf]; done) | (simp [intOf]; omega)
      · obtain rfl : k = ps.length := by omega
        have hE2 := Lib.hid (show ps.take ps.length = ps from List.take_length)
        rw [hE2.out] at HO hlen
        try rw [hE2.out]
        generalize pbFold ps = us at *
        have hle := hlen.out
        go_wp2_with fail
        go_ret2
        rw [hE.out]
        exact ⟨by simp, HBr.out⟩
  · have hE := Lib.hid (pairsBound_no hc)
    have hcb : (tripC w h sl lv (inB limit 0 200) == 0) = false := by simpa using hc
    have hcb2 : (tripC w h sl lv (inB limit 0 200) != 0) = true := by simpa using hc
    generalize tripC w h sl lv (inB limit 0 200) = C at *
    clear hc
    go_wp2_with fail
    go_ret2
    rw [hE.out]
    exact ⟨rfl, HB1.out⟩
end Go.Proofs.Ytbmkhhhlnollmaa
