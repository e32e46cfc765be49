/-
FastestPlan, CheapestPlan: what they answer, in plain lists. Conditions: rows and gangs are asked rightly.
-/
import Derived.Test.YtkkkgpeilpfddaaG9
set_option linter.unusedVariables false
set_option linter.unusedSimpArgs false
set_option maxRecDepth 100000
namespace Go.Proofs.Ytkkkgpeilpfddaa
open Go.RowKit
theorem allN_mem (rows : List Row) (gangs : List Gang) : ∀ (r : Nat) (begun : List Int), (∀ q ∈ begun, 0 ≤ q ∧ q < gangs.length) → ∀ p ∈ allN rows gangs r begun, (∀ q ∈ p, 0 ≤ q ∧ q < gangs.length) ∧ p.length = begun.length + r
  | 0, begun, hb, p, hp => by
    simp [allN] at hp
    subst hp
    exact ⟨hb, rfl⟩
  | r + 1, begun, hb, p, hp => by
    rw [allN, List.mem_flatMap] at hp
    obtain ⟨g, hg, hp⟩ := hp
    have hgl : g < gangs.length := List.mem_range.1 hg
    split at hp
    · have := allN_mem rows gangs r (begun ++ [(g : Int)]) (by
        intro q hq
        rw [List.mem_append] at hq
        rcases hq with h | h
        · exact hb q h
        · simp at h; omega) p hp
      refine ⟨this.1, by rw [this.2]; simp; omega⟩
    · simp at hp
theorem Fine.all {rows : List Row} {gangs : List Gang} (ha : asked rows gangs = 0) {p : List Int} (hp : p ∈ allN rows gangs rows.length []) : Fine rows gangs p := by
  obtain ⟨h1, h2, h3, h4, h5⟩ := asked_ok ha
  obtain ⟨m1, m2⟩ := allN_mem rows gangs rows.length [] (by simp) p hp
  exact ⟨h1, h2, h3, h5, by simpa using m2, m1⟩
/-- The best of plans, by a number that some of them have: the first with the least. -/
def bestOf (num : List Int → Option Int) : List (List Int) → List Int × Int → List Int × Int
  | [], s => s
  | p :: ps, s => bestOf num ps (match num p with | some n => if s.2 < 0 ∨ n < s.2 then (p, n) else s | none => s)
theorem bestOf_append (num : List Int → Option Int) (ps qs : List (List Int)) (s : List Int × Int) : bestOf num (ps ++ qs) s = bestOf num qs (bestOf num ps s) := by
  induction ps generalizing s with
  | nil => rfl
  | cons p ps ih => exact ih _
/-- What FastestPlan's and CheapestPlan's numbers are. -/
def numFast (rows : List Row) (gangs : List Gang) (p : List Int) : Option Int := some (sumN rows gangs p p.length).1
def numCheap (rows : List Row) (gangs : List Gang) (days : Int) (p : List Int) : Option Int := if (sumN rows gangs p p.length).1 ≤ days then some (sumN rows gangs p p.length).2.1 else none
def bestPlan (num : List Int → Option Int) (rows : List Row) (gangs : List Gang) : List Int × Int × Int :=
  if (bestOf num (allN rows gangs rows.length []) ([], -1)).2 < 0 then ([], 0, 6)
  else ((bestOf num (allN rows gangs rows.length []) ([], -1)).1, (bestOf num (allN rows gangs rows.length []) ([], -1)).2, 0)
def fastest (rows : List Row) (gangs : List Gang) : List Int × Int × Int := if asked rows gangs = 0 then bestPlan (numFast rows gangs) rows gangs else ([], 0, asked rows gangs)
def cheapCode (rows : List Row) (gangs : List Gang) (days : Int) : Int := if asked rows gangs = 0 then (if inB days 0 1000 = true then 0 else 2) else asked rows gangs
def cheapest (rows : List Row) (gangs : List Gang) (days : Int) : List Int × Int × Int := if cheapCode rows gangs days = 0 then bestPlan (numCheap rows gangs days) rows gangs else ([], 0, cheapCode rows gangs days)
def RetSl (w : World) (r : List Int × Int × Int) (e : Ending) (w' : World) : Prop :=
  ∃ v, e = .returned (.tuple #[v, .int .i64 r.2.1, .int .i64 r.2.2]) ∧ Sl w' w'.heap.size i64c 1 v r.1 ∧ Below w.heap.size w w'
theorem RetSl.mk {w w' : World} {r : List Int × Int × Int} {v : Value} {a b : Int} (h1 : a = r.2.1) (h2 : b = r.2.2) (ho : Sl w' w'.heap.size i64c 1 v r.1) (hb : Below w.heap.size w w') : RetSl w r (.returned (.tuple #[v, .int .i64 a, .int .i64 b])) w' := ⟨v, by rw [h1, h2], ho, hb⟩
set_option maxHeartbeats 4000000 in
theorem specFastestPlan_calls (rows : List Row) (hr : ∀ x ∈ rows, x.ok) (gangs : List Gang) (hg : ∀ x ∈ gangs, x.ok) (v u : Value) (w : World)
    (hs : Sl w w.heap.size Row.c 2 v rows) (ht : Sl w w.heap.size Gang.c 5 u gangs) :
    Calls Try.prog 20 #[v, u] w (RetSl w (fastest rows gangs)) := by
  have HS := Lib.hid hs
  have HT := Lib.hid ht
  have HG := Lib.hid hg
  have HR := Lib.hid hr
  clear hs ht hg hr
  go_enter Try.func20, Try.ntmps20
  go_wp2_with fail
  refine (l07Asked_calls rows HR.out gangs HG.out _ _ _ HS.out HT.out).mono ?_
  rintro e w1 ⟨rfl, rfl⟩
  by_cases hc : asked rows gangs = 0
  · have HC := Lib.hid hc
    have HE := Lib.hid (show fastest rows gangs = bestPlan (numFast rows gangs) rows gangs from if_pos hc)
    rw [hc]
    obtain ⟨h6, _, _, h4, _⟩ := asked_ok hc
    have hb1 := Lib.hid (ext_alloc ((Below.refl w.heap.size w).alloc (Nat.le_refl _) (.cells #[] 2)) (.cells #[] 2))
    have hO1 := Lib.hid (Own.sl i64c_len (Own.empty (α := Int) (c := i64c) (sz := 1) (E := 2) (w.alloc (.cells #[] 2)) w.heap.size (w.heap.size + 1) (by simp) (by simp)))
    have hO2 := Lib.hid (((Own.empty (α := Int) (c := i64c) (sz := 1) (E := 2) w w.heap.size w.heap.size rfl (Nat.le_refl _)).alloc (.cells #[] 2)).sl i64c_len)
    clear hc
    go_wp2_with fail
    refine (l07All_calls rows gangs h6 h4 _ _ rows.length [] ⟨w.heap.size + 1, 0, none⟩ 0 _ (by simp) (HS.out.ext hb1.out) (HT.out.ext hb1.out) hO1.out).mono ?_
    rintro e w2 ⟨us, g, c, rfl, hO, hR, hb2⟩
    have hO3 := Lib.hid ((hO2.out.ext hb2))
    have hb3 := Lib.hid (ext_trans hb1.out hb2)
    have HS2 := Lib.hid (HS.out.ext hb3.out)
    have HT2 := Lib.hid (HT.out.ext hb3.out)
    have HO := Lib.hid hO
    have HRD := Lib.hid hR
    have hlen := Lib.hid hR.len
    have hul := Lib.hid (show us.length ≤ 4096 from by
      have h1 := hR.len
      have h2 := all_len rows gangs h4 rows.length []
      have h3 := pow4 h6
      omega)
    have hALL : ∀ p ∈ allN rows gangs rows.length [], Fine rows gangs p := fun p hp => Fine.all HC.out hp
    have HALL := Lib.hid hALL
    clear hO hR hb2 hO2 hO1 hALL
    unfold bestPlan at HE
    generalize allN rows gangs rows.length [] = ALL at *
    have hu0 := hul.out
    go_wp2_with fail
    go_loopw [8, 9, 11] (fun o f i wr => ∃ k : Nat, k ≤ us.length ∧ i = .int .i64 k ∧ f = .int .i64 (bestOf (numFast rows gangs) (ALL.take k) ([], -1)).2 ∧ Sl wr wr.heap.size i64c 1 o (bestOf (numFast rows gangs) (ALL.take k) ([], -1)).1 ∧ -1 ≤ (bestOf (numFast rows gangs) (ALL.take k) ([], -1)).2 ∧ (bestOf (numFast rows gangs) (ALL.take k) ([], -1)).2 ≤ 200000 ∧ Below w2.heap.size w2 wr) (fun _ _ i _ => us.length - (intOf i).toNat)
    case atStart => exact ⟨0, by omega, rfl, rfl, hO3.out, by simp [bestOf], by simp [bestOf], Below.refl _ _⟩
    case round =>
      obtain ⟨k, hk, rfl, rfl, hSl, hlo, hhi, hb⟩ := hrel
      obtain ⟨wo, rfl⟩ : ∃ wo : World, wo = wr := ⟨_, rfl⟩
      have HSL := Lib.hid hSl
      have HB := Lib.hid hb
      by_cases hlt : k < us.length
      · have hkA : k < ALL.length := by have := hlen.out; omega
        obtain ⟨hsp, ad, cp, hu, _, _, _⟩ := HRD.out.at_ k us[k] ALL[k] (by rw [List.getElem?_eq_getElem]) (by rw [List.getElem?_eq_getElem])
        have hF := HALL.out ALL[k] (List.getElem_mem hkA)
        obtain ⟨hgB, hgl, hce, _⟩ := HO.out.at_ uc_len (by omega)
        have c0 : wo.cell? ⟨g, k, none⟩ = some us[k] := by
          have := hce k us[k] (by rw [List.getElem?_eq_getElem]) 0 _ rfl
          simp at this
          exact (hb.cell (p := ⟨g, k, none⟩) hgl).trans this
        obtain ⟨a0, a1, d0, d1, e0, e1⟩ := hF.sum ALL[k].length (Nat.le_refl _)
        have hp6 : ALL[k].length ≤ 6 := by have := hF.hlen; have := hF.h6; omega
        have hst := Lib.hid (show bestOf (numFast rows gangs) (ALL.take (k + 1)) ([], -1) = if (bestOf (numFast rows gangs) (ALL.take k) ([], -1)).2 < 0 ∨ (sumN rows gangs ALL[k] ALL[k].length).1 < (bestOf (numFast rows gangs) (ALL.take k) ([], -1)).2 then (ALL[k], (sumN rows gangs ALL[k] ALL[k].length).1) else bestOf (numFast rows gangs) (ALL.take k) ([], -1) from by
          rw [List.take_succ_eq_append_getElem hkA, bestOf_append]
          rfl)
        generalize hBN : bestOf (numFast rows gangs) (ALL.take k) ([], -1) = s at *
        have HF := Lib.hid hF
        have HSP := Lib.hid (hsp.ext hb)
        have hS2 := Lib.hid (HS2.out.ext hb)
        have hT2 := Lib.hid (HT2.out.ext hb)
        clear hBN hF hsp hce hSl hu e1
        go_wp2_with fail
        refine (l07Sums_calls rows gangs ALL[k] HF.out _ _ _ _ hS2.out hT2.out HSP.out).mono ?_
        rintro e w5 ⟨rfl, hb5⟩
        have c5 := (hb5.cell (p := ⟨g, k, none⟩) (Nat.lt_of_lt_of_le hgl HB.out.size)).trans c0
        have hb6 := Lib.hid (ext_trans HB.out hb5)
        have hsl5 := Lib.hid (HSL.out.ext hb5)
        have hsp5 := Lib.hid (HSP.out.ext hb5)
        generalize (sumN rows gangs ALL[k] ALL[k].length).1 = n at *
        clear c0 hb5 hb
        by_cases hneg : s.2 < 0
        · have hd : decide (s.2 < 0) = true := by rw [decide_eq_true_eq]; exact hneg
          have hs2 := Lib.hid (hst.out.trans (if_pos (.inl hneg)))
          clear hst hneg
          go_wp2_with fail
          go_roundw
          case rel => exact ⟨k + 1, by omega, by go_num, by rw [hs2.out], by rw [hs2.out]; exact hsp5.out, by rw [hs2.out]; show -1 ≤ n; omega, by rw [hs2.out]; show n ≤ 200000; omega, hb6.out⟩
          case measure => first | (simp [intOf]; done) | (simp [intOf]; omega)
        · have hd : decide (s.2 < 0) = false := by rw [decide_eq_false_iff_not]; exact hneg
          by_cases hls : n < s.2
          · have hd2 : decide (n < s.2) = true := by rw [decide_eq_true_eq]; exact hls
            have hs2 := Lib.hid (hst.out.trans (if_pos (.inr hls)))
            clear hst hneg hls
            go_wp2_with fail
            go_roundw
            case rel => exact ⟨k + 1, by omega, by go_num, by rw [hs2.out], by rw [hs2.out]; exact hsp5.out, by rw [hs2.out]; show -1 ≤ n; omega, by rw [hs2.out]; show n ≤ 200000; omega, hb6.out⟩
            case measure => first | (simp [intOf]; done) | (simp [intOf]; omega)
          · have hd2 : decide (n < s.2) = false := by rw [decide_eq_false_iff_not]; exact hls
            have hs2 := Lib.hid (hst.out.trans (if_neg (by omega)))
            clear hst hneg hls
            go_wp2_with fail
            go_roundw
            case rel => exact ⟨k + 1, by omega, by go_num, by rw [hs2.out], by rw [hs2.out]; exact hsl5.out, by rw [hs2.out]; exact hlo, by rw [hs2.out]; exact hhi, hb6.out⟩
            case measure => first | (simp [intOf]; done) | (simp [intOf]; omega)
      · obtain rfl : k = us.length := by omega
        rw [show ALL.take us.length = ALL from by rw [hlen.out, List.take_length]] at HSL hlo hhi ⊢
        generalize bestOf (numFast rows gangs) ALL ([], -1) = s at *
        clear hSl hb
        have hb7 := Lib.hid (ext_trans hb3.out HB.out)
        by_cases hneg : s.2 < 0
        · have hd : decide (s.2 < 0) = true := by rw [decide_eq_true_eq]; exact hneg
          have hE2 := Lib.hid (HE.out.trans (if_pos hneg))
          clear HE hneg
          go_wp2_with fail
          go_ret3
          rw [hE2.out]
          exact RetSl.mk rfl rfl (Own.sl i64c_len (Own.empty _ w.heap.size _ rfl hb7.out.size)) (hb7.out.alloc hb7.out.size _)
        · have hd : decide (s.2 < 0) = false := by rw [decide_eq_false_iff_not]; exact hneg
          have hE2 := Lib.hid (HE.out.trans (if_neg hneg))
          clear HE hneg
          go_wp2_with fail
          go_ret3
          rw [hE2.out]
          exact RetSl.mk rfl rfl HSL.out hb7.out
  · have HE := Lib.hid (show fastest rows gangs = ([], 0, asked rows gangs) from if_neg hc)
    have hcb : (asked rows gangs == 0) = false := by simpa using hc
    have hcb2 : (asked rows gangs != 0) = true := by simpa using hc
    clear hc
    go_wp2_with fail
    go_ret3
    rw [HE.out]
    exact RetSl.mk rfl rfl (Own.sl i64c_len (Own.empty _ w.heap.size _ rfl (Nat.le_refl _))) ((Below.refl _ _).alloc (Nat.le_refl _) _)
end Go.Proofs.Ytkkkgpeilpfddaa
