/-
Contracts of MeetAt, over plain lists. Conditions: numbers are of their kinds; slices can be read.
-/
import Derived.Test.YtjomnenljojoiabG4
set_option linter.unusedVariables false
set_option linter.unusedSimpArgs false
set_option maxRecDepth 100000
namespace Go.Proofs.Ytjomnenljojoiab
open Go.RowKit
def mayB (g : Gang) (r : Row) : Bool := decide (r.n ≤ g.s)
def mayAllB (g : Gang) (rows : List Row) : Bool := rows.all (mayB g)
def mMeet (rows : List Row) (a b : Gang) (k : Nat) : Int := max (daysS a (workS (rows.take k))) (daysS b (workS (rows.drop k)))
def fineB (rows : List Row) (a b : Gang) (k : Nat) : Bool := mayAllB a (rows.take k) && mayAllB b (rows.drop k)
/-- The best, and how few days it takes, of the first k places. -/
def meetN (rows : List Row) (a b : Gang) : Nat → Int × Int
  | 0 => (0, -1)
  | k + 1 => if (fineB rows a b k && (decide ((meetN rows a b k).2 < 0) || decide (mMeet rows a b k < (meetN rows a b k).2))) = true then ((k : Int), mMeet rows a b k) else meetN rows a b k
def meetAt (rows : List Row) (a b : Gang) : Int × Int × Int :=
  if asked rows [a, b] = 0 then (if (meetN rows a b (rows.length + 1)).2 < 0 then (0, 0, 6) else ((meetN rows a b (rows.length + 1)).1, (meetN rows a b (rows.length + 1)).2, 0)) else (0, 0, asked rows [a, b])
def fineN (rows : List Row) (a b : Gang) (k : Nat) : Nat → Bool
  | 0 => true
  | i + 1 => fineN rows a b k i && (if i < k then mayB a (rows.getD i ⟨0, 0⟩) else mayB b (rows.getD i ⟨0, 0⟩))
theorem fineN_eq (rows : List Row) (a b : Gang) (k : Nat) (hk : k ≤ rows.length) : ∀ i, i ≤ rows.length → fineN rows a b k i = ((rows.take (min i k)).all (mayB a) && (((rows.take i).drop k).all (mayB b)))
  | 0, _ => by simp [fineN]
  | i + 1, h => by
    have ih := fineN_eq rows a b k hk i (by omega)
    have hg : rows.getD i ⟨0, 0⟩ = rows[i] := by simp [List.getD_eq_getElem?_getD, show i < rows.length from by omega]
    rw [fineN, ih, hg]
    by_cases hlt : i < k
    · have h1 : min (i + 1) k = i + 1 := by omega
      have h2 : min i k = i := by omega
      rw [if_pos hlt, h1, h2, List.take_succ_eq_append_getElem (by omega), List.all_append]
      have h3 : ((rows.take i ++ [rows[i]]).drop k) = [] := by rw [List.drop_eq_nil_iff]; simp; omega
      have h4 : ((rows.take i).drop k) = [] := by rw [List.drop_eq_nil_iff]; simp; omega
      rw [h3, h4]
      simp
    · have h1 : min (i + 1) k = k := by omega
      have h2 : min i k = k := by omega
      rw [if_neg hlt, h1, h2, List.take_succ_eq_append_getElem (by omega), List.drop_append_of_le_length (by simp; omega), List.all_append]
      simp [Bool.and_assoc]
theorem fineN_all (rows : List Row) (a b : Gang) (k : Nat) (hk : k ≤ rows.length) : fineN rows a b k rows.length = fineB rows a b k := by
  rw [fineN_eq rows a b k hk _ (Nat.le_refl _), Nat.min_eq_right hk, List.take_length]
  rfl
/-- What is known where two gangs meet. -/
structure Meets (rows : List Row) (a b : Gang) : Prop where
  h6 : rows.length ≤ 6
  hr : ∀ x ∈ rows, vRowB x = true
  ha : vGangB a = true
  hb : vGangB b = true
  hw : workS rows ≤ 2000
theorem Meets.of {rows : List Row} {a b : Gang} (h : asked rows [a, b] = 0) : Meets rows a b := by
  obtain ⟨h1, h2, h3, _, h5⟩ := asked_ok h
  exact ⟨h1, h2, h3 a (by simp), h3 b (by simp), h5⟩
theorem workS_append (xs ys : List Row) : workS (xs ++ ys) = workS xs + workS ys := by
  unfold workS
  rw [List.map_append, List.sum_append]
theorem Meets.works {rows : List Row} {a b : Gang} (h : Meets rows a b) (k : Nat) : (0 ≤ workS (rows.take k) ∧ workS (rows.take k) ≤ 2000) ∧ (0 ≤ workS (rows.drop k) ∧ workS (rows.drop k) ≤ 2000) := by
  have h1 := (workS_bounds (rows.take k) (fun x hx => h.hr x (List.mem_of_mem_take hx))).1
  have h2 := (workS_bounds (rows.drop k) (fun x hx => h.hr x (List.mem_of_mem_drop hx))).1
  have h3 := workS_append (rows.take k) (rows.drop k)
  rw [List.take_append_drop] at h3
  have h4 := h.hw
  omega
theorem Meets.m {rows : List Row} {a b : Gang} (h : Meets rows a b) (k : Nat) : 0 ≤ mMeet rows a b k ∧ mMeet rows a b k ≤ 20000 := by
  obtain ⟨⟨w0, w1⟩, w2, w3⟩ := h.works k
  obtain ⟨d0, d1⟩ := daysS_bounds a _ h.ha w0 w1
  obtain ⟨e0, e1⟩ := daysS_bounds b _ h.hb w2 w3
  unfold mMeet
  omega
theorem Meets.n {rows : List Row} {a b : Gang} (h : Meets rows a b) (k : Nat) : (0 ≤ (meetN rows a b k).1 ∧ (meetN rows a b k).1 ≤ k) ∧ -1 ≤ (meetN rows a b k).2 ∧ (meetN rows a b k).2 ≤ 20000 := by
  induction k with
  | zero => simp [meetN]
  | succ k ih =>
    obtain ⟨m0, m1⟩ := h.m k
    rw [meetN]
    split
    · simp only; omega
    · omega
/-- Cuts of a slice that reads as a list. -/
theorem Sl.cutHi {α : Type} {w : World} {B sz cap : Nat} {c : α → List Value} {A : Option Addr} {xs : List α} (h : Sl w B c sz (.slice A xs.length cap) xs) (k : Nat) (hk : k ≤ xs.length) : Sl w B c sz (.slice A k cap) (xs.take k) := by
  obtain ⟨A', cap', hv, hl, hm, hc⟩ := h.out
  obtain ⟨rfl, _, rfl⟩ : A = A' ∧ xs.length = xs.length ∧ cap = cap' := by
    injection hv with e1 e2 e3
    exact ⟨e1, e2, e3⟩
  have hlen : (xs.take k).length = k := by rw [List.length_take]; omega
  refine ⟨A, cap, by rw [hlen], by omega, hm, fun hp => ?_⟩
  obtain ⟨b, o, hA, hb, hcell⟩ := hc (by omega)
  refine ⟨b, o, hA, hb, fun i x hx j u hu => hcell i x ?_ j u hu⟩
  rw [List.getElem?_take] at hx
  split at hx
  · exact hx
  · cases hx
theorem Sl.cutLo {α : Type} {w : World} {B sz cap : Nat} {c : α → List Value} {A : Option Addr} {xs : List α} (h : Sl w B c sz (.slice A xs.length cap) xs) (k : Nat) (hk : k ≤ xs.length) :
    Sl w B c sz (.slice (if cap = k then A else A.map (·.add (k * sz))) (xs.length - k) (cap - k)) (xs.drop k) := by
  obtain ⟨A', cap', hv, hl, hm, hc⟩ := h.out
  obtain ⟨rfl, _, rfl⟩ : A = A' ∧ xs.length = xs.length ∧ cap = cap' := by
    injection hv with e1 e2 e3
    exact ⟨e1, e2, e3⟩
  have hlen : (xs.drop k).length = xs.length - k := by rw [List.length_drop]
  refine ⟨_, cap - k, by rw [hlen], by omega, by omega, fun hp => ?_⟩
  obtain ⟨b, o, rfl, hb, hcell⟩ := hc (by omega)
  rw [if_neg (by omega)]
  refine ⟨b, o + k * sz, by simp [Addr.add], hb, fun i x hx j u hu => ?_⟩
  rw [List.getElem?_drop] at hx
  have := hcell (k + i) x hx j u hu
  have e : o + ((k + i) * sz + j) = o + k * sz + (i * sz + j) := by rw [Nat.add_mul]; omega
  rwa [e] at this
theorem Sl.drwN {α : Type} {w : World} {c : α → List Value} {sz : Nat} {v : Value} {xs : List α} (h : Sl w w.heap.size c sz v xs) (n : Nat) : Sl (w.drewN n) (w.drewN n).heap.size c sz v xs := h.ext (ext_drewN (Below.refl _ _) n)
theorem Sl.two (W : World) (a b : Gang) (g : Nat) (hg : g = W.heap.size) (E : TypeId) :
    Sl (W.alloc (.cells #[.int .i8 a.s, .int .i8 a.p, .int .i8 a.k, .int .i8 a.r, .int .i16 a.g, .int .i8 b.s, .int .i8 b.p, .int .i8 b.k, .int .i8 b.r, .int .i16 b.g] E)) (W.alloc (.cells #[.int .i8 a.s, .int .i8 a.p, .int .i8 a.k, .int .i8 a.r, .int .i16 a.g, .int .i8 b.s, .int .i8 b.p, .int .i8 b.k, .int .i8 b.r, .int .i16 b.g] E)).heap.size Gang.c 5 (.slice (some ⟨g, 0, none⟩) 2 2) [a, b] := by
  subst hg
  refine Own.sl (B := W.heap.size) (E := E) Gang.c_len ⟨?_⟩
  exact World.ownsRow_lit W _ 2 (Nat.le_refl _) (by simp [maxLen]) (by simp)
theorem sizeRow_run (W : World) : (sizeOf (Try.prog.elem 53)).run Try.prog W = .ok 2 W := by kernel_rfl
theorem cutHi_run (A : Option Addr) (n cap k : Nat) (hk : k ≤ cap) (W : World) : (Instr.sliceAt 53 (.slice A n cap) none (some (.int .i64 (k : Int))) none).run Try.prog W = .ok (.slice A k cap) W := by
  rw [run_sliceAt_slice (P := Try.prog) W 53 _ _ _ _ (by kernel_rfl), run_slice_h (P := Try.prog) W 53 A n cap (by kernel_rfl) .i64 (k : Int) (by omega) (by omega), sizeRow_run]
  cases A <;> simp [Result.andThen, sliced, Addr.add]
theorem cutLo_run (A : Option Addr) (n cap k : Nat) (hk : k ≤ n) (hn : n ≤ cap) (W : World) : (Instr.sliceAt 53 (.slice A n cap) (some (.int .i64 (k : Int))) none none).run Try.prog W = .ok (.slice (if cap = k then A else A.map (·.add (k * 2))) (n - k) (cap - k)) W := by
  rw [run_sliceAt_slice (P := Try.prog) W 53 _ _ _ _ (by kernel_rfl), run_slice_l (P := Try.prog) W 53 A n cap (by kernel_rfl) .i64 (k : Int) (by omega) (by omega), sizeRow_run]
  simp [Result.andThen, sliced]
set_option maxHeartbeats 4000000 in
theorem specMeetAt_calls (rows : List Row) (hr : ∀ x ∈ rows, x.ok) (a b : Gang) (ha : a.ok) (hb : b.ok) (v : Value) (w : World) (hs : Sl w w.heap.size Row.c 2 v rows) :
    Calls Try.prog 26 #[v, a.v, b.v] w fun e w' => e = .returned (.tuple #[.int .i64 (meetAt rows a b).1, .int .i64 (meetAt rows a b).2.1, .int .i64 (meetAt rows a b).2.2]) ∧ Below w.heap.size w w' := by
  have HR := Lib.hid hr
  have HG := Lib.hid (show ∀ g ∈ [a, b], g.ok from by intro g hg; simp at hg; rcases hg with rfl | rfl <;> assumption)
  have HS := Lib.hid hs
  obtain ⟨A, cap, rfl, hl, hm, hcell⟩ := hs.row
  clear hs hr ha hb
  have hb0 := ext_alloc (ext_alloc ((Below.refl w.heap.size w).alloc (Nat.le_refl _) (.cells #[.int .i8 a.s, .int .i8 a.p, .int .i8 a.k, .int .i8 a.r, .int .i16 a.g] 55)) (.cells #[.int .i8 b.s, .int .i8 b.p, .int .i8 b.k, .int .i8 b.r, .int .i16 b.g] 55)) (.cells #[.int .i8 a.s, .int .i8 a.p, .int .i8 a.k, .int .i8 a.r, .int .i16 a.g, .int .i8 b.s, .int .i8 b.p, .int .i8 b.k, .int .i8 b.r, .int .i16 b.g] 55)
  have hat := Gang.at_alloc3 w a 55 (.cells #[.int .i8 b.s, .int .i8 b.p, .int .i8 b.k, .int .i8 b.r, .int .i16 b.g] 55) (.cells #[.int .i8 a.s, .int .i8 a.p, .int .i8 a.k, .int .i8 a.r, .int .i16 a.g, .int .i8 b.s, .int .i8 b.p, .int .i8 b.k, .int .i8 b.r, .int .i16 b.g] 55)
  have hat2 := Gang.at_alloc2 (w.alloc (.cells #[.int .i8 a.s, .int .i8 a.p, .int .i8 a.k, .int .i8 a.r, .int .i16 a.g] 55)) b 55 (.cells #[.int .i8 a.s, .int .i8 a.p, .int .i8 a.k, .int .i8 a.r, .int .i16 a.g, .int .i8 b.s, .int .i8 b.p, .int .i8 b.k, .int .i8 b.r, .int .i16 b.g] 55)
  rw [show (w.alloc (.cells #[.int .i8 a.s, .int .i8 a.p, .int .i8 a.k, .int .i8 a.r, .int .i16 a.g] 55)).heap.size = w.heap.size + 1 from by simp] at hat2
  have htwo := Sl.two ((w.alloc (.cells #[.int .i8 a.s, .int .i8 a.p, .int .i8 a.k, .int .i8 a.r, .int .i16 a.g] 55)).alloc (.cells #[.int .i8 b.s, .int .i8 b.p, .int .i8 b.k, .int .i8 b.r, .int .i16 b.g] 55)) a b (w.heap.size + 1 + 1) (by simp) 55
  have hS := HS.out.ext hb0
  have hsz : w.heap.size + 1 < (((w.alloc (.cells #[.int .i8 a.s, .int .i8 a.p, .int .i8 a.k, .int .i8 a.r, .int .i16 a.g] 55)).alloc (.cells #[.int .i8 b.s, .int .i8 b.p, .int .i8 b.k, .int .i8 b.r, .int .i16 b.g] 55)).alloc (.cells #[.int .i8 a.s, .int .i8 a.p, .int .i8 a.k, .int .i8 a.r, .int .i16 a.g, .int .i8 b.s, .int .i8 b.p, .int .i8 b.k, .int .i8 b.r, .int .i16 b.g] 55)).heap.size := by simp
  have HB := Lib.hid hb0
  have HA1 := Lib.hid hat
  have HA2 := Lib.hid hat2
  have HT := Lib.hid htwo
  have HS2 := Lib.hid hS
  have HZ := Lib.hid hsz
  clear hb0 hat hat2 htwo hS hsz HS
  unfold Gang.v
  go_enter Try.func26, Try.ntmps26
  go_wp2_with fail
  refine (l07Asked_calls rows HR.out [a, b] HG.out _ _ _ HS2.out HT.out).mono ?_
  rintro e w1 ⟨rfl, rfl⟩
  generalize ((w.alloc (.cells #[.int .i8 a.s, .int .i8 a.p, .int .i8 a.k, .int .i8 a.r, .int .i16 a.g] 55)).alloc (.cells #[.int .i8 b.s, .int .i8 b.p, .int .i8 b.k, .int .i8 b.r, .int .i16 b.g] 55)).alloc (.cells #[.int .i8 a.s, .int .i8 a.p, .int .i8 a.k, .int .i8 a.r, .int .i16 a.g, .int .i8 b.s, .int .i8 b.p, .int .i8 b.k, .int .i8 b.r, .int .i16 b.g] 55) = W at *
  by_cases hc : asked rows [a, b] = 0
  · have HE := Lib.hid (show meetAt rows a b = _ from if_pos hc)
    have HM := Lib.hid (Meets.of hc)
    rw [hc]
    clear hc HT
    have h6 := HM.out.h6
    go_wp2_with fail
    go_loopw [10, 11, 12] (fun p q i wr => ∃ k : Nat, k ≤ rows.length + 1 ∧ i = .int .i64 k ∧ p = .int .i64 (meetN rows a b k).1 ∧ q = .int .i64 (meetN rows a b k).2 ∧ Below W.heap.size W wr) (fun _ _ i _ => rows.length + 1 - (intOf i).toNat)
    case atStart => exact ⟨0, by omega, rfl, rfl, rfl, Below.refl _ _⟩
    case round =>
      obtain ⟨k, hk, rfl, rfl, rfl, hb⟩ := hrel
      obtain ⟨wo, rfl⟩ : ∃ wo : World, wo = wr := ⟨_, rfl⟩
      obtain ⟨⟨n0, n1⟩, n2, n3⟩ := HM.out.n k
      by_cases hlt : k ≤ rows.length
      · have hq : decide ((k : Int) ≤ (rows.length : Int)) = true := by rw [decide_eq_true_eq]; omega
        go_wp2_with fail
        go_loopw [13, 14] (fun f i wr => ∃ j : Nat, j ≤ rows.length ∧ i = .int .i64 j ∧ f = .bool (fineN rows a b k j) ∧ Below W.heap.size W wr) (fun _ i _ => rows.length - (intOf i).toNat)
        case atStart => exact ⟨0, by omega, rfl, rfl, hb⟩
        case round =>
          obtain ⟨j, hj, rfl, rfl, hb'⟩ := hrel
          obtain ⟨wi, rfl⟩ : ∃ wi : World, wi = wr := ⟨_, rfl⟩
          by_cases hjl : j < rows.length
          · obtain ⟨b3, o3, rfl, hbb, g0, g1⟩ := hcell j hjl
            have hRA := Lib.hid (Row.at_ext (show Row.at_ w b3 (o3 + j * 2) rows[j] from ⟨g0, g1⟩) (ext_trans HB.out hb') hbb)
            have hA1 := Lib.hid (Gang.at_ext HA1.out hb' (by have := HZ.out; omega))
            have hA2 := Lib.hid (Gang.at_ext HA2.out hb' (by have := HZ.out; omega))
            have hst : fineN rows a b k (j + 1) = (fineN rows a b k j && (if j < k then mayB a rows[j] else mayB b rows[j])) := by
              rw [fineN]; simp [List.getD_eq_getElem?_getD, hjl]
            have HST := Lib.hid hst
            have hjd : decide ((j : Int) < (rows.length : Int)) = true := by rw [decide_eq_true_eq]; omega
            clear hst g0 g1 hcell
            cases hF : fineN rows a b k j
            · have HS3 := Lib.hid (show fineN rows a b k (j + 1) = false from by rw [HST.out, hF]; rfl)
              clear hF HST
              go_wp2_with fail
              go_roundw
              case rel => exact ⟨j + 1, by omega, by go_num, by rw [HS3.out], hb'⟩
              case measure => simp [intOf]; omega
            · by_cases hjk : j < k
              · have hjk1 : decide ((j : Int) < (k : Int)) = true := by rw [decide_eq_true_eq]; omega
                have hjk2 : decide ((k : Int) ≤ (j : Int)) = false := by rw [decide_eq_false_iff_not]; omega
                obtain ⟨q1, hq1⟩ : ∃ q1, mayB a rows[j] = q1 := ⟨_, rfl⟩
                have HS3 := Lib.hid (show fineN rows a b k (j + 1) = q1 from by rw [HST.out, hF, if_pos hjk, hq1, Bool.true_and])
                cases q1
                all_goals
                  have HQ := Lib.hid hq1
                  clear hF HST hq1
                  go_wp2_with fail
                  refine (l07May_b _ _ _ _ a rows[j] _ HQ.out _ hA1.out hRA.out).mono ?_
                  rintro e w1 ⟨rfl, n, rfl⟩
                  go_wp2_with fail
                  go_roundw
                  case rel => exact ⟨j + 1, by omega, by go_num, by rw [HS3.out], ext_drewN hb' _⟩
                  case measure => simp [intOf]; omega
              · have hjk1 : decide ((j : Int) < (k : Int)) = false := by rw [decide_eq_false_iff_not]; omega
                have hjk2 : decide ((k : Int) ≤ (j : Int)) = true := by rw [decide_eq_true_eq]; omega
                obtain ⟨q1, hq1⟩ : ∃ q1, mayB b rows[j] = q1 := ⟨_, rfl⟩
                have HS3 := Lib.hid (show fineN rows a b k (j + 1) = q1 from by rw [HST.out, hF, if_neg hjk, hq1, Bool.true_and])
                cases q1
                all_goals
                  have HQ := Lib.hid hq1
                  clear hF HST hq1
                  go_wp2_with fail
                  refine (l07May_b _ _ _ _ b rows[j] _ HQ.out _ hA2.out hRA.out).mono ?_
                  rintro e w1 ⟨rfl, n, rfl⟩
                  go_wp2_with fail
                  go_roundw
                  case rel => exact ⟨j + 1, by omega, by go_num, by rw [HS3.out], ext_drewN hb' _⟩
                  case measure => simp [intOf]; omega
          · obtain rfl : j = rows.length := by omega
            have HF := Lib.hid (fineN_all rows a b k hlt)
            rw [HF.out]
            obtain ⟨⟨w0, w1⟩, w2, w3⟩ := HM.out.works k
            obtain ⟨m0, m1⟩ := HM.out.m k
            have hmx : max (daysS a (workS (rows.take k))) (daysS b (workS (rows.drop k))) = mMeet rows a b k := rfl
            have HMX := Lib.hid hmx
            have hSw := Lib.hid (HS2.out.ext hb')
            have hA1 := Lib.hid (Gang.at_ext HA1.out hb' (by have := HZ.out; omega))
            have hA2 := Lib.hid (Gang.at_ext HA2.out hb' (by have := HZ.out; omega))
            obtain ⟨zh, hzh⟩ : ∃ z : Value, z = .slice A k cap := ⟨_, rfl⟩
            obtain ⟨zl, hzl⟩ : ∃ z : Value, z = .slice (if cap = k then A else A.map (·.add (k * 2))) (rows.length - k) (cap - k) := ⟨_, rfl⟩
            have hHi := fun W => cutHi_run A rows.length cap k (by omega) W
            have hLo := fun W => cutLo_run A rows.length cap k (by omega) (by omega) W
            have hsh := Lib.hid (show Sl wi wi.heap.size Row.c 2 zh (rows.take k) from hzh ▸ hSw.out.cutHi k hlt)
            have hsl := Lib.hid (show Sl wi wi.heap.size Row.c 2 zl (rows.drop k) from hzl ▸ hSw.out.cutLo k hlt)
            have hrh := Lib.hid (show (rows.take k).length ≤ 6 from by rw [List.length_take]; omega)
            have hrl := Lib.hid (show (rows.drop k).length ≤ 6 from by rw [List.length_drop]; omega)
            have hvh := Lib.hid (show ∀ x ∈ rows.take k, vRowB x = true from fun x hx => HM.out.hr x (List.mem_of_mem_take hx))
            have hvl := Lib.hid (show ∀ x ∈ rows.drop k, vRowB x = true from fun x hx => HM.out.hr x (List.mem_of_mem_drop hx))
            rw [← hzh] at hHi
            rw [← hzl] at hLo
            clear hcell hmx hzh hzl
            generalize hTK : rows.take k = tk at *
            generalize hDR : rows.drop k = dr at *
            have HTK := Lib.hid hTK
            have HDR := Lib.hid hDR
            clear hTK hDR
            have q1 := Lib.hid (fun n => quiet_same (n := n) (l07Work_calls tk hrh.out hvh.out zh (wi.drewN n) (hsh.out.drwN n)))
            have q2 := Lib.hid (fun n => quiet_same (n := n) (l07Work_calls dr hrl.out hvl.out zl (wi.drewN n) (hsl.out.drwN n)))
            have q3 := Lib.hid (fun n => Calls.quiet_of (n := n) (specDays_calls w.heap.size 0 a HM.out.ha (workS tk) w0 w1 (wi.drewN n) (Gang.at_drwN hA1.out n)))
            have q4 := Lib.hid (fun n => Calls.quiet_of (n := n) (specDays_calls (w.heap.size + 1) 0 b HM.out.hb (workS dr) w2 w3 (wi.drewN n) (Gang.at_drwN hA2.out n)))
            go_wp2_with fail
            go_quiet (first | (go_at_call 56; with_reducible exact q1.out _) | (go_at_call 56; with_reducible exact q2.out _) | (go_at_call 55; with_reducible exact q3.out _) | (go_at_call 55; with_reducible exact q4.out _) | (go_at_call 54; exact quiet_same (max_calls _ _ _)))
            rw [HMX.out]
            have hst := Lib.hid (show meetN rows a b (k + 1) = if (fineB rows a b k && (decide ((meetN rows a b k).2 < 0) || decide (mMeet rows a b k < (meetN rows a b k).2))) = true then ((k : Int), mMeet rows a b k) else meetN rows a b k from rfl)
            have hbz := Lib.hid hb'
            clear hHi hLo hb' HMX q1 q2 q3 q4
            generalize hMM : mMeet rows a b k = mm at *
            generalize hMN : meetN rows a b k = M at *
            clear hMM hMN
            cases hF : fineB rows a b k
            · have hs2 := Lib.hid (hst.out.trans (by rw [hF]))
              clear hF hst HF
              go_wp2_with fail
              go_roundw
              case rel => exact ⟨k + 1, by omega, by go_num, by rw [hs2.out]; rfl, by rw [hs2.out]; rfl, ext_drewN hbz.out _⟩
              case measure => first | (simp [intOf]; done) | (simp [intOf]; omega)
            · by_cases hneg : M.2 < 0
              · have hd : decide (M.2 < 0) = true := by rw [decide_eq_true_eq]; exact hneg
                have hs2 := Lib.hid (hst.out.trans (by rw [hF, hd]))
                clear hF hst HF hneg
                go_wp2_with fail
                go_roundw
                case rel => exact ⟨k + 1, by omega, by go_num, by rw [hs2.out]; rfl, by rw [hs2.out]; rfl, ext_drewN hbz.out _⟩
                case measure => first | (simp [intOf]; done) | (simp [intOf]; omega)
              · have hd : decide (M.2 < 0) = false := by rw [decide_eq_false_iff_not]; exact hneg
                obtain ⟨q, hq9⟩ : ∃ q, decide (mm < M.2) = q := ⟨_, rfl⟩
                have hs2 := Lib.hid (hst.out.trans (by rw [hF, hd, hq9, Bool.true_and, Bool.false_or]))
                clear hF hst HF hneg
                cases q
                · have hs3 := Lib.hid (hs2.out.trans (if_neg (by decide)))
                  clear hs2
                  go_wp2_with fail
                  go_roundw
                  case rel => exact ⟨k + 1, by omega, by go_num, by rw [hs3.out], by rw [hs3.out], ext_drewN hbz.out _⟩
                  case measure => first | (simp [intOf]; done) | (simp [intOf]; omega)
                · have hs3 := Lib.hid (hs2.out.trans (if_pos rfl))
                  clear hs2
                  go_wp2_with fail
                  go_roundw
                  case rel => exact ⟨k + 1, by omega, by go_num, by rw [hs3.out], by rw [hs3.out], ext_drewN hbz.out _⟩
                  case measure => first | (simp [intOf]; done) | (simp [intOf]; omega)
      · obtain rfl : k = rows.length + 1 := by omega
        have hq : decide (((rows.length + 1 : Nat) : Int) ≤ (rows.length : Int)) = false := by rw [decide_eq_false_iff_not]; omega
        have hBB := Lib.hid (ext_trans HB.out hb)
        generalize meetN rows a b (rows.length + 1) = M at *
        by_cases hneg : M.2 < 0
        · have hE2 := Lib.hid (HE.out.trans (if_pos hneg))
          have hd : decide (M.2 < 0) = true := by rw [decide_eq_true_eq]; exact hneg
          clear HE hneg
          go_wp2_with fail
          go_ret3
          exact ⟨ret_int3 (by rw [hE2.out]) (by rw [hE2.out]) (by rw [hE2.out]), hBB.out⟩
        · have hE2 := Lib.hid (HE.out.trans (if_neg hneg))
          have hd : decide (M.2 < 0) = false := by rw [decide_eq_false_iff_not]; exact hneg
          clear HE hneg
          go_wp2_with fail
          go_ret3
          exact ⟨ret_int3 (by rw [hE2.out]) (by rw [hE2.out]) (by rw [hE2.out]), hBB.out⟩
  · have HE := Lib.hid (show meetAt rows a b = (0, 0, asked rows [a, b]) from if_neg hc)
    have hcb : (asked rows [a, b] == 0) = false := by simpa using hc
    have hcb2 : (asked rows [a, b] != 0) = true := by simpa using hc
    clear hc
    go_wp2_with fail
    go_ret3
    exact ⟨ret_int3 (by rw [HE.out]) (by rw [HE.out]) (by rw [HE.out]), HB.out⟩
end Go.Proofs.Ytjomnenljojoiab
