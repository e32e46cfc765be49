/-
Contracts of the functions that seek among amounts and mixes, over plain numbers and lists. Conditions: numbers are of their kinds; mixes are valid where the program asks it.
-/
import Derived.Test.YtgifakacnneleaaG2
set_option linter.unusedVariables false
set_option linter.unusedSimpArgs false
set_option maxRecDepth 100000
namespace Go.Proofs.Ytgifakacnneleaa
open Go.RowKit
def fits (a s : Mix) : Bool := decide (a.x ≤ s.x) && decide (a.y ≤ s.y) && decide (a.z ≤ s.z)
def mostN (m s : Mix) : Nat → Int
  | 0 => 0
  | k + 1 => if fits (forA m (k + 1 : Nat)) s then (k + 1 : Nat) else mostN m s k
def mostA (m s : Mix) : Int := mostN m s 5000
set_option maxHeartbeats 2000000 in
theorem most_calls (m : Mix) (hv : vMixS m = true) (s : Mix) (w : World) :
    Calls Try.prog 40 #[Mix.v m, Mix.v s] w fun e w' => e = .returned (.int .i64 (mostA m s)) ∧ Below w.heap.size w w' := by
  unfold Mix.v
  go_enter Try.func40, Try.ntmps40
  go_wp2_with fail
  go_loopw [5] (fun i wr => ∃ k : Nat, k ≤ 5000 ∧ i = .int .i64 k ∧ mostA m s = mostN m s k ∧ Bk wr w.heap.size 24 #[.int .i16 m.x, .int .i16 m.y, .int .i16 m.z] ∧ Bk wr (w.heap.size + 1) 24 #[.int .i16 s.x, .int .i16 s.y, .int .i16 s.z] ∧ Below w.heap.size w wr) (fun i _ => (intOf i).toNat)
  case atStart => exact ⟨5000, by omega, rfl, rfl, (Bk.new w 24 #[.int .i16 m.x, .int .i16 m.y, .int .i16 m.z] w.heap.size rfl).alloc _, Bk.new (w.alloc (.cells #[.int .i16 m.x, .int .i16 m.y, .int .i16 m.z] 24)) 24 #[.int .i16 s.x, .int .i16 s.y, .int .i16 s.z] (w.heap.size + 1) (by simp), ext_alloc ((Below.refl _ _).alloc (Nat.le_refl _) _) _⟩
  case round =>
    obtain ⟨k, hk, rfl, hm, hB1, hB2, hb⟩ := hrel
    have HM := Lib.hid hm
    clear hm
    have HB1 := Lib.hid hB1
    have HB2 := Lib.hid hB2
    have a0 := hB1.cell 0 _ rfl
    have a1 := hB1.cell 1 _ rfl
    have a2 := hB1.cell 2 _ rfl
    clear hB1 hB2
    cases k with
    | zero =>
      go_wp2_with fail
      go_ret
      exact ⟨ret_int (by rw [HM.out]; rfl), hb⟩
    | succ k =>
      have hN := Lib.hid (show (fits (forA m (k + 1 : Nat)) s = true → mostA m s = (k + 1 : Nat)) ∧ (fits (forA m (k + 1 : Nat)) s = false → mostA m s = mostN m s k) from
        ⟨fun h => by rw [HM.out, mostN, if_pos h], fun h => by rw [HM.out, mostN, if_neg (by rw [h]; decide)]⟩)
      go_wp2_with fail
      refine (forAmount_calls m hv (k + 1 : Nat) (by omega) (by omega) _).mono ?_
      rintro e w1 ⟨rfl, hb1⟩
      have KB1 := Lib.hid ((HB1.out.ext hb1).alloc (.cells #[.int .i16 (forA m (k + 1 : Nat)).x, .int .i16 (forA m (k + 1 : Nat)).y, .int .i16 (forA m (k + 1 : Nat)).z] 24))
      have KB2 := Lib.hid ((HB2.out.ext hb1).alloc (.cells #[.int .i16 (forA m (k + 1 : Nat)).x, .int .i16 (forA m (k + 1 : Nat)).y, .int .i16 (forA m (k + 1 : Nat)).z] 24))
      have hl : w.heap.size + 1 < w1.heap.size := (HB2.out.ext hb1).lt
      have s0 := (HB2.out.ext hb1).cell 0 _ rfl
      have s1 := (HB2.out.ext hb1).cell 1 _ rfl
      have s2 := (HB2.out.ext hb1).cell 2 _ rfl
      have hb2 := ext_alloc (ext_trans hb hb1) (.cells #[.int .i16 (forA m (k + 1 : Nat)).x, .int .i16 (forA m (k + 1 : Nat)).y, .int .i16 (forA m (k + 1 : Nat)).z] 24)
      clear hb1 hb a0 a1 a2 HB1 HB2
      generalize forA m (k + 1 : Nat) = F at *
      unfold Mix.v
      by_cases e0 : F.x ≤ s.x
      · skip
        by_cases e1 : F.y ≤ s.y
        · skip
          by_cases e2 : F.z ≤ s.z
          · have hF := Lib.hid (show fits F s = true from by simp [fits, e0, e1, e2])
            have hT := Lib.hid (hN.out.1 hF.out)
            go_wp2_with fail
            go_ret
            exact ⟨ret_int hT.out.symm, hb2⟩
          · have hF := Lib.hid (show fits F s = false from by simp [fits, e2])
            have q2 : decide (F.z ≤ s.z) = false := by simpa using e2
            clear e2
            have hT := Lib.hid (hN.out.2 hF.out)
            go_wp2_with fail
            go_roundw
            case rel => exact ⟨k, by omega, by first | rfl | go_num, hT.out, KB1.out, KB2.out, hb2⟩
            case measure => simp [intOf]
        · have hF := Lib.hid (show fits F s = false from by simp [fits, e1])
          have q1 : decide (F.y ≤ s.y) = false := by simpa using e1
          clear e1
          have hT := Lib.hid (hN.out.2 hF.out)
          go_wp2_with fail
          go_roundw
          case rel => exact ⟨k, by omega, by first | rfl | go_num, hT.out, KB1.out, KB2.out, hb2⟩
          case measure => simp [intOf]
      · have hF := Lib.hid (show fits F s = false from by simp [fits, e0])
        have q0 : decide (F.x ≤ s.x) = false := by simpa using e0
        clear e0
        have hT := Lib.hid (hN.out.2 hF.out)
        go_wp2_with fail
        go_roundw
        case rel => exact ⟨k, by omega, by first | rfl | go_num, hT.out, KB1.out, KB2.out, hb2⟩
        case measure => simp [intOf]
set_option maxHeartbeats 2000000 in
theorem l07Most_calls (b o b2 o2 : Nat) (m : Mix) (hmo : m.ok) (hv : vMixS m = true) (s : Mix) (w : World) (hbl : b < w.heap.size) (hbl2 : b2 < w.heap.size) (hat : Mix.at_ w b o m) (hat2 : Mix.at_ w b2 o2 s) :
    Calls Try.prog 38 #[.pointer (some ⟨b, o, none⟩), .pointer (some ⟨b2, o2, none⟩)] w fun e w' => e = .returned (.int .i64 (mostA m s)) ∧ Below w.heap.size w w' := by
  have HAT := Lib.hid hat
  have HAT2 := Lib.hid hat2
  clear hat hat2
  go_enter Try.func38, Try.ntmps38
  go_wp2_with fail
  go_loopw [5] (fun i wr => ∃ k : Nat, k ≤ 5000 ∧ i = .int .i64 k ∧ mostA m s = mostN m s k ∧ Below w.heap.size w wr) (fun i _ => (intOf i).toNat)
  case atStart => exact ⟨5000, by omega, rfl, rfl, Below.refl _ _⟩
  case round =>
    obtain ⟨k, hk, rfl, hm, hb⟩ := hrel
    have HM := Lib.hid hm
    clear hm
    cases k with
    | zero =>
      go_wp2_with fail
      go_ret
      exact ⟨ret_int (by rw [HM.out]; rfl), hb⟩
    | succ k =>
      have hN := Lib.hid (show (fits (forA m (k + 1 : Nat)) s = true → mostA m s = (k + 1 : Nat)) ∧ (fits (forA m (k + 1 : Nat)) s = false → mostA m s = mostN m s k) from
        ⟨fun h => by rw [HM.out, mostN, if_pos h], fun h => by rw [HM.out, mostN, if_neg (by rw [h]; decide)]⟩)
      go_wp2_with fail
      refine (l07For_calls b o m hmo hv (k + 1 : Nat) (by omega) (by omega) _ (Nat.lt_of_lt_of_le hbl hb.size) (Mix.at_ext HAT.out hb hbl)).mono ?_
      rintro e w1 ⟨rfl, hb1⟩
      have hb3 := ext_trans hb hb1
      have hl : b2 < w1.heap.size := Nat.lt_of_lt_of_le hbl2 hb3.size
      obtain ⟨s0, s1, s2⟩ := Mix.at_ext HAT2.out hb3 hbl2
      have hb2 := ext_alloc hb3 (.cells #[.int .i16 (forA m (k + 1 : Nat)).x, .int .i16 (forA m (k + 1 : Nat)).y, .int .i16 (forA m (k + 1 : Nat)).z] 24)
      clear hb1 hb hb3
      generalize forA m (k + 1 : Nat) = F at *
      unfold Mix.v
      by_cases e0 : F.x ≤ s.x
      · skip
        by_cases e1 : F.y ≤ s.y
        · skip
          by_cases e2 : F.z ≤ s.z
          · have hF := Lib.hid (show fits F s = true from by simp [fits, e0, e1, e2])
            have hT := Lib.hid (hN.out.1 hF.out)
            go_wp2_with fail
            go_quiet (fail)
            go_wp2_with fail
            go_ret
            exact ⟨ret_int hT.out.symm, ext_drewN hb2 _⟩
          · have hF := Lib.hid (show fits F s = false from by simp [fits, e2])
            have q2 : decide (F.z ≤ s.z) = false := by simpa using e2
            clear e2
            have hT := Lib.hid (hN.out.2 hF.out)
            go_wp2_with fail
            go_quiet (fail)
            go_wp2_with fail
            go_roundw
            case rel => exact ⟨k, by omega, by first | rfl | go_num, hT.out, ext_drewN hb2 _⟩
            case measure => simp [intOf]
        · have hF := Lib.hid (show fits F s = false from by simp [fits, e1])
          have q1 : decide (F.y ≤ s.y) = false := by simpa using e1
          clear e1
          have hT := Lib.hid (hN.out.2 hF.out)
          go_wp2_with fail
          go_quiet (fail)
          go_wp2_with fail
          go_roundw
          case rel => exact ⟨k, by omega, by first | rfl | go_num, hT.out, ext_drewN hb2 _⟩
          case measure => simp [intOf]
      · have hF := Lib.hid (show fits F s = false from by simp [fits, e0])
        have q0 : decide (F.x ≤ s.x) = false := by simpa using e0
        clear e0
        have hT := Lib.hid (hN.out.2 hF.out)
        go_wp2_with fail
        go_quiet (fail)
        go_wp2_with fail
        go_roundw
        case rel => exact ⟨k, by omega, by first | rfl | go_num, hT.out, ext_drewN hb2 _⟩
        case measure => simp [intOf]
def mostFrom (m s : Mix) : Int × Int := if vMixS m then (if vStock s then (mostA m s, 0) else (0, 2)) else (0, 1)
theorem Mix.at_of_bk {w : World} {g : Nat} {T : TypeId} {m : Mix} (h : Bk w g T #[.int .i16 m.x, .int .i16 m.y, .int .i16 m.z]) : Mix.at_ w g 0 m := ⟨h.cell 0 _ rfl, h.cell 1 _ rfl, h.cell 2 _ rfl⟩
set_option maxHeartbeats 1000000 in
theorem specMostFrom_calls (m : Mix) (hm : m.ok) (s : Mix) (hs : s.ok) (w : World) :
    Calls Try.prog 12 #[Mix.v m, Mix.v s] w fun e w' => e = .returned (.tuple #[.int .i64 (mostFrom m s).1, .int .i64 (mostFrom m s).2]) ∧ Below w.heap.size w w' := by
  have hb0 := Lib.hid (ext_alloc ((Below.refl w.heap.size w).alloc (Nat.le_refl _) (.cells #[.int .i16 m.x, .int .i16 m.y, .int .i16 m.z] 24)) (.cells #[.int .i16 s.x, .int .i16 s.y, .int .i16 s.z] 24))
  have HB1 := Lib.hid ((Bk.new w 24 #[.int .i16 m.x, .int .i16 m.y, .int .i16 m.z] w.heap.size rfl).alloc (.cells #[.int .i16 s.x, .int .i16 s.y, .int .i16 s.z] 24))
  have HB2 := Lib.hid (Bk.new (w.alloc (.cells #[.int .i16 m.x, .int .i16 m.y, .int .i16 m.z] 24)) 24 #[.int .i16 s.x, .int .i16 s.y, .int .i16 s.z] (w.heap.size + 1) (by simp))
  have HX := Lib.hid (vMix_eq m)
  generalize hV : vMixS m = V
  cases V
  · have HE := Lib.hid (show mostFrom m s = (0, 1) from by simp [mostFrom, hV])
    have HV := Lib.hid hV
    clear hV
    unfold Mix.v
    go_enter Try.func12, Try.ntmps12
    go_wp2_with fail
    refine (l07Mix_calls _ 0 m hm _ (Mix.at_of_bk HB1.out)).mono ?_
    rintro e w1 ⟨rfl, nd, rfl⟩
    rw [HV.out]
    go_wp2_with fail
    go_ret2
    exact ⟨ret_int2 (by rw [HE.out]) (by rw [HE.out]), ext_drewN hb0.out nd⟩
  generalize hI : vStock s = I
  cases I
  · have HE := Lib.hid (show mostFrom m s = (0, 2) from by simp [mostFrom, hV, hI])
    have HV := Lib.hid hV
    have HI := Lib.hid hI
    clear hV hI
    unfold Mix.v
    go_enter Try.func12, Try.ntmps12
    go_wp2_with fail
    refine (l07Mix_calls _ 0 m hm _ (Mix.at_of_bk HB1.out)).mono ?_
    rintro e w1 ⟨rfl, nd, rfl⟩
    rw [HV.out]
    go_wp2_with fail
    refine (l07Stock_calls _ 0 s hs _ (Mix.at_of_bk (HB2.out.drwN nd))).mono ?_
    rintro e w2 ⟨rfl, rfl⟩
    rw [HI.out]
    go_wp2_with fail
    go_ret2
    exact ⟨ret_int2 (by rw [HE.out]) (by rw [HE.out]), ext_drewN hb0.out nd⟩
  · have HE := Lib.hid (show mostFrom m s = (mostA m s, 0) from by simp [mostFrom, hV, hI])
    have HV := Lib.hid hV
    have HI := Lib.hid hI
    clear hV hI
    unfold Mix.v
    go_enter Try.func12, Try.ntmps12
    go_wp2_with fail
    refine (l07Mix_calls _ 0 m hm _ (Mix.at_of_bk HB1.out)).mono ?_
    rintro e w1 ⟨rfl, nd, rfl⟩
    rw [HV.out]
    go_wp2_with fail
    refine (l07Stock_calls _ 0 s hs _ (Mix.at_of_bk (HB2.out.drwN nd))).mono ?_
    rintro e w2 ⟨rfl, rfl⟩
    rw [HI.out]
    go_wp2_with fail
    refine (l07Most_calls _ 0 _ 0 m hm HV.out s _ (HB1.out.drwN nd).lt (HB2.out.drwN nd).lt (Mix.at_of_bk (HB1.out.drwN nd)) (Mix.at_of_bk (HB2.out.drwN nd))).mono ?_
    rintro e w2 ⟨rfl, hb5⟩
    have hb6 := ext_trans (ext_drewN hb0.out nd) hb5
    clear hb5
    go_wp2_with fail
    go_ret2
    exact ⟨ret_int2 (by rw [HE.out]) (by rw [HE.out]), hb6⟩
set_option maxHeartbeats 1000000 in
theorem implMostFrom_calls (m : Mix) (hm : m.ok) (s : Mix) (hs : s.ok) (w : World) :
    Calls Try.prog 13 #[Mix.v m, Mix.v s] w fun e w' => e = .returned (.tuple #[.int .i64 (mostFrom m s).1, .int .i64 (mostFrom m s).2]) ∧ Below w.heap.size w w' := by
  have hb0 := Lib.hid (ext_alloc ((Below.refl w.heap.size w).alloc (Nat.le_refl _) (.cells #[.int .i16 m.x, .int .i16 m.y, .int .i16 m.z] 24)) (.cells #[.int .i16 s.x, .int .i16 s.y, .int .i16 s.z] 24))
  have HB1 := Lib.hid ((Bk.new w 24 #[.int .i16 m.x, .int .i16 m.y, .int .i16 m.z] w.heap.size rfl).alloc (.cells #[.int .i16 s.x, .int .i16 s.y, .int .i16 s.z] 24))
  have HB2 := Lib.hid (Bk.new (w.alloc (.cells #[.int .i16 m.x, .int .i16 m.y, .int .i16 m.z] 24)) 24 #[.int .i16 s.x, .int .i16 s.y, .int .i16 s.z] (w.heap.size + 1) (by simp))
  have HX := Lib.hid (vMix_eq m)
  generalize hV : vMixS m = V
  cases V
  · have HE := Lib.hid (show mostFrom m s = (0, 1) from by simp [mostFrom, hV])
    have HV := Lib.hid hV
    clear hV
    unfold Mix.v
    go_enter Try.func13, Try.ntmps13
    go_wp2_with fail
    refine (implValidMix_calls m hm _).mono ?_
    rintro e w1 ⟨rfl, hb1⟩
    rw [HX.out, HV.out]
    have hb2 := ext_trans hb0.out hb1
    have KB1 := Lib.hid (HB1.out.ext hb1)
    have KB2 := Lib.hid (HB2.out.ext hb1)
    have s0 := KB2.out.cell 0 _ rfl
    have s1 := KB2.out.cell 1 _ rfl
    have s2 := KB2.out.cell 2 _ rfl
    clear hb1
    go_wp2_with fail
    go_ret2
    exact ⟨ret_int2 (by rw [HE.out]) (by rw [HE.out]), hb2⟩
  generalize hI : vStock s = I
  cases I
  · have HE := Lib.hid (show mostFrom m s = (0, 2) from by simp [mostFrom, hV, hI])
    have HV := Lib.hid hV
    have HI := Lib.hid hI
    clear hV hI
    unfold Mix.v
    go_enter Try.func13, Try.ntmps13
    go_wp2_with fail
    refine (implValidMix_calls m hm _).mono ?_
    rintro e w1 ⟨rfl, hb1⟩
    rw [HX.out, HV.out]
    have hb2 := ext_trans hb0.out hb1
    have KB1 := Lib.hid (HB1.out.ext hb1)
    have KB2 := Lib.hid (HB2.out.ext hb1)
    have s0 := KB2.out.cell 0 _ rfl
    have s1 := KB2.out.cell 1 _ rfl
    have s2 := KB2.out.cell 2 _ rfl
    clear hb1
    go_wp2_with fail
    refine (isStock_calls s hs _).mono ?_
    rintro e w2 ⟨rfl, hb3⟩
    rw [HI.out]
    have hb4 := ext_trans hb2 hb3
    have LB1 := Lib.hid (KB1.out.ext hb3)
    have LB2 := Lib.hid (KB2.out.ext hb3)
    clear s0 s1 s2 hb3 hb2
    have s0 := LB2.out.cell 0 _ rfl
    have s1 := LB2.out.cell 1 _ rfl
    have s2 := LB2.out.cell 2 _ rfl
    have a0 := LB1.out.cell 0 _ rfl
    have a1 := LB1.out.cell 1 _ rfl
    have a2 := LB1.out.cell 2 _ rfl
    go_wp2_with fail
    go_ret2
    exact ⟨ret_int2 (by rw [HE.out]) (by rw [HE.out]), hb4⟩
  · have HE := Lib.hid (show mostFrom m s = (mostA m s, 0) from by simp [mostFrom, hV, hI])
    have HV := Lib.hid hV
    have HI := Lib.hid hI
    clear hV hI
    unfold Mix.v
    go_enter Try.func13, Try.ntmps13
    go_wp2_with fail
    refine (implValidMix_calls m hm _).mono ?_
    rintro e w1 ⟨rfl, hb1⟩
    rw [HX.out, HV.out]
    have hb2 := ext_trans hb0.out hb1
    have KB1 := Lib.hid (HB1.out.ext hb1)
    have KB2 := Lib.hid (HB2.out.ext hb1)
    have s0 := KB2.out.cell 0 _ rfl
    have s1 := KB2.out.cell 1 _ rfl
    have s2 := KB2.out.cell 2 _ rfl
    clear hb1
    go_wp2_with fail
    refine (isStock_calls s hs _).mono ?_
    rintro e w2 ⟨rfl, hb3⟩
    rw [HI.out]
    have hb4 := ext_trans hb2 hb3
    have LB1 := Lib.hid (KB1.out.ext hb3)
    have LB2 := Lib.hid (KB2.out.ext hb3)
    clear s0 s1 s2 hb3 hb2
    have s0 := LB2.out.cell 0 _ rfl
    have s1 := LB2.out.cell 1 _ rfl
    have s2 := LB2.out.cell 2 _ rfl
    have a0 := LB1.out.cell 0 _ rfl
    have a1 := LB1.out.cell 1 _ rfl
    have a2 := LB1.out.cell 2 _ rfl
    go_wp2_with fail
    refine (most_calls m HV.out s _).mono ?_
    rintro e w3 ⟨rfl, hb5⟩
    have hb6 := ext_trans hb4 hb5
    clear s0 s1 s2 a0 a1 a2 hb5 hb4
    go_wp2_with fail
    go_ret2
    exact ⟨ret_int2 (by rw [HE.out]) (by rw [HE.out]), hb6⟩
def bestN (xs : List Mix) (s : Mix) : Nat → Int × Int
  | 0 => (0, -1)
  | k + 1 => if (bestN xs s k).2 < mostA (xs.getD k ⟨0, 0, 0⟩) s then ((k : Int), mostA (xs.getD k ⟨0, 0, 0⟩) s) else bestN xs s k
def bestMix (xs : List Mix) (s : Mix) : Int × Int × Int :=
  if xs.all vMixS then (if 20 < xs.length then (0, 0, 3) else if vStock s then (if xs.length = 0 then (0, 0, 6) else ((bestN xs s xs.length).1, (bestN xs s xs.length).2, 0)) else (0, 0, 2)) else (0, 0, 1)
theorem mostN_ge (m s : Mix) : ∀ k, 0 ≤ mostN m s k
  | 0 => Int.le_refl _
  | k + 1 => by
    unfold mostN
    split
    · omega
    · exact mostN_ge m s k
theorem bestN_one (xs : List Mix) (s : Mix) (h : 0 < xs.length) : bestN xs s 1 = ((0 : Int), mostA xs[0] s) := by
  have h1 : xs.getD 0 ⟨0, 0, 0⟩ = xs[0] := by simp [List.getD_eq_getElem?_getD, h]
  have := mostN_ge xs[0] s 5000
  unfold bestN bestN
  rw [h1, if_pos (by show (-1 : Int) < mostA xs[0] s; unfold mostA; omega)]
  rfl
theorem bestN_succ (xs : List Mix) (s : Mix) (k : Nat) (h : k < xs.length) : bestN xs s (k + 1) = if (bestN xs s k).2 < mostA xs[k] s then ((k : Int), mostA xs[k] s) else bestN xs s k := by
  have h1 : xs.getD k ⟨0, 0, 0⟩ = xs[k] := by simp [List.getD_eq_getElem?_getD, h]
  rw [bestN, h1]
theorem bestMixFn (x : Mix) (hx : x.ok) (w : World) : Tells Try.prog 45 #[] Mix.v (fun x => !vMixS x) w x := by
  intro W hW
  have HX := Lib.hid (vMix_eq x)
  unfold Mix.v
  go_enter Try.func45, Try.ntmps45
  go_wp2_with fail
  refine (implValidMix_calls x hx _).mono ?_
  rintro e w1 ⟨rfl, hb1⟩
  rw [HX.out]
  go_wp2_with fail
  go_ret
  exact ⟨rfl, ext_of_alloc hb1⟩
set_option maxHeartbeats 2000000 in
theorem implBestMix_calls (xs : List Mix) (hx : ∀ x ∈ xs, x.ok) (v : Value) (s : Mix) (hs : s.ok) (w : World) (hsl : Sl w w.heap.size Mix.c 3 v xs) :
    Calls Try.prog 22 #[v, Mix.v s] w fun e w' => e = .returned (.tuple #[.int .i64 (bestMix xs s).1, .int .i64 (bestMix xs s).2.1, .int .i64 (bestMix xs s).2.2]) ∧ Below w.heap.size w w' := by
  have HSL := Lib.hid hsl
  obtain ⟨A, cap, rfl, hl, hm, hcell⟩ := hsl.mix
  clear hsl
  have eg := Lib.hid (enters_of Try.func45 (by kernel_rfl) rfl)
  have HX := Lib.hid hx
  clear hx
  have hb0 := Lib.hid ((Below.refl w.heap.size w).alloc (Nat.le_refl _) (.cells #[.int .i16 s.x, .int .i16 s.y, .int .i16 s.z] 24))
  have HB := Lib.hid (Bk.new w 24 #[.int .i16 s.x, .int .i16 s.y, .int .i16 s.z] w.heap.size rfl)
  generalize hV : (xs.any fun x => !vMixS x) = V
  have HA := Lib.hid (show xs.all vMixS = !V from by rw [← hV, ← List.all_eq_not_any_not])
  have HV := Lib.hid hV
  clear hV
  unfold Mix.v
  cases V
  · by_cases hlen : 20 < xs.length
    · have HE := Lib.hid (show bestMix xs s = (0, 0, 3) from by simp [bestMix, HA.out, hlen])
      go_enter Try.func22, Try.ntmps22
      go_wp2_with fail
      refine (containsFuncMix xs _ _ (HSL.out.alloc _) _ _ _ eg.out (fun x h => bestMixFn x (HX.out x h) _)).mono ?_
      rintro e w1 ⟨rfl, hb1⟩
      rw [HV.out]
      go_wp2_with fail
      go_ret3
      exact ⟨ret_int3 (by rw [HE.out]) (by rw [HE.out]) (by rw [HE.out]), ext_trans hb0.out hb1⟩
    · generalize hI : vStock s = I
      have HI := Lib.hid hI
      cases I
      · have HE := Lib.hid (show bestMix xs s = (0, 0, 2) from by simp [bestMix, HA.out, hlen, hI])
        clear hI
        go_enter Try.func22, Try.ntmps22
        go_wp2_with fail
        refine (containsFuncMix xs _ _ (HSL.out.alloc _) _ _ _ eg.out (fun x h => bestMixFn x (HX.out x h) _)).mono ?_
        rintro e w1 ⟨rfl, hb1⟩
        rw [HV.out]
        have KB := Lib.hid (HB.out.ext hb1)
        have s0 := KB.out.cell 0 _ rfl
        have s1 := KB.out.cell 1 _ rfl
        have s2 := KB.out.cell 2 _ rfl
        have hb2 := ext_trans hb0.out hb1
        clear hb1
        go_wp2_with fail
        refine (isStock_calls s hs _).mono ?_
        rintro e w2 ⟨rfl, hb3⟩
        rw [HI.out]
        go_wp2_with fail
        go_ret3
        exact ⟨ret_int3 (by rw [HE.out]) (by rw [HE.out]) (by rw [HE.out]), ext_trans hb2 hb3⟩
      · by_cases h0 : xs.length = 0
        · have HE := Lib.hid (show bestMix xs s = (0, 0, 6) from by simp [bestMix, HA.out, hI, h0])
          have hq : ((xs.length : Int) == 0) = true := by simp [h0]
          clear hI h0
          go_enter Try.func22, Try.ntmps22
          go_wp2_with fail
          refine (containsFuncMix xs _ _ (HSL.out.alloc _) _ _ _ eg.out (fun x h => bestMixFn x (HX.out x h) _)).mono ?_
          rintro e w1 ⟨rfl, hb1⟩
          rw [HV.out]
          have KB := Lib.hid (HB.out.ext hb1)
          have s0 := KB.out.cell 0 _ rfl
          have s1 := KB.out.cell 1 _ rfl
          have s2 := KB.out.cell 2 _ rfl
          have hb2 := ext_trans hb0.out hb1
          clear hb1
          go_wp2_with fail
          refine (isStock_calls s hs _).mono ?_
          rintro e w2 ⟨rfl, hb3⟩
          rw [HI.out]
          go_wp2_with fail
          go_ret3
          exact ⟨ret_int3 (by rw [HE.out]) (by rw [HE.out]) (by rw [HE.out]), ext_trans hb2 hb3⟩
        · have HE := Lib.hid (show bestMix xs s = ((bestN xs s xs.length).1, (bestN xs s xs.length).2, 0) from by simp [bestMix, HA.out, hlen, hI, h0])
          have hq : ((xs.length : Int) == 0) = false := by rw [beq_eq_false_iff_ne]; omega
          have hpos : 0 < xs.length := by omega
          have HALL := Lib.hid (show ∀ x ∈ xs, vMixS x = true from by
            have := HA.out
            simpa using this)
          clear hI h0
          go_enter Try.func22, Try.ntmps22
          go_wp2_with fail
          refine (containsFuncMix xs _ _ (HSL.out.alloc _) _ _ _ eg.out (fun x h => bestMixFn x (HX.out x h) _)).mono ?_
          rintro e w1 ⟨rfl, hb1⟩
          rw [HV.out]
          have KB := Lib.hid (HB.out.ext hb1)
          have s0 := KB.out.cell 0 _ rfl
          have s1 := KB.out.cell 1 _ rfl
          have s2 := KB.out.cell 2 _ rfl
          have hb2 := ext_trans hb0.out hb1
          clear hb1
          go_wp2_with fail
          refine (isStock_calls s hs _).mono ?_
          rintro e w2 ⟨rfl, hb3⟩
          rw [HI.out]
          have LB := Lib.hid (KB.out.ext hb3)
          have hb4 := Lib.hid (ext_trans hb2 hb3)
          clear s0 s1 s2 hb3 hb2 KB
          go_wp2_with fail
          go_loopw [7, 8, 29] (fun p q i wr => ∃ k : Nat, k ≤ xs.length ∧ i = .int .i64 k ∧ p = .int .i64 (bestN xs s k).1 ∧ q = .int .i64 (bestN xs s k).2 ∧ Below w.heap.size w wr ∧ Bk wr w.heap.size 24 #[.int .i16 s.x, .int .i16 s.y, .int .i16 s.z]) (fun _ _ i _ => xs.length - (intOf i).toNat)
          case atStart => exact ⟨0, by omega, rfl, rfl, rfl, hb4.out, LB.out⟩
          case round =>
            obtain ⟨k, hk, rfl, rfl, rfl, hb, hbk⟩ := hrel
            clear hb4 LB
            by_cases hlt : k < xs.length
            · obtain ⟨b, o, rfl, hbb, h0, h1, h2⟩ := hcell k hlt
              clear hcell
              obtain ⟨hcr, hfr⟩ := bcell hb
              have HBK := Lib.hid hbk
              clear hbk
              have hwl : w.heap.size < wr.heap.size := HBK.out.lt
              have s0 := HBK.out.cell 0 _ rfl
              have s1 := HBK.out.cell 1 _ rfl
              have s2 := HBK.out.cell 2 _ rfl
              have hN := Lib.hid (bestN_succ xs s k hlt)
              have hbig : b < wr.heap.size := by omega
              generalize bestN xs s k = acc at hN
              go_wp2_with fail
              refine (most_calls xs[k] (HALL.out _ (List.getElem_mem hlt)) s _).mono ?_
              rintro e w2 ⟨rfl, hb5⟩
              have hb6 := Lib.hid (ext_trans (ext_alloc hb (.cells #[.int .i16 xs[k].x, .int .i16 xs[k].y, .int .i16 xs[k].z] 24)) hb5)
              have HBK2 := Lib.hid ((HBK.out.alloc (.cells #[.int .i16 xs[k].x, .int .i16 xs[k].y, .int .i16 xs[k].z] 24)).ext hb5)
              clear hb5 hcr hfr s0 s1 s2 h0 h1 h2
              generalize mostA xs[k] s = q at hN
              by_cases hgt : acc.2 < q
              · have hN2 := Lib.hid (hN.out.trans (if_pos hgt))
                go_wp2_with fail
                go_roundw
                case rel => exact ⟨k + 1, by omega, by go_num, by rw [hN2.out], by rw [hN2.out], hb6.out, HBK2.out⟩
                case measure => simp [intOf]; omega
              · have hN2 := Lib.hid (hN.out.trans (if_neg hgt))
                go_wp2_with fail
                go_roundw
                case rel => exact ⟨k + 1, by omega, by go_num, by rw [hN2.out], by rw [hN2.out], hb6.out, HBK2.out⟩
                case measure => simp [intOf]; omega
            · obtain rfl : k = xs.length := by omega
              go_wp2_with fail
              go_ret3
              exact ⟨ret_int3 (by rw [HE.out]) (by rw [HE.out]) (by rw [HE.out]), hb⟩
  · have HE := Lib.hid (show bestMix xs s = (0, 0, 1) from by simp [bestMix, HA.out])
    go_enter Try.func22, Try.ntmps22
    go_wp2_with fail
    refine (containsFuncMix xs _ _ (HSL.out.alloc _) _ _ _ eg.out (fun x h => bestMixFn x (HX.out x h) _)).mono ?_
    rintro e w1 ⟨rfl, hb1⟩
    rw [HV.out]
    go_wp2_with fail
    go_ret3
    exact ⟨ret_int3 (by rw [HE.out]) (by rw [HE.out]) (by rw [HE.out]), ext_trans hb0.out hb1⟩
set_option maxHeartbeats 2000000 in
theorem specBestMix_calls (xs : List Mix) (hx : ∀ x ∈ xs, x.ok) (v : Value) (s : Mix) (hs : s.ok) (w : World) (hsl : Sl w w.heap.size Mix.c 3 v xs) :
    Calls Try.prog 20 #[v, Mix.v s] w fun e w' => e = .returned (.tuple #[.int .i64 (bestMix xs s).1, .int .i64 (bestMix xs s).2.1, .int .i64 (bestMix xs s).2.2]) ∧ Below w.heap.size w w' := by
  obtain ⟨A, cap, rfl, hl, hm, hcell⟩ := hsl.mix
  clear hsl
  have HX := Lib.hid hx
  clear hx
  have hb0 := Lib.hid ((Below.refl w.heap.size w).alloc (Nat.le_refl _) (.cells #[.int .i16 s.x, .int .i16 s.y, .int .i16 s.z] 24))
  have HB := Lib.hid (Bk.new w 24 #[.int .i16 s.x, .int .i16 s.y, .int .i16 s.z] w.heap.size rfl)
  unfold Mix.v
  go_enter Try.func20, Try.ntmps20
  go_wp2_with fail
  go_loopw [7] (fun i wr => ∃ k : Nat, k ≤ xs.length ∧ i = .int .i64 k ∧ (xs.take k).all vMixS = true ∧ Below w.heap.size w wr ∧ Bk wr w.heap.size 24 #[.int .i16 s.x, .int .i16 s.y, .int .i16 s.z]) (fun i _ => xs.length - (intOf i).toNat)
  case atStart => exact ⟨0, by omega, rfl, rfl, hb0.out, HB.out⟩
  case round =>
    obtain ⟨k, hk, rfl, hall, hb, hbk⟩ := hrel
    have HA := Lib.hid hall
    have HBK := Lib.hid hbk
    clear hall hbk hb0 HB
    by_cases hlt : k < xs.length
    · obtain ⟨b, o, rfl, hbb, h0, h1, h2⟩ := hcell k hlt
      clear hcell
      have hat : Mix.at_ wr b (o + k * 3) xs[k] := ⟨(hb.cell (p := ⟨b, _, none⟩) hbb).trans h0, (hb.cell (p := ⟨b, _, none⟩) hbb).trans h1, (hb.cell (p := ⟨b, _, none⟩) hbb).trans h2⟩
      have HAT := Lib.hid hat
      clear hat h0 h1 h2
      have hno := fun h => Lib.hid (show bestMix xs s = (0, 0, 1) from by rw [bestMix, all_false_at _ xs k hlt h]; rfl)
      have hyes := fun h => Lib.hid (take_all_succ vMixS xs k hlt HA.out h)
      go_wp2_with fail
      refine (l07Mix_calls _ _ xs[k] (HX.out _ (List.getElem_mem hlt)) _ HAT.out).mono ?_
      rintro e w1 ⟨rfl, nd, rfl⟩
      cases hv : vMixS xs[k]
      · have hE := hno hv
        clear hno hyes hv
        go_wp2_with fail
        go_ret3
        exact ⟨ret_int3 (by rw [hE.out]) (by rw [hE.out]) (by rw [hE.out]), ext_drewN hb nd⟩
      · have hE := hyes hv
        clear hno hyes hv
        go_wp2_with fail
        go_roundw
        case rel => exact ⟨k + 1, by omega, by go_num, hE.out, ext_drewN hb nd, HBK.out.drwN nd⟩
        case measure => simp [intOf]; omega
    · have HV := Lib.hid (all_of_take _ xs k (by omega) HA.out)
      have HALL := Lib.hid (show ∀ x ∈ xs, vMixS x = true from by simpa using HV.out)
      clear HA hk
      by_cases hlen : 20 < xs.length
      · have HE := Lib.hid (show bestMix xs s = (0, 0, 3) from by simp [bestMix, HV.out, hlen])
        go_wp2_with fail
        go_ret3
        exact ⟨ret_int3 (by rw [HE.out]) (by rw [HE.out]) (by rw [HE.out]), hb⟩
      · have hsp := fun (h : vStock s = false) => Lib.hid (show bestMix xs s = (0, 0, 2) from by simp [bestMix, HV.out, hlen, h])
        have hsq := fun (h : vStock s = true) (h0 : xs.length = 0) => Lib.hid (show bestMix xs s = (0, 0, 6) from by simp [bestMix, HV.out, hlen, h, h0])
        have hsr := fun (h : vStock s = true) (h0 : ¬ xs.length = 0) => Lib.hid (show bestMix xs s = ((bestN xs s xs.length).1, (bestN xs s xs.length).2, 0) from by simp [bestMix, HV.out, hlen, h, h0])
        go_wp2_with fail
        refine (l07Stock_calls _ 0 s hs _ (Mix.at_of_bk HBK.out)).mono ?_
        rintro e w2 ⟨rfl, rfl⟩
        cases hI : vStock s
        · have hE := hsp hI
          clear hsp hsq hsr hI
          go_wp2_with fail
          go_ret3
          exact ⟨ret_int3 (by rw [hE.out]) (by rw [hE.out]) (by rw [hE.out]), hb⟩
        by_cases h0 : xs.length = 0
        · have hE := hsq hI h0
          have hq : ((xs.length : Int) == 0) = true := by simp [h0]
          clear hsp hsq hsr hI h0
          go_wp2_with fail
          go_ret3
          exact ⟨ret_int3 (by rw [hE.out]) (by rw [hE.out]) (by rw [hE.out]), hb⟩
        · have hE := hsr hI h0
          have hq : ((xs.length : Int) == 0) = false := by rw [beq_eq_false_iff_ne]; omega
          have hpos : 0 < xs.length := by omega
          clear hsp hsq hsr hI h0
          obtain ⟨b, o, rfl, hbb, h0, h1, h2⟩ := hcell 0 hpos
          have hat : Mix.at_ wr b o xs[0] := ⟨(hb.cell (p := ⟨b, _, none⟩) hbb).trans h0, (hb.cell (p := ⟨b, _, none⟩) hbb).trans h1, (hb.cell (p := ⟨b, _, none⟩) hbb).trans h2⟩
          have HAT := Lib.hid hat
          have H1 := Lib.hid (bestN_one xs s hpos)
          clear hat h0 h1 h2
          have hbw := Nat.lt_of_lt_of_le hbb hb.size
          go_wp2_with fail
          refine (l07Most_calls _ _ _ _ xs[0] (HX.out _ (List.getElem_mem hpos)) (HALL.out _ (List.getElem_mem hpos)) s _ hbw HBK.out.lt HAT.out (Mix.at_of_bk HBK.out)).mono ?_
          rintro e w2 ⟨rfl, hb2⟩
          have hb3 := Lib.hid (ext_trans hb hb2)
          have HBK2 := Lib.hid (HBK.out.ext hb2)
          clear hb2
          go_wp2_with fail
          go_loopw [8, 9, 10] (fun p q i wr2 => ∃ k : Nat, 0 < k ∧ k ≤ xs.length ∧ i = .int .i64 k ∧ p = .int .i64 (bestN xs s k).1 ∧ q = .int .i64 (bestN xs s k).2 ∧ Below w.heap.size w wr2 ∧ Bk wr2 w.heap.size 24 #[.int .i16 s.x, .int .i16 s.y, .int .i16 s.z]) (fun _ _ i _ => xs.length - (intOf i).toNat)
          case atStart => exact ⟨1, by omega, by omega, rfl, by rw [H1.out], by rw [H1.out], hb3.out, HBK2.out⟩
          case round =>
            clear HBK2 hb3 HBK hb HAT hbw
            obtain ⟨k2, hk0, hk2, rfl, rfl, rfl, hb, hbk⟩ := hrel
            by_cases hlt : k2 < xs.length
            · obtain ⟨b', o', he, hbb2, h0, h1, h2⟩ := hcell k2 hlt
              obtain ⟨rfl, rfl⟩ : b' = b ∧ o' = o := by
                injection he with he
                injection he with e1 e2
                exact ⟨e1.symm, e2.symm⟩
              clear he
              have HAT := Lib.hid (show Mix.at_ _ b' (o' + k2 * 3) xs[k2] from ⟨(hb.cell (p := ⟨b', _, none⟩) hbb2).trans h0, (hb.cell (p := ⟨b', _, none⟩) hbb2).trans h1, (hb.cell (p := ⟨b', _, none⟩) hbb2).trans h2⟩)
              have HBK := Lib.hid hbk
              clear hbk hcell h0 h1 h2
              have hbw := Nat.lt_of_lt_of_le hbb2 hb.size
              have hN := Lib.hid (bestN_succ xs s k2 hlt)
              generalize bestN xs s k2 = acc at hN
              go_wp2_with fail
              refine (l07Most_calls _ _ _ _ xs[k2] (HX.out _ (List.getElem_mem hlt)) (HALL.out _ (List.getElem_mem hlt)) s _ hbw HBK.out.lt HAT.out (Mix.at_of_bk HBK.out)).mono ?_
              rintro e w2 ⟨rfl, hb2⟩
              have hb6 := Lib.hid (ext_trans hb hb2)
              have HBK2 := Lib.hid (HBK.out.ext hb2)
              clear hb2
              generalize mostA xs[k2] s = q at hN
              by_cases hgt : acc.2 < q
              · have hN2 := Lib.hid (hN.out.trans (if_pos hgt))
                go_wp2_with fail
                go_roundw
                case rel => exact ⟨k2 + 1, by omega, by omega, by go_num, by rw [hN2.out], by rw [hN2.out], hb6.out, HBK2.out⟩
                case measure => simp [intOf]; omega
              · have hN2 := Lib.hid (hN.out.trans (if_neg hgt))
                go_wp2_with fail
                go_roundw
                case rel => exact ⟨k2 + 1, by omega, by omega, by go_num, by rw [hN2.out], by rw [hN2.out], hb6.out, HBK2.out⟩
                case measure => simp [intOf]; omega
            · obtain rfl : k2 = xs.length := by omega
              go_wp2_with fail
              go_ret3
              exact ⟨ret_int3 (by rw [hE.out]) (by rw [hE.out]) (by rw [hE.out]), hb⟩
end Go.Proofs.Ytgifakacnneleaa
