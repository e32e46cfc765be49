/-
Lists of numbers compared, of both programs. Conditions: slices can be read.
-/
import Derived.Test.YtpjdgpcdcihogaaFXL
set_option linter.unusedVariables false
set_option linter.unusedSimpArgs false
set_option maxRecDepth 100000
namespace Go.Proofs.Ytpjdgpcdcihogaa
open Go.RowKit
theorem lexL_self : ∀ xs : List Int, lexL xs xs = false
  | [] => rfl
  | x :: xs => by rw [lexL, if_pos rfl, lexL_self xs]
theorem lexL_ne (aa bs : List Int) (j : Nat) (ha : j < aa.length) (hb : j < bs.length) (ht : aa.take j = bs.take j) (hne : aa[j] ≠ bs[j]) : lexL aa bs = decide (aa[j] < bs[j]) := by
  rw [lexL_step aa bs j ha hb ht, if_neg hne]
def cmpG (a b : Int) : Int := if a < b then -1 else if b < a then 1 else 0
theorem nan64_calls (a : Int) (w : World) : Calls Try.prog 158 #[.int .i64 a] w fun e w' => e = .returned (.bool false) ∧ w = w' := by
  have hq : (a != a) = false := by simp
  go_enter Try.func158, Try.ntmps158
  go_wp2_with fail
  go_ret
  exact ⟨rfl, rfl⟩
theorem cmp64_calls (a b : Int) (w : World) : Calls Try.prog 122 #[.int .i64 a, .int .i64 b] w fun e w' => e = .returned (.int .i64 (cmpG a b)) ∧ w = w' := by
  go_enter Try.func122, Try.ntmps122
  go_wp2_with (go_at_call 158; refine (nan64_calls _ _).mono ?_; rintro e w1 ⟨rfl, rfl⟩)
  all_goals (go_ret; refine ⟨ret_int ?_, rfl⟩; simp [cmpG, *]; try omega)
set_option maxHeartbeats 1000000 in
theorem compare_calls (aa bs : List Int) (v u : Value) (w : World) (hs : Sl w w.heap.size i64c 1 v aa) (ht : Sl w w.heap.size i64c 1 u bs) (hlen : aa.length = bs.length) :
    Calls Try.prog 79 #[v, u] w fun e w' => (∃ c : Int, e = .returned (.int .i64 c) ∧ decide (c < 0) = lexL aa bs) ∧ w = w' := by
  obtain ⟨A, cap, rfl, hl, hm, hcell⟩ := hs.i64
  obtain ⟨A2, cap2, rfl, hl2, hm2, hcell2⟩ := ht.i64
  have HL := Lib.hid hlen
  clear hs ht hlen
  go_enter Try.func79, Try.ntmps79
  go_wp2_with fail
  go_loop [5, 6, 7, 8, 11] (fun _ _ _ _ i => ∃ k : Nat, k ≤ aa.length ∧ i = .int .i64 (k : Int) ∧ aa.take k = bs.take k) (fun _ _ _ _ i => aa.length - (intOf i).toNat)
  case atStart => exact ⟨0, by omega, rfl, rfl⟩
  case round =>
    obtain ⟨k, hk, rfl, htk⟩ := hrel
    have HT := Lib.hid htk
    clear htk
    by_cases hlt : k < aa.length
    · have hlt2 : k < bs.length := by have := HL.out; omega
      obtain ⟨b, o, rfl, hbb, h0⟩ := hcell k hlt
      obtain ⟨b2, o2, rfl, hbb2, g0⟩ := hcell2 k hlt2
      clear hcell hcell2
      have hne := Lib.hid (lexL_ne aa bs k hlt hlt2 HT.out)
      have heq := Lib.hid (take_eq_succ aa bs k hlt hlt2 HT.out)
      have hge : decide ((bs.length : Int) ≤ (k : Int)) = false := by rw [decide_eq_false_iff_not]; omega
      have qc := Lib.hid (cmp64_calls aa[k] bs[k] w)
      generalize aa[k] = x at *
      generalize bs[k] = y at *
      by_cases hxy : x = y
      · have hE := Lib.hid (heq.out hxy)
        have hc0 : cmpG x y = 0 := by simp [cmpG, hxy]
        rw [hc0] at qc
        clear hxy hne heq
        go_wp2_with fail
        refine qc.out.mono ?_
        rintro e w1 ⟨rfl, rfl⟩
        go_wp2_with fail
        go_round
        case rel => exact ⟨k + 1, by omega, by go_num, hE.out⟩
        case measure => first | (simp [intOf]; done) | (simp [intOf]; omega)
      · have hE := Lib.hid (hne.out hxy)
        have hcd := Lib.hid (show decide (cmpG x y < 0) = decide (x < y) from by unfold cmpG; split <;> (try split) <;> simp <;> omega)
        have hc0 : (cmpG x y != 0) = true := by rw [bne_iff_ne]; unfold cmpG; split <;> (try split) <;> omega
        clear hxy hne heq
        go_wp2_with fail
        refine qc.out.mono ?_
        rintro e w1 ⟨rfl, rfl⟩
        go_wp2_with fail
        go_ret
        exact ⟨⟨_, rfl, by rw [hcd.out, hE.out]⟩, rfl⟩
    · obtain rfl : k = aa.length := by omega
      have hE := Lib.hid (show aa = bs from by have h := HT.out; rwa [List.take_length, List.take_of_length_le (by have := HL.out; omega)] at h)
      have hlt2 : decide ((aa.length : Int) < (bs.length : Int)) = false := by rw [decide_eq_false_iff_not]; have := HL.out; omega
      have hlt3 : decide (aa.length < bs.length) = false := by rw [decide_eq_false_iff_not]; have := HL.out; omega
      go_wp2_with fail
      go_ret
      exact ⟨⟨_, rfl, by rw [← hE.out, lexL_self]; rfl⟩, rfl⟩
set_option maxHeartbeats 1000000 in
theorem least_calls (aa bs : List Int) (v u : Value) (w : World) (hs : Sl w w.heap.size i64c 1 v aa) (ht : Sl w w.heap.size i64c 1 u bs) (hlen : aa.length = bs.length) :
    Calls Try.prog 78 #[v, u] w fun e w' => e = .returned (.bool (lexL aa bs)) ∧ Below w.heap.size w w' := by
  obtain ⟨A, cap, rfl, hl, hm, hcell⟩ := hs.i64
  obtain ⟨A2, cap2, rfl, hl2, hm2, hcell2⟩ := ht.i64
  have HL := Lib.hid hlen
  clear hs ht hlen
  go_enter Try.func78, Try.ntmps78
  go_wp2_with fail
  go_loopw [5] (fun i wr => ∃ k : Nat, k ≤ aa.length ∧ i = .int .i64 (k : Int) ∧ aa.take k = bs.take k ∧ Below w.heap.size w wr) (fun i _ => aa.length - (intOf i).toNat)
  case atStart => exact ⟨0, by omega, rfl, rfl, Below.refl _ _⟩
  case round =>
    obtain ⟨k, hk, rfl, htk, hb⟩ := hrel
    have HT := Lib.hid htk
    have HBr := Lib.hid hb
    by_cases hlt : k < aa.length
    · have hlt2 : k < bs.length := by have := HL.out; omega
      obtain ⟨b, o, rfl, hbb, h0⟩ := hcell k hlt
      obtain ⟨b2, o2, rfl, hbb2, g0⟩ := hcell2 k hlt2
      have h0 := (hb.cell (p := ⟨b, _, none⟩) hbb).trans h0
      have g0 := (hb.cell (p := ⟨b2, _, none⟩) hbb2).trans g0
      clear hcell hcell2 htk hb
      have hne := Lib.hid (lexL_ne aa bs k hlt hlt2 HT.out)
      have heq := Lib.hid (take_eq_succ aa bs k hlt hlt2 HT.out)
      have hk2 : (k : Int) < (bs.length : Int) := by omega
      have hk1 : (k : Int) < (aa.length : Int) := by omega
      have hk0 : (0 : Int) ≤ (k : Int) := by omega
      generalize aa[k] = x at *
      generalize bs[k] = y at *
      by_cases hxy : x = y
      · have hE := Lib.hid (heq.out hxy)
        have hb1 : (x != y) = false := by simp [hxy]
        clear hxy hne heq
        go_wp2_with fail
        go_quiet (fail)
        go_wp2_with fail
        go_roundw
        case rel => exact ⟨k + 1, by omega, by go_num, hE.out, ext_drewN HBr.out _⟩
        case measure => first | (simp [intOf]; done) | (simp [intOf]; omega)
      · have hE := Lib.hid (hne.out hxy)
        have hb1 : (x != y) = true := by simp [hxy]
        clear hxy hne heq
        go_wp2_with fail
        go_quiet (fail)
        go_wp2_with fail
        go_quiet (fail)
        go_wp2_with fail
        go_ret
        exact ⟨ret_bool hE.out.symm, ext_drewN (ext_drewN HBr.out _) _⟩
    · obtain rfl : k = aa.length := by omega
      have hE := Lib.hid (show aa = bs from by have h := HT.out; rwa [List.take_length, List.take_of_length_le (by have := HL.out; omega)] at h)
      have hlt2 : decide ((aa.length : Int) < (bs.length : Int)) = false := by rw [decide_eq_false_iff_not]; have := HL.out; omega
      have hlt3 : decide (aa.length < bs.length) = false := by rw [decide_eq_false_iff_not]; have := HL.out; omega
      go_wp2_with fail
      go_ret
      exact ⟨ret_bool (by rw [← hE.out, lexL_self]), HBr.out⟩
end Go.Proofs.Ytpjdgpcdcihogaa
