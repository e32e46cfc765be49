/-
The law on BagsFor, walked: it answers true. Conditions: numbers are of their kinds.
-/
import Derived.Test.YtjomnenljojoiabG6
set_option linter.unusedVariables false
set_option linter.unusedSimpArgs false
set_option maxRecDepth 100000
namespace Go.Proofs.Ytjomnenljojoiab
open Go.RowKit
theorem bagsFor_len (m : Mix) (n bag : Int) : (bagsFor m n bag).1.length ≤ 3 := by
  unfold bagsFor
  split
  · split <;> simp [bagL]
  · simp
set_option maxHeartbeats 2000000 in
theorem law_FnExactBagsFor (w : World) (m : Mix) (hm : m.ok) (n : Int) (_h0 : -9223372036854775808 ≤ n) (_h1 : n ≤ 9223372036854775807) (bag : Int) (_h2 : -9223372036854775808 ≤ bag) (_h3 : bag ≤ 9223372036854775807) :
    Calls Try.prog 5 #[Mix.v m, .int .i64 n, .int .i64 bag] w fun e w' => e = .returned (.bool true) ∧ Below w.heap.size w w' := by
  have hS := Lib.hid (fun W => specBagsFor_calls m hm n bag W)
  have hI := Lib.hid (fun W => implBagsFor_calls m hm n bag W)
  have HL := Lib.hid (bagsFor_len m n bag)
  generalize bagsFor m n bag = F at hS hI HL
  unfold Mix.v
  go_enter Try.func5, Try.ntmps5
  go_wp2_with fail
  refine (toMix_calls m _).mono ?_
  rintro e w1 ⟨rfl, hb1⟩
  go_wp2_with fail
  refine (hS.out _).mono ?_
  rintro e w2 ⟨v0, rfl, hO, hb2⟩
  have c2 := ext_trans hb1 hb2
  have hs0 := hO.sl i64c_len
  obtain ⟨hc1, hf1⟩ := bcell c2
  clear hb1 hb2 hO
  go_wp2_with fail
  refine (toMix_calls m _).mono ?_
  rintro e w3 ⟨rfl, hb3⟩
  have c3 := ext_trans c2 hb3
  have hs0 := Lib.hid (hs0.ext hb3)
  clear hb3 c2 hc1 hf1
  go_wp2_with fail
  refine (hI.out _).mono ?_
  rintro e w4 ⟨v1, rfl, hO4, hb4⟩
  have c4 := ext_trans c3 hb4
  have hs0 := Lib.hid (hs0.out.keep hb4)
  have hsz3 := Lib.hid hb4.size
  have hO4 := Lib.hid hO4
  generalize hB : w3.heap.size = B at *
  have hBB := Lib.hid (show (w.alloc (.cells #[.int .i16 m.x, .int .i16 m.y, .int .i16 m.z] 23)).heap.size ≤ B from by rw [← hB]; exact c3.size)
  clear hb4 hB c3
  go_wp2_with fail
  refine (eqInt64S_calls F.1 F.1 v1 v0 _ (hO4.out.sl i64c_len) (hs0.out.more hsz3.out)).mono ?_
  rintro e w5 ⟨rfl, hb5⟩
  have c5 := ext_trans c4 hb5
  have hs0 := Lib.hid (hs0.out.keep (hb5.mono hsz3.out))
  have hO5 := Lib.hid (hO4.out.ext hb5)
  have hd : decide (F.1 = F.1) = true := by simp
  rw [hd]
  have hsz5 := Lib.hid (Nat.le_trans hsz3.out hb5.size)
  clear hO4 hb5 c4
  go_wp2_with fail
  refine (markInt64S_calls F.1 v1 _ B hsz5.out hO5.out 1 (by omega) (by omega) (by have := HL.out; omega)).mono ?_
  rintro e w6 ⟨rfl, hO6, hb6⟩
  have c6 := c5.trans (hb6.mono hBB.out)
  have hs0 := Lib.hid (hs0.out.keep hb6)
  have hsz6 := Lib.hid (Nat.le_trans hsz5.out hb6.size)
  have hO6 := Lib.hid hO6
  clear hO5 hb6 c5
  have hmm : (1 : Int) + F.1.length = ((F.1.length + 1 : Nat) : Int) := by omega
  go_wp2_with fail
  refine (heldInt64S_calls F.1.length v1 _ 1 (hO6.out.sl i64c_len) (by omega) (by omega) (by have := HL.out; omega)).mono ?_
  rintro e w7 ⟨rfl, hb7⟩
  have c7 := ext_trans c6 hb7
  have hs0 := Lib.hid (hs0.out.keep (hb7.mono hsz6.out))
  have hO7 := Lib.hid (hO6.out.ext hb7)
  have hsz7 := Lib.hid (Nat.le_trans hsz6.out hb7.size)
  have hl1 : decide ((1 : Int) + F.1.length < 0) = false := by rw [decide_eq_false_iff_not]; omega
  have hl2 : ((1 : Int) + F.1.length != 1 + F.1.length) = false := by simp
  clear hO6 hb7 c6
  obtain ⟨hc1, hf1⟩ := bcell c7
  go_wp2_with fail
  refine (toMix_calls m _).mono ?_
  rintro e w8 ⟨rfl, hb8⟩
  have c8 := ext_trans c7 hb8
  have hs0 := Lib.hid (hs0.out.keep (hb8.mono hsz7.out))
  have hO8 := Lib.hid (hO7.out.ext hb8)
  have hsz8 := Lib.hid (Nat.le_trans hsz7.out hb8.size)
  clear hO7 hb8 c7 hc1 hf1
  go_wp2_with fail
  refine (hI.out _).mono ?_
  rintro e w9 ⟨v2, rfl, hO9, hb9⟩
  have c9 := ext_trans c8 hb9
  have hs0 := Lib.hid (hs0.out.keep (hb9.mono hsz8.out))
  have hO1 := Lib.hid (hO8.out.ext hb9)
  have hsz9 := Lib.hid (Nat.le_trans hsz8.out hb9.size)
  have hO9 := Lib.hid (hO9.sl i64c_len)
  clear hO8 hb9 c8
  go_wp2_with fail
  refine (eqInt64S_calls F.1 F.1 v2 v0 _ hO9.out (hs0.out.more hsz9.out)).mono ?_
  rintro e w10 ⟨rfl, hb10⟩
  have c10 := ext_trans c9 hb10
  have hO10 := Lib.hid (hO1.out.ext hb10)
  rw [show decide (F.1 = F.1) = true from by simp]
  clear hO1 hb10 c9 hO9 hs0
  go_wp2_with fail
  refine (heldInt64S_calls F.1.length v1 _ 1 (hO10.out.sl i64c_len) (by omega) (by omega) (by have := HL.out; omega)).mono ?_
  rintro e w11 ⟨rfl, hb11⟩
  have c11 := ext_trans c10 hb11
  go_wp2_with fail
  go_ret
  exact ⟨rfl, ext_of_alloc c11⟩
end Go.Proofs.Ytjomnenljojoiab
