/-
How many bits a small number has. Conditions: it is less than 4096.
-/
import Derived.Laws.Bits64b
import Derived.Test.YtpjdgpcdcihogaaFXL
set_option linter.unusedVariables false
set_option linter.unusedSimpArgs false
set_option maxRecDepth 100000
namespace Go.Proofs.Ytpjdgpcdcihogaa
open Go.RowKit
def oA1 (s : Nat) : Nat := (s / 2) &&& 6148914691236517205
def oA2 (s : Nat) : Nat := s &&& 6148914691236517205
def oA3 (s : Nat) : Nat := ((oA1 s + oA2 s) / 4) &&& 3689348814741910323
def oA4 (s : Nat) : Nat := (oA1 s + oA2 s) &&& 3689348814741910323
def oA5 (s : Nat) : Nat := ((oA3 s + oA4 s) / 16 + (oA3 s + oA4 s)) &&& 1085102592571150095
def oB1 (s : Nat) : Nat := oA5 s + oA5 s / 256
def oB2 (s : Nat) : Nat := oB1 s + oB1 s / 65536
def oB3 (s : Nat) : Nat := oB2 s + oB2 s / 4294967296
theorem ones_table : ∀ s, s < 4096 → (oB3 s) &&& 127 = popc s := by decide +kernel
theorem ones_small : ∀ s, s < 4096 → oA1 s ≤ 100000 ∧ oA2 s ≤ 100000 ∧ oA3 s ≤ 100000 ∧ oA4 s ≤ 100000 ∧ oA5 s ≤ 100000 := by
  intro s hs
  have h1 : oA1 s ≤ s / 2 := Nat.and_le_left
  have h2 : oA2 s ≤ s := Nat.and_le_left
  have h3 : oA3 s ≤ (oA1 s + oA2 s) / 4 := Nat.and_le_left
  have h4 : oA4 s ≤ (oA1 s + oA2 s) := Nat.and_le_left
  have h5 : oA5 s ≤ (oA3 s + oA4 s) / 16 + (oA3 s + oA4 s) := Nat.and_le_left
  omega
theorem bits_and_i64_nat (a b : Nat) (ha : a < 4611686018427387904) (hb : b < 4611686018427387904) : bits .and .i64 (a : Int) (b : Int) = ((a &&& b : Nat) : Int) := by
  have hx : a &&& b ≤ a := Nat.and_le_left
  have h1 : (BitVec.ofInt 64 (a : Int)).toNat = a := by
    rw [BitVec.ofInt_natCast, BitVec.toNat_ofNat]; exact Nat.mod_eq_of_lt (by omega)
  have h2 : (BitVec.ofInt 64 (b : Int)).toNat = b := by
    rw [BitVec.ofInt_natCast, BitVec.toNat_ofNat]; exact Nat.mod_eq_of_lt (by omega)
  show IntKind.i64.wrap ((BitVec.ofInt 64 (a : Int) &&& BitVec.ofInt 64 (b : Int)).toNat : Int) = _
  rw [BitVec.toNat_and, h1, h2]
  exact wrapIn _ (by omega) (by omega)
theorem bit1_i64 (s i : Nat) (hs : s < 4096) : bits .and .i64 ((s : Int) / 2 ^ i) 1 = ((s / 2 ^ i % 2 : Nat) : Int) := by
  have hle : s / 2 ^ i ≤ s := Nat.div_le_self _ _
  have := bits_and_i64_nat (s / 2 ^ i) 1 (by omega) (by omega)
  rw [Nat.and_one_is_mod] at this
  rw [← this]
  simp
theorem bit1_u64 (s i : Nat) (hs : s < 4096) : bits .and .u64 ((s : Int) / 2 ^ i) 1 = ((s / 2 ^ i % 2 : Nat) : Int) := by
  have hle : s / 2 ^ i ≤ s := Nat.div_le_self _ _
  have := bits_and_u64_nat (s / 2 ^ i) 1 (by omega) (by omega)
  rw [Nat.and_one_is_mod] at this
  rw [← this]
  simp
theorem ones64_calls (s : Nat) (hs : s < 4096) (w : World) : Calls Try.prog 124 #[.int .u64 (s : Int)] w fun e w' => e = .returned (.int .i64 (popc s : Int)) ∧ w = w' := by
  obtain ⟨m1, m2, m3, m4, m5⟩ := ones_small s hs
  have hT := Lib.hid (ones_table s hs)
  have e1 : bits .and .u64 ((s : Int) / 2) 6148914691236517205 = (oA1 s : Int) := by
    have := bits_and_u64_nat (s / 2) 6148914691236517205 (by omega) (by omega); rw [show oA1 s = (s / 2) &&& 6148914691236517205 from rfl]; simpa using this
  have e2 : bits .and .u64 (s : Int) 6148914691236517205 = (oA2 s : Int) := by
    have := bits_and_u64_nat s 6148914691236517205 (by omega) (by omega); rw [show oA2 s = s &&& 6148914691236517205 from rfl]; simpa using this
  have e3 : bits .and .u64 (((oA1 s : Int) + (oA2 s : Int)) / 4) 3689348814741910323 = (oA3 s : Int) := by
    have := bits_and_u64_nat ((oA1 s + oA2 s) / 4) 3689348814741910323 (by omega) (by omega); rw [show oA3 s = ((oA1 s + oA2 s) / 4) &&& 3689348814741910323 from rfl]; simpa using this
  have e4 : bits .and .u64 ((oA1 s : Int) + (oA2 s : Int)) 3689348814741910323 = (oA4 s : Int) := by
    have := bits_and_u64_nat (oA1 s + oA2 s) 3689348814741910323 (by omega) (by omega); rw [show oA4 s = (oA1 s + oA2 s) &&& 3689348814741910323 from rfl]; simpa using this
  have e5 : bits .and .u64 (((oA3 s : Int) + (oA4 s : Int)) / 16 + ((oA3 s : Int) + (oA4 s : Int))) 1085102592571150095 = (oA5 s : Int) := by
    have := bits_and_u64_nat ((oA3 s + oA4 s) / 16 + (oA3 s + oA4 s)) 1085102592571150095 (by omega) (by omega); rw [show oA5 s = ((oA3 s + oA4 s) / 16 + (oA3 s + oA4 s)) &&& 1085102592571150095 from rfl]; simpa using this
  generalize oA1 s = a1 at *
  generalize oA2 s = a2 at *
  generalize oA3 s = a3 at *
  generalize oA4 s = a4 at *
  have HB3 := Lib.hid (show oB3 s = (oA5 s + oA5 s / 256 + (oA5 s + oA5 s / 256) / 65536) + (oA5 s + oA5 s / 256 + (oA5 s + oA5 s / 256) / 65536) / 4294967296 from rfl)
  generalize oA5 s = a5 at *
  have e6 : bits .and .i64 ((a5 : Int) + (a5 : Int) / 256 + ((a5 : Int) + (a5 : Int) / 256) / 65536 + ((a5 : Int) + (a5 : Int) / 256 + ((a5 : Int) + (a5 : Int) / 256) / 65536) / 4294967296) 127 = (popc s : Int) := by
    have := bits_and_i64_nat (oB3 s) 127 (by rw [HB3.out]; omega) (by omega)
    rw [hT.out, HB3.out] at this
    simpa using this
  go_enter Try.func124, Try.ntmps124
  go_wp2_with fail
  go_ret
  exact ⟨rfl, rfl⟩
theorem ones_calls (s : Nat) (hs : s < 4096) (w : World) : Calls Try.prog 80 #[.int .u64 (s : Int)] w fun e w' => e = .returned (.int .i64 (popc s : Int)) ∧ w = w' := by
  have q := Lib.hid (fun w => ones64_calls s hs w)
  go_enter Try.func80, Try.ntmps80
  go_wp2_with fail
  refine (q.out _).mono ?_
  rintro e w1 ⟨rfl, rfl⟩
  go_wp2_with fail
  go_ret
  exact ⟨rfl, rfl⟩
end Go.Proofs.Ytpjdgpcdcihogaa
