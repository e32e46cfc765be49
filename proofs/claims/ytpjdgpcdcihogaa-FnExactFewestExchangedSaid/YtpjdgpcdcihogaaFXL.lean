/-
The fewest slabs that cover all trips, in plain lists. Nothing is proved here of the program itself.
-/
import Derived.Test.YtpjdgpcdcihogaaGXL
import Derived.Test.YtpjdgpcdcihogaaSRT
set_option linter.unusedVariables false
set_option linter.unusedSimpArgs false
set_option maxRecDepth 100000
namespace Go.Proofs.Ytpjdgpcdcihogaa
def bitB (s i : Nat) : Bool := s / 2 ^ i % 2 == 1
def ownS (us : List Int) (s : Nat) : Nat → List Int
  | 0 => []
  | i + 1 => if bitB s i = true then ownS us s i ++ [us.getD i 0] else ownS us s i
theorem ownS_len (us : List Int) (s : Nat) : ∀ i, (ownS us s i).length ≤ i
  | 0 => Nat.le_refl _
  | i + 1 => by
    have := ownS_len us s i
    rw [ownS]
    split
    · rw [List.length_append]; simp; omega
    · omega
def popc (s : Nat) : Nat := ((List.range 12).filter fun i => bitB s i).length
theorem ownS_filter (us : List Int) (s : Nat) : ∀ i, (ownS us s i).length = ((List.range i).filter fun i => bitB s i).length
  | 0 => rfl
  | i + 1 => by
    rw [ownS, List.range_succ, List.filter_append]
    cases h : bitB s i
    · rw [if_neg (by simp), List.length_append, ownS_filter us s i]
      simp [h]
    · rw [if_pos rfl, List.length_append, List.length_append, ownS_filter us s i]
      simp [h]
theorem bitB_high {s n i : Nat} (hs : s < 2 ^ n) (hi : n ≤ i) : bitB s i = false := by
  unfold bitB
  have h1 : 2 ^ n ≤ 2 ^ i := Nat.pow_le_pow_right (by omega) hi
  rw [Nat.div_eq_of_lt (by omega)]
  rfl
theorem popc_own (us : List Int) (s : Nat) (hn : us.length ≤ 12) (hs : s < 2 ^ us.length) : popc s = (ownS us s us.length).length := by
  rw [ownS_filter]
  unfold popc
  have key : ∀ k, us.length + k ≤ 12 → ((List.range (us.length + k)).filter fun i => bitB s i).length = ((List.range us.length).filter fun i => bitB s i).length := by
    intro k
    induction k with
    | zero => intro _; rfl
    | succ k ih =>
      intro h
      rw [← Nat.add_assoc, List.range_succ, List.filter_append, List.length_append, ih (by omega)]
      simp [bitB_high hs (show us.length ≤ us.length + k by omega)]
  have := key (12 - us.length) (by omega)
  rwa [show us.length + (12 - us.length) = 12 by omega] at this
def lexL : List Int → List Int → Bool
  | [], b => decide (0 < b.length)
  | _ :: _, [] => false
  | a :: aa, b :: bs => if a = b then lexL aa bs else decide (a < b)
theorem lexL_step (aa bs : List Int) (j : Nat) (ha : j < aa.length) (hb : j < bs.length) (ht : aa.take j = bs.take j) : lexL aa bs = if aa[j] = bs[j] then lexL (aa.drop (j + 1)) (bs.drop (j + 1)) else decide (aa[j] < bs[j]) := by
  induction j generalizing aa bs with
  | zero =>
    cases aa with
    | nil => simp at ha
    | cons a aa =>
      cases bs with
      | nil => simp at hb
      | cons b bs => simp [lexL]
  | succ j ih =>
    cases aa with
    | nil => simp at ha
    | cons a aa =>
      cases bs with
      | nil => simp at hb
      | cons b bs =>
        simp only [List.take_succ_cons, List.cons.injEq] at ht
        rw [lexL, if_pos ht.1]
        simpa using ih aa bs (by simpa using ha) (by simpa using hb) ht.2
def betB (own best : List Int) : Bool := decide (own.length < best.length) || (decide (own.length = best.length) && lexL own best)
def fxN (ts : List Pair) (us : List Int) : Nat → List Int
  | 0 => us
  | s + 1 => if (betB (ownS us s us.length) (fxN ts us s) && coversB ts (ownS us s us.length)) = true then ownS us s us.length else fxN ts us s
theorem fxN_len (ts : List Pair) (us : List Int) : ∀ s, (fxN ts us s).length ≤ us.length
  | 0 => Nat.le_refl _
  | s + 1 => by
    rw [fxN]
    split
    · exact ownS_len us s us.length
    · exact fxN_len ts us s
/-- A set that is better has no more bits than the best has members. -/
theorem betB_le {own best : List Int} (h : betB own best = true) : own.length ≤ best.length := by
  unfold betB at h
  simp only [Bool.or_eq_true, Bool.and_eq_true, decide_eq_true_eq] at h
  omega
def flatP (ts : List Pair) : List Int := ts.flatMap fun p => [p.a, p.b]
def slabsT (ts : List Pair) (n : Nat) : List Int := tlN (flatP ts) n
def fewest (w h : Int) (sl : List Slab) (lv : List Int) (limit : Int) : List Int × Int :=
  if tripC w h sl lv (inB limit 0 200) = 0 then
    (if 12 < (slabsT (tripsL lv limit (prsL sl)) sl.length).length then ([], 3) else (fxN (tripsL lv limit (prsL sl)) (slabsT (tripsL lv limit (prsL sl)) sl.length) (2 ^ (slabsT (tripsL lv limit (prsL sl)) sl.length).length), 0))
  else ([], tripC w h sl lv (inB limit 0 200))
theorem fewest_len (w h : Int) (sl : List Slab) (lv : List Int) (limit : Int) : (fewest w h sl lv limit).1.length ≤ 3600 := by
  unfold fewest
  split
  · split
    · simp
    · exact Nat.le_trans (fxN_len _ _ _) (by omega)
  · simp
end Go.Proofs.Ytpjdgpcdcihogaa
