/-
Grounds read from a text: both read the same. No condition.
-/
import Derived.Test.YthlcmiediedcfaaDoorRDG
set_option linter.unusedVariables false
set_option linter.unusedSimpArgs false
set_option maxRecDepth 100000
namespace Go.Proofs.YthlcmiediedcfaaDoor
def st0 : St := (List.replicate 81 0, [])
/-- How many words the first line has, and how many lines there are, but the last. -/
def wideG (l : List UInt8) : Nat := (splitL 32 ((splitL 10 l).headD [])).length
def highG (l : List UInt8) : Nat := (splitL 10 l).length - 1
def linesG (l : List UInt8) : List (List UInt8) := (splitL 10 l).take (highG l)
/-- What the reference reads. -/
def readGF (l : List UInt8) : Option St :=
  if (splitL 10 l).getLast? = some [] ∧ 1 ≤ highG l ∧ highG l ≤ 9 ∧ wideG l ≤ 9 then
    (gridR (wideG l) (linesG l) 0 st0).bind fun st => if gOk (wideG l : Int) (highG l : Int) st.1 st.2 = true then some st else none
  else none
/-- What the program reads. -/
def readGI (l : List UInt8) : Option St :=
  if (1 ≤ wideG l ∧ wideG l ≤ 9) ∧ 1 ≤ highG l ∧ highG l ≤ 9 then
    (gridI (wideG l) (linesG l) 0 st0).bind fun st => if groundT (wideG l : Int) (highG l : Int) st.1 st.2 = l then some st else none
  else none
theorem splitL_ne (c : UInt8) (l : List UInt8) : splitL c l ≠ [] := by
  cases l with
  | nil => simp [splitL]
  | cons b l =>
    rw [splitL]
    split
    · simp
    · split <;> simp
theorem wide_pos (l : List UInt8) : 1 ≤ wideG l := by
  have := List.length_pos_iff.2 (splitL_ne 32 ((splitL 10 l).headD []))
  exact this
theorem linesG_len (l : List UInt8) : (linesG l).length = highG l := by
  rw [linesG, List.length_take]
  unfold highG
  omega
theorem split_last (l : List UInt8) (h : (splitL 10 l).getLast? = some []) : splitL 10 l = linesG l ++ [[]] := by
  obtain ⟨ys, e⟩ := List.getLast?_eq_some_iff.1 h
  unfold linesG highG
  rw [e]
  simp
theorem text_of_lines (l : List UInt8) (h : (splitL 10 l).getLast? = some []) : l = (linesG l).flatMap (· ++ [10]) := by
  have := join_split 10 l
  rw [split_last l h, join_close] at this
  exact this.symm
theorem gword_val (st : St) (y x : Nat) {w : List UInt8} (h : cellP w = some (valC st y x)) : w = gword st.1 st.2 y x := by
  obtain ⟨h1, -, -⟩ := cellP_word h
  rw [h1]
  unfold gword valC htL
  simp only
  rw [show ((y : Int) * 9 + (x : Int)).toNat = y * 9 + x by omega]
  congr 1
  by_cases hm : (⟨(x : Int), (y : Int)⟩ : Cell) ∈ st.2
  · rw [if_pos hm, if_pos (by simpa using hm)]
  · rw [if_neg hm, if_neg (by simpa using hm)]
theorem ground_same (l : List UInt8) : readGI l = readGF l := by
  have hw := wide_pos l
  by_cases hS : ∃ st, readGF l = some st
  · obtain ⟨st, hst⟩ := hS
    rw [hst]
    unfold readGF at hst
    split at hst
    · rename_i hc
      obtain ⟨hlast, hh1, hh9, hw9⟩ := hc
      obtain ⟨s, hs, hk⟩ := Option.bind_eq_some_iff.1 hst
      split at hk
      · rename_i hok
        obtain rfl := Option.some.inj hk
        have hI := grid_to_I _ _ _ _ _ hs
        obtain ⟨v1, -, v3⟩ := gridR_val (wideG l) hw9 (linesG l) 0 st0 s hs (by rw [linesG_len]; omega) (by simp [st0]) (fun _ _ _ h => by cases h)
        have hg : gtN s.1 s.2 (wideG l) (highG l) = l := by
          rw [gtN_flat]
          conv => rhs; rw [text_of_lines l hlast]
          congr 1
          apply List.ext_getElem
          · rw [List.length_map, List.length_range, linesG_len]
          · intro i h1 h2
            rw [List.getElem_map, List.getElem_range]
            obtain ⟨e1, e2⟩ := v3 i h2
            rw [Nat.zero_add] at e2
            have hrow : splitL 32 (linesG l)[i] = (List.range (wideG l)).map (gword s.1 s.2 i) := by
              apply List.ext_getElem
              · rw [e1]; simp
              · intro k k1 k2
                rw [List.getElem_map, List.getElem_range]
                exact gword_val s i k (e2 k k1)
            rw [grow_eq, ← hrow, join_split]
        unfold readGI
        rw [if_pos ⟨⟨hw, hw9⟩, hh1, hh9⟩, hI]
        simp only [Option.bind_some]
        rw [if_pos]
        unfold groundT
        rw [if_pos hok]
        simpa using hg
      · cases hk
    · cases hst
  · have hN : readGF l = none := by
      cases h : readGF l with
      | none => rfl
      | some st => exact absurd ⟨st, h⟩ hS
    rw [hN]
    cases hI : readGI l with
    | none => rfl
    | some st =>
      exfalso
      apply hS
      unfold readGI at hI
      split at hI
      · rename_i hc
        obtain ⟨⟨-, hw9⟩, hh1, hh9⟩ := hc
        obtain ⟨s, hs, hk⟩ := Option.bind_eq_some_iff.1 hI
        split at hk
        · rename_i ht
          have hl : l ≠ [] := by
            intro e
            subst e
            exact absurd hh1 (by decide)
          unfold groundT at ht
          split at ht
          · rename_i hok
            simp only [Int.toNat_natCast] at ht
            have hsp : splitL 10 l = ((List.range (highG l)).map fun y => growN s.1 s.2 (wideG l) y (wideG l)) ++ [[]] := by
              have h1 := gtN_flat s.1 s.2 (wideG l) (highG l)
              rw [ht] at h1
              have h2 := split_flat 10 ((List.range (highG l)).map fun y => growN s.1 s.2 (wideG l) y (wideG l)) (fun m hm => by
                obtain ⟨y, -, rfl⟩ := List.mem_map.1 hm
                exact grow_no10 _ _ _ _)
              rw [← h1] at h2
              exact h2
            have hlast : (splitL 10 l).getLast? = some [] := by rw [hsp]; simp
            have hlines : linesG l = (List.range (highG l)).map fun y => growN s.1 s.2 (wideG l) y (wideG l) := by
              have h3 := split_last l hlast
              rw [h3] at hsp
              exact List.append_cancel_right hsp
            have hR := grid_to_R _ _ _ _ _ hs (fun m hm => by
              rw [hlines] at hm
              obtain ⟨y, -, rfl⟩ := List.mem_map.1 hm
              rw [grow_split _ _ _ _ hw]
              simp)
            refine ⟨s, ?_⟩
            unfold readGF
            rw [if_pos ⟨hlast, hh1, hh9, hw9⟩, hR]
            simp only [Option.bind_some]
            rw [if_pos hok]
          · exact absurd ht.symm hl
        · cases hk
      · cases hI
end Go.Proofs.YthlcmiediedcfaaDoor
