/-
The plain law of levels kept in tables. No program in sight.
-/
import Derived.Test.YtipcmakidifelaaGB1
set_option linter.unusedVariables false
set_option linter.unusedSimpArgs false
set_option maxRecDepth 100000
namespace Go.Proofs.Ytipcmakidifelaa
open Go.RowKit
def cellOf (i : Nat) : Cell := ⟨((i % 9 : Nat) : Int), ((i / 9 : Nat) : Int)⟩
def idxC (c : Cell) : Nat := (c.y * 9 + c.x).toNat
theorem idx_cell {w h : Int} {c : Cell} (hw : w ≤ 9) (hh : h ≤ 9) (hc : gpB w h c = true) : idxC c < 81 ∧ cellOf (idxC c) = c := by
  obtain ⟨a, b, ha, hb, rfl⟩ := pt_nat hw hh hc
  have e : idxC ⟨(a : Int), (b : Int)⟩ = b * 9 + a := by unfold idxC; simp only; omega
  rw [e]
  refine ⟨by omega, ?_⟩
  unfold cellOf
  congr 1 <;> omega
theorem cell_idx (i : Nat) : idxC (cellOf i) = i := by
  unfold idxC cellOf
  simp only
  omega
theorem htL_idx (hs : List Int) (c : Cell) : htL hs c = hs.getD (idxC c) 0 := rfl
/-- A table of 81 numbers, nothing beyond the ground. -/
def levA (w h : Int) (F : Cell → Int) : List Int := (List.range 81).map fun i => if gpB w h (cellOf i) = true then F (cellOf i) else 0
theorem levA_len (w h : Int) (F : Cell → Int) : (levA w h F).length = 81 := by simp [levA]
theorem levA_at (w h : Int) (F : Cell → Int) (i : Nat) (hi : i < 81) : (levA w h F)[i]? = some (if gpB w h (cellOf i) = true then F (cellOf i) else 0) := by simp [levA, hi]
theorem levA_ht {w h : Int} (F : Cell → Int) {c : Cell} (hw : w ≤ 9) (hh : h ≤ 9) (hc : gpB w h c = true) : htL (levA w h F) c = F c := by
  obtain ⟨h1, h2⟩ := idx_cell hw hh hc
  rw [htL_idx, List.getD_eq_getElem?_getD, levA_at w h F _ h1, h2, hc]
  rfl
theorem levA_same {w h : Int} {F G : Cell → Int} (hFG : ∀ c, gpB w h c = true → F c = G c) : levA w h F = levA w h G := by
  unfold levA
  apply List.map_congr_left
  intro i _
  split
  · rename_i hp
    exact hFG _ hp
  · rfl
theorem levA_of {w h : Int} (L : List Int) (hl : L.length = 81) (hz : ∀ i, i < 81 → gpB w h (cellOf i) = false → L.getD i 0 = 0) : L = levA w h (htL L) := by
  apply List.ext_getElem?
  intro i
  by_cases hi : i < 81
  · rw [levA_at w h _ i hi]
    have he : L[i]? = some (L.getD i 0) := by rw [List.getD_eq_getElem?_getD, List.getElem?_eq_getElem (by omega)]; rfl
    rw [he]
    congr 1
    cases hp : gpB w h (cellOf i)
    · rw [if_neg (by decide)]
      exact hz i hi hp
    · rw [if_pos rfl, htL_idx, cell_idx]
  · rw [List.getElem?_eq_none (by omega), List.getElem?_eq_none (by rw [levA_len]; omega)]
/-! ### Sets at a point -/
theorem htL_set_same {w h : Int} {L : List Int} {c : Cell} (hl : L.length = 81) (hw : w ≤ 9) (hh : h ≤ 9) (hc : gpB w h c = true) (n : Int) : htL (L.set (idxC c) n) c = n := by
  have h1 := (idx_cell hw hh hc).1
  rw [htL_idx, List.getD_eq_getElem?_getD, List.getElem?_set_self (by omega)]
  rfl
theorem htL_set_oth {w h : Int} {L : List Int} {c d : Cell} (hw : w ≤ 9) (hh : h ≤ 9) (hc : gpB w h c = true) (hd : gpB w h d = true) (hne : d ≠ c) (n : Int) : htL (L.set (idxC c) n) d = htL L d := by
  have h1 := idx_cell hw hh hc
  have h2 := idx_cell hw hh hd
  have : idxC c ≠ idxC d := fun e => hne (by rw [← h2.2, ← h1.2, e])
  rw [htL_idx, htL_idx, List.getD_eq_getElem?_getD, List.getD_eq_getElem?_getD, List.getElem?_set_ne this]
theorem zero_set {w h : Int} {L : List Int} {c : Cell} (hw : w ≤ 9) (hh : h ≤ 9) (hc : gpB w h c = true) (n : Int) (hz : ∀ i, i < 81 → gpB w h (cellOf i) = false → L.getD i 0 = 0) : ∀ i, i < 81 → gpB w h (cellOf i) = false → (L.set (idxC c) n).getD i 0 = 0 := by
  intro i hi hp
  have h1 := idx_cell hw hh hc
  have : idxC c ≠ i := fun e => by rw [← e, h1.2, hc] at hp; cases hp
  have h2 := hz i hi hp
  rw [List.getD_eq_getElem?_getD] at h2 ⊢
  rw [List.getElem?_set_ne this]
  exact h2
/-! ### What the reference keeps -/
structure TabI (w h : Int) (hs : List Int) (gl : List Cell) (L : List Int) : Prop where
  len : L.length = 81
  zero : ∀ i, i < 81 → gpB w h (cellOf i) = false → L.getD i 0 = 0
  att : ∀ c, gpB w h c = true → htL L c = 200 ∨ Att w h hs gl c (htL L c)
  gul : ∀ g ∈ gl, htL L g ≤ htL hs g
def potT (L : List Int) : Nat := pot (fun i => (L.getD i 0).toNat) 81
theorem TabI.bd {w h : Int} {hs : List Int} {gl : List Cell} {L : List Int} (ok : GOk w h hs gl) (t : TabI w h hs gl L) {c : Cell} (hc : gpB w h c = true) : 0 ≤ htL L c ∧ htL L c ≤ 200 := by
  rcases t.att c hc with h1 | h1
  · omega
  · have := att_bd ok.ht ok.gl h1
    omega
theorem TabI.put {w h : Int} {hs : List Int} {gl : List Cell} {L : List Int} (ok : GOk w h hs gl) (t : TabI w h hs gl L) {a c : Cell} (ha : gpB w h a = true) (hc : c ∈ aroundL w h a) (hlt : max (htL hs a) (htL L c) < htL L a) :
    TabI w h hs gl (L.set (idxC a) (max (htL hs a) (htL L c))) ∧ potT (L.set (idxC a) (max (htL hs a) (htL L c))) < potT L := by
  have hcp := around_pt hc
  have b1 := t.bd ok ha
  have b2 := t.bd ok hcp
  have b3 := ok.ht a ha
  have hi := idx_cell ok.w1 ok.h1 ha
  refine ⟨⟨by rw [List.length_set]; exact t.len, zero_set ok.w1 ok.h1 ha _ t.zero, fun d hd => ?_, fun g hg => ?_⟩, ?_⟩
  · by_cases e : d = a
    · subst e
      rw [htL_set_same t.len ok.w1 ok.h1 ha]
      right
      rcases t.att c hcp with h1 | h1
      · omega
      · have := Att.step c d _ h1 (around_symm ha hc)
        rw [Int.max_comm]
        exact this
    · rw [htL_set_oth ok.w1 ok.h1 ha hd e]
      exact t.att d hd
  · have hgp := ok.gl g hg
    by_cases e : g = a
    · subst e
      rw [htL_set_same t.len ok.w1 ok.h1 hgp]
      have := t.gul g hg
      omega
    · rw [htL_set_oth ok.w1 ok.h1 ha hgp e]
      exact t.gul g hg
  · refine pot_lt (k := idxC a) 81 hi.1 ?_ (fun i hi2 hne => ?_)
    · rw [List.getD_eq_getElem?_getD, List.getElem?_set_self (by rw [t.len]; exact hi.1)]
      have e : L.getD (idxC a) 0 = htL L a := rfl
      rw [e]
      simp only [Option.getD_some]
      omega
    · rw [List.getD_eq_getElem?_getD, List.getElem?_set_ne (Ne.symm hne), ← List.getD_eq_getElem?_getD]
/-- Closed under steps at a point: of the first k neighbours. -/
def tabC (hs L : List Int) (a : Cell) (xs : List Cell) (k : Nat) : Prop := ∀ j (hj : j < xs.length), j < k → htL L a ≤ max (htL hs a) (htL L xs[j])
theorem TabI.lev {w h : Int} {hs : List Int} {gl : List Cell} {L : List Int} (ok : GOk w h hs gl) (hne : gl ≠ []) (t : TabI w h hs gl L) (hcl : ∀ a ∈ ptsG w.toNat h.toNat, ∀ c ∈ aroundL w h a, htL L a ≤ max (htL hs a) (htL L c)) : IsLev w h hs gl (htL L) := by
  refine lev_of_tab (htL L) hne ok.gl ok.ht t.att t.gul (fun c a hc ha => hcl c ?_ a ha)
  refine mem_ptsG _ _ _ ?_
  have e1 : ((w.toNat : Nat) : Int) = w := by have := ok.w0; omega
  have e2 : ((h.toNat : Nat) : Int) = h := by have := ok.h0; omega
  rw [e1, e2]
  exact hc
/-! ### What the program keeps -/
structure MapI (w h : Int) (hs : List Int) (gl : List Cell) (M : Cell → Option Int) : Prop where
  att : ∀ c n, M c = some n → Att w h hs gl c n
  gul : ∀ g ∈ gl, ∃ n, M g = some n ∧ n ≤ htL hs g
def potM (M : Cell → Option Int) : Nat := pot (fun i => match M (cellOf i) with | none => 202 | some n => n.toNat) 81
theorem MapI.put {w h : Int} {hs : List Int} {gl : List Cell} {M : Cell → Option Int} (ok : GOk w h hs gl) (t : MapI w h hs gl M) {a c : Cell} {n : Int} (ha : Att w h hs gl a n) (hc : c ∈ aroundL w h a) (hlt : ∀ now, M c = some now → max n (htL hs c) < now) (f : Cell → Option Int) (hf : f = fun y => if y = c then some (max n (htL hs c)) else M y) :
    MapI w h hs gl f ∧ potM f < potM M := by
  subst hf
  have hcp := around_pt hc
  have hst := Att.step a c n ha hc
  have b := att_bd ok.ht ok.gl hst
  have hi := idx_cell ok.w1 ok.h1 hcp
  refine ⟨⟨fun d m hd => ?_, fun g hg => ?_⟩, ?_⟩
  · by_cases e : d = c
    · subst e
      simp at hd
      subst hd
      exact hst
    · simp only [if_neg e] at hd
      exact t.att d m hd
  · obtain ⟨m, hm, hl⟩ := t.gul g hg
    by_cases e : g = c
    · subst e
      refine ⟨_, if_pos rfl, ?_⟩
      have := hlt m hm
      omega
    · exact ⟨m, by simp only [if_neg e]; exact hm, hl⟩
  · refine pot_lt (k := idxC c) 81 hi.1 ?_ (fun i hi2 hne => ?_)
    · rw [hi.2]
      simp only [if_true]
      cases hm : M c with
      | none => simp only; omega
      | some now =>
        have h1 := hlt now hm
        have b2 := att_bd ok.ht ok.gl (t.att c now hm)
        simp only
        omega
    · have : cellOf i ≠ c := fun e => hne (by rw [← e, cell_idx])
      simp only [if_neg this]
theorem MapI.lev {w h : Int} {hs : List Int} {gl : List Cell} {M : Cell → Option Int} (ok : GOk w h hs gl) (hne : gl ≠ []) (t : MapI w h hs gl M) (hcl : ∀ a ∈ ptsG w.toNat h.toNat, ∀ n, M a = some n → ∀ c ∈ aroundL w h a, ∃ m, M c = some m ∧ m ≤ max n (htL hs c)) :
    IsLev w h hs gl (fun c => (M c).getD 0) ∧ ∀ c, (M c).isSome = true ↔ gpB w h c = true := by
  have e1 : ((w.toNat : Nat) : Int) = w := by have := ok.w0; omega
  have e2 : ((h.toNat : Nat) : Int) = h := by have := ok.h0; omega
  have hpt : ∀ c n, M c = some n → gpB w h c = true := fun c n hc => att_pt ok.gl (t.att c n hc)
  obtain ⟨h1, h2⟩ := lev_of_map M hne ok.gl t.att t.gul (fun a n c ha hc => hcl a (mem_ptsG _ _ _ (by rw [e1, e2]; exact hpt a n ha)) n ha c hc)
  refine ⟨h2, fun c => ⟨fun hs => ?_, fun hc => ?_⟩⟩
  · obtain ⟨n, hn⟩ := Option.isSome_iff_exists.1 hs
    exact hpt c n hn
  · obtain ⟨n, hn⟩ := h1 c hc
    simp [hn]
/-- What has been laid out of the map so far. -/
def outM (M : Cell → Option Int) (left : Cell → Bool) : List Int := (List.range 81).map fun i => if left (cellOf i) = true then 0 else (M (cellOf i)).getD 0
theorem outM_len (M : Cell → Option Int) (left : Cell → Bool) : (outM M left).length = 81 := by simp [outM]
theorem outM_0 (M : Cell → Option Int) : outM M (fun c => (M c).isSome) = List.replicate 81 0 := by
  unfold outM
  apply List.ext_getElem
  · simp
  · intro i h1 h2
    simp only [List.getElem_map, List.getElem_replicate]
    have : ∀ o : Option Int, (if o.isSome = true then 0 else o.getD 0) = 0 := fun o => by cases o <;> rfl
    exact this _
theorem outM_set {w h : Int} (M : Cell → Option Int) (left : Cell → Bool) {c : Cell} {n : Int} (hw : w ≤ 9) (hh : h ≤ 9) (hc : gpB w h c = true) (hm : M c = some n) : (outM M left).set (idxC c) n = outM M (fun x => left x && !decide (x = c)) := by
  have hi := idx_cell hw hh hc
  apply List.ext_getElem?
  intro i
  by_cases hi2 : i < 81
  · have e2 : (outM M (fun x => left x && !decide (x = c)))[i]? = some (if (left (cellOf i) && !decide (cellOf i = c)) = true then 0 else (M (cellOf i)).getD 0) := by simp [outM, hi2]
    rw [e2]
    by_cases e : idxC c = i
    · subst e
      rw [List.getElem?_set_self (by rw [outM_len]; exact hi.1), hi.2]
      simp [hm]
    · have hne : cellOf i ≠ c := fun e' => e (by rw [← e', cell_idx])
      rw [List.getElem?_set_ne e]
      simp [outM, hi2, hne]
  · rw [List.getElem?_eq_none (by rw [List.length_set, outM_len]; omega), List.getElem?_eq_none (by rw [outM_len]; omega)]
theorem outM_end {w h : Int} (M : Cell → Option Int) (left : Cell → Bool) (hall : ∀ c, (M c).isSome = true ↔ gpB w h c = true) (hl : ∀ c n, M c = some n → left c = false) : outM M left = levA w h (fun c => (M c).getD 0) := by
  unfold outM levA
  apply List.map_congr_left
  intro i _
  cases hm : M (cellOf i) with
  | none =>
    have : gpB w h (cellOf i) = false := by
      cases hg : gpB w h (cellOf i)
      · rfl
      · have := (hall (cellOf i)).2 hg
        rw [hm] at this
        cases this
    simp [this]
  | some n =>
    have h1 := hl _ n hm
    have h2 := (hall (cellOf i)).1 (by rw [hm]; rfl)
    simp [h1, h2, hm]
theorem idxC_nat (a b : Nat) : idxC ⟨(a : Int), (b : Int)⟩ = b * 9 + a := by unfold idxC; simp only; omega
def initG (hs : List Int) (gl : List Cell) (c : Cell) : Int := if c ∈ gl then htL hs c else 200
theorem tabI_start {w h : Int} {hs : List Int} {gl : List Cell} {L : List Int} (ok : GOk w h hs gl) (hl : L.length = 81) (hz : ∀ i, i < 81 → gpB w h (cellOf i) = false → L.getD i 0 = 0) (hin : ∀ c ∈ ptsG w.toNat h.toNat, htL L c = initG hs gl c) : TabI w h hs gl L := by
  have e1 : ((w.toNat : Nat) : Int) = w := by have := ok.w0; omega
  have e2 : ((h.toNat : Nat) : Int) = h := by have := ok.h0; omega
  have hm : ∀ c, gpB w h c = true → htL L c = initG hs gl c := fun c hc => hin c (mem_ptsG _ _ _ (by rw [e1, e2]; exact hc))
  refine ⟨hl, hz, fun c hc => ?_, fun g hg => ?_⟩
  · rw [hm c hc]
    unfold initG
    split
    · rename_i hg
      exact .inr (Att.gully c hg)
    · exact .inl rfl
  · rw [hm g (ok.gl g hg)]
    unfold initG
    rw [if_pos hg]
    exact Int.le_refl _
theorem zeros_zero (w h : Int) : ∀ i, i < 81 → gpB w h (cellOf i) = false → (List.replicate 81 (0 : Int)).getD i 0 = 0 := by
  intro i hi _
  rw [List.getD_eq_getElem?_getD, List.getElem?_replicate, if_pos hi]
  rfl
theorem ptsG_nodup (w y : Nat) : (ptsG w y).Nodup := by
  induction y with
  | zero => simp [ptsG]
  | succ y ih =>
    rw [ptsG_succ, List.nodup_append]
    refine ⟨ih, ?_, ?_⟩
    · unfold rowG
      rw [List.nodup_iff_pairwise_ne, List.pairwise_map]
      refine List.Pairwise.imp ?_ List.pairwise_lt_range
      intro a b hab e
      have := congrArg Cell.x e
      simp only at this
      omega
    · intro a ha b hb e
      subst e
      have h1 := (ptsG_mem w y a ha).2.2
      simp only [rowG, List.mem_map, List.mem_range] at hb
      obtain ⟨x, _, rfl⟩ := hb
      simp only at h1
      omega
end Go.Proofs.Ytipcmakidifelaa
