/-
The plain law of the shortest way through what is open. No program in sight.
-/
import Derived.Test.YteflpdfajfljfaaFLO
set_option linter.unusedVariables false
set_option linter.unusedSimpArgs false
set_option maxRecDepth 100000
namespace Go.Proofs.Yteflpdfajfljfaa
open Go.RowKit
/-! ### The shortest way through what is open -/
structure IsF (w h : Int) (op : Cell → Bool) (tg : Cell) (F : Cell → Option Int) : Prop where
  zero : F tg = some 0
  par : ∀ c n, F c = some n → (c = tg ∧ n = 0) ∨ (1 ≤ n ∧ op c = true ∧ ∃ p, F p = some (n - 1) ∧ c ∈ aroundL w h p)
  cl : ∀ c n x, F c = some n → x ∈ aroundL w h c → op x = true → ∃ m, F x = some m ∧ m ≤ n + 1
section
variable {w h : Int} {op : Cell → Bool} {tg : Cell} {F G : Cell → Option Int}
theorem IsF.pos (hF : IsF w h op tg F) {c : Cell} {n : Int} (hc : F c = some n) : 0 ≤ n := by
  rcases hF.par c n hc with ⟨_, h⟩ | ⟨h, _⟩ <;> omega
theorem IsF.le (hF : IsF w h op tg F) (hG : IsF w h op tg G) : ∀ (k : Nat) (c : Cell), F c = some (k : Int) → ∃ m, G c = some m ∧ m ≤ (k : Int)
  | 0, c, hc => by
    rcases hF.par c _ hc with ⟨e, _⟩ | ⟨h, _⟩
    · subst e; exact ⟨0, hG.zero, by omega⟩
    · omega
  | k + 1, c, hc => by
    rcases hF.par c _ hc with ⟨e, h⟩ | ⟨_, ho, p, hp, hcp⟩
    · subst e; exact ⟨0, hG.zero, by omega⟩
    · obtain ⟨m, hm, hl⟩ := hF.le hG k p (by rw [hp]; congr 1; omega)
      obtain ⟨m2, hm2, hl2⟩ := hG.cl p m c hm hcp ho
      exact ⟨m2, hm2, by omega⟩
theorem IsF.uniq (hF : IsF w h op tg F) (hG : IsF w h op tg G) : F = G := by
  have key : ∀ {A B : Cell → Option Int}, IsF w h op tg A → IsF w h op tg B → ∀ c n, A c = some n → ∃ m, B c = some m ∧ m ≤ n := by
    intro A B hA hB c n hc
    have h0 := hA.pos hc
    obtain ⟨m, hm, hl⟩ := hA.le hB n.toNat c (by rw [hc]; congr 1; omega)
    exact ⟨m, hm, by omega⟩
  funext c
  cases hc : F c with
  | none =>
    cases hg : G c with
    | none => rfl
    | some n =>
      obtain ⟨m, hm, _⟩ := key hG hF c n hg
      rw [hc] at hm; cases hm
  | some n =>
    obtain ⟨m, hm, h1⟩ := key hF hG c n hc
    obtain ⟨n', hn', h2⟩ := key hG hF c m hm
    rw [hc] at hn'
    injection hn' with e
    rw [hm]
    congr 1
    omega
theorem IsF.zero_to (hF : IsF w h op tg F) {c : Cell} (hc : F c = some 0) : c = tg := by
  rcases hF.par c 0 hc with ⟨e, _⟩ | ⟨h, _⟩
  · exact e
  · omega
theorem IsF.pt (hF : IsF w h op tg F) (ht : gpB w h tg = true) {c : Cell} {n : Int} (hc : F c = some n) : gpB w h c = true := by
  rcases hF.par c n hc with ⟨e, _⟩ | ⟨_, _, p, _, hp⟩
  · rw [e]; exact ht
  · exact around_pt hp
/-- The first cell beside one that is nearer. -/
def stepF (F : Cell → Option Int) (n : Int) (x : Cell) : Bool := decide (F x = some (n - 1))
theorem IsF.step (hF : IsF w h op tg F) (ht : gpB w h tg = true) {c : Cell} {n : Int} (hc : F c = some n) (h1 : 1 ≤ n) : ∃ x, x ∈ aroundL w h c ∧ stepF F n x = true := by
  rcases hF.par c n hc with ⟨_, e⟩ | ⟨_, _, p, hp, hcp⟩
  · omega
  · exact ⟨p, around_symm (hF.pt ht hp) hcp, by simp [stepF, hp]⟩
def pathF (w h : Int) (F : Cell → Option Int) : Nat → Cell → List Cell
  | 0, _ => []
  | n + 1, c => match (aroundL w h c).find? (stepF F ((n : Int) + 1)) with
    | some x => x :: pathF w h F n x
    | none => []
theorem pathF_succ {n : Nat} {c x : Cell} (hx : (aroundL w h c).find? (stepF F ((n : Int) + 1)) = some x) : pathF w h F (n + 1) c = x :: pathF w h F n x := by
  rw [pathF, hx]
end
/-- What the search keeps: the cells in the order in which they were come tg, and how far they are. -/
structure BfI (w h : Int) (op : Cell → Bool) (tg : Cell) (Q : List Cell) (M : Cell → Option Int) (i : Nat) : Prop where
  nd : Q.Nodup
  key : ∀ c, (M c).isSome = true ↔ c ∈ Q
  zero : M tg = some 0
  par : ∀ c n, M c = some n → (c = tg ∧ n = 0) ∨ (1 ≤ n ∧ op c = true ∧ ∃ p, M p = some (n - 1) ∧ c ∈ aroundL w h p)
  mono : ∀ k l (hk : k < Q.length) (hl : l < Q.length), k ≤ l → ∀ m n, M Q[k] = some m → M Q[l] = some n → m ≤ n
  head : ∀ c m n, Q[i]? = some c → M c = some m → ∀ x, M x = some n → n ≤ m + 1
  cl : ∀ k (hk : k < Q.length), k < i → ∀ n, M Q[k] = some n → ∀ x ∈ aroundL w h Q[k], op x = true → ∃ m, M x = some m ∧ m ≤ n + 1
  far : ∀ k (hk : k < Q.length), ∀ n, M Q[k] = some n → n ≤ (k : Int)
structure BfJ (w h : Int) (op : Cell → Bool) (tg : Cell) (Q : List Cell) (M : Cell → Option Int) (i : Nat) (a : Cell) (n : Int) (ys : List Cell) (j : Nat) : Prop where
  re : BfI w h op tg Q M i
  at_ : Q[i]? = some a
  val : M a = some n
  now : ∀ k (hk : k < ys.length), k < j → op ys[k] = true → ∃ m, M ys[k] = some m ∧ m ≤ n + 1
section
variable {w h : Int} {op : Cell → Bool} {tg : Cell} {Q ys : List Cell} {M : Cell → Option Int} {i j : Nat} {a : Cell} {n : Int}
theorem BfI.first (w h : Int) (op : Cell → Bool) (tg : Cell) : BfI w h op tg [tg] (fun c => if c = tg then some 0 else none) 0 := by
  have hz : ∀ c m, (if c = tg then some (0 : Int) else none) = some m → c = tg ∧ m = 0 := by
    intro c m hc
    split at hc
    · rename_i e; injection hc with hc; exact ⟨e, hc.symm⟩
    · cases hc
  refine ⟨by simp, fun c => ?_, if_pos rfl, fun c n hc => .inl (hz c n hc), fun k l hk hl _ m n hm hn => ?_, fun c m n hc hm x hx => ?_, fun k hk h0 => by omega, fun k hk n hn => ?_⟩
  · by_cases e : c = tg <;> simp [e]
  · have := (hz _ _ hm).2; have := (hz _ _ hn).2; omega
  · have := (hz _ _ hm).2; have := (hz _ _ hx).2; omega
  · have := (hz _ _ hn).2; omega
theorem BfI.pt (q : BfI w h op tg Q M i) (ht : gpB w h tg = true) : ∀ c ∈ Q, gpB w h c = true := by
  intro c hc
  obtain ⟨n, hn⟩ := Option.isSome_iff_exists.1 ((q.key c).2 hc)
  rcases q.par c n hn with ⟨e, _⟩ | ⟨_, _, p, _, hp⟩
  · rw [e]; exact ht
  · exact around_pt hp
theorem BfI.len (q : BfI w h op tg Q M i) (hw : w ≤ 12) (hh : h ≤ 12) (ht : gpB w h tg = true) : Q.length ≤ 144 := cells_len hw hh Q q.nd (q.pt ht)
theorem BfI.val (q : BfI w h op tg Q M i) (ha : Q[i]? = some a) : ∃ n, M a = some n ∧ 0 ≤ n ∧ n ≤ (i : Int) := by
  obtain ⟨hi, hia⟩ := List.getElem?_eq_some_iff.1 ha
  obtain ⟨n, hn⟩ := Option.isSome_iff_exists.1 ((q.key a).2 (by rw [← hia]; exact List.getElem_mem hi))
  refine ⟨n, hn, ?_, q.far i hi n (by rw [hia]; exact hn)⟩
  rcases q.par a n hn with ⟨_, e⟩ | ⟨e, _⟩ <;> omega
theorem BfJ.zero (q : BfI w h op tg Q M i) (ha : Q[i]? = some a) (hn : M a = some n) : BfJ w h op tg Q M i a n ys 0 := ⟨q, ha, hn, fun k _ hk => by omega⟩
theorem BfJ.skip (q : BfJ w h op tg Q M i a n ys j) (hj : j < ys.length) (hs : op ys[j] = true → (M ys[j]).isSome = true) : BfJ w h op tg Q M i a n ys (j + 1) := by
  refine ⟨q.re, q.at_, q.val, fun k hk hkj he => ?_⟩
  by_cases e : k = j
  · subst e
    obtain ⟨m, hm⟩ := Option.isSome_iff_exists.1 (hs he)
    exact ⟨m, hm, q.re.head a n m q.at_ q.val _ hm⟩
  · exact q.now k hk (by omega) he
theorem BfJ.put (q : BfJ w h op tg Q M i a n ys j) (hj : j < ys.length) (hy : ys[j] ∈ aroundL w h a) (he : op ys[j] = true) (hno : M ys[j] = none) (M' : Cell → Option Int) (hM : M' = fun c => if c = ys[j] then some (n + 1) else M c) : BfJ w h op tg (Q ++ [ys[j]]) M' i a n ys (j + 1) := by
  subst hM
  obtain ⟨hi, hia⟩ := List.getElem?_eq_some_iff.1 q.at_
  have hnq : ys[j] ∉ Q := fun hm => by
    have := (q.re.key _).2 hm
    rw [hno] at this; cases this
  have hne : ∀ c m, M c = some m → c ≠ ys[j] := fun c m hc e => by rw [e, hno] at hc; cases hc
  have hold : ∀ c m, M c = some m → (if c = ys[j] then some (n + 1) else M c) = some m := fun c m hc => by rw [if_neg (hne c m hc)]; exact hc
  have hcase : ∀ c m, (if c = ys[j] then some (n + 1) else M c) = some m → (c = ys[j] ∧ m = n + 1) ∨ M c = some m := by
    intro c m hc
    split at hc
    · rename_i e; injection hc with hc; exact .inl ⟨e, hc.symm⟩
    · exact .inr hc
  have hn0 : 0 ≤ n := by rcases q.re.par a n q.val with ⟨_, e⟩ | ⟨e, _⟩ <;> omega
  have hni : n ≤ (i : Int) := q.re.far i hi n (by rw [hia]; exact q.val)
  have hQold : ∀ k (hk : k < Q.length), (Q ++ [ys[j]])[k]'(by simp; omega) = Q[k] := fun k hk => List.getElem_append_left hk
  have hQnew : ∀ k (hk : k < (Q ++ [ys[j]]).length), ¬ k < Q.length → (Q ++ [ys[j]])[k] = ys[j] := by
    intro k hk hlt
    have : k = Q.length := by simp at hk; omega
    subst this
    simp
  have hle : ∀ x m, M x = some m → m ≤ n + 1 := fun x m hx => q.re.head a n m q.at_ q.val x hx
  refine ⟨⟨?_, fun c => ?_, hold _ _ q.re.zero, fun c m hc => ?_, fun k l hk hl hkl m m' hm hm' => ?_, fun c m m' hc hm x hx => ?_, fun k hk hki m hm x hx hox => ?_, fun k hk m hm => ?_⟩, ?_, hold _ _ q.val, fun k hk hkj hek => ?_⟩
  · rw [List.nodup_append]
    refine ⟨q.re.nd, by simp, fun b hb b' hb' e => ?_⟩
    rw [List.mem_singleton] at hb'
    subst hb'
    subst e
    exact hnq hb
  · by_cases e : c = ys[j]
    · simp [e]
    · simp only [if_neg e]
      rw [q.re.key c, List.mem_append, List.mem_singleton]
      simp [e]
  · rcases hcase c m hc with ⟨rfl, rfl⟩ | hc
    · exact .inr ⟨by omega, he, a, by rw [show n + 1 - 1 = n by omega]; exact hold _ _ q.val, hy⟩
    · rcases q.re.par c m hc with h1 | ⟨h1, h2, p, hp, hcp⟩
      · exact .inl h1
      · exact .inr ⟨h1, h2, p, hold _ _ hp, hcp⟩
  · by_cases hlQ : l < Q.length
    · have hkQ : k < Q.length := by omega
      rw [hQold l hlQ] at hm'
      rw [hQold k hkQ] at hm
      rcases hcase _ _ hm with ⟨e, _⟩ | hm
      · exact absurd (e ▸ List.getElem_mem hkQ) hnq
      · rcases hcase _ _ hm' with ⟨e, _⟩ | hm'
        · exact absurd (e ▸ List.getElem_mem hlQ) hnq
        · exact q.re.mono k l hkQ hlQ hkl m m' hm hm'
    · rw [hQnew l hl hlQ] at hm'
      simp only [if_true] at hm'
      injection hm' with hm'
      by_cases hkQ : k < Q.length
      · rw [hQold k hkQ] at hm
        rcases hcase _ _ hm with ⟨e, _⟩ | hm
        · exact absurd (e ▸ List.getElem_mem hkQ) hnq
        · have := hle _ _ hm; omega
      · rw [hQnew k hk hkQ] at hm
        simp only [if_true] at hm
        injection hm with hm
        omega
  · rw [List.getElem?_append_left hi, q.at_] at hc
    injection hc with hc
    subst hc
    rcases hcase _ _ hm with ⟨e, _⟩ | hm
    · exact absurd e (hne _ _ q.val)
    · rw [q.val] at hm
      injection hm with hm
      subst hm
      rcases hcase _ _ hx with ⟨_, e⟩ | hx
      · omega
      · exact hle _ _ hx
  · have hkQ : k < Q.length := by omega
    rw [hQold k hkQ] at hm hx
    rcases hcase _ _ hm with ⟨e, _⟩ | hm
    · exact absurd (e ▸ List.getElem_mem hkQ) hnq
    · obtain ⟨m2, hm2, hl2⟩ := q.re.cl k hkQ hki m hm x hx hox
      exact ⟨m2, hold _ _ hm2, hl2⟩
  · by_cases hkQ : k < Q.length
    · rw [hQold k hkQ] at hm
      rcases hcase _ _ hm with ⟨e, _⟩ | hm
      · exact absurd (e ▸ List.getElem_mem hkQ) hnq
      · exact q.re.far k hkQ m hm
    · rw [hQnew k hk hkQ] at hm
      simp only [if_true] at hm
      injection hm with hm
      omega
  · rw [List.getElem?_append_left hi]; exact q.at_
  · by_cases e : k = j
    · subst e
      exact ⟨n + 1, if_pos rfl, Int.le_refl _⟩
    · obtain ⟨m, hm, hl⟩ := q.now k hk (by omega) hek
      exact ⟨m, hold _ _ hm, hl⟩
theorem BfJ.fin (q : BfJ w h op tg Q M i a n (aroundL w h a) (aroundL w h a).length) : BfI w h op tg Q M (i + 1) := by
  obtain ⟨hi, hia⟩ := List.getElem?_eq_some_iff.1 q.at_
  refine ⟨q.re.nd, q.re.key, q.re.zero, q.re.par, q.re.mono, fun c m m' hc hm x hx => ?_, fun k hk hki m hm x hx hox => ?_, q.re.far⟩
  · obtain ⟨hi2, hic⟩ := List.getElem?_eq_some_iff.1 hc
    have h1 := q.re.mono i (i + 1) hi hi2 (by omega) n m (by rw [hia]; exact q.val) (by rw [hic]; exact hm)
    have h2 := q.re.head a n m' q.at_ q.val x hx
    omega
  · by_cases e : k = i
    · subst e
      rw [hia] at hm hx
      rw [q.val] at hm
      injection hm with hm
      subst hm
      obtain ⟨j, hj, rfl⟩ := List.getElem_of_mem hx
      exact q.now j hj hj hox
    · exact q.re.cl k hk (by omega) m hm x hx hox
theorem BfI.fin (q : BfI w h op tg Q M Q.length) : IsF w h op tg M := by
  refine ⟨q.zero, q.par, fun c n x hc hx ho => ?_⟩
  have hm := (q.key c).1 (by rw [hc]; rfl)
  obtain ⟨k, hk, rfl⟩ := List.getElem_of_mem hm
  exact q.cl k hk hk n hc x hx ho
end
/-! ### The way that is told -/
def opB (cv : Cell → Int) (out : List Int) (c : Cell) : Bool := decide (cv c < 0) || decide (cv c ∈ out)
theorem opB_true {cv : Cell → Int} {out : List Int} {c : Cell} : opB cv out c = true ↔ cv c < 0 ∨ cv c ∈ out := by simp [opB]
section
variable {w h : Int} {cv E : Cell → Int} {fr tg : Cell} {out : List Int} {F : Cell → Option Int}
theorem RO.conn (hF : IsF w h (opB cv out) tg F) (hf : gpB w h fr = true) (hof : opB cv out fr = true) {c : Cell} (hr : RO w h cv fr out c) : (∃ n, F c = some n) → ∃ n, F fr = some n := by
  have hop : ∀ c, RO w h cv fr out c → opB cv out c = true := by
    intro c hr
    cases hr with
    | base => exact hof
    | step c x hc hx he => exact opB_true.2 he
  induction hr with
  | base => exact id
  | step c x hc hx he ih =>
    rintro ⟨n, hn⟩
    obtain ⟨m, hm, _⟩ := hF.cl x n c hn (around_symm (hc.pt hf) hx) (hop c hc)
    exact ih ⟨m, hm⟩
/-- The first of the fewest slabs make a way. -/
theorem few_way (hx : IsFew w h cv fr tg out) (hF : IsF w h (opB cv out) tg F) (ht : gpB w h tg = true) (hf : gpB w h fr = true) : ∃ n, F fr = some n := by
  obtain ⟨E, j, now, s, hE, hj, y⟩ := hx
  refine RO.conn hF hf ?_ (y.last hE ht hf (by omega)) ⟨0, hF.zero⟩
  rw [opB_true]
  by_cases h0 : 0 ≤ cv fr
  · exact .inr ((y.mem _).2 (.inl ⟨h0, rfl⟩))
  · exact .inl (by omega)
def IsWay (w h : Int) (cv : Cell → Int) (fr tg : Cell) (l : List Cell) : Prop := ∃ (F : Cell → Option Int) (n : Nat), IsF w h (opB cv (fewL w h cv fr tg)) tg F ∧ F fr = some (n : Int) ∧ l = fr :: pathF w h F n fr
open Classical in
noncomputable def wayL (w h : Int) (cv : Cell → Int) (fr tg : Cell) : List Cell := if hx : ∃ l, IsWay w h cv fr tg l then hx.choose else []
theorem IsWay.uniq {l l' : List Cell} (h1 : IsWay w h cv fr tg l) (h2 : IsWay w h cv fr tg l') : l = l' := by
  obtain ⟨F, n, hF, hn, rfl⟩ := h1
  obtain ⟨G, m, hG, hm, rfl⟩ := h2
  have := hF.uniq hG
  subst this
  rw [hn] at hm
  injection hm with hm
  have : n = m := by omega
  rw [this]
theorem IsWay.eq {l : List Cell} (h1 : IsWay w h cv fr tg l) : l = wayL w h cv fr tg := by
  have hx : ∃ l, IsWay w h cv fr tg l := ⟨l, h1⟩
  unfold wayL
  rw [dif_pos hx]
  exact h1.uniq hx.choose_spec
end
end Go.Proofs.Yteflpdfajfljfaa
