/-
Numbers read from texts, plainly: what the reference reads, what the program reads, and that both are the same. No condition.
-/
import Derived.Lib.ParseIntB
import Derived.Lib.ItoaMem
import Derived.Test.YthlcmiediedcfaaDoorVoc
set_option linter.unusedVariables false
set_option linter.unusedSimpArgs false
set_option maxRecDepth 100000
namespace Go.Proofs.YthlcmiediedcfaaDoor
def digB (b : UInt8) : Bool := decide (48 ≤ b.toNat ∧ b.toNat ≤ 57)
theorem digB_true {b : UInt8} : digB b = true ↔ 48 ≤ b.toNat ∧ b.toNat ≤ 57 := by simp [digB]
/-- The value of digits, behind what stands already. -/
def valF (acc : Nat) (l : List UInt8) : Nat := l.foldl (fun n b => n * 10 + (b.toNat - 48)) acc
def valL (l : List UInt8) : Nat := valF 0 l
theorem valF_cons (acc : Nat) (b : UInt8) (l : List UInt8) : valF acc (b :: l) = valF (acc * 10 + (b.toNat - 48)) l := by unfold valF; rw [List.foldl_cons]
theorem valL_snoc (l : List UInt8) (b : UInt8) : valL (l ++ [b]) = valL l * 10 + (b.toNat - 48) := by simp [valL, valF]
theorem valF_ge (l : List UInt8) : ∀ acc, acc ≤ valF acc l := by
  induction l with
  | nil => intro acc; exact Nat.le_refl _
  | cons b l ih =>
    intro acc
    rw [valF_cons]
    have := ih (acc * 10 + (b.toNat - 48))
    omega
/-- A numeral without a zero that leads. -/
structure Canon (l : List UInt8) : Prop where
  ne : l ≠ []
  dig : ∀ b ∈ l, digB b = true
  lead : l.length = 1 ∨ l.head? ≠ some 48
theorem head_app {l m : List UInt8} (h : l ≠ []) : (l ++ m).head? = l.head? := by
  cases l with
  | nil => exact absurd rfl h
  | cons a l => rfl
/-- Induction from the right. -/
theorem snoc_ind {α : Type} {p : List α → Prop} (h0 : p []) (h1 : ∀ l a, p l → p (l ++ [a])) (l : List α) : p l := by
  have : ∀ m : List α, p m.reverse := by
    intro m
    induction m with
    | nil => exact h0
    | cons a m ih => rw [List.reverse_cons]; exact h1 _ _ ih
  have := this l.reverse
  rwa [List.reverse_reverse] at this
theorem canon_pos {l : List UInt8} (hd : ∀ b ∈ l, digB b = true) (hn : l ≠ []) (hh : l.head? ≠ some 48) : 1 ≤ valL l := by
  cases l with
  | nil => exact absurd rfl hn
  | cons b l =>
    have h1 := digB_true.1 (hd b (by simp))
    have h2 : b.toNat ≠ 48 := fun e => hh (by simp only [List.head?_cons]; congr 1; exact UInt8.toNat_inj.1 e)
    have := valF_ge l (0 * 10 + (b.toNat - 48))
    rw [valL, valF_cons]
    omega
theorem dec_val (l : List UInt8) : Canon l → Lib.decDigits (valL l) = l := by
  refine snoc_ind (p := fun l => Canon l → Lib.decDigits (valL l) = l) (fun h => absurd rfl h.ne) (fun l b ih h => ?_) l
  have hb := digB_true.1 (h.dig b (by simp))
  have ho : UInt8.ofNat (48 + (b.toNat - 48)) = b := by rw [show 48 + (b.toNat - 48) = b.toNat by omega]; simp
  by_cases hl : l = []
  · subst hl
    rw [List.nil_append, show valL [b] = b.toNat - 48 from by simp [valL, valF], Lib.decDigits_one (by omega), ho]
  · have hd : ∀ x ∈ l, digB x = true := fun x hx => h.dig x (by simp [hx])
    have hh : l.head? ≠ some 48 := by
      rcases h.lead with h1 | h1
      · rw [List.length_append, List.length_singleton] at h1
        have : l.length = 0 := by omega
        exact absurd (List.eq_nil_of_length_eq_zero this) hl
      · rwa [head_app hl] at h1
    have hp := canon_pos hd hl hh
    have hc : Canon l := ⟨hl, hd, .inr hh⟩
    rw [valL_snoc, Lib.decDigits, dif_neg (by omega), show (valL l * 10 + (b.toNat - 48)) / 10 = valL l by omega, show (valL l * 10 + (b.toNat - 48)) % 10 = b.toNat - 48 by omega, ih hc, ho]
theorem canon_dec : ∀ n : Nat, Canon (Lib.decDigits n) ∧ valL (Lib.decDigits n) = n ∧ (10 ≤ n → (Lib.decDigits n).head? ≠ some 48) := by
  intro n
  induction n using Nat.strongRecOn with
  | ind n ih =>
    have h48 : ∀ k, k < 10 → (UInt8.ofNat (48 + k)).toNat = 48 + k := fun k hk => by simp; omega
    by_cases h : n < 10
    · rw [Lib.decDigits_one h]
      refine ⟨⟨by simp, fun b hb => ?_, .inl rfl⟩, ?_, fun h10 => by omega⟩
      · have hb := List.mem_singleton.1 hb
        subst hb
        rw [digB_true, h48 n h]
        omega
      · simp only [valL, valF, List.foldl_cons, List.foldl_nil, h48 n h]
        omega
    · obtain ⟨h1, h2, h3⟩ := ih (n / 10) (by omega)
      have e : Lib.decDigits n = Lib.decDigits (n / 10) ++ [UInt8.ofNat (48 + n % 10)] := by rw [Lib.decDigits, dif_neg h]
      have hh : (Lib.decDigits n).head? ≠ some 48 := by
        rw [e, head_app h1.ne]
        by_cases h10 : 10 ≤ n / 10
        · exact h3 h10
        · rw [Lib.decDigits_one (by omega)]
          intro he
          simp only [List.head?_cons, Option.some.injEq] at he
          have := congrArg UInt8.toNat he
          rw [h48 _ (by omega)] at this
          have h480 : (48 : UInt8).toNat = 48 := rfl
          omega
      refine ⟨⟨by rw [e]; simp, fun b hb => ?_, .inr hh⟩, ?_, fun _ => hh⟩
      · rw [e] at hb
        rcases List.mem_append.1 hb with hb | hb
        · exact h1.dig b hb
        · have hb := List.mem_singleton.1 hb
          subst hb
          rw [digB_true, h48 _ (by omega)]
          omega
      · rw [e, valL_snoc, h2, h48 _ (by omega)]
        omega
/-- What the reference reads. -/
def numS (l : List UInt8) : Int × Bool := if (l ≠ [] ∧ l.length ≤ 10 ∧ (l.length = 1 ∨ l.head? ≠ some 48)) ∧ l.all digB = true then ((valL l : Int), true) else (0, false)
/-- What the program reads. -/
def numI (l : List UInt8) (most : Int) : Int × Bool := match Lib.parseIntB 64 l with
  | .ok n => if Lib.itoa n = l ∧ 0 ≤ n ∧ n ≤ most then (n, true) else (0, false)
  | _ => (0, false)
theorem parseM_dig : ∀ (l : List UInt8) (acc M : Nat), (∀ b ∈ l, digB b = true) → valF acc l ≤ M → M < 18446744073709551616 → valF acc l < 1844674407370955162 → Lib.parseUintM M acc l = .ok (valF acc l)
  | [], acc, M, _, _, _, _ => rfl
  | b :: l, acc, M, hd, h1, h2, h3 => by
    have hb := digB_true.1 (hd b (by simp))
    rw [valF_cons] at h1 h3 ⊢
    have hge := valF_ge l (acc * 10 + (b.toNat - 48))
    rw [Lib.parseUintM, if_pos hb, if_neg (by omega), if_neg (by omega)]
    exact parseM_dig l _ M (fun x hx => hd x (by simp [hx])) h1 h2 h3
theorem parse_dec {n : Nat} (hn : n ≤ 1000000000000) : Lib.parseIntB 64 (Lib.decDigits n) = .ok (n : Int) := by
  obtain ⟨hc, hv, -⟩ := canon_dec n
  cases hl : Lib.decDigits n with
  | nil => exact absurd hl hc.ne
  | cons c r =>
    have hd : ∀ b ∈ c :: r, digB b = true := fun b hb => hc.dig b (by rw [hl]; exact hb)
    have hcd := digB_true.1 (hd c (by simp))
    have hv2 : valF 0 (c :: r) = n := by rw [← hl]; exact hv
    have hp := parseM_dig (c :: r) 0 (2 ^ 64 - 1) hd (by omega) (by omega) (by omega)
    unfold Lib.parseIntB
    simp only
    rw [if_neg (by omega), Lib.parseUintB, if_neg (by simp), hp, hv2]
    simp only
    rw [if_neg (by omega), if_neg (by omega), if_neg (by omega)]
theorem numS_ok {l : List UInt8} (h : (numS l).2 = true) : l.length ≤ 10 ∧ Canon l ∧ (numS l).1 = (valL l : Int) := by
  unfold numS at h ⊢
  split at h
  · rename_i hc
    rw [if_pos hc]
    exact ⟨hc.1.2.1, ⟨hc.1.1, fun b hb => List.all_eq_true.1 hc.2 b hb, hc.1.2.2⟩, rfl⟩
  · cases h
theorem decLen_lt : ∀ (d n : Nat), n < 10 ^ (d + 1) → (Lib.decDigits n).length ≤ d + 1
  | 0, n, h => by rw [Lib.decDigits_one (by simpa using h)]; simp
  | d + 1, n, h => by
    rw [Lib.decDigits]
    split
    · simp
    · rw [List.length_append]
      have := decLen_lt d (n / 10) (by rw [Nat.pow_succ] at h; omega)
      simp only [List.length_singleton]
      omega
theorem numS_dec {n : Nat} (hn : n < 10000000000) : numS (Lib.decDigits n) = ((n : Int), true) := by
  obtain ⟨hc, hv, -⟩ := canon_dec n
  have hlen := decLen_lt 9 n (by omega)
  unfold numS
  rw [if_pos ⟨⟨hc.ne, hlen, hc.lead⟩, List.all_eq_true.2 hc.dig⟩, hv]
/-- Both read the same, up to the greatest number that is taken. -/
theorem num_same (l : List UInt8) (most : Int) (h0 : 0 ≤ most) (h1 : most ≤ 1000000000) : numI l most = if (numS l).2 = true ∧ (numS l).1 ≤ most then ((numS l).1, true) else (0, false) := by
  by_cases hk : (numS l).2 = true ∧ (numS l).1 ≤ most
  · rw [if_pos hk]
    obtain ⟨-, hc, hv⟩ := numS_ok hk.1
    have hd := dec_val l hc
    have hm : (valL l : Int) ≤ most := by rw [← hv]; exact hk.2
    have hp := parse_dec (n := valL l) (by omega)
    rw [hd] at hp
    unfold numI
    rw [hp, hv]
    simp only
    rw [if_pos ⟨by rw [Lib.itoa_nonneg]; exact hd, by omega, hm⟩]
  · rw [if_neg hk]
    unfold numI
    split
    · rename_i n hp
      split
      · rename_i hc
        exfalso
        obtain ⟨a, rfl⟩ : ∃ a : Nat, n = (a : Int) := ⟨n.toNat, by omega⟩
        have hl := hc.1
        rw [Lib.itoa_nonneg] at hl
        have hs := numS_dec (n := a) (by omega)
        rw [hl] at hs
        exact hk (by rw [hs]; exact ⟨rfl, hc.2.2⟩)
      · rfl
    · rfl
end Go.Proofs.YthlcmiediedcfaaDoor
