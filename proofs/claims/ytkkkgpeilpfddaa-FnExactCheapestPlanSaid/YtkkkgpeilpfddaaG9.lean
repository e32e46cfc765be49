/-
All right plans, in their order; rows of rows of numbers. Conditions: numbers are of their kinds; slices can be read.
-/
import Derived.Test.YtkkkgpeilpfddaaG5
import Derived.Test.YtkkkgpeilpfddaaApp2
import Derived.Maps.AppendAt
set_option linter.unusedVariables false
set_option linter.unusedSimpArgs false
set_option maxRecDepth 100000
namespace Go.Proofs.Ytkkkgpeilpfddaa
open Go.RowKit
/-- One cell that holds any value of one cell. -/
def uc (u : Value) : List Value := [u]
theorem uc_len (u : Value) : (uc u).length = 1 := rfl
theorem flat_uc (us : List Value) : us.flatMap uc = us := by
  induction us with
  | nil => rfl
  | cons u us ih => rw [List.flatMap_cons, ih]; rfl
theorem push_vals {ops : Array Oper} {rest : List Oper} {o : Oper} {a : Act} {Q : Exit → Act → World → Prop} {W : World} (hgd : o.guard = none) (s x : Operand)
    (ho : o.op = .call { callee := .builtin .append, args := #[s, x], argTypes := #[76, 76] }) (B : Nat) (xs ys : List Value) (v : Value) (hs : a.eval s = v)
    (hown : Own W B 24 uc 1 v xs) (ad : Addr) (cap : Nat) (hx : a.eval x = .slice (some ad) ys.length cap) (hc : Sl W W.heap.size uc 1 (.slice (some ad) ys.length cap) ys) (h1 : ∀ u ∈ ys, u.oneCell' = true) (hn : xs.length ≤ 1000000) (hm : ys.length ≤ 1000000) (hB : B ≤ W.heap.size)
    (h : ∀ v' w', Own w' B 24 uc 1 v' (xs ++ ys) → W.grownBy w' v.ownBlock → (v' = .slice none 0 0 ↔ v = .slice none 0 0 ∧ ys.length = 0) → (v'.ownBlock = v.ownBlock ∨ v'.ownBlock = some W.heap.size) → wpList Try.prog ops Q rest (a.put o.dst v') w') :
    wpList Try.prog ops Q (o :: rest) a W := by
  obtain ⟨i, hi, hz⟩ := Option.map_eq_some_iff.1 (show (Try.prog.info? 24).map (fun i => (i.zero, i.size, i.bytes)) = some (some (.slice none 0 0), 1, 24) from by kernel_rfl)
  simp only [Prod.mk.injEq] at hz
  obtain ⟨hz0, hz1, hz2⟩ := hz
  refine wpList_append_own_at W hgd s x 76 ho B 24 i (.slice none 0 0) 1 24 Try.underlying76 hi hz0 hz1 hz2 rfl (by omega) v xs.length _ hs hown.out ad ys.length cap (ys.flatMap uc) hx (by rw [flat_uc]; simp) ?_ (by rw [flat_uc]; exact h1) (by unfold maxLen; omega) (by omega) hB ?_
  · intro j u hj
    rw [flat_uc] at hj
    obtain ⟨A, cap', hv, _, _, hcc⟩ := hc.out
    have hjl : j < ys.length := (List.getElem?_eq_some_iff.1 hj).1
    obtain ⟨b, o', hA, _, hcell⟩ := hcc (by omega)
    have : ad = ⟨b, o', none⟩ := by
      injection hv with e1
      rw [hA] at e1
      injection e1
    subst this
    have := hcell j u hj 0 _ rfl
    by_cases hj0 : j = 0
    · subst hj0; simpa [Addr.add] using this
    · simpa [Addr.add, hj0] using this
  · intro v' w' ho' hg hnil hat
    exact h v' w' ⟨by rw [List.length_append, List.flatMap_append]; exact ho'⟩ hg hnil hat
/-- The values us are slices that read as the lists xss, each of them in memory, at a block from L on that is not G. -/
structure Reads (w : World) (L G : Nat) (us : List Value) (xss : List (List Int)) : Prop where
  len : us.length = xss.length
  at_ : ∀ (i : Nat) (u : Value) (xs : List Int), us[i]? = some u → xss[i]? = some xs → Sl w w.heap.size i64c 1 u xs ∧ ∃ ad cap, u = .slice (some ad) xs.length cap ∧ L ≤ ad.block ∧ ad.block < w.heap.size ∧ ad.block ≠ G
theorem Reads.ext {w w' : World} {L G : Nat} {us : List Value} {xss : List (List Int)} (h : Reads w L G us xss) (hb : Below w.heap.size w w') : Reads w' L G us xss :=
  ⟨h.len, fun i u xs hu hx => by
    obtain ⟨h1, ad, cap, h2, h3, h4, h5⟩ := h.at_ i u xs hu hx
    exact ⟨h1.ext hb, ad, cap, h2, h3, Nat.lt_of_lt_of_le h4 hb.size, h5⟩⟩
theorem Sl.grown {w w' : World} {G cap : Nat} {ad : Addr} {xs : List Int} (h : Sl w w.heap.size i64c 1 (.slice (some ad) xs.length cap) xs) (hG : w.grownBy w' (some G)) (hne : ad.block ≠ G) : Sl w' w'.heap.size i64c 1 (.slice (some ad) xs.length cap) xs := by
  obtain ⟨A, cap', hv, hl, hm, hc⟩ := h.out
  refine ⟨A, cap', hv, hl, hm, fun hp => ?_⟩
  obtain ⟨b, o, hA, hb, hcell⟩ := hc hp
  have had : ad = ⟨b, o, none⟩ := by
    injection hv with e1
    rw [hA] at e1
    injection e1
  subst had
  refine ⟨b, o, hA, Nat.lt_of_lt_of_le hb hG.size, fun i x hx j u hu => ?_⟩
  have hblk := hG.block b hb (by intro h; injection h with h; exact hne h)
  exact (World.cell?_of_block (w := w) (a := ⟨b, _, none⟩) hblk).trans (hcell i x hx j u hu)
theorem Reads.grown {w w' : World} {L G G' : Nat} {us : List Value} {xss : List (List Int)} (h : Reads w L G us xss) (hG : w.grownBy w' (some G)) (hG' : G' = G ∨ w.heap.size ≤ G') : Reads w' L G' us xss :=
  ⟨h.len, fun i u xs hu hx => by
    obtain ⟨h1, ad, cap, rfl, h3, h4, h5⟩ := h.at_ i u xs hu hx
    exact ⟨h1.grown hG h5, ad, cap, rfl, h3, Nat.lt_of_lt_of_le h4 hG.size, by omega⟩⟩
theorem Reads.from {w : World} {L L' G G' : Nat} {us : List Value} {xss : List (List Int)} (h : Reads w L G us xss) (hL : L' ≤ L) (hG : G' < L) : Reads w L' G' us xss :=
  ⟨h.len, fun i u xs hu hx => by
    obtain ⟨h1, ad, cap, h2, h3, h4, h5⟩ := h.at_ i u xs hu hx
    exact ⟨h1, ad, cap, h2, by omega, h4, by omega⟩⟩
theorem Reads.nil_ (w : World) (L G : Nat) : Reads w L G [] [] := ⟨rfl, fun i u xs hu _ => by simp at hu⟩
theorem Reads.append {w : World} {L G : Nat} {us vs : List Value} {xss yss : List (List Int)} (h : Reads w L G us xss) (k : Reads w L G vs yss) : Reads w L G (us ++ vs) (xss ++ yss) := by
  refine ⟨by rw [List.length_append, List.length_append, h.len, k.len], fun i u xs hu hx => ?_⟩
  by_cases hi : i < us.length
  · rw [List.getElem?_append_left hi] at hu
    rw [List.getElem?_append_left (by rw [← h.len]; exact hi)] at hx
    exact h.at_ i u xs hu hx
  · rw [List.getElem?_append_right (by omega)] at hu
    rw [List.getElem?_append_right (by rw [← h.len]; omega)] at hx
    rw [← h.len] at hx
    exact k.at_ _ u xs hu hx
theorem Reads.one {w : World} {us : List Value} {xss : List (List Int)} {L G : Nat} (h : Reads w L G us xss) : ∀ u ∈ us, u.oneCell' = true := by
  intro u hu
  obtain ⟨i, hi, rfl⟩ := List.getElem_of_mem hu
  obtain ⟨_, ad, cap, he, _⟩ := h.at_ i us[i] (xss[i]'(by rw [← h.len]; exact hi)) (by rw [List.getElem?_eq_getElem]) (by rw [List.getElem?_eq_getElem])
  rw [he]
  rfl
theorem Reads.single {w : World} {L G cap : Nat} {ad : Addr} {xs : List Int} (h : Sl w w.heap.size i64c 1 (.slice (some ad) xs.length cap) xs) (h1 : L ≤ ad.block) (h2 : ad.block < w.heap.size) (h3 : ad.block ≠ G) : Reads w L G [.slice (some ad) xs.length cap] [xs] := by
  refine ⟨rfl, fun i u ys hu hx => ?_⟩
  match i with
  | 0 =>
    simp at hu hx
    subst hu; subst hx
    exact ⟨h, ad, cap, rfl, h1, h2, h3⟩
  | i + 1 => simp at hu
/-- What comes back is a row of the call's own that reads as a list of lists, each of them in memory of the call's own. -/
def RetLl (w : World) (xss : List (List Int)) (e : Ending) (w' : World) : Prop :=
  ∃ us g cap, e = .returned (.slice (some ⟨g, 0, none⟩) us.length cap) ∧ Own w' w.heap.size 24 uc 1 (.slice (some ⟨g, 0, none⟩) us.length cap) us ∧ Reads w' w.heap.size g us xss ∧ Below w.heap.size w w'
theorem Own.lit1 (W : World) (B g : Nat) (hg : g = W.heap.size) (hB : B ≤ W.heap.size) (u : Value) (E : TypeId) : Own (W.alloc (.cells #[u] E)) B E uc 1 (.slice (some ⟨g, 0, none⟩) 1 1) [u] := by
  subst hg
  exact ⟨World.ownsRow_lit W #[u] 1 hB (by simp [maxLen]) (by simp)⟩
def okRow (g : Gang) (r : Row) : Bool := decide (r.n ≤ g.s)
/-- All right plans that go on from one that has been begun; r rows are left. -/
def allN (rows : List Row) (gangs : List Gang) : Nat → List Int → List (List Int)
  | 0, begun => [begun]
  | r + 1, begun => (List.range gangs.length).flatMap fun g => if okRow (gangs.getD g ⟨0, 0, 0, 0, 0⟩) (rows.getD begun.length ⟨0, 0⟩) = true then allN rows gangs r (begun ++ [(g : Int)]) else []
/-- .. of them those whose next gang is one of the first k. -/
def allTo (rows : List Row) (gangs : List Gang) (r : Nat) (begun : List Int) (k : Nat) : List (List Int) :=
  (List.range k).flatMap fun g => if okRow (gangs.getD g ⟨0, 0, 0, 0, 0⟩) (rows.getD begun.length ⟨0, 0⟩) = true then allN rows gangs r (begun ++ [(g : Int)]) else []
theorem allTo_all (rows : List Row) (gangs : List Gang) (r : Nat) (begun : List Int) : allN rows gangs (r + 1) begun = allTo rows gangs r begun gangs.length := rfl
theorem allTo_yes (rows : List Row) (gangs : List Gang) (r : Nat) (begun : List Int) (k : Nat) (h : okRow (gangs.getD k ⟨0, 0, 0, 0, 0⟩) (rows.getD begun.length ⟨0, 0⟩) = true) : allTo rows gangs r begun (k + 1) = allTo rows gangs r begun k ++ allN rows gangs r (begun ++ [(k : Int)]) := by
  unfold allTo
  rw [List.range_succ, List.flatMap_append, List.flatMap_singleton, if_pos h]
theorem allTo_no (rows : List Row) (gangs : List Gang) (r : Nat) (begun : List Int) (k : Nat) (h : okRow (gangs.getD k ⟨0, 0, 0, 0, 0⟩) (rows.getD begun.length ⟨0, 0⟩) = false) : allTo rows gangs r begun (k + 1) = allTo rows gangs r begun k := by
  unfold allTo
  rw [List.range_succ, List.flatMap_append, List.flatMap_singleton, if_neg (by rw [h]; simp), List.append_nil]
theorem all_len (rows : List Row) (gangs : List Gang) (h4 : gangs.length ≤ 4) : ∀ r begun, (allN rows gangs r begun).length ≤ 4 ^ r
  | 0, begun => by simp [allN]
  | r + 1, begun => by
    have hk : ∀ k, (allTo rows gangs r begun k).length ≤ k * 4 ^ r := by
      intro k
      induction k with
      | zero => simp [allTo]
      | succ k ih =>
        cases h : okRow (gangs.getD k ⟨0, 0, 0, 0, 0⟩) (rows.getD begun.length ⟨0, 0⟩)
        · rw [allTo_no rows gangs r begun k h, Nat.succ_mul]; exact Nat.le_trans ih (Nat.le_add_right _ _)
        · rw [allTo_yes rows gangs r begun k h, List.length_append, Nat.succ_mul]
          have := all_len rows gangs h4 r (begun ++ [(k : Int)])
          generalize 4 ^ r = p at *
          generalize k * p = q at *
          omega
    rw [allTo_all, Nat.pow_succ, Nat.mul_comm]
    exact Nat.le_trans (hk _) (Nat.mul_le_mul_right _ h4)
theorem allTo_len (rows : List Row) (gangs : List Gang) (h4 : gangs.length ≤ 4) (r : Nat) (begun : List Int) (k : Nat) (hk : k ≤ gangs.length) : (allTo rows gangs r begun k).length ≤ 4 ^ (r + 1) := by
  have : (allTo rows gangs r begun k).length ≤ (allTo rows gangs r begun gangs.length).length := by
    unfold allTo
    obtain ⟨d, hd⟩ : ∃ d, gangs.length = k + d := ⟨gangs.length - k, by omega⟩
    rw [hd, List.range_add, List.flatMap_append, List.length_append]
    omega
  exact Nat.le_trans this (by rw [← allTo_all]; exact all_len rows gangs h4 (r + 1) begun)
theorem pow4 {n : Nat} (h : n ≤ 6) : 4 ^ n ≤ 4096 := Nat.le_trans (Nat.pow_le_pow_right (by omega) h) (by decide)
set_option maxHeartbeats 4000000 in
theorem l07All_calls (rows : List Row) (gangs : List Gang) (h6 : rows.length ≤ 6) (h4 : gangs.length ≤ 4) (v u : Value) : ∀ (r : Nat) (begun : List Int) (ad : Addr) (cap : Nat) (w : World), begun.length + r = rows.length →
    Sl w w.heap.size Row.c 2 v rows → Sl w w.heap.size Gang.c 5 u gangs → Sl w w.heap.size i64c 1 (.slice (some ad) begun.length cap) begun →
    Calls Try.prog 52 #[v, u, .slice (some ad) begun.length cap] w (RetLl w (allN rows gangs r begun)) := by
  intro r
  induction r with
  | zero =>
    intro begun ad cap w hr hs ht hz
    have HZ := Lib.hid hz
    obtain ⟨A, capr, rfl, hl, hm, -⟩ := hs.row
    clear hs ht hz
    have hq : ((begun.length : Int) == (rows.length : Int)) = true := by rw [beq_iff_eq]; omega
    have hbl : begun.length ≤ 6 := by omega
    clear hr
    go_enter Try.func52, Try.ntmps52
    go_wp2_with fail
    refine (l00Own_calls begun ad cap _ HZ.out (by omega)).mono ?_
    rintro e w1 ⟨g, cap1, rfl, hO, hb⟩
    go_wp2_with fail
    go_ret
    exact ⟨[_], w1.heap.size, 1, rfl, Own.lit1 _ _ _ rfl hb.size _ _, Reads.single ((hO.sl i64c_len).alloc _) (hO.base g rfl) (by have := hO.lt g rfl; show g < _; simp; omega) (by have := hO.lt g rfl; show g ≠ _; omega), hb.alloc hb.size _⟩
  | succ r ih =>
    intro begun ad cap w hr hs ht hz
    have HS := Lib.hid hs
    have HT := Lib.hid ht
    have HZ := Lib.hid hz
    obtain ⟨A, capr, rfl, hl, hm, hcell⟩ := hs.row
    obtain ⟨A2, cap2, rfl, hl2, hm2, hcell2⟩ := ht.gang
    clear hs ht hz
    have hrl : begun.length < rows.length := by omega
    have hq : ((begun.length : Int) == (rows.length : Int)) = false := by rw [beq_eq_false_iff_ne]; omega
    have HR := Lib.hid hr
    have hO0 := Lib.hid (Own.empty (α := Value) (c := uc) (sz := 1) (E := 24) w w.heap.size w.heap.size rfl (Nat.le_refl _))
    clear hr
    go_enter Try.func52, Try.ntmps52
    go_wp2_with fail
    go_loopw [7, 8] (fun o i wr => ∃ (k : Nat) (us : List Value) (g c : Nat), k ≤ gangs.length ∧ i = .int .i64 k ∧ o = .slice (some ⟨g, 0, none⟩) us.length c ∧ Own wr w.heap.size 24 uc 1 (.slice (some ⟨g, 0, none⟩) us.length c) us ∧ Reads wr w.heap.size g us (allTo rows gangs r begun k) ∧ Below w.heap.size w wr) (fun _ i _ => gangs.length - (intOf i).toNat)
    case atStart => exact ⟨0, [], _, 0, by omega, rfl, rfl, hO0.out, Reads.nil_ _ _ _, (Below.refl _ _).alloc (Nat.le_refl _) _⟩
    case round =>
      obtain ⟨k, us, g, c, hk, rfl, rfl, hO, hR, hb⟩ := hrel
      obtain ⟨wo, rfl⟩ : ∃ wo : World, wo = wr := ⟨_, rfl⟩
      have HO := Lib.hid hO
      have HRD := Lib.hid hR
      clear hO hR
      by_cases hlt : k < gangs.length
      · obtain ⟨b2, o2, rfl, hbb2, hat⟩ := hcell2 k hlt
        obtain ⟨b, o, rfl, hbb, h0, h1⟩ := hcell begun.length hrl
        have HAT := Lib.hid (Gang.at_ext hat hb hbb2)
        have HRA := Lib.hid (Row.at_ext (show Row.at_ w b (o + begun.length * 2) rows[begun.length] from ⟨h0, h1⟩) hb hbb)
        clear hcell hcell2 hat h0 h1
        obtain ⟨q, hq9⟩ : ∃ q, decide (rows[begun.length].n ≤ gangs[k].s) = q := ⟨_, rfl⟩
        have hok := Lib.hid (show okRow (gangs.getD k ⟨0, 0, 0, 0, 0⟩) (rows.getD begun.length ⟨0, 0⟩) = q from by rw [getD_eq _ _ _ hlt, getD_eq _ _ _ hrl]; exact hq9)
        have HQ := Lib.hid hq9
        have qm := Lib.hid (fun n => Calls.quiet_of (n := n) (l07May_b b2 (o2 + k * 5) b (o + begun.length * 2) gangs[k] rows[begun.length] q HQ.out (wo.drewN n) (Gang.at_drwN HAT.out n) (Row.at_drwN HRA.out n)))
        clear hq9
        cases q
        · have hst := Lib.hid (allTo_no rows gangs r begun k hok.out)
          go_wp2_with fail
          go_quiet (first | (go_at_call 85; with_reducible exact qm.out _))
          go_wp2_with fail
          go_roundw
          case rel => exact ⟨k + 1, us, g, c, by omega, by go_num, rfl, HO.out.ext (ext_drewN (Below.refl _ _) _), by rw [hst.out]; exact HRD.out.ext (ext_drewN (Below.refl _ _) _), ext_drewN hb _⟩
          case measure => first | (simp [intOf]; done) | (simp [intOf]; omega)
        · have hst := Lib.hid (allTo_yes rows gangs r begun k hok.out)
          go_wp2_with fail
          go_quiet (first | (go_at_call 85; with_reducible exact qm.out _))
          go_wp2_with fail
          have hsz := Lib.hid hb.size
          have hk6 := Lib.hid (all_len rows gangs h4 r (begun ++ [(k : Int)]))
          have hk7 := Lib.hid (allTo_len rows gangs h4 r begun k hk)
          refine (l00Own_calls begun ad cap _ (HZ.out.ext (ext_drewN hb _)) (by omega)).mono ?_
          rintro e w1 ⟨g1, c1, rfl, hO1, hb1⟩
          have hb2 := Lib.hid (ext_trans (ext_drewN hb _) hb1)
          have hs1 := hb1.size
          go_wp2_with (at_builtin; refine push_i64 rfl _ _ rfl _ begun _ rfl (hO1.alloc _) ⟨_, 0, none⟩ _ rfl ((Bk.new _ _ _ _ rfl).cell 0 _ rfl) (by omega) (Nat.le_trans hs1 (by simp)) ?_)
          intro v3 w3 hO3 hG3
          have hb13 := (hb1.alloc hs1 _).grown hG3 (Nat.le_trans hs1 (by simp)) (fun j hj => hO1.base j hj)
          have HO3 := Lib.hid ((HO.out.ext (ext_drewN (Below.refl _ _) _)).ext hb13)
          have HR3 := Lib.hid ((HRD.out.ext (ext_drewN (Below.refl _ _) _)).ext hb13)
          have hb3 := Lib.hid (ext_trans (ext_drewN hb _) hb13)
          obtain ⟨next, hnx⟩ : ∃ x : List Int, x = begun ++ [(k : Int)] := ⟨_, rfl⟩
          rw [← hnx] at hO3 hst hk6
          have hlen3 := Lib.hid (show next.length + r = rows.length from by have := HR.out; rw [hnx]; simp; omega)
          have hpos := Lib.hid (show 0 < next.length from by rw [hnx]; simp)
          clear hnx
          obtain ⟨g3, c3, rfl, _, _, _, _, _, _⟩ := hO3.room i64c_len hpos.out
          have hO3' := Lib.hid (hO3.sl i64c_len)
          clear hO1 hb1 hs1 hG3 hb13 hO3 hb2
          go_wp2_with fail
          refine (ih next ⟨g3, 0, none⟩ c3 _ hlen3.out (HS.out.ext hb3.out) (HT.out.ext hb3.out) hO3'.out).mono ?_
          rintro e w4 ⟨us2, g4, c4, rfl, hO4, hR4, hb4⟩
          have HO4 := Lib.hid (HO3.out.ext hb4)
          have HR4 := Lib.hid (HR3.out.ext hb4)
          have hl1 := Lib.hid (show us.length ≤ 1000000 from by
            have h1 := HRD.out.len
            have h2 := hk7.out
            have h3 := pow4 (n := r + 1) (by have := HR.out; omega)
            omega)
          have hl2 := Lib.hid (show us2.length ≤ 1000000 from by
            have h1 := hR4.len
            have h2 := hk6.out
            have h3 := pow4 (n := r) (by have := HR.out; omega)
            omega)
          have hsz4 := Lib.hid (Nat.le_trans hb3.out.size hb4.size)
          have hgl := Lib.hid (HO3.out.lt g rfl)
          have hb5 := Lib.hid (ext_trans hb3.out hb4)
          have hO4 := Lib.hid hO4
          have hR4 := Lib.hid (hR4.from (L' := w.heap.size) (G' := g) hb3.out.size hgl.out)
          clear hb4
          go_wp2_with (at_builtin; refine push_vals rfl _ _ rfl w.heap.size us us2 _ rfl HO4.out ⟨g4, 0, none⟩ c4 rfl (hO4.out.sl uc_len) hR4.out.one hl1.out hl2.out hsz4.out ?_)
          intro v5 w5 hO5 hG5 hnil hat5
          obtain ⟨g5, c5, rfl⟩ := hO5.nonnil (by intro h; first | exact hnil h | (have := hnil.1 h; simp at this))
          have hB6 := Lib.hid (hb5.out.grown hG5 hsz4.out (fun j hj => HO4.out.base j hj))
          have hG6 : w4.grownBy w5 (some g) := by simpa [Value.ownBlock] using hG5
          have hg5 : g5 = g ∨ w4.heap.size ≤ g5 := by
            simp [Value.ownBlock] at hat5
            omega
          have hR6 := Lib.hid ((HR4.out.append hR4.out).grown hG6 hg5)
          rw [← hst.out] at hR6
          clear hG5 hG6 hat5 hg5 hnil
          have hO5 := Lib.hid hO5
          go_wp2_with fail
          go_roundw
          case rel => exact ⟨k + 1, us ++ us2, g5, c5, by omega, by go_num, rfl, hO5.out, hR6.out, hB6.out⟩
          case measure => first | (simp [intOf]; done) | (simp [intOf]; omega)
      · obtain rfl : k = gangs.length := by omega
        go_wp2_with fail
        go_ret
        exact ⟨us, g, c, rfl, HO.out, HRD.out, hb⟩
end Go.Proofs.Ytkkkgpeilpfddaa
