/-
Texts of rows, of both. Conditions: the library's table stands in memory; numbers are of their kinds; slices can be read.
-/
import Derived.Shelf.Strings.OnBuilder
import Derived.Test.YthlcmiediedcfaaDoorTX1
import Derived.Test.YthlcmiediedcfaaDoorG1
import Derived.Test.YthlcmiediedcfaaDoorAP
set_option linter.unusedVariables false
set_option linter.unusedSimpArgs false
set_option maxRecDepth 100000
namespace Go.Proofs.YthlcmiediedcfaaDoor
open Go.RowKit
section
open Go.Shelf
shelf_lay Lays.n156 Nm 156 at Tryd as Tryd.laysJoin
theorem joinExtra : Builder.Extra Tryd.prog Tryd.laysJoin_ren where
  sizeBuilder := by kernel_rfl
  liesBuilder := by kernel_rfl
  t5 := Tryd.underlying5
  a5 := Tryd.isAgg5
  z5 := Tryd.sizeOf5
  v5 := Tryd.zeroValue5
  infoByte := by kernel_rfl
  cellsByte := by kernel_rfl
  sizeByte := by kernel_rfl
  neB5 := by decide
end
def strc (l : List UInt8) : List Value := [.string ⟨l.toArray⟩]
theorem strc_len (l : List UInt8) : (strc l).length = 1 := rfl
theorem appStr : AppK strc 1 16 75 9 := AppK.mk' (.string ⟨#[]⟩) (by omega) strc_len (by intro x u hu; simp [strc] at hu; subst hu; rfl) Tryd.underlying75 (by kernel_rfl) rfl
theorem bk_str1 {w : World} {g : Nat} {T : TypeId} {x : List UInt8} (h : Bk w g T #[.string ⟨x.toArray⟩]) : Sl w w.heap.size strc 1 (.slice (some ⟨g, 0, none⟩) 1 1) [x] := by
  refine ⟨_, 1, rfl, Nat.le_refl _, by simp, fun _ => ⟨g, 0, rfl, h.lt, fun i y hy j u hu => ?_⟩⟩
  match i, hy with
  | 0, hy =>
    simp at hy
    subst hy
    match j, hu with
    | 0, hu => simp [strc] at hu; subst hu; exact h.cell 0 _ rfl
    | j + 1, hu => simp [strc] at hu
  | i + 1, hy => simp at hy
theorem join_snoc (xs : List (List UInt8)) (x sep : List UInt8) : Lib.join (xs ++ [x]) sep = if xs = [] then x else Lib.join xs sep ++ sep ++ x := by
  cases xs with
  | nil => rw [List.nil_append, Lib.join_one, if_pos rfl]
  | cons y ys =>
    rw [if_neg (by simp), List.cons_append, Lib.join_cons, Lib.join_cons]
    simp [Lib.joinTail]
def joinN {α : Type} (f : α → List UInt8) (xs : List α) (k : Nat) : List UInt8 := Lib.join ((xs.take k).map f) [32]
theorem joinN_succ {α : Type} (f : α → List UInt8) (xs : List α) (k : Nat) (hk : k < xs.length) : joinN f xs (k + 1) = if k = 0 then f xs[k] else joinN f xs k ++ [32] ++ f xs[k] := by
  unfold joinN
  rw [List.take_succ_eq_append_getElem hk, List.map_append, List.map_singleton, join_snoc]
  by_cases h0 : k = 0
  · subst h0; simp
  · rw [if_neg h0, if_neg]
    intro h
    have := congrArg List.length h
    rw [List.length_map, List.length_take, List.length_nil] at this
    omega
theorem joinN_len {α : Type} (f : α → List UInt8) (xs : List α) (m : Nat) (hf : ∀ x ∈ xs, (f x).length ≤ m) : ∀ k, k ≤ xs.length → (joinN f xs k).length ≤ (m + 1) * k
  | 0, _ => by simp [joinN, Lib.join_nil]
  | k + 1, hk => by
    have ih := joinN_len f xs m hf k (by omega)
    rw [joinN_succ f xs k (by omega)]
    have hw := hf xs[k] (List.getElem_mem (by omega))
    rw [Nat.mul_succ]
    split
    · omega
    · simp only [List.length_append, List.length_singleton]
      omega
theorem joinN_all {α : Type} (f : α → List UInt8) (xs : List α) : joinN f xs xs.length = Lib.join (xs.map f) [32] := by rw [joinN, List.take_length]
theorem joinN_zero {α : Type} (f : α → List UInt8) (xs : List α) : joinN f xs 0 = [] := by simp [joinN, Lib.join_nil]
theorem joinS_calls (ws : List (List UInt8)) (v : Value) (sep : List UInt8) (W : World) (hs : Sl W W.heap.size strc 1 v ws) (hn : ws.length ≤ 1000) (hl : (Lib.join ws sep).length ≤ 1000000) :
    Calls Tryd.prog 44 #[v, .string ⟨sep.toArray⟩] W fun e w' => e = .returned (str (Lib.join ws sep)) ∧ Below W.heap.size W w' := by
  obtain ⟨A, cap, rfl, hle, hm, hc⟩ := hs.out
  by_cases h0 : ws.length = 0
  · have : ws = [] := List.eq_nil_of_length_eq_zero h0
    subst this
    refine (Any.strings_Join_none Tryd.laysJoin joinExtra A cap ⟨sep.toArray⟩ W).mono ?_
    rintro e w' ⟨rfl, rfl⟩
    exact ⟨rfl, Below.refl _ _⟩
  · obtain ⟨b, o, rfl, hb, hcell⟩ := hc (by omega)
    have e : (ws.map (fun l => (⟨l.toArray⟩ : ByteArray))).map (·.data.toList) = ws := by
      rw [List.map_map, show ((fun x : ByteArray => x.data.toList) ∘ fun l : List UInt8 => (⟨l.toArray⟩ : ByteArray)) = id from by funext l; rfl, List.map_id]
    have q := Any.strings_Join Tryd.laysJoin joinExtra b o cap (ws.map (fun l => (⟨l.toArray⟩ : ByteArray))) ⟨sep.toArray⟩ W (fun j x hj => by
      rw [List.getElem?_map, Option.map_eq_some_iff] at hj
      obtain ⟨l, hl, rfl⟩ := hj
      have := hcell j l hl 0 _ rfl
      simpa using this) hb (by simp; omega) (by simpa using hle) (by rw [e]; simp only; omega)
    rw [e] at q
    simp only [List.length_map] at q
    exact q
def wordR (r : Row) : List UInt8 := Lib.decDigits r.n.toNat ++ [58] ++ Lib.decDigits r.w.toNat
def rowsT (xs : List Row) : List UInt8 := if vRowsB xs = true then Lib.join (xs.map wordR) [32] else []
def rowsN (xs : List Row) (k : Nat) : List UInt8 := Lib.join ((xs.take k).map wordR) [32]
theorem rowsN_succ (xs : List Row) (k : Nat) (hk : k < xs.length) : rowsN xs (k + 1) = if k = 0 then wordR xs[k] else rowsN xs k ++ [32] ++ wordR xs[k] := by
  unfold rowsN
  rw [List.take_succ_eq_append_getElem hk, List.map_append, List.map_singleton, join_snoc]
  by_cases h0 : k = 0
  · subst h0; simp
  · rw [if_neg h0, if_neg]
    intro h
    have := congrArg List.length h
    rw [List.length_map, List.length_take, List.length_nil] at this
    omega
theorem wordR_len {a b : Nat} (ha : a ≤ 10000) (hb : b ≤ 100000) : (wordR ⟨(a : Int), (b : Int)⟩).length ≤ 41 := by
  unfold wordR
  have h1 := decLen20 (n := a) (by omega)
  have h2 := decLen20 (n := b) (by omega)
  simp only [List.length_append, Int.toNat_natCast, List.length_singleton]
  omega
theorem vRow_nat {xs : List Row} (h : vRowsB xs = true) : xs.length ≤ 6 ∧ ∀ k (hk : k < xs.length), ∃ a b : Nat, xs[k] = ⟨(a : Int), (b : Int)⟩ ∧ a ≤ 9 ∧ 1 ≤ b ∧ b ≤ 2000 := by
  simp only [vRowsB, Bool.and_eq_true, decide_eq_true_eq, List.all_eq_true] at h
  refine ⟨h.1, fun k hk => ?_⟩
  have := h.2 xs[k] (List.getElem_mem hk)
  generalize xs[k] = q at *
  obtain ⟨n, w⟩ := q
  simp only [vRowB, Bool.and_eq_true, inB_true] at this
  exact ⟨n.toNat, w.toNat, by congr 1 <;> omega, by omega, by omega, by omega⟩
theorem rowsN_len {xs : List Row} (h : vRowsB xs = true) : ∀ k, k ≤ xs.length → (rowsN xs k).length ≤ 42 * k
  | 0, _ => by simp [rowsN, Lib.join_nil]
  | k + 1, hk => by
    have ih := rowsN_len h k (by omega)
    rw [rowsN_succ xs k (by omega)]
    obtain ⟨a, b, e, h1, h2, h3⟩ := (vRow_nat h).2 k (by omega)
    have hw := wordR_len (a := a) (b := b) (by omega) (by omega)
    rw [e]
    split
    · omega
    · simp only [List.length_append, List.length_singleton]
      omega
abbrev RwS (b o : Nat) (q : Row) (w' : World) : Prop := w'.cell? ⟨b, o, none⟩ = some (.int .i8 q.n) ∧ w'.cell? ⟨b, o + 1, none⟩ = some (.int .i16 q.w)
theorem RwS.at_ {w w' : World} {b o : Nat} {q : Row} (h : RwS b o q w) (he : w'.heap = w.heap) : RwS b o q w' := by
  have hc : ∀ p, w'.cell? p = w.cell? p := fun p => by simp only [World.cell?, he]
  exact ⟨(hc _).trans h.1, (hc _).trans h.2⟩
theorem RwS.ext2 {w w' : World} {b o : Nat} {q : Row} (h : RwS b o q w) (hb : Below w.heap.size w w') (hlt : b < w.heap.size) : RwS b o q w' := ⟨(hb.cell (p := ⟨b, _, none⟩) hlt).trans h.1, (hb.cell (p := ⟨b, _, none⟩) hlt).trans h.2⟩
theorem RwS.ext {w w1 w' : World} {b o : Nat} {q : Row} (h : ∀ w2 : World, w2.heap = w.heap → RwS b o q w2) (hb : Below w1.heap.size w1 w') (he : w1.heap = w.heap) (hlt : b < w.heap.size) : RwS b o q w' := (h w1 he).ext2 hb (by rw [he]; exact hlt)
theorem RwS.grown {w w' : World} {b o : Nat} {q : Row} {vb : Option Nat} (h : RwS b o q w) (hG : w.grownBy w' vb) (hne : vb = some b → False) (hlt : b < w.heap.size) : RwS b o q w' := by
  have hk : w'.heap[b]? = w.heap[b]? := hG.block b hlt (fun e => hne e.symm)
  exact ⟨by simp only [World.cell?, hk]; exact h.1, by simp only [World.cell?, hk]; exact h.2⟩
theorem belowAt {B : Nat} {a w w' : World} (h : Below B a w) (he : w'.heap = w.heap) (h1 : w'.os = w.os) (h2 : w'.tape = w.tape) (h3 : w'.output = w.output) : Below B a w' := ⟨h1.trans h.os, h2.trans h.tape, h3.trans h.output, by rw [he]; exact h.size, fun k hk => by rw [he]; exact h.block k hk⟩
theorem extAt {a w w1 w2 : World} (k : Below w1.heap.size w1 w2) (h : Below a.heap.size a w) (he : w1.heap = w.heap) (h1 : w1.os = w.os) (h2 : w1.tape = w.tape) (h3 : w1.output = w.output) : Below a.heap.size a w2 := ext_trans (belowAt h he h1 h2 h3) k
theorem Own.extAt {α : Type} {w w1 w2 : World} {B : Nat} {E : TypeId} {c : α → List Value} {sz : Nat} {v : Value} {xs : List α} (k : Below w1.heap.size w1 w2) (h : Own w B E c sz v xs) (he : w1.heap = w.heap) : Own w2 B E c sz v xs := (show Own w1 B E c sz v xs from h.keep (fun j hj => by rw [he])).ext k
theorem sizeAt {w w1 w2 : World} (k : Below w1.heap.size w1 w2) (he : w1.heap = w.heap) : w.heap.size ≤ w2.heap.size := by have := k.size; rwa [he] at this
theorem TabP.extAt {w w1 w2 : World} (k : Below w1.heap.size w1 w2) (h : TabP w) (he : w1.heap = w.heap) (h1 : w1.os = w.os) (h2 : w1.tape = w.tape) (h3 : w1.output = w.output) : TabP w2 := (h.ext (belowAt (Below.refl _ _) he h1 h2 h3)).ext k
/-- Concatenation, for the walk. -/
theorem cat_of {a b c : List UInt8} (h : a ++ b = c) : (⟨a.toArray⟩ : ByteArray) ++ ⟨b.toArray⟩ = ⟨c.toArray⟩ := by rw [← h]; exact str_cat a b
set_option maxHeartbeats 1000000 in
theorem l07Text_calls (xs : List Row) (hv : vRowsB xs = true) (v : Value) (W : World) (hs : Sl W W.heap.size Row.c 2 v xs) :
    Calls Tryd.prog 40 #[v] W fun e w' => e = .returned (str (Lib.join (xs.map wordR) [32])) ∧ Below W.heap.size W w' := by
  obtain ⟨A, cap, rfl, hl, hm, hcell0⟩ := hs.row
  have hcell := Lib.hid hcell0
  have hlen := Lib.hid (rowsN_len hv)
  have hnat := Lib.hid (vRow_nat hv).2
  have h6 := (vRow_nat hv).1
  have hfin := Lib.hid (show rowsN xs xs.length = Lib.join (xs.map wordR) [32] from by rw [rowsN, List.take_length])
  clear hs hcell0 hv
  go_enter Tryd.func40, Tryd.ntmps40
  go_wp2_with fail
  go_loopw [3, 4] (fun t i wr => ∃ k : Nat, k ≤ xs.length ∧ i = .int .i64 (k : Int) ∧ t = .string ⟨(rowsN xs k).toArray⟩ ∧ Below W.heap.size W wr) (fun _ i _ => xs.length - (intOf i).toNat)
  case atStart => exact ⟨0, by omega, rfl, rfl, Below.refl _ _⟩
  case round =>
    obtain ⟨k, hk, rfl, rfl, hb⟩ := hrel
    have HBr := Lib.hid hb
    clear hb
    by_cases hlt : k < xs.length
    · obtain ⟨bb, oo, rfl, hbb, c0, c1⟩ := hcell.out k hlt
      obtain ⟨a, b, he, ha, hb1, hb2⟩ := hnat.out k hlt
      have hsucc := Lib.hid (rowsN_succ xs k hlt)
      have hJl := hlen.out k hk
      have hwl := wordR_len (a := a) (b := b) (by omega) (by omega)
      rw [he] at c0 c1 hsucc
      replace c0 := (HBr.out.cell (p := ⟨bb, _, none⟩) hbb).trans c0
      replace c1 := (HBr.out.cell (p := ⟨bb, _, none⟩) hbb).trans c1
      have HS := Lib.hid (fun (w' : World) (h : w'.heap = wr.heap) => RwS.at_ (q := ⟨(a : Int), (b : Int)⟩) ⟨c0, c1⟩ h)
      have qa := Lib.hid (fun W' => sDec_calls (a + 1) a (by omega) (by omega) W')
      have qb := Lib.hid (fun W' => sDec_calls (b + 1) b (by omega) (by omega) W')
      have hda := decLen20 (n := a) (by omega)
      have hdb := decLen20 (n := b) (by omega)
      obtain ⟨A2, hA2⟩ : ∃ A2, wordR ⟨(a : Int), (b : Int)⟩ = A2 := ⟨_, rfl⟩
      have hA2' : Lib.decDigits a ++ [58] ++ Lib.decDigits b = A2 := by rw [← hA2]; simp [wordR]
      rw [hA2] at hsucc hwl
      generalize Lib.decDigits a = D1 at *
      generalize Lib.decDigits b = D2 at *
      obtain ⟨A1, hA1⟩ : ∃ A1, D1 ++ [58] = A1 := ⟨_, rfl⟩
      rw [hA1] at hA2'
      have hAl : A1.length ≤ 21 := by rw [← hA1]; simp; omega
      obtain ⟨J, hJ⟩ : ∃ J, rowsN xs k = J := ⟨_, rfl⟩
      rw [hJ] at hsucc hJl
      have f1 := cat_of hA1
      have f2 := cat_of hA2'
      have l1 : (9223372036854775807 < D1.length + 1) = False := by simp; omega
      have l2 : (9223372036854775807 < A1.length + D2.length) = False := by simp; omega
      have wa : IntKind.i64.wrap (a : Int) = (a : Int) := by rw [IntKind.wrap_i64]; omega
      have wb : IntKind.i64.wrap (b : Int) = (b : Int) := by rw [IntKind.wrap_i64]; omega
      have hkd : decide ((k : Int) < (xs.length : Int)) = true := by rw [decide_eq_true_eq]; omega
      have hk0 : (0 : Int) ≤ (k : Int) := by omega
      have hk1 : (k : Int) < (xs.length : Int) := by omega
      rw [hJ]
      clear hA1 hA2' hA2 he
      by_cases h0 : k = 0
      · obtain ⟨J3, hJ3⟩ : ∃ J3, J ++ A2 = J3 := ⟨_, rfl⟩
        have hN := Lib.hid (show rowsN xs (k + 1) = J3 from by
          rw [hsucc.out, if_pos h0, ← hJ3, ← hJ, h0]; simp [rowsN, Lib.join_nil])
        have f3 := cat_of hJ3
        have l3 : (9223372036854775807 < J.length + A2.length) = False := by simp; omega
        have hz : decide ((0 : Int) < (k : Int)) = false := by rw [decide_eq_false_iff_not]; omega
        have hz2 : decide (0 < k) = false := by rw [decide_eq_false_iff_not]; omega
        clear hJ3 hJ hsucc h0
        go_wp2_with fail
        refine wp_region_held_drew (S := (RwS bb (oo + k * 2) ⟨(a : Int), (b : Int)⟩)) (by kernel_rfl) ?r2_hS0 (fun hHeld => ?r2_rest)
        case r2_hS0 => (try dsimp only); first | assumption | exact HS.out _ rfl | exact HS7.out | exact HS8.out
        refine wpAnyH_take (i := 0) (v := ?r2_vv0) (by (simp only [List.getElem?_toArray, List.getElem?_cons_succ, List.getElem?_cons_zero]; rfl)) (by kernel_rfl) (by kernel_rfl) (by kernel_rfl) (by exact fun _ _ _ h => h) (Or.inl ⟨by rfl, ?r2_hy0⟩) (by assumption) ?r2_rest0
        case r2_hy0 => intro w hSw; (try dsimp only at hSw); (go_simp <;> (with_reducible rfl))
        try simp only [Act.put, List.setIfInBounds_toArray, List.set_cons_zero, List.set_cons_succ]
        refine wpAnyH_take (i := 1) (v := ?r2_vv1) (by (simp only [List.getElem?_toArray, List.getElem?_cons_succ, List.getElem?_cons_zero]; rfl)) (by kernel_rfl) (by kernel_rfl) (by kernel_rfl) (by exact fun _ _ _ h => h) (Or.inl ⟨by rfl, ?r2_hy1⟩) (by assumption) ?r2_rest1
        case r2_hy1 => intro w hSw; (try dsimp only at hSw); (go_simp <;> (with_reducible rfl))
        try simp only [Act.put, List.setIfInBounds_toArray, List.set_cons_zero, List.set_cons_succ]
        refine wpAnyH_take (i := 2) (v := ?r2_vv2) (by (simp only [List.getElem?_toArray, List.getElem?_cons_succ, List.getElem?_cons_zero]; rfl)) (by kernel_rfl) (by kernel_rfl) (by kernel_rfl) (by exact fun _ _ _ h => h) (Or.inl ⟨by rfl, ?r2_hy2⟩) (by assumption) ?r2_rest2
        case r2_hy2 => intro w hSw; (try dsimp only at hSw); (go_simp <;> (with_reducible rfl))
        try simp only [Act.put, List.setIfInBounds_toArray, List.set_cons_zero, List.set_cons_succ]
        refine wpAnyH_take (i := 3) (v := ?r2_vv3) (by (simp only [List.getElem?_toArray, List.getElem?_cons_succ, List.getElem?_cons_zero]; rfl)) (by kernel_rfl) (by kernel_rfl) (by kernel_rfl) (by exact fun _ _ _ h => h) (Or.inl ⟨by rfl, ?r2_hy3⟩) (by assumption) ?r2_rest3
        case r2_hy3 => intro w hSw; (try dsimp only at hSw); (go_simp <;> (with_reducible rfl))
        try simp only [Act.put, List.setIfInBounds_toArray, List.set_cons_zero, List.set_cons_succ]
        refine wpAnyH_take (i := 4) (v := ?r2_vv4) (by (simp only [List.getElem?_toArray, List.getElem?_cons_succ, List.getElem?_cons_zero]; rfl)) (by kernel_rfl) (by kernel_rfl) (by kernel_rfl) (by exact fun _ _ _ h => h) (Or.inl ⟨by rfl, ?r2_hy4⟩) (by assumption) ?r2_rest4
        case r2_hy4 => intro w hSw; (try dsimp only at hSw); (go_simp <;> (with_reducible rfl))
        try simp only [Act.put, List.setIfInBounds_toArray, List.set_cons_zero, List.set_cons_succ]
        refine wpAnyH_take (i := 5) (v := ?r2_vv5) (by (simp only [List.getElem?_toArray, List.getElem?_cons_succ, List.getElem?_cons_zero]; rfl)) (by kernel_rfl) (by kernel_rfl) (by kernel_rfl) (by exact fun _ _ _ h => h) (Or.inl ⟨by rfl, ?r2_hy5⟩) (by assumption) ?r2_rest5
        case r2_hy5 => intro w hSw; (try dsimp only at hSw); (go_simp <;> (with_reducible rfl))
        try simp only [Act.put, List.setIfInBounds_toArray, List.set_cons_zero, List.set_cons_succ]
        refine wpAnyH_take (i := 6) (v := ?r2_vv6) (by (simp only [List.getElem?_toArray, List.getElem?_cons_succ, List.getElem?_cons_zero]; rfl)) (by kernel_rfl) (by kernel_rfl) (by kernel_rfl) (by exact fun _ _ _ h => h) (Or.inl ⟨by rfl, ?r2_hy6⟩) (by assumption) ?r2_rest6
        case r2_hy6 => intro w hSw; (try dsimp only at hSw); (go_simp <;> (with_reducible rfl))
        try simp only [Act.put, List.setIfInBounds_toArray, List.set_cons_zero, List.set_cons_succ]
        refine wpAnyH_take (i := 9) (v := ?r2_vv9) (by (simp only [List.getElem?_toArray, List.getElem?_cons_succ, List.getElem?_cons_zero]; rfl)) (by kernel_rfl) (by kernel_rfl) (by kernel_rfl) (by exact fun _ _ _ h => h) (Or.inl ⟨by rfl, ?r2_hy9⟩) (by assumption) ?r2_rest9
        case r2_hy9 => intro w hSw; (try dsimp only at hSw); (go_simp <;> (with_reducible rfl))
        try simp only [Act.put, List.setIfInBounds_toArray, List.set_cons_zero, List.set_cons_succ]
        refine wpAnyH_take (i := 10) (v := ?r2_vv10) (by (simp only [List.getElem?_toArray, List.getElem?_cons_succ, List.getElem?_cons_zero]; rfl)) (by kernel_rfl) (by kernel_rfl) (by kernel_rfl) (by exact fun _ _ _ h => h) (Or.inl ⟨by rfl, ?r2_hy10⟩) (by assumption) ?r2_rest10
        case r2_hy10 => intro w hSw; (try dsimp only at hSw); (go_simp <;> (with_reducible rfl))
        try simp only [Act.put, List.setIfInBounds_toArray, List.set_cons_zero, List.set_cons_succ]
        refine wpAnyH_take (i := 11) (v := ?r2_vv11) (by (simp only [List.getElem?_toArray, List.getElem?_cons_succ, List.getElem?_cons_zero]; rfl)) (by kernel_rfl) (by kernel_rfl) (by kernel_rfl) (by exact fun _ _ _ h => h) (Or.inl ⟨by rfl, ?r2_hy11⟩) (by assumption) ?r2_rest11
        case r2_hy11 => intro w hSw; (try dsimp only at hSw); (go_simp <;> (with_reducible rfl))
        try simp only [Act.put, List.setIfInBounds_toArray, List.set_cons_zero, List.set_cons_succ]
        refine wpAnyH_take (i := 12) (v := ?r2_vv12) (by (simp only [List.getElem?_toArray, List.getElem?_cons_succ, List.getElem?_cons_zero]; rfl)) (by kernel_rfl) (by kernel_rfl) (by kernel_rfl) (by exact fun _ _ _ h => h) (Or.inl ⟨by rfl, ?r2_hy12⟩) (by assumption) ?r2_rest12
        case r2_hy12 => intro w hSw; (try dsimp only at hSw); (go_simp <;> (with_reducible rfl))
        try simp only [Act.put, List.setIfInBounds_toArray, List.set_cons_zero, List.set_cons_succ]
        refine wpAnyH_take (i := 13) (v := ?r2_vv13) (by (simp only [List.getElem?_toArray, List.getElem?_cons_succ, List.getElem?_cons_zero]; rfl)) (by kernel_rfl) (by kernel_rfl) (by kernel_rfl) (by exact fun _ _ _ h => h) (Or.inl ⟨by rfl, ?r2_hy13⟩) (by assumption) ?r2_rest13
        case r2_hy13 => intro w hSw; (try dsimp only at hSw); (go_simp <;> (with_reducible rfl))
        try simp only [Act.put, List.setIfInBounds_toArray, List.set_cons_zero, List.set_cons_succ]
        refine wpAnyH_take (i := 14) (v := ?r2_vv14) (by (simp only [List.getElem?_toArray, List.getElem?_cons_succ, List.getElem?_cons_zero]; rfl)) (by kernel_rfl) (by kernel_rfl) (by kernel_rfl) (by exact fun _ _ _ h => h) (Or.inl ⟨by rfl, ?r2_hy14⟩) (by assumption) ?r2_rest14
        case r2_hy14 => intro w hSw; (try dsimp only at hSw); (go_simp <;> (with_reducible rfl))
        try simp only [Act.put, List.setIfInBounds_toArray, List.set_cons_zero, List.set_cons_succ]
        refine wpAnyH_ready (rs := [7]) (by kernel_rfl) (by simp) ?_
        refine AllReadyH.cons (by (simp only [List.getElem?_toArray, List.getElem?_cons_succ, List.getElem?_cons_zero]; rfl)) (fun K hK => ?_) AllReadyH.nil
        go_simp
        (go_at_call 81; with_reducible refine (qa.out _).mono ?_; rintro e w7 ⟨rfl, hb7⟩; have HB7 := Lib.hid (extAt hb7 HBr.out rfl rfl rfl rfl); have HS7 := Lib.hid (RwS.ext HS.out hb7 rfl (Nat.lt_of_lt_of_le hbb HBr.out.size)))
        try go_wp2_with fail
        refine hK.out _ _ ?r2_hS7 (fun hHeld => ?r2_r7)
        case r2_hS7 => (try dsimp only); first | assumption | exact HS.out _ rfl | exact HS7.out | exact HS8.out
        clear hK K
        try simp only [Act.put, List.setIfInBounds_toArray, List.set_cons_zero, List.set_cons_succ]
        refine wpAnyH_take (i := 8) (v := ?r2_vv8) (by (simp only [List.getElem?_toArray, List.getElem?_cons_succ, List.getElem?_cons_zero]; rfl)) (by kernel_rfl) (by kernel_rfl) (by kernel_rfl) (by exact fun _ _ _ h => h) (Or.inl ⟨by rfl, ?r2_hy8⟩) (by assumption) ?r2_rest8
        case r2_hy8 => intro w hSw; (try dsimp only at hSw); (go_simp <;> (with_reducible rfl))
        try simp only [Act.put, List.setIfInBounds_toArray, List.set_cons_zero, List.set_cons_succ]
        refine wpAnyH_ready (rs := [15]) (by kernel_rfl) (by simp) ?_
        refine AllReadyH.cons (by (simp only [List.getElem?_toArray, List.getElem?_cons_succ, List.getElem?_cons_zero]; rfl)) (fun K hK => ?_) AllReadyH.nil
        go_simp
        (go_at_call 81; with_reducible refine (qb.out _).mono ?_; rintro e w8 ⟨rfl, hb8⟩; have HB8 := Lib.hid (ext_trans HB7.out hb8); have HS8 := Lib.hid (RwS.ext2 HS7.out hb8 (Nat.lt_of_lt_of_le hbb HB7.out.size)))
        try go_wp2_with fail
        refine hK.out _ _ ?r2_hS15 (fun hHeld => ?r2_r15)
        case r2_hS15 => (try dsimp only); first | assumption | exact HS.out _ rfl | exact HS7.out | exact HS8.out
        clear hK K
        try simp only [Act.put, List.setIfInBounds_toArray, List.set_cons_zero, List.set_cons_succ]
        refine wpAnyH_take (i := 16) (v := ?r2_vv16) (by (simp only [List.getElem?_toArray, List.getElem?_cons_succ, List.getElem?_cons_zero]; rfl)) (by kernel_rfl) (by kernel_rfl) (by kernel_rfl) (by exact fun _ _ _ h => h) (Or.inl ⟨by rfl, ?r2_hy16⟩) (by assumption) ?r2_rest16
        case r2_hy16 => intro w hSw; (try dsimp only at hSw); (go_simp <;> (with_reducible rfl))
        try simp only [Act.put, List.setIfInBounds_toArray, List.set_cons_zero, List.set_cons_succ]
        refine wpAnyH_take (i := 17) (v := ?r2_vv17) (by (simp only [List.getElem?_toArray, List.getElem?_cons_succ, List.getElem?_cons_zero]; rfl)) (by kernel_rfl) (by kernel_rfl) (by kernel_rfl) (by exact fun _ _ _ h => h) (Or.inl ⟨by rfl, ?r2_hy17⟩) (by assumption) ?r2_rest17
        case r2_hy17 => intro w hSw; (try dsimp only at hSw); (go_simp <;> (with_reducible rfl))
        try simp only [Act.put, List.setIfInBounds_toArray, List.set_cons_zero, List.set_cons_succ]
        refine wpAnyH_take (i := 18) (v := ?r2_vv18) (by (simp only [List.getElem?_toArray, List.getElem?_cons_succ, List.getElem?_cons_zero]; rfl)) (by kernel_rfl) (by kernel_rfl) (by kernel_rfl) (by exact fun _ _ _ h => h) (Or.inl ⟨by rfl, ?r2_hy18⟩) (by assumption) ?r2_rest18
        case r2_hy18 => intro w hSw; (try dsimp only at hSw); (go_simp <;> (with_reducible rfl))
        try simp only [Act.put, List.setIfInBounds_toArray, List.set_cons_zero, List.set_cons_succ]
        refine wpAnyH_done (by kernel_rfl) ?_ _
        all_goals
          go_wp2_with fail
          go_roundw
          case rel => exact ⟨k + 1, by omega, by go_num, by rw [hN.out], by first | exact HB8.out | exact HB8.out.drew⟩
          case measure => first | (simp [intOf]; done) | (simp [intOf]; omega)
      · obtain ⟨J2, hJ2⟩ : ∃ J2, J ++ [32] = J2 := ⟨_, rfl⟩
        obtain ⟨J3, hJ3⟩ : ∃ J3, J2 ++ A2 = J3 := ⟨_, rfl⟩
        have hN := Lib.hid (show rowsN xs (k + 1) = J3 from by rw [hsucc.out, if_neg h0, ← hJ3, ← hJ2])
        have f0 := cat_of hJ2
        have f3 := cat_of hJ3
        have hJ2l : J2.length = J.length + 1 := by rw [← hJ2]; simp
        have l0 : (9223372036854775807 < J.length + 1) = False := by simp; omega
        have l3 : (9223372036854775807 < J2.length + A2.length) = False := by simp; omega
        have hz : decide ((0 : Int) < (k : Int)) = true := by rw [decide_eq_true_eq]; omega
        have hz2 : decide (0 < k) = true := by rw [decide_eq_true_eq]; omega
        clear hJ3 hJ hsucc hJ2 hJ2l
        go_wp2_with fail
        refine wp_region_held_drew (S := (RwS bb (oo + k * 2) ⟨(a : Int), (b : Int)⟩)) (by kernel_rfl) ?r3_hS0 (fun hHeld => ?r3_rest)
        case r3_hS0 => (try dsimp only); first | assumption | exact HS.out _ rfl | exact HS7.out | exact HS8.out
        refine wpAnyH_take (i := 0) (v := ?r3_vv0) (by (simp only [List.getElem?_toArray, List.getElem?_cons_succ, List.getElem?_cons_zero]; rfl)) (by kernel_rfl) (by kernel_rfl) (by kernel_rfl) (by exact fun _ _ _ h => h) (Or.inl ⟨by rfl, ?r3_hy0⟩) (by assumption) ?r3_rest0
        case r3_hy0 => intro w hSw; (try dsimp only at hSw); (go_simp <;> (with_reducible rfl))
        try simp only [Act.put, List.setIfInBounds_toArray, List.set_cons_zero, List.set_cons_succ]
        refine wpAnyH_take (i := 1) (v := ?r3_vv1) (by (simp only [List.getElem?_toArray, List.getElem?_cons_succ, List.getElem?_cons_zero]; rfl)) (by kernel_rfl) (by kernel_rfl) (by kernel_rfl) (by exact fun _ _ _ h => h) (Or.inl ⟨by rfl, ?r3_hy1⟩) (by assumption) ?r3_rest1
        case r3_hy1 => intro w hSw; (try dsimp only at hSw); (go_simp <;> (with_reducible rfl))
        try simp only [Act.put, List.setIfInBounds_toArray, List.set_cons_zero, List.set_cons_succ]
        refine wpAnyH_take (i := 2) (v := ?r3_vv2) (by (simp only [List.getElem?_toArray, List.getElem?_cons_succ, List.getElem?_cons_zero]; rfl)) (by kernel_rfl) (by kernel_rfl) (by kernel_rfl) (by exact fun _ _ _ h => h) (Or.inl ⟨by rfl, ?r3_hy2⟩) (by assumption) ?r3_rest2
        case r3_hy2 => intro w hSw; (try dsimp only at hSw); (go_simp <;> (with_reducible rfl))
        try simp only [Act.put, List.setIfInBounds_toArray, List.set_cons_zero, List.set_cons_succ]
        refine wpAnyH_take (i := 3) (v := ?r3_vv3) (by (simp only [List.getElem?_toArray, List.getElem?_cons_succ, List.getElem?_cons_zero]; rfl)) (by kernel_rfl) (by kernel_rfl) (by kernel_rfl) (by exact fun _ _ _ h => h) (Or.inl ⟨by rfl, ?r3_hy3⟩) (by assumption) ?r3_rest3
        case r3_hy3 => intro w hSw; (try dsimp only at hSw); (go_simp <;> (with_reducible rfl))
        try simp only [Act.put, List.setIfInBounds_toArray, List.set_cons_zero, List.set_cons_succ]
        refine wpAnyH_take (i := 4) (v := ?r3_vv4) (by (simp only [List.getElem?_toArray, List.getElem?_cons_succ, List.getElem?_cons_zero]; rfl)) (by kernel_rfl) (by kernel_rfl) (by kernel_rfl) (by exact fun _ _ _ h => h) (Or.inl ⟨by rfl, ?r3_hy4⟩) (by assumption) ?r3_rest4
        case r3_hy4 => intro w hSw; (try dsimp only at hSw); (go_simp <;> (with_reducible rfl))
        try simp only [Act.put, List.setIfInBounds_toArray, List.set_cons_zero, List.set_cons_succ]
        refine wpAnyH_take (i := 5) (v := ?r3_vv5) (by (simp only [List.getElem?_toArray, List.getElem?_cons_succ, List.getElem?_cons_zero]; rfl)) (by kernel_rfl) (by kernel_rfl) (by kernel_rfl) (by exact fun _ _ _ h => h) (Or.inl ⟨by rfl, ?r3_hy5⟩) (by assumption) ?r3_rest5
        case r3_hy5 => intro w hSw; (try dsimp only at hSw); (go_simp <;> (with_reducible rfl))
        try simp only [Act.put, List.setIfInBounds_toArray, List.set_cons_zero, List.set_cons_succ]
        refine wpAnyH_take (i := 6) (v := ?r3_vv6) (by (simp only [List.getElem?_toArray, List.getElem?_cons_succ, List.getElem?_cons_zero]; rfl)) (by kernel_rfl) (by kernel_rfl) (by kernel_rfl) (by exact fun _ _ _ h => h) (Or.inl ⟨by rfl, ?r3_hy6⟩) (by assumption) ?r3_rest6
        case r3_hy6 => intro w hSw; (try dsimp only at hSw); (go_simp <;> (with_reducible rfl))
        try simp only [Act.put, List.setIfInBounds_toArray, List.set_cons_zero, List.set_cons_succ]
        refine wpAnyH_take (i := 9) (v := ?r3_vv9) (by (simp only [List.getElem?_toArray, List.getElem?_cons_succ, List.getElem?_cons_zero]; rfl)) (by kernel_rfl) (by kernel_rfl) (by kernel_rfl) (by exact fun _ _ _ h => h) (Or.inl ⟨by rfl, ?r3_hy9⟩) (by assumption) ?r3_rest9
        case r3_hy9 => intro w hSw; (try dsimp only at hSw); (go_simp <;> (with_reducible rfl))
        try simp only [Act.put, List.setIfInBounds_toArray, List.set_cons_zero, List.set_cons_succ]
        refine wpAnyH_take (i := 10) (v := ?r3_vv10) (by (simp only [List.getElem?_toArray, List.getElem?_cons_succ, List.getElem?_cons_zero]; rfl)) (by kernel_rfl) (by kernel_rfl) (by kernel_rfl) (by exact fun _ _ _ h => h) (Or.inl ⟨by rfl, ?r3_hy10⟩) (by assumption) ?r3_rest10
        case r3_hy10 => intro w hSw; (try dsimp only at hSw); (go_simp <;> (with_reducible rfl))
        try simp only [Act.put, List.setIfInBounds_toArray, List.set_cons_zero, List.set_cons_succ]
        refine wpAnyH_take (i := 11) (v := ?r3_vv11) (by (simp only [List.getElem?_toArray, List.getElem?_cons_succ, List.getElem?_cons_zero]; rfl)) (by kernel_rfl) (by kernel_rfl) (by kernel_rfl) (by exact fun _ _ _ h => h) (Or.inl ⟨by rfl, ?r3_hy11⟩) (by assumption) ?r3_rest11
        case r3_hy11 => intro w hSw; (try dsimp only at hSw); (go_simp <;> (with_reducible rfl))
        try simp only [Act.put, List.setIfInBounds_toArray, List.set_cons_zero, List.set_cons_succ]
        refine wpAnyH_take (i := 12) (v := ?r3_vv12) (by (simp only [List.getElem?_toArray, List.getElem?_cons_succ, List.getElem?_cons_zero]; rfl)) (by kernel_rfl) (by kernel_rfl) (by kernel_rfl) (by exact fun _ _ _ h => h) (Or.inl ⟨by rfl, ?r3_hy12⟩) (by assumption) ?r3_rest12
        case r3_hy12 => intro w hSw; (try dsimp only at hSw); (go_simp <;> (with_reducible rfl))
        try simp only [Act.put, List.setIfInBounds_toArray, List.set_cons_zero, List.set_cons_succ]
        refine wpAnyH_take (i := 13) (v := ?r3_vv13) (by (simp only [List.getElem?_toArray, List.getElem?_cons_succ, List.getElem?_cons_zero]; rfl)) (by kernel_rfl) (by kernel_rfl) (by kernel_rfl) (by exact fun _ _ _ h => h) (Or.inl ⟨by rfl, ?r3_hy13⟩) (by assumption) ?r3_rest13
        case r3_hy13 => intro w hSw; (try dsimp only at hSw); (go_simp <;> (with_reducible rfl))
        try simp only [Act.put, List.setIfInBounds_toArray, List.set_cons_zero, List.set_cons_succ]
        refine wpAnyH_take (i := 14) (v := ?r3_vv14) (by (simp only [List.getElem?_toArray, List.getElem?_cons_succ, List.getElem?_cons_zero]; rfl)) (by kernel_rfl) (by kernel_rfl) (by kernel_rfl) (by exact fun _ _ _ h => h) (Or.inl ⟨by rfl, ?r3_hy14⟩) (by assumption) ?r3_rest14
        case r3_hy14 => intro w hSw; (try dsimp only at hSw); (go_simp <;> (with_reducible rfl))
        try simp only [Act.put, List.setIfInBounds_toArray, List.set_cons_zero, List.set_cons_succ]
        refine wpAnyH_ready (rs := [7]) (by kernel_rfl) (by simp) ?_
        refine AllReadyH.cons (by (simp only [List.getElem?_toArray, List.getElem?_cons_succ, List.getElem?_cons_zero]; rfl)) (fun K hK => ?_) AllReadyH.nil
        go_simp
        (go_at_call 81; with_reducible refine (qa.out _).mono ?_; rintro e w7 ⟨rfl, hb7⟩; have HB7 := Lib.hid (extAt hb7 HBr.out rfl rfl rfl rfl); have HS7 := Lib.hid (RwS.ext HS.out hb7 rfl (Nat.lt_of_lt_of_le hbb HBr.out.size)))
        try go_wp2_with fail
        refine hK.out _ _ ?r3_hS7 (fun hHeld => ?r3_r7)
        case r3_hS7 => (try dsimp only); first | assumption | exact HS.out _ rfl | exact HS7.out | exact HS8.out
        clear hK K
        try simp only [Act.put, List.setIfInBounds_toArray, List.set_cons_zero, List.set_cons_succ]
        refine wpAnyH_take (i := 8) (v := ?r3_vv8) (by (simp only [List.getElem?_toArray, List.getElem?_cons_succ, List.getElem?_cons_zero]; rfl)) (by kernel_rfl) (by kernel_rfl) (by kernel_rfl) (by exact fun _ _ _ h => h) (Or.inl ⟨by rfl, ?r3_hy8⟩) (by assumption) ?r3_rest8
        case r3_hy8 => intro w hSw; (try dsimp only at hSw); (go_simp <;> (with_reducible rfl))
        try simp only [Act.put, List.setIfInBounds_toArray, List.set_cons_zero, List.set_cons_succ]
        refine wpAnyH_ready (rs := [15]) (by kernel_rfl) (by simp) ?_
        refine AllReadyH.cons (by (simp only [List.getElem?_toArray, List.getElem?_cons_succ, List.getElem?_cons_zero]; rfl)) (fun K hK => ?_) AllReadyH.nil
        go_simp
        (go_at_call 81; with_reducible refine (qb.out _).mono ?_; rintro e w8 ⟨rfl, hb8⟩; have HB8 := Lib.hid (ext_trans HB7.out hb8); have HS8 := Lib.hid (RwS.ext2 HS7.out hb8 (Nat.lt_of_lt_of_le hbb HB7.out.size)))
        try go_wp2_with fail
        refine hK.out _ _ ?r3_hS15 (fun hHeld => ?r3_r15)
        case r3_hS15 => (try dsimp only); first | assumption | exact HS.out _ rfl | exact HS7.out | exact HS8.out
        clear hK K
        try simp only [Act.put, List.setIfInBounds_toArray, List.set_cons_zero, List.set_cons_succ]
        refine wpAnyH_take (i := 16) (v := ?r3_vv16) (by (simp only [List.getElem?_toArray, List.getElem?_cons_succ, List.getElem?_cons_zero]; rfl)) (by kernel_rfl) (by kernel_rfl) (by kernel_rfl) (by exact fun _ _ _ h => h) (Or.inl ⟨by rfl, ?r3_hy16⟩) (by assumption) ?r3_rest16
        case r3_hy16 => intro w hSw; (try dsimp only at hSw); (go_simp <;> (with_reducible rfl))
        try simp only [Act.put, List.setIfInBounds_toArray, List.set_cons_zero, List.set_cons_succ]
        refine wpAnyH_take (i := 17) (v := ?r3_vv17) (by (simp only [List.getElem?_toArray, List.getElem?_cons_succ, List.getElem?_cons_zero]; rfl)) (by kernel_rfl) (by kernel_rfl) (by kernel_rfl) (by exact fun _ _ _ h => h) (Or.inl ⟨by rfl, ?r3_hy17⟩) (by assumption) ?r3_rest17
        case r3_hy17 => intro w hSw; (try dsimp only at hSw); (go_simp <;> (with_reducible rfl))
        try simp only [Act.put, List.setIfInBounds_toArray, List.set_cons_zero, List.set_cons_succ]
        refine wpAnyH_take (i := 18) (v := ?r3_vv18) (by (simp only [List.getElem?_toArray, List.getElem?_cons_succ, List.getElem?_cons_zero]; rfl)) (by kernel_rfl) (by kernel_rfl) (by kernel_rfl) (by exact fun _ _ _ h => h) (Or.inl ⟨by rfl, ?r3_hy18⟩) (by assumption) ?r3_rest18
        case r3_hy18 => intro w hSw; (try dsimp only at hSw); (go_simp <;> (with_reducible rfl))
        try simp only [Act.put, List.setIfInBounds_toArray, List.set_cons_zero, List.set_cons_succ]
        refine wpAnyH_done (by kernel_rfl) ?_ _
        all_goals
          go_wp2_with fail
          go_roundw
          case rel => exact ⟨k + 1, by omega, by go_num, by rw [hN.out], by first | exact HB8.out | exact HB8.out.drew⟩
          case measure => first | (simp [intOf]; done) | (simp [intOf]; omega)
    · obtain rfl : k = xs.length := by omega
      have hkd : decide ((xs.length : Int) < (xs.length : Int)) = false := by rw [decide_eq_false_iff_not]; omega
      go_wp2_with fail
      go_ret
      exact ⟨by rw [← hfin.out]; rfl, HBr.out⟩
theorem specRowsText_calls (xs : List Row) (hx : ∀ x ∈ xs, x.ok) (v : Value) (W : World) (hs : Sl W W.heap.size Row.c 2 v xs) :
    Calls Tryd.prog 10 #[v] W fun e w' => e = .returned (str (rowsT xs)) ∧ Below W.heap.size W w' := by
  have q1 := Lib.hid (l07Rows_calls xs hx v W hs)
  cases hv : vRowsB xs
  · have hE := Lib.hid (show rowsT xs = [] from if_neg (by rw [hv]; decide))
    rw [hv] at q1
    obtain ⟨A, cap, rfl, -, -, -⟩ := hs.row
    clear hs hv
    go_enter Tryd.func10, Tryd.ntmps10
    go_wp2_with fail
    refine q1.out.mono ?_
    rintro e w' ⟨rfl, rfl⟩
    go_wp2_with fail
    go_ret
    exact ⟨by rw [hE.out]; rfl, Below.refl _ _⟩
  · have hE := Lib.hid (show rowsT xs = Lib.join (xs.map wordR) [32] from if_pos hv)
    have q2 := Lib.hid (l07Text_calls xs hv v W hs)
    rw [hv] at q1
    obtain ⟨A, cap, rfl, -, -, -⟩ := hs.row
    clear hs hv
    go_enter Tryd.func10, Tryd.ntmps10
    go_wp2_with fail
    refine q1.out.mono ?_
    rintro e w' ⟨rfl, rfl⟩
    go_wp2_with fail
    refine q2.out.mono ?_
    rintro e w' ⟨rfl, hb⟩
    go_wp2_with fail
    go_ret
    exact ⟨by rw [hE.out]; rfl, hb⟩
set_option maxHeartbeats 1000000 in
theorem implRowsText_calls (xs : List Row) (hx : ∀ x ∈ xs, x.ok) (v : Value) (W : World) (ht : TabP W) (hs : Sl W W.heap.size Row.c 2 v xs) :
    Calls Tryd.prog 12 #[v] W fun e w' => e = .returned (str (rowsT xs)) ∧ Below W.heap.size W w' := by
  have q1 := Lib.hid (implValidRows_calls xs hx v W hs)
  obtain ⟨A, cap, rfl, hl, hm, hcell0⟩ := hs.row
  have hcell := Lib.hid hcell0
  have HT0 := Lib.hid ht
  clear hs hcell0 ht
  cases hv : vRowsB xs
  · have hE := Lib.hid (show rowsT xs = [] from if_neg (by rw [hv]; decide))
    rw [hv] at q1
    clear hv
    go_enter Tryd.func12, Tryd.ntmps12
    go_wp2_with fail
    refine q1.out.mono ?_
    rintro e w' ⟨rfl, hb⟩
    go_wp2_with fail
    go_ret
    exact ⟨by rw [hE.out]; rfl, hb⟩
  · have hE := Lib.hid (show rowsT xs = Lib.join (xs.map wordR) [32] from if_pos hv)
    rw [hv] at q1
    have hnat := Lib.hid (vRow_nat hv).2
    have h6 := (vRow_nat hv).1
    have hlen := Lib.hid (rowsN_len hv xs.length (Nat.le_refl _))
    have hfin := Lib.hid (show rowsN xs xs.length = Lib.join (xs.map wordR) [32] from by rw [rowsN, List.take_length])
    clear hv
    go_enter Tryd.func12, Tryd.ntmps12
    go_wp2_with fail
    refine q1.out.mono ?_
    rintro e w1 ⟨rfl, hb1⟩
    have HB1 := Lib.hid (hb1.alloc hb1.size (.cells #[] 9))
    have HT1 := Lib.hid ((HT0.out.ext hb1).ext ((Below.refl _ _).alloc (Nat.le_refl _) (.cells #[] 9)))
    have HO1 := Lib.hid ((Own.empty (α := List UInt8) (c := strc) (sz := 1) (E := 9) w1 w1.heap.size w1.heap.size rfl (Nat.le_refl _)).more hb1.size)
    clear hb1 q1
    go_wp2_with fail
    go_loopw [3, 12] (fun v i wr => ∃ k : Nat, k ≤ xs.length ∧ i = .int .i64 (k : Int) ∧ Own wr W.heap.size 9 strc 1 v ((xs.take k).map wordR) ∧ TabP wr ∧ Below W.heap.size W wr) (fun _ i _ => xs.length - (intOf i).toNat)
    case atStart => exact ⟨0, by omega, rfl, by simpa using HO1.out, HT1.out, HB1.out⟩
    case round =>
      clear HO1 HT1 HB1
      obtain ⟨k, hk, rfl, hO, hT, hb⟩ := hrel
      have HO := Lib.hid hO
      have HTr := Lib.hid hT
      have HBr := Lib.hid hb
      clear hO hT hb
      by_cases hlt : k < xs.length
      · obtain ⟨bb, oo, rfl, hbb, c0, c1⟩ := hcell.out k hlt
        obtain ⟨a, b, he, ha, hb1, hb2⟩ := hnat.out k hlt
        have hsucc := Lib.hid (show (xs.take (k + 1)).map wordR = (xs.take k).map wordR ++ [wordR xs[k]] from by rw [List.take_succ_eq_append_getElem hlt, List.map_append]; rfl)
        have hwl := Lib.hid (show ((xs.take k).map wordR).length ≤ 6 from by rw [List.length_map, List.length_take]; omega)
        rw [he] at c0 c1 hsucc
        replace c0 := (HBr.out.cell (p := ⟨bb, _, none⟩) hbb).trans c0
        replace c1 := (HBr.out.cell (p := ⟨bb, _, none⟩) hbb).trans c1
        have qa := Lib.hid (fun W' (h : TabP W') => show Calls Tryd.prog 43 #[.int .i64 (a : Int)] W' _ from by
          have := decimal_calls (a : Int) (by omega) (by omega) W' h
          rwa [Lib.itoa_nonneg] at this)
        have qb := Lib.hid (fun W' (h : TabP W') => show Calls Tryd.prog 43 #[.int .i64 (b : Int)] W' _ from by
          have := decimal_calls (b : Int) (by omega) (by omega) W' h
          rwa [Lib.itoa_nonneg] at this)
        have hda := decLen20 (n := a) (by omega)
        have hdb := decLen20 (n := b) (by omega)
        obtain ⟨A2, hA2⟩ : ∃ A2, wordR ⟨(a : Int), (b : Int)⟩ = A2 := ⟨_, rfl⟩
        have hA2' : Lib.decDigits a ++ [58] ++ Lib.decDigits b = A2 := by rw [← hA2]; simp [wordR]
        rw [hA2] at hsucc
        generalize Lib.decDigits a = D1 at *
        generalize Lib.decDigits b = D2 at *
        obtain ⟨A1, hA1⟩ : ∃ A1, D1 ++ [58] = A1 := ⟨_, rfl⟩
        rw [hA1] at hA2'
        have hAl : A1.length ≤ 21 := by rw [← hA1]; simp; omega
        have f1 := cat_of hA1
        have f2 := cat_of hA2'
        have l1 : (9223372036854775807 < D1.length + 1) = False := by simp; omega
        have l2 : (9223372036854775807 < A1.length + D2.length) = False := by simp; omega
        have wa : IntKind.i64.wrap (a : Int) = (a : Int) := by rw [IntKind.wrap_i64]; omega
        have wb : IntKind.i64.wrap (b : Int) = (b : Int) := by rw [IntKind.wrap_i64]; omega
        have hkd : decide ((k : Int) < (xs.length : Int)) = true := by rw [decide_eq_true_eq]; omega
        have hk0 : (0 : Int) ≤ (k : Int) := by omega
        have hk1 : (k : Int) < (xs.length : Int) := by omega
        clear hA1 hA2' hA2 he
        generalize (xs.take k).map wordR = ws at *
        have HN := Lib.hid (Bk.new wr 72 #[.int .i8 (a : Int), .int .i16 (b : Int)] wr.heap.size rfl)
        have HB6 := Lib.hid (HBr.out.alloc HBr.out.size (.cells #[.int .i8 (a : Int), .int .i16 (b : Int)] 72))
        have HO6 := Lib.hid (HO.out.alloc (.cells #[.int .i8 (a : Int), .int .i16 (b : Int)] 72))
        have HT := Lib.hid (HTr.out.ext ((Below.refl _ _).alloc (Nat.le_refl _) (.cells #[.int .i8 (a : Int), .int .i16 (b : Int)] 72)))
        have hvn := Lib.hid (fun (e : u3.ownBlock = some wr.heap.size) => show False from by have := HO.out.lt _ e; omega)
        go_wp2_with fail
        generalize wr.alloc (.cells #[.int .i8 (a : Int), .int .i16 (b : Int)] 72) = w6 at *
        have hnb := Lib.hid HN.out.lt
        generalize wr.heap.size = nb at *
        clear c0 c1 HTr
        have HS := Lib.hid (fun (w' : World) (h : w'.heap = w6.heap) => RwS.at_ (q := ⟨(a : Int), (b : Int)⟩) ⟨HN.out.cell 0 _ rfl, HN.out.cell 1 _ rfl⟩ h)
        refine wp_region_held_drew (S := (RwS nb 0 ⟨(a : Int), (b : Int)⟩)) (by kernel_rfl) ?r4_hS0 (fun hHeld => ?r4_rest)
        case r4_hS0 => (try dsimp only); first | assumption | exact HS.out _ rfl | exact HS7.out | exact HS8.out | exact HS9.out _ rfl | exact HSa.out
        refine wpAnyH_take (i := 0) (v := ?r4_vv0) (by (simp only [List.getElem?_toArray, List.getElem?_cons_succ, List.getElem?_cons_zero]; rfl)) (by kernel_rfl) (by kernel_rfl) (by kernel_rfl) (by exact fun _ _ _ h => h) (Or.inl ⟨by rfl, ?r4_hy0⟩) (by assumption) ?r4_rest0
        case r4_hy0 => intro w hSw; (try dsimp only at hSw); (go_simp <;> (with_reducible rfl))
        try simp only [Act.put, List.setIfInBounds_toArray, List.set_cons_zero, List.set_cons_succ]
        refine wpAnyH_take (i := 1) (v := ?r4_vv1) (by (simp only [List.getElem?_toArray, List.getElem?_cons_succ, List.getElem?_cons_zero]; rfl)) (by kernel_rfl) (by kernel_rfl) (by kernel_rfl) (by exact fun _ _ _ h => h) (Or.inl ⟨by rfl, ?r4_hy1⟩) (by assumption) ?r4_rest1
        case r4_hy1 => intro w hSw; (try dsimp only at hSw); (go_simp <;> (with_reducible rfl))
        try simp only [Act.put, List.setIfInBounds_toArray, List.set_cons_zero, List.set_cons_succ]
        refine wpAnyH_take (i := 2) (v := ?r4_vv2) (by (simp only [List.getElem?_toArray, List.getElem?_cons_succ, List.getElem?_cons_zero]; rfl)) (by kernel_rfl) (by kernel_rfl) (by kernel_rfl) (by exact fun _ _ _ h => h) (Or.inl ⟨by rfl, ?r4_hy2⟩) (by assumption) ?r4_rest2
        case r4_hy2 => intro w hSw; (try dsimp only at hSw); (go_simp <;> (with_reducible rfl))
        try simp only [Act.put, List.setIfInBounds_toArray, List.set_cons_zero, List.set_cons_succ]
        refine wpAnyH_take (i := 3) (v := ?r4_vv3) (by (simp only [List.getElem?_toArray, List.getElem?_cons_succ, List.getElem?_cons_zero]; rfl)) (by kernel_rfl) (by kernel_rfl) (by kernel_rfl) (by exact fun _ _ _ h => h) (Or.inl ⟨by rfl, ?r4_hy3⟩) (by assumption) ?r4_rest3
        case r4_hy3 => intro w hSw; (try dsimp only at hSw); (go_simp <;> (with_reducible rfl))
        try simp only [Act.put, List.setIfInBounds_toArray, List.set_cons_zero, List.set_cons_succ]
        refine wpAnyH_take (i := 6) (v := ?r4_vv6) (by (simp only [List.getElem?_toArray, List.getElem?_cons_succ, List.getElem?_cons_zero]; rfl)) (by kernel_rfl) (by kernel_rfl) (by kernel_rfl) (by exact fun _ _ _ h => h) (Or.inl ⟨by rfl, ?r4_hy6⟩) (by assumption) ?r4_rest6
        case r4_hy6 => intro w hSw; (try dsimp only at hSw); (go_simp <;> (with_reducible rfl))
        try simp only [Act.put, List.setIfInBounds_toArray, List.set_cons_zero, List.set_cons_succ]
        refine wpAnyH_take (i := 7) (v := ?r4_vv7) (by (simp only [List.getElem?_toArray, List.getElem?_cons_succ, List.getElem?_cons_zero]; rfl)) (by kernel_rfl) (by kernel_rfl) (by kernel_rfl) (by exact fun _ _ _ h => h) (Or.inl ⟨by rfl, ?r4_hy7⟩) (by assumption) ?r4_rest7
        case r4_hy7 => intro w hSw; (try dsimp only at hSw); (go_simp <;> (with_reducible rfl))
        try simp only [Act.put, List.setIfInBounds_toArray, List.set_cons_zero, List.set_cons_succ]
        refine wpAnyH_take (i := 8) (v := ?r4_vv8) (by (simp only [List.getElem?_toArray, List.getElem?_cons_succ, List.getElem?_cons_zero]; rfl)) (by kernel_rfl) (by kernel_rfl) (by kernel_rfl) (by exact fun _ _ _ h => h) (Or.inl ⟨by rfl, ?r4_hy8⟩) (by assumption) ?r4_rest8
        case r4_hy8 => intro w hSw; (try dsimp only at hSw); (go_simp <;> (with_reducible rfl))
        try simp only [Act.put, List.setIfInBounds_toArray, List.set_cons_zero, List.set_cons_succ]
        refine wpAnyH_ready (rs := [4]) (by kernel_rfl) (by simp) ?_
        refine AllReadyH.cons (by (simp only [List.getElem?_toArray, List.getElem?_cons_succ, List.getElem?_cons_zero]; rfl)) (fun K hK => ?_) AllReadyH.nil
        go_simp
        (go_at_call 43; refine (qa.out _ (by first | exact HT.out | exact HT.out.ext (kp0 _))).mono ?_; rintro e w7 ⟨rfl, hb7⟩; have HB7 := Lib.hid (extAt hb7 HB6.out rfl rfl rfl rfl); have HS7 := Lib.hid (RwS.ext HS.out hb7 rfl hnb.out); have HO7 := Lib.hid (Own.extAt hb7 HO6.out rfl); have HT7 := Lib.hid (TabP.extAt hb7 HT.out rfl rfl rfl rfl); have hsz7 := Lib.hid (show w6.heap.size ≤ w7.heap.size from sizeAt hb7 rfl))
        try go_wp2_with fail
        refine hK.out _ _ ?r4_hS4 (fun hHeld => ?r4_r4)
        case r4_hS4 => (try dsimp only); first | assumption | exact HS.out _ rfl | exact HS7.out | exact HS8.out | exact HS9.out _ rfl | exact HSa.out
        clear hK K
        try simp only [Act.put, List.setIfInBounds_toArray, List.set_cons_zero, List.set_cons_succ]
        refine wpAnyH_take (i := 5) (v := ?r4_vv5) (by (simp only [List.getElem?_toArray, List.getElem?_cons_succ, List.getElem?_cons_zero]; rfl)) (by kernel_rfl) (by kernel_rfl) (by kernel_rfl) (by exact fun _ _ _ h => h) (Or.inl ⟨by rfl, ?r4_hy5⟩) (by assumption) ?r4_rest5
        case r4_hy5 => intro w hSw; (try dsimp only at hSw); (go_simp <;> (with_reducible rfl))
        try simp only [Act.put, List.setIfInBounds_toArray, List.set_cons_zero, List.set_cons_succ]
        refine wpAnyH_ready (rs := [9]) (by kernel_rfl) (by simp) ?_
        refine AllReadyH.cons (by (simp only [List.getElem?_toArray, List.getElem?_cons_succ, List.getElem?_cons_zero]; rfl)) (fun K hK => ?_) AllReadyH.nil
        go_simp
        (go_at_call 43; refine (qb.out _ HT7.out).mono ?_; rintro e w8 ⟨rfl, hb8⟩; have HB8 := Lib.hid (ext_trans HB7.out hb8); have HS8 := Lib.hid (RwS.ext2 HS7.out hb8 (Nat.lt_of_lt_of_le hnb.out hsz7.out)); have HO8 := Lib.hid (HO7.out.ext hb8); have HT8 := Lib.hid (HT7.out.ext hb8); have HBa := Lib.hid (HB8.out.alloc HB8.out.size (.cells #[.string ⟨A2.toArray⟩] 9)); have HOa := Lib.hid (HO8.out.alloc (.cells #[.string ⟨A2.toArray⟩] 9)); have HS9 := Lib.hid (fun (w' : World) (he : w'.heap = (w8.alloc (.cells #[.string ⟨A2.toArray⟩] 9)).heap) => RwS.at_ (RwS.ext2 HS8.out ((Below.refl _ _).alloc (Nat.le_refl _) (.cells #[.string ⟨A2.toArray⟩] 9)) (Nat.lt_of_lt_of_le hnb.out (Nat.le_trans hsz7.out hb8.size))) he))
        try go_wp2_with fail
        refine hK.out _ _ ?r4_hS9 (fun hHeld => ?r4_r9)
        case r4_hS9 => (try dsimp only); first | assumption | exact HS.out _ rfl | exact HS7.out | exact HS8.out | exact HS9.out _ rfl | exact HSa.out
        clear hK K
        try simp only [Act.put, List.setIfInBounds_toArray, List.set_cons_zero, List.set_cons_succ]
        refine wpAnyH_take (i := 10) (v := ?r4_vv10) (by (simp only [List.getElem?_toArray, List.getElem?_cons_succ, List.getElem?_cons_zero]; rfl)) (by kernel_rfl) (by kernel_rfl) (by kernel_rfl) (by exact fun _ _ _ h => h) (Or.inl ⟨by rfl, ?r4_hy10⟩) (by assumption) ?r4_rest10
        case r4_hy10 => intro w hSw; (try dsimp only at hSw); (go_simp <;> (with_reducible rfl))
        try simp only [Act.put, List.setIfInBounds_toArray, List.set_cons_zero, List.set_cons_succ]
        refine wpAnyH_ready (rs := [11]) (by kernel_rfl) (by simp) ?_
        refine AllReadyH.cons (by (simp only [List.getElem?_toArray, List.getElem?_cons_succ, List.getElem?_cons_zero]; rfl)) (fun K hK => ?_) AllReadyH.nil
        go_simp
        skip
        try go_wp2_with fail
        refine hK.out _ _ ?r4_hS11 (fun hHeld => ?r4_r11)
        case r4_hS11 => (try dsimp only); first | assumption | exact HS.out _ rfl | exact HS7.out | exact HS8.out | exact HS9.out _ rfl | exact HSa.out
        clear hK K
        try simp only [Act.put, List.setIfInBounds_toArray, List.set_cons_zero, List.set_cons_succ]
        refine wpAnyH_ready (rs := [12]) (by kernel_rfl) (by simp) ?_
        refine AllReadyH.cons (by (simp only [List.getElem?_toArray, List.getElem?_cons_succ, List.getElem?_cons_zero]; rfl)) (fun K hK => ?_) AllReadyH.nil
        (refine step_app appStr rfl _ _ rfl W.heap.size ws [A2] u3 _ rfl rfl HOa.out (bk_str1 (Bk.new _ _ _ _ rfl)) (by have := hwl.out; simp; omega) (by have := hwl.out; simp; omega) HBa.out.size ?_; intro v9 w9 hO9 hG9 hat; have HSa := Lib.hid (RwS.grown (HS9.out _ rfl) hG9 (fun e => hvn.out e) (by have := hnb.out; have := hsz7.out; have := hb8.size; simp; omega)))
        refine hK.out _ _ ?r4_hS12 (fun hHeld => ?r4_r12)
        case r4_hS12 => (try dsimp only); first | assumption | exact HS.out _ rfl | exact HS7.out | exact HS8.out | exact HS9.out _ rfl | exact HSa.out
        clear hK K
        try simp only [Act.put, List.setIfInBounds_toArray, List.set_cons_zero, List.set_cons_succ]
        refine wpAnyH_take (i := 13) (v := ?r4_vv13) (by (simp only [List.getElem?_toArray, List.getElem?_cons_succ, List.getElem?_cons_zero]; rfl)) (by kernel_rfl) (by kernel_rfl) (by kernel_rfl) (by exact fun _ _ _ h => h) (Or.inl ⟨by rfl, ?r4_hy13⟩) (by assumption) ?r4_rest13
        case r4_hy13 => intro w hSw; (try dsimp only at hSw); (go_simp <;> (with_reducible rfl))
        try simp only [Act.put, List.setIfInBounds_toArray, List.set_cons_zero, List.set_cons_succ]
        refine wpAnyH_done (by kernel_rfl) ?_ _
        all_goals
          have HB9 := Lib.hid (HBa.out.grown hG9 HBa.out.size (fun j hj => HO8.out.base j hj))
          go_wp2_with fail
          go_roundw
          case rel => first | exact ⟨k + 1, by omega, by go_num, by rw [hsucc.out]; exact hO9, HT0.out.ext HB9.out, HB9.out⟩ | exact ⟨k + 1, by omega, by go_num, by rw [hsucc.out]; exact hO9.keep (fun j hj => rfl), HT0.out.ext HB9.out.drew, HB9.out.drew⟩
          case measure => first | (simp [intOf]; done) | (simp [intOf]; omega)
      · obtain rfl : k = xs.length := by omega
        have hkd : decide ((xs.length : Int) < (xs.length : Int)) = false := by rw [decide_eq_false_iff_not]; omega
        rw [List.take_length] at HO
        have qj := Lib.hid (joinS_calls _ u3 [32] wr (HO.out.sl strc_len) (by rw [List.length_map]; omega) (by rw [← hfin.out]; have := hlen.out; omega))
        go_wp2_with fail
        refine qj.out.mono ?_
        rintro e w2 ⟨rfl, hb2⟩
        go_wp2_with fail
        go_ret
        exact ⟨by rw [hE.out]; rfl, ext_trans HBr.out hb2⟩
end Go.Proofs.YthlcmiediedcfaaDoor
