/-
The library's ParseInt at texts, and the program's reader of a number. Conditions: its two errors' variables and the table of powers of ten stand.
-/
import Derived.Shelf.Strconv.ErrVarParseInt
import Derived.Lib.ParseIntBTie
import Derived.Shelf.Lay
import Derived.Ground.NamesProg
import Derived.Test.YthlcmiediedcfaaDoorTX7
import Derived.Test.YthlcmiediedcfaaDoorTX1
set_option linter.unusedVariables false
set_option linter.unusedSimpArgs false
set_option maxRecDepth 100000
namespace Go.Proofs.YthlcmiediedcfaaDoor
open Go.RowKit
section
open Go.Shelf
shelf_lay LaysC.n174 Nm 174 at Tryd as Tryd.laysParse
end
/-- The library's two errors stand. -/
def ErrP (n : String) (W : World) : Prop := ∃ tp p, W.var? Tryd.prog n = some #[.iface tp p]
theorem ErrP.ext {n : String} {W W' : World} (h : ErrP n W) (hb : Below W.heap.size W W') : ErrP n W' := by
  obtain ⟨tp, p, h⟩ := h
  refine ⟨tp, p, ?_⟩
  have h2 := h
  unfold World.var? at h2
  cases hg : Tryd.prog.globalNamed n with
  | none => rw [hg] at h2; cases h2
  | some g =>
    refine var?_below hb hg ?_ h
    rw [hg] at h2
    simp only [Option.bind_some] at h2
    by_cases hlt : g < W.heap.size
    · exact hlt
    · rw [Array.getElem?_eq_none (by omega)] at h2
      cases h2
def PrsP (W : World) : Prop := ErrP "strconv.ErrSyntax" W ∧ ErrP "strconv.ErrRange" W
theorem PrsP.ext {W W' : World} (h : PrsP W) (hb : Below W.heap.size W W') : PrsP W' := ⟨h.1.ext hb, h.2.ext hb⟩
theorem parse_calls (l : List UInt8) (hl : l.length ≤ 2000000) (W : World) (hp : PrsP W) : Calls Tryd.prog 73 #[str l, .int .i64 10, .int .i64 64] W fun e w' => ((∃ n, Lib.parseIntB 64 l = .ok n ∧ -9223372036854775808 ≤ n ∧ n ≤ 9223372036854775807 ∧ e = .returned (.tuple #[.int .i64 n, .nilIface])) ∨ (∃ n t p, (∀ n, Lib.parseIntB 64 l ≠ .ok n) ∧ e = .returned (.tuple #[.int .i64 n, .iface t (.pointer (some p))]))) ∧ Below W.heap.size W w' := by
  obtain ⟨⟨tp, p, h1⟩, tq, q, h2⟩ := hp
  have hsz : (⟨l.toArray⟩ : ByteArray).size = l.length := by simp [ByteArray.size]
  cases hr : Lib.parseIntB 64 l with
  | ok n =>
    have hb := Lib.parseIntB_bounds hr
    refine (Any.strconv_ParseInt_10_at64_ok { Tryd.laysParse with } ⟨l.toArray⟩ (by omega) n hr W).mono ?_
    rintro e w' ⟨rfl, hw⟩
    refine ⟨.inl ⟨n, rfl, by have := hb.1; simp at this; omega, by have := hb.2; simp at this; omega, rfl⟩, ?_⟩
    rcases hw with rfl | ⟨t, rfl⟩
    · exact Below.refl _ _
    · exact Lib.bytesWorld_below _ _ _
  | «syntax» =>
    refine (Any.strconv_ParseInt_10_at64_syntax_var { Tryd.laysParse with } ⟨l.toArray⟩ (by omega) hr tp p W h1).mono ?_
    rintro e w' ⟨N, rfl, -, -, hb⟩
    exact ⟨.inr ⟨_, _, _, by simp, rfl⟩, hb⟩
  | range =>
    refine (Any.strconv_ParseInt_10_at64_range_var { Tryd.laysParse with } ⟨l.toArray⟩ (by omega) hr tq q W h2).mono ?_
    rintro e w' ⟨N, rfl, -, -, hb⟩
    exact ⟨.inr ⟨_, _, _, by simp, rfl⟩, hb⟩
theorem bytes_beq (a b : List UInt8) : ((⟨a.toArray⟩ : ByteArray).toList == (⟨b.toArray⟩ : ByteArray).toList) = (a == b) := by
  rw [ByteArray.toList_eq, ByteArray.toList_eq]
theorem numI_of {l : List UInt8} {m n : Int} (h : Lib.parseIntB 64 l = .ok n) : numI l m = if Lib.itoa n = l ∧ 0 ≤ n ∧ n ≤ m then (n, true) else (0, false) := by unfold numI; rw [h]
theorem numI_none {l : List UInt8} (m : Int) (h : ∀ n, Lib.parseIntB 64 l ≠ .ok n) : numI l m = (0, false) := by
  unfold numI
  split
  · rename_i n e
    exact absurd e (h n)
  · rfl
set_option maxHeartbeats 2000000 in
theorem number_calls (l : List UInt8) (m : Int) (hl : l.length ≤ 2000000) (W : World) (ht : TabP W) (hp : PrsP W) : Calls Tryd.prog 68 #[.string ⟨l.toArray⟩, .int .i64 m] W fun e w' => e = .returned (.tuple #[.int .i64 (numI l m).1, .bool (numI l m).2]) ∧ Below W.heap.size W w' := by
  have HT := Lib.hid ht
  have q1 := Lib.hid (parse_calls l hl W hp)
  have hI := Lib.hid (fun n => numI_of (l := l) (m := m) (n := n))
  have hN := Lib.hid (numI_none (l := l) m)
  generalize numI l m = F at *
  clear ht hp
  go_enter Tryd.func68, Tryd.ntmps68
  go_wp2_with fail
  refine q1.out.mono ?_
  rintro e w1 ⟨hh, hb⟩
  clear q1
  have HB := Lib.hid hb
  have HT := Lib.hid (HT.out.ext hb)
  clear hb
  rcases hh with ⟨n, hr, h0, h1, rfl⟩ | ⟨n, t, p, hr, rfl⟩
  · have hF := Lib.hid (hI.out n hr)
    have q2 := Lib.hid (fun w (h : TabP w) => decimal_calls n h0 h1 w h)
    have hq := bytes_beq (Lib.itoa n) l
    generalize Lib.itoa n = tx at *
    clear hI hN hr
    go_wp2_with fail
    refine (q2.out _ HT.out).mono ?_
    rintro e w2 ⟨rfl, hb2⟩
    have HB := Lib.hid (ext_trans HB.out hb2)
    clear hb2 q2 HT
    by_cases hx : tx = l
    · subst hx
      have qw := Lib.hid (within_calls n 0 m w2)
      have hin : inB n 0 m = decide (0 ≤ n ∧ n ≤ m) := rfl
      by_cases hr2 : 0 ≤ n ∧ n ≤ m
      · rw [decide_eq_true hr2] at hin
        have hF2 := Lib.hid (show F = (n, true) from by rw [hF.out, if_pos ⟨rfl, hr2.1, hr2.2⟩])
        rw [hin] at qw
        have hq2 : (tx == tx) = true := by simp
        rw [hq2] at hq
        clear hF hin hr2
        go_wp2_with fail
        refine qw.out.mono ?_
        rintro e w3 ⟨rfl, rfl⟩
        go_wp2_with fail
        go_ret2
        exact ⟨by rw [hF2.out]; rfl, HB.out⟩
      · rw [decide_eq_false hr2] at hin
        have hF2 := Lib.hid (show F = (0, false) from by rw [hF.out, if_neg (fun h => hr2 ⟨h.2.1, h.2.2⟩)])
        rw [hin] at qw
        have hq2 : (tx == tx) = true := by simp
        rw [hq2] at hq
        clear hF hin hr2
        go_wp2_with fail
        refine qw.out.mono ?_
        rintro e w3 ⟨rfl, rfl⟩
        go_wp2_with fail
        go_ret2
        exact ⟨by rw [hF2.out]; rfl, HB.out⟩
    · have hF2 := Lib.hid (show F = (0, false) from by rw [hF.out, if_neg (fun h => hx h.1)])
      have hq2 : (tx == l) = false := by simpa using hx
      rw [hq2] at hq
      clear hF
      go_wp2_with fail
      go_ret2
      exact ⟨by rw [hF2.out]; rfl, HB.out⟩
  · have hF := Lib.hid (hN.out hr)
    clear hI hN hr
    go_wp2_with fail
    go_ret2
    exact ⟨by rw [hF.out]; rfl, HB.out⟩
end Go.Proofs.YthlcmiediedcfaaDoor
