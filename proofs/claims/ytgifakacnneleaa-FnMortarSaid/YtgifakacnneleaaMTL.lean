/-
The tail of FnMortar's walk, cut into theorems of their own over frames of letters.
-/
import Derived.Test.YtgifakacnneleaaG3
import Derived.Test.YtgifakacnneleaaG6
import Derived.Test.YtgifakacnneleaaMO1
import Derived.Test.YtgifakacnneleaaOpn
set_option linter.unusedVariables false
set_option linter.unusedSimpArgs false
set_option maxRecDepth 100000
namespace Go.Proofs.Ytgifakacnneleaa
open Go.RowKit
theorem two_row (m o : Mix) (w : World) (g : Nat) (h : Bk w g 24 #[.int .i16 m.x, .int .i16 m.y, .int .i16 m.z, .int .i16 o.x, .int .i16 o.y, .int .i16 o.z]) : Sl w w.heap.size Mix.c 3 (.slice (some ⟨g, 0, none⟩) 2 2) [m, o] := by
  refine ⟨_, 2, rfl, Nat.le_refl _, by simp, fun _ => ⟨g, 0, rfl, h.lt, fun i x hx j u hu => ?_⟩⟩
  match i, hx with
  | 0, hx =>
    simp at hx
    subst hx
    match j, hu with
    | 0, hu => simp [Mix.c] at hu; subst hu; exact h.cell 0 _ rfl
    | 1, hu => simp [Mix.c] at hu; subst hu; exact h.cell 1 _ rfl
    | 2, hu => simp [Mix.c] at hu; subst hu; exact h.cell 2 _ rfl
    | j + 3, hu => simp [Mix.c] at hu
  | 1, hx =>
    simp at hx
    subst hx
    match j, hu with
    | 0, hu => simp [Mix.c] at hu; subst hu; exact h.cell 3 _ rfl
    | 1, hu => simp [Mix.c] at hu; subst hu; exact h.cell 4 _ rfl
    | 2, hu => simp [Mix.c] at hu; subst hu; exact h.cell 5 _ rfl
    | j + 3, hu => simp [Mix.c] at hu
  | i + 2, hx => simp at hx
theorem best_two {m o s : Mix} (hm : vMixS m = true) (ho : vMixS o = true) (hs : vStock s = true) : bestMix [m, o] s = if mostA m s < mostA o s then (1, mostA o s, 0) else (0, mostA m s, 0) := by
  unfold bestMix
  rw [if_pos (by simp [hm, ho]), if_neg (by simp), if_pos hs, if_neg (by simp)]
  have h1 := bestN_one [m, o] s (by simp)
  have h2 := bestN_succ [m, o] s 1 (by simp)
  simp only [List.length_cons, List.length_nil] at *
  rw [h2, h1]
  simp only [List.getElem_cons_zero, List.getElem_cons_succ]
  split <;> rfl
def headReg : Code → Option Nat
  | .region m _ _ => some m
  | .loop c => headReg c
  | .seq a _ => headReg a
  | .block _ c => headReg c
  | .scope c => headReg c
  | _ => none
def fstOf : Code → Code
  | .seq a _ => a
  | c => c
def sndOf : Code → Code
  | .seq _ b => b
  | c => c
/-- The first sequence whose head statement begins with region n. -/
def tailAt (n : Nat) : Code → Option Code
  | .loop c => tailAt n c
  | .seq a b => if headReg a = some n then some (.seq a b) else match tailAt n a with
    | some c => some c
    | none => tailAt n b
  | .block _ c => tailAt n c
  | .scope c => tailAt n c
  | .cond _ a b => match tailAt n a with
    | some c => some c
    | none => tailAt n b
  | _ => none
noncomputable def codtailM42 : Code := (Try.f7.body.bind (tailAt 42)).getD .skip
set_option maxHeartbeats 40000000 in
theorem tailM42 (W w : World) (cs cd ck : Nat)
    (hcs : cs < 7) (hckb : ck ≤ 1000) (hck : Hid (Cal (cs : Int) (cd : Nat) ck)) (HB : Hid (Below W.heap.size W w))
    (c0 c1 c2 c3 c4 c5 c6 c7 c8 c9 c10 c11 c12 c13 c14 c15 c16 c17 c18 c19 c20 c21 c22 c23 c24 c25 c26 c27 c28 c29 c30 c31 c32 c33 c34 c35 c36 c37 c38 c39 c42 c43 c45 c46 c47 c48 c49 c50 c51 c52 c53 c54 c55 c56 c57 c58 c59 c60 c61 c62 c63 c64 c65 c66 c67 c68 c69 c70 c71 c72 c73 c74 c75 c76 c77 c78 c79 c80 c81 c82 c83 c84 c85 c86 c87 c88 c89 c90 c91 c92 c93 c94 c95 c96 c97 c98 c99 c100 c101 c102 c103 c104 c105 c106 c107 c108 c109 c110 c111 c112 c113 c114 c115 c116 c117 c118 c119 c120 c121 c122 c123 c124 c125 c126 c127 c128 c129 c130 c131 c132 c133 c134 c135 c136 c137 c138 c139 c140 c141 c142 c143 c144 c145 c146 c147 c148 c149 c150 c151 c152 c153 c154 c155 c156 c157 c158 c159 c160 c161 c162 c163 c164 c165 c166 c167 c168 c169 c170 c171 c172 c173 c174 c175 c176 c177 c178 c179 c180 c181 c182 c183 c184 c185 c186 c187 c188 c189 c190 c191 c192 c193 c194 c195 c196 c197 c198 c199 c200 c201 c202 c203 c204 c205 c206 c207 c208 c209 c210 c211 c212 c213 c214 c215 c216 c217 c218 c219 c220 c221 c222 c223 c224 c225 c226 c227 c228 c229 c230 c231 c232 c233 c234 c235 c236 c237 c238 c239 c240 c241 c242 c243 c244 c245 c246 c247 c248 c249 c250 c251 c252 c253 c254 c255 c256 c257 c258 c259 c260 c261 c262 c263 c264 c265 c266 c267 c268 c269 c270 c271 c272 c273 c274 c275 c276 c277 c278 c279 c280 c281 c282 c283 c284 c285 c286 c287 c288 c289 c290 c291 c292 c293 c294 c295 c296 c297 c298 c299 c300 c301 c302 c303 c304 c305 c306 c307 c308 c309 c310 c311 c312 c313 c314 c315 c316 c317 c318 c319 c320 c321 c322 c323 c324 c325 c326 c327 c328 c329 c330 c331 c332 c333 c334 c335 c336 c337 c338 c339 c340 c341 c342 c343 c344 c345 c346 c347 c348 c349 c350 c351 c352 c353 c354 c355 c356 c357 c358 c359 c360 c361 c362 c363 c364 c365 c366 c367 c368 c369 c370 c371 c372 c373 c374 c375 c376 c377 c378 c379 c380 c381 c382 c383 c384 c385 c386 c387 c388 c389 c390 c391 c392 c393 c394 c395 c396 c397 c398 c399 c400 c401 c402 c403 c404 c405 c406 c407 c408 c409 c410 c411 c412 c413 c414 c415 c416 c417 c418 c419 c420 c421 c422 c423 c424 c425 c426 c427 c428 c429 c430 c431 c432 c433 c434 c435 c436 c437 c438 c439 : Value)
    (KC : Act → World → Prop) (hKC : ∀ a w, Code.wp Try.prog (sndOf codtailM42) (bodyPost Try.prog Try.f7 fun e w' => e = .returned (.bool true) ∧ Below W.heap.size W w') a w → KC a w) :
    Code.wp Try.prog (fstOf codtailM42) (Exit.then KC (bodyPost Try.prog Try.f7 fun e w' => e = .returned (.bool true) ∧ Below W.heap.size W w')) ⟨#[c0, c1, c2, c3, c4, c5, c6, c7, c8, c9, c10, c11, c12, c13, c14, c15, c16, c17, c18, c19, c20, c21, c22, c23, c24, c25, c26, c27, c28, c29, c30, c31, c32, c33, c34, c35, c36, c37, c38, c39, .int .i64 ((cs : Nat) : Int), .int .i64 ((cd : Nat) : Int), c42, c43, .int .i64 ((ck : Nat) : Int), c45, c46, c47, c48, c49, c50, c51, c52, c53, c54, c55, c56, c57, c58, c59, c60, c61, c62, c63, c64, c65, c66, c67, c68, c69, c70, c71, c72, c73, c74, c75, c76, c77, c78, c79, c80, c81, c82, c83, c84, c85, c86, c87, c88, c89, c90, c91, c92, c93, c94, c95, c96, c97, c98, c99, c100, c101, c102, c103, c104, c105, c106, c107, c108, c109, c110, c111, c112, c113, c114, c115, c116, c117, c118, c119, c120, c121, c122, c123, c124, c125, c126, c127, c128, c129, c130, c131, c132, c133, c134, c135, c136, c137, c138, c139, c140, c141, c142, c143, c144, c145, c146, c147, c148, c149, c150, c151, c152, c153, c154, c155, c156, c157, c158, c159, c160, c161, c162, c163, c164, c165, c166, c167, c168, c169, c170, c171, c172, c173, c174, c175, c176, c177, c178, c179, c180, c181, c182, c183, c184, c185, c186, c187, c188, c189, c190, c191, c192, c193, c194, c195, c196, c197, c198, c199, c200, c201, c202, c203, c204, c205, c206, c207, c208, c209, c210, c211, c212, c213, c214, c215, c216, c217, c218, c219, c220, c221, c222, c223, c224, c225, c226, c227, c228, c229, c230, c231, c232, c233, c234, c235, c236, c237, c238, c239, c240, c241, c242, c243, c244, c245, c246, c247, c248, c249, c250, c251, c252, c253, c254, c255, c256, c257, c258, c259, c260, c261, c262, c263, c264, c265, c266, c267, c268, c269, c270, c271, c272, c273, c274, c275, c276, c277, c278, c279, c280, c281, c282, c283, c284, c285, c286, c287, c288, c289, c290, c291, c292, c293, c294, c295, c296, c297, c298, c299, c300, c301, c302, c303, c304, c305, c306, c307, c308, c309, c310, c311, c312, c313, c314, c315, c316, c317, c318, c319, c320, c321, c322, c323, c324, c325, c326, c327, c328, c329, c330, c331, c332, c333, c334, c335, c336, c337, c338, c339, c340, c341, c342, c343, c344, c345, c346, c347, c348, c349, c350, c351, c352, c353, c354, c355, c356, c357, c358, c359, c360, c361, c362, c363, c364, c365, c366, c367, c368, c369, c370, c371, c372, c373, c374, c375, c376, c377, c378, c379, c380, c381, c382, c383, c384, c385, c386, c387, c388, c389, c390, c391, c392, c393, c394, c395, c396, c397, c398, c399, c400, c401, c402, c403, c404, c405, c406, c407, c408, c409, c410, c411, c412, c413, c414, c415, c416, c417, c418, c419, c420, c421, c422, c423, c424, c425, c426, c427, c428, c429, c430, c431, c432, c433, c434, c435, c436, c437, c438, c439], []⟩ w := by
  conv => arg 2; whnf
  conv at hKC => enter [a, w, 1, 2]; whnf
  go_wp2_with fail
  go_loop [46, 47] (fun wv i => ∃ j : Nat, j ≤ ck ∧ i = .int .i64 (j : Int) ∧ wv = .int .i64 ((wd (cs : Int) j : Nat) : Int)) (fun _ i => ck - (intOf i).toNat)
  case atStart => exact ⟨0, by omega, rfl, rfl⟩
  case round =>
    obtain ⟨j, hj, rfl, rfl⟩ := hrel
    have hwj := wd_le (cs : Int) j
    by_cases hlt : j < ck
    · by_cases h6 : ((cs : Int) + (j : Int)) % 7 = 6
      · have hq : (((cs : Int) + (j : Int)) % 7 != 6) = false := by simp [h6]
        have hst := Lib.hid (wd_succ_rest h6)
        go_wp2_with fail
        go_round
        case rel => first | exact ⟨j + 1, by omega, by go_num, by rw [hst.out]⟩ | exact ⟨_, _, _, ⟨j + 1, by omega, by go_num, by rw [hst.out]⟩, rfl, rfl, rfl⟩
        case measure => first | (simp [intOf]; done) | (simp [intOf]; omega)
      · have hq : (((cs : Int) + (j : Int)) % 7 != 6) = true := by simp [h6]
        have hst := Lib.hid (wd_succ_work h6)
        go_wp2_with fail
        go_round
        case rel => first | exact ⟨j + 1, by omega, by go_num, by rw [hst.out]; go_num⟩ | exact ⟨_, _, _, ⟨j + 1, by omega, by go_num, by rw [hst.out]; go_num⟩, rfl, rfl, rfl⟩
        case measure => first | (simp [intOf]; done) | (simp [intOf]; omega)
    · obtain rfl : j = ck := by omega
      have hcnt := hck.out.cnt
      have hlast := hck.out.last
      rw [hcnt]
      by_cases h0 : j = 0
      · subst h0
        go_wp2_with fail
        go_ret
        exact ⟨rfl, HB.out⟩
      · have e0 : (((j : Nat) : Int) == 0) = false := by simp; omega
        have e1 : (((cs : Int) + (j : Int) - 1) % 7 != 6) = true := by
          rcases hlast with h | h
          · exact absurd h h0
          · simpa using h
        go_wp2_with fail
        go_ret
        exact ⟨rfl, HB.out⟩
noncomputable def codtailM36 : Code := (Try.f7.body.bind (tailAt 36)).getD .skip
set_option maxHeartbeats 40000000 in
theorem tailM36 (W w : World) (q0 : List Int) (A0 : Option Addr) (cap0 : Nat)
    (Q0 : Hid (Bys W W.heap.size (.slice A0 q0.length cap0) q0)) (HB : Hid (Below W.heap.size W w))
    (c1 c2 c3 c4 c5 c6 c7 c8 c9 c10 c11 c12 c13 c14 c15 c16 c17 c18 c19 c20 c21 c22 c23 c24 c25 c26 c27 c28 c29 c30 c31 c32 c33 c34 c35 c36 c37 c38 c39 c40 c41 c42 c43 c44 c45 c46 c47 c48 c49 c50 c51 c52 c53 c54 c55 c56 c57 c58 c59 c60 c61 c62 c63 c64 c65 c66 c67 c68 c69 c70 c71 c72 c73 c74 c75 c76 c77 c78 c79 c80 c81 c82 c83 c84 c85 c86 c87 c88 c89 c90 c91 c92 c93 c94 c95 c96 c97 c98 c99 c100 c101 c102 c103 c104 c105 c106 c107 c108 c109 c110 c111 c112 c113 c114 c115 c116 c117 c118 c119 c120 c121 c122 c123 c124 c125 c126 c127 c128 c129 c130 c131 c132 c133 c134 c135 c136 c137 c138 c139 c140 c141 c142 c143 c144 c145 c146 c147 c148 c149 c150 c151 c152 c153 c154 c155 c156 c157 c158 c159 c160 c161 c162 c163 c164 c165 c166 c167 c168 c169 c170 c171 c172 c173 c174 c175 c176 c177 c178 c179 c180 c181 c182 c183 c184 c185 c186 c187 c188 c189 c190 c191 c192 c193 c194 c195 c196 c197 c198 c199 c200 c201 c202 c203 c204 c205 c206 c207 c208 c209 c210 c211 c212 c213 c214 c215 c216 c217 c218 c219 c220 c221 c222 c223 c224 c225 c226 c227 c228 c229 c230 c231 c232 c233 c234 c235 c236 c237 c238 c239 c240 c241 c242 c243 c244 c245 c246 c247 c248 c249 c250 c251 c252 c253 c254 c255 c256 c257 c258 c259 c260 c261 c262 c263 c264 c265 c266 c267 c268 c269 c270 c271 c272 c273 c274 c275 c276 c277 c278 c279 c280 c281 c282 c283 c284 c285 c286 c287 c288 c289 c290 c291 c292 c293 c294 c295 c296 c297 c298 c299 c300 c301 c302 c303 c304 c305 c306 c307 c308 c309 c310 c311 c312 c313 c314 c315 c316 c317 c318 c319 c320 c321 c322 c323 c324 c325 c326 c327 c328 c329 c330 c331 c332 c333 c334 c335 c336 c337 c338 c339 c340 c341 c342 c343 c344 c345 c346 c347 c348 c349 c350 c351 c352 c353 c354 c355 c356 c357 c358 c359 c360 c361 c362 c363 c364 c365 c366 c367 c368 c369 c370 c371 c372 c373 c374 c375 c376 c377 c378 c379 c380 c381 c382 c383 c384 c385 c386 c387 c388 c389 c390 c391 c392 c393 c394 c395 c396 c397 c398 c399 c400 c401 c402 c403 c404 c405 c406 c407 c408 c409 c410 c411 c412 c413 c414 c415 c416 c417 c418 c419 c420 c421 c422 c423 c424 c425 c426 c427 c428 c429 c430 c431 c432 c433 c434 c435 c436 c437 c438 c439 : Value)
    (KC : Act → World → Prop) (hKC : ∀ a w, Code.wp Try.prog (sndOf codtailM36) (bodyPost Try.prog Try.f7 fun e w' => e = .returned (.bool true) ∧ Below W.heap.size W w') a w → KC a w) :
    Code.wp Try.prog (fstOf codtailM36) (Exit.then KC (bodyPost Try.prog Try.f7 fun e w' => e = .returned (.bool true) ∧ Below W.heap.size W w')) ⟨#[.slice A0 q0.length cap0, c1, c2, c3, c4, c5, c6, c7, c8, c9, c10, c11, c12, c13, c14, c15, c16, c17, c18, c19, c20, c21, c22, c23, c24, c25, c26, c27, c28, c29, c30, c31, c32, c33, c34, c35, c36, c37, c38, c39, c40, c41, c42, c43, c44, c45, c46, c47, c48, c49, c50, c51, c52, c53, c54, c55, c56, c57, c58, c59, c60, c61, c62, c63, c64, c65, c66, c67, c68, c69, c70, c71, c72, c73, c74, c75, c76, c77, c78, c79, c80, c81, c82, c83, c84, c85, c86, c87, c88, c89, c90, c91, c92, c93, c94, c95, c96, c97, c98, c99, c100, c101, c102, c103, c104, c105, c106, c107, c108, c109, c110, c111, c112, c113, c114, c115, c116, c117, c118, c119, c120, c121, c122, c123, c124, c125, c126, c127, c128, c129, c130, c131, c132, c133, c134, c135, c136, c137, c138, c139, c140, c141, c142, c143, c144, c145, c146, c147, c148, c149, c150, c151, c152, c153, c154, c155, c156, c157, c158, c159, c160, c161, c162, c163, c164, c165, c166, c167, c168, c169, c170, c171, c172, c173, c174, c175, c176, c177, c178, c179, c180, c181, c182, c183, c184, c185, c186, c187, c188, c189, c190, c191, c192, c193, c194, c195, c196, c197, c198, c199, c200, c201, c202, c203, c204, c205, c206, c207, c208, c209, c210, c211, c212, c213, c214, c215, c216, c217, c218, c219, c220, c221, c222, c223, c224, c225, c226, c227, c228, c229, c230, c231, c232, c233, c234, c235, c236, c237, c238, c239, c240, c241, c242, c243, c244, c245, c246, c247, c248, c249, c250, c251, c252, c253, c254, c255, c256, c257, c258, c259, c260, c261, c262, c263, c264, c265, c266, c267, c268, c269, c270, c271, c272, c273, c274, c275, c276, c277, c278, c279, c280, c281, c282, c283, c284, c285, c286, c287, c288, c289, c290, c291, c292, c293, c294, c295, c296, c297, c298, c299, c300, c301, c302, c303, c304, c305, c306, c307, c308, c309, c310, c311, c312, c313, c314, c315, c316, c317, c318, c319, c320, c321, c322, c323, c324, c325, c326, c327, c328, c329, c330, c331, c332, c333, c334, c335, c336, c337, c338, c339, c340, c341, c342, c343, c344, c345, c346, c347, c348, c349, c350, c351, c352, c353, c354, c355, c356, c357, c358, c359, c360, c361, c362, c363, c364, c365, c366, c367, c368, c369, c370, c371, c372, c373, c374, c375, c376, c377, c378, c379, c380, c381, c382, c383, c384, c385, c386, c387, c388, c389, c390, c391, c392, c393, c394, c395, c396, c397, c398, c399, c400, c401, c402, c403, c404, c405, c406, c407, c408, c409, c410, c411, c412, c413, c414, c415, c416, c417, c418, c419, c420, c421, c422, c423, c424, c425, c426, c427, c428, c429, c430, c431, c432, c433, c434, c435, c436, c437, c438, c439], []⟩ w := by
  conv => arg 2; whnf
  conv at hKC => enter [a, w, 1, 2]; whnf
  go_wp2_with fail
  have Q0b := Lib.hid (⟨Q0.out.sl.ext HB.out, Q0.out.ok⟩ : Bys w w.heap.size _ q0)
  refine (a2At_calls _ q0 _ w Q0b.out 0 7 (by omega) (by omega) (by omega)).mono ?_
  rintro e w18 ⟨cs, hcs, rfl, rfl⟩
  dsimp only
  go_wp2_with fail
  refine (a2At_calls _ q0 _ w Q0b.out 1 60 (by omega) (by omega) (by omega)).mono ?_
  rintro e w18 ⟨cd, hcd, rfl, rfl⟩
  clear Q0b
  dsimp only
  go_wp2_with fail
  refine (implCal_calls cs cd (by omega) (by omega) w).mono ?_
  rintro e w18 ⟨ck, hck, hckb, rfl, rfl⟩
  have hck := Lib.hid hck
  dsimp only
  go_wp2_with fail
  refine (specCal_calls cs cd (by omega) (by omega) w).mono ?_
  rintro e w18 ⟨ck2, hck2, -, rfl, rfl⟩
  obtain rfl : ck = ck2 := hck.out.uniq hck2
  clear hck2
  have hge := hck.out.facts.1
  have hz1 : ck = 0 ↔ cd = 0 := hck.out.facts.2
  dsimp only
  go_upto_region 40 with (fail)
  go_cut [412] (fun c wy => c = .bool false ∧ wy = w)
  case first =>
    by_cases h0 : ck = 0
    · have h1 : cd = 0 := hz1.1 h0
      subst h0 h1
      clear hz1
      go_wp2_with fail
      go_meet
      exact ⟨rfl, rfl⟩
    · have h1 : cd ≠ 0 := fun h => h0 (hz1.2 h)
      have e0 : (((ck : Nat) : Int) == 0) = false := by simp; omega
      have e1 : (((cd : Nat) : Int) == 0) = false := by simp; omega
      clear hz1
      have h2 : decide ((ck : Int) < (cd : Int)) = false := decide_eq_false (by omega)
      have h4 : decide (ck < cd) = false := decide_eq_false (by omega)
      go_wp2_with fail
      go_meet
      exact ⟨rfl, rfl⟩
  obtain ⟨rfl, rfl⟩ := hcut
  clear hz1
  go_upto_region 42 with (fail)
  exact tailM42 W _ cs cd ck (by omega) (by omega) hck HB _ _ _ _ _ _ _ _ _ _ _ _ _ _ _ _ _ _ _ _ _ _ _ _ _ _ _ _ _ _ _ _ _ _ _ _ _ _ _ _ _ _ _ _ _ _ _ _ _ _ _ _ _ _ _ _ _ _ _ _ _ _ _ _ _ _ _ _ _ _ _ _ _ _ _ _ _ _ _ _ _ _ _ _ _ _ _ _ _ _ _ _ _ _ _ _ _ _ _ _ _ _ _ _ _ _ _ _ _ _ _ _ _ _ _ _ _ _ _ _ _ _ _ _ _ _ _ _ _ _ _ _ _ _ _ _ _ _ _ _ _ _ _ _ _ _ _ _ _ _ _ _ _ _ _ _ _ _ _ _ _ _ _ _ _ _ _ _ _ _ _ _ _ _ _ _ _ _ _ _ _ _ _ _ _ _ _ _ _ _ _ _ _ _ _ _ _ _ _ _ _ _ _ _ _ _ _ _ _ _ _ _ _ _ _ _ _ _ _ _ _ _ _ _ _ _ _ _ _ _ _ _ _ _ _ _ _ _ _ _ _ _ _ _ _ _ _ _ _ _ _ _ _ _ _ _ _ _ _ _ _ _ _ _ _ _ _ _ _ _ _ _ _ _ _ _ _ _ _ _ _ _ _ _ _ _ _ _ _ _ _ _ _ _ _ _ _ _ _ _ _ _ _ _ _ _ _ _ _ _ _ _ _ _ _ _ _ _ _ _ _ _ _ _ _ _ _ _ _ _ _ _ _ _ _ _ _ _ _ _ _ _ _ _ _ _ _ _ _ _ _ _ _ _ _ _ _ _ _ _ _ _ _ _ _ _ _ _ _ _ _ _ _ _ _ _ _ _ _ _ _ _ _ _ _ _ _ _ _ _ _ _ _ _ _ _ _ _ _ _ _ _ _ _ _ _ _ _ _ _ _ _ _ _ _ _ _ _ _ _ _ _ _ _ _ _ _ _ _ _ _ _ _ _ _ _ _ _ (by assumption)
noncomputable def codtailM31 : Code := (Try.f7.body.bind (tailAt 31)).getD .skip
set_option maxHeartbeats 40000000 in
theorem tailM31 (W w : World) (q0 : List Int) (A0 : Option Addr) (cap0 : Nat) (m s o : Mix) (gM gS gO : Nat) (K J bi bh : Int)
    (Q0 : Hid (Bys W W.heap.size (.slice A0 q0.length cap0) q0)) (HB : Hid (Below W.heap.size W w))
    (hso : Hid s.ok) (hoo : Hid o.ok) (KM : Hid (Bk w gM 24 #[.int .i16 m.x, .int .i16 m.y, .int .i16 m.z])) (KS : Hid (Bk w gS 24 #[.int .i16 s.x, .int .i16 s.y, .int .i16 s.z])) (KO : Hid (Bk w gO 24 #[.int .i16 o.x, .int .i16 o.y, .int .i16 o.z])) (hk0 : 0 ≤ K) (hk1 : K ≤ 297) (hj0 : 0 ≤ J) (hj1 : J ≤ 297) (hmo2 : Hid (mostFrom o s = (J, 0))) (hbb : Hid (bestMix [m, o] s = (bi, bh, 0))) (hbc : Hid ((K < J ∧ bi = 1 ∧ bh = J) ∨ (¬ K < J ∧ bi = 0 ∧ bh = K))) (hxo : Hid (∀ x ∈ [m, o], x.ok))
    (c1 c2 c3 c4 c7 c8 c9 c10 c11 c12 c13 c15 c16 c17 c18 c19 c20 c21 c22 c23 c24 c25 c26 c27 c28 c29 c30 c32 c33 c34 c35 c36 c37 c38 c39 c40 c41 c42 c43 c44 c45 c46 c47 c48 c49 c50 c51 c52 c53 c54 c55 c56 c57 c58 c59 c60 c61 c62 c63 c64 c65 c66 c67 c68 c69 c70 c71 c72 c73 c74 c75 c76 c77 c78 c79 c80 c81 c82 c83 c84 c85 c86 c87 c88 c89 c90 c91 c92 c93 c94 c95 c96 c97 c98 c99 c100 c101 c102 c103 c104 c105 c106 c107 c108 c109 c110 c111 c112 c113 c114 c115 c116 c117 c118 c119 c120 c121 c122 c123 c124 c125 c126 c127 c128 c129 c130 c131 c132 c133 c134 c135 c136 c137 c138 c139 c140 c141 c142 c143 c144 c145 c146 c147 c148 c149 c150 c151 c152 c153 c154 c155 c156 c157 c158 c159 c160 c161 c162 c163 c164 c165 c166 c167 c168 c169 c170 c171 c172 c173 c174 c175 c176 c177 c178 c179 c180 c181 c182 c183 c184 c185 c186 c187 c188 c189 c190 c191 c192 c193 c194 c195 c196 c197 c198 c199 c200 c201 c202 c203 c204 c205 c206 c207 c208 c209 c210 c211 c212 c213 c214 c215 c216 c217 c218 c219 c220 c221 c222 c223 c224 c225 c226 c227 c228 c229 c230 c231 c232 c233 c234 c235 c236 c237 c238 c239 c240 c241 c242 c243 c244 c245 c246 c247 c248 c249 c250 c251 c252 c253 c254 c255 c256 c257 c258 c259 c260 c261 c262 c263 c264 c265 c266 c267 c268 c269 c270 c271 c272 c273 c274 c275 c276 c277 c278 c279 c280 c281 c282 c283 c284 c285 c286 c287 c288 c289 c290 c291 c292 c293 c294 c295 c296 c297 c298 c299 c300 c301 c302 c303 c304 c305 c306 c307 c308 c309 c310 c311 c312 c313 c314 c315 c316 c317 c318 c319 c320 c321 c322 c323 c324 c325 c326 c327 c328 c329 c330 c331 c332 c333 c334 c335 c336 c337 c338 c339 c340 c341 c342 c343 c344 c345 c346 c347 c348 c349 c350 c351 c352 c353 c354 c355 c356 c357 c358 c359 c360 c361 c362 c363 c364 c365 c366 c367 c368 c369 c370 c371 c372 c373 c374 c375 c376 c377 c378 c379 c380 c381 c382 c383 c384 c385 c386 c387 c388 c389 c390 c391 c392 c393 c394 c395 c396 c397 c398 c399 c400 c401 c402 c403 c404 c405 c406 c407 c408 c409 c410 c411 c412 c413 c414 c415 c416 c417 c418 c419 c420 c421 c422 c423 c424 c425 c426 c427 c428 c429 c430 c431 c432 c433 c434 c435 c436 c437 c438 c439 : Value)
    (KC : Act → World → Prop) (hKC : ∀ a w, Code.wp Try.prog (sndOf codtailM31) (bodyPost Try.prog Try.f7 fun e w' => e = .returned (.bool true) ∧ Below W.heap.size W w') a w → KC a w) :
    Code.wp Try.prog (fstOf codtailM31) (Exit.then KC (bodyPost Try.prog Try.f7 fun e w' => e = .returned (.bool true) ∧ Below W.heap.size W w')) ⟨#[.slice A0 q0.length cap0, c1, c2, c3, c4, .pointer (some ⟨gM, 0, none⟩), .pointer (some ⟨gS, 0, none⟩), c7, c8, c9, c10, c11, c12, c13, .int .i64 K, c15, c16, c17, c18, c19, c20, c21, c22, c23, c24, c25, c26, c27, c28, c29, c30, .pointer (some ⟨gO, 0, none⟩), c32, c33, c34, c35, c36, c37, c38, c39, c40, c41, c42, c43, c44, c45, c46, c47, c48, c49, c50, c51, c52, c53, c54, c55, c56, c57, c58, c59, c60, c61, c62, c63, c64, c65, c66, c67, c68, c69, c70, c71, c72, c73, c74, c75, c76, c77, c78, c79, c80, c81, c82, c83, c84, c85, c86, c87, c88, c89, c90, c91, c92, c93, c94, c95, c96, c97, c98, c99, c100, c101, c102, c103, c104, c105, c106, c107, c108, c109, c110, c111, c112, c113, c114, c115, c116, c117, c118, c119, c120, c121, c122, c123, c124, c125, c126, c127, c128, c129, c130, c131, c132, c133, c134, c135, c136, c137, c138, c139, c140, c141, c142, c143, c144, c145, c146, c147, c148, c149, c150, c151, c152, c153, c154, c155, c156, c157, c158, c159, c160, c161, c162, c163, c164, c165, c166, c167, c168, c169, c170, c171, c172, c173, c174, c175, c176, c177, c178, c179, c180, c181, c182, c183, c184, c185, c186, c187, c188, c189, c190, c191, c192, c193, c194, c195, c196, c197, c198, c199, c200, c201, c202, c203, c204, c205, c206, c207, c208, c209, c210, c211, c212, c213, c214, c215, c216, c217, c218, c219, c220, c221, c222, c223, c224, c225, c226, c227, c228, c229, c230, c231, c232, c233, c234, c235, c236, c237, c238, c239, c240, c241, c242, c243, c244, c245, c246, c247, c248, c249, c250, c251, c252, c253, c254, c255, c256, c257, c258, c259, c260, c261, c262, c263, c264, c265, c266, c267, c268, c269, c270, c271, c272, c273, c274, c275, c276, c277, c278, c279, c280, c281, c282, c283, c284, c285, c286, c287, c288, c289, c290, c291, c292, c293, c294, c295, c296, c297, c298, c299, c300, c301, c302, c303, c304, c305, c306, c307, c308, c309, c310, c311, c312, c313, c314, c315, c316, c317, c318, c319, c320, c321, c322, c323, c324, c325, c326, c327, c328, c329, c330, c331, c332, c333, c334, c335, c336, c337, c338, c339, c340, c341, c342, c343, c344, c345, c346, c347, c348, c349, c350, c351, c352, c353, c354, c355, c356, c357, c358, c359, c360, c361, c362, c363, c364, c365, c366, c367, c368, c369, c370, c371, c372, c373, c374, c375, c376, c377, c378, c379, c380, c381, c382, c383, c384, c385, c386, c387, c388, c389, c390, c391, c392, c393, c394, c395, c396, c397, c398, c399, c400, c401, c402, c403, c404, c405, c406, c407, c408, c409, c410, c411, c412, c413, c414, c415, c416, c417, c418, c419, c420, c421, c422, c423, c424, c425, c426, c427, c428, c429, c430, c431, c432, c433, c434, c435, c436, c437, c438, c439], []⟩ w := by
  conv => arg 2; whnf
  conv at hKC => enter [a, w, 1, 2]; whnf
  have cM0 : w.cell? ⟨gM, 0, none⟩ = some (.int .i16 m.x) := KM.out.cell 0 _ rfl
  have cM1 : w.cell? ⟨gM, 1, none⟩ = some (.int .i16 m.y) := KM.out.cell 1 _ rfl
  have cM2 : w.cell? ⟨gM, 2, none⟩ = some (.int .i16 m.z) := KM.out.cell 2 _ rfl
  have cS0 : w.cell? ⟨gS, 0, none⟩ = some (.int .i16 s.x) := KS.out.cell 0 _ rfl
  have cS1 : w.cell? ⟨gS, 1, none⟩ = some (.int .i16 s.y) := KS.out.cell 1 _ rfl
  have cS2 : w.cell? ⟨gS, 2, none⟩ = some (.int .i16 s.z) := KS.out.cell 2 _ rfl
  have cO0 : w.cell? ⟨gO, 0, none⟩ = some (.int .i16 o.x) := KO.out.cell 0 _ rfl
  have cO1 : w.cell? ⟨gO, 1, none⟩ = some (.int .i16 o.y) := KO.out.cell 1 _ rfl
  have cO2 : w.cell? ⟨gO, 2, none⟩ = some (.int .i16 o.z) := KO.out.cell 2 _ rfl
  have KSa := (KS.out.alloc (.cells #[.int .i16 m.x, .int .i16 m.y, .int .i16 m.z, .int .i16 o.x, .int .i16 o.y, .int .i16 o.z] 24))
  have dS0 : (w.alloc (.cells #[.int .i16 m.x, .int .i16 m.y, .int .i16 m.z, .int .i16 o.x, .int .i16 o.y, .int .i16 o.z] 24)).cell? ⟨gS, 0, none⟩ = some (.int .i16 s.x) := KSa.cell 0 _ rfl
  have dS1 : (w.alloc (.cells #[.int .i16 m.x, .int .i16 m.y, .int .i16 m.z, .int .i16 o.x, .int .i16 o.y, .int .i16 o.z] 24)).cell? ⟨gS, 1, none⟩ = some (.int .i16 s.y) := KSa.cell 1 _ rfl
  have dS2 : (w.alloc (.cells #[.int .i16 m.x, .int .i16 m.y, .int .i16 m.z, .int .i16 o.x, .int .i16 o.y, .int .i16 o.z] 24)).cell? ⟨gS, 2, none⟩ = some (.int .i16 s.z) := KSa.cell 2 _ rfl
  clear KSa
  have q := Lib.hid (implBestMix_calls [m, o] hxo.out (.slice (some ⟨w.heap.size, 0, none⟩) 2 2) s hso.out (w.alloc (.cells #[.int .i16 m.x, .int .i16 m.y, .int .i16 m.z, .int .i16 o.x, .int .i16 o.y, .int .i16 o.z] 24)) (two_row m o _ _ (Bk.new w 24 #[.int .i16 m.x, .int .i16 m.y, .int .i16 m.z, .int .i16 o.x, .int .i16 o.y, .int .i16 o.z] w.heap.size rfl)))
  rw [hbb.out] at q
  unfold Mix.v at q
  go_wp2_with fail
  refine q.out.mono ?_
  rintro e w15 ⟨rfl, hb⟩
  clear q dS0 dS1 dS2 cM0 cM1 cM2 cS0 cS1 cS2 cO0 cO1 cO2
  replace HB := Lib.hid (ext_trans (HB.out.alloc HB.out.size (.cells #[.int .i16 m.x, .int .i16 m.y, .int .i16 m.z, .int .i16 o.x, .int .i16 o.y, .int .i16 o.z] 24)) hb)
  replace KM := Lib.hid ((KM.out.alloc (.cells #[.int .i16 m.x, .int .i16 m.y, .int .i16 m.z, .int .i16 o.x, .int .i16 o.y, .int .i16 o.z] 24)).ext hb)
  replace KS := Lib.hid ((KS.out.alloc (.cells #[.int .i16 m.x, .int .i16 m.y, .int .i16 m.z, .int .i16 o.x, .int .i16 o.y, .int .i16 o.z] 24)).ext hb)
  replace KO := Lib.hid ((KO.out.alloc (.cells #[.int .i16 m.x, .int .i16 m.y, .int .i16 m.z, .int .i16 o.x, .int .i16 o.y, .int .i16 o.z] 24)).ext hb)
  clear hb
  dsimp only
  have cM0 : w15.cell? ⟨gM, 0, none⟩ = some (.int .i16 m.x) := KM.out.cell 0 _ rfl
  have cM1 : w15.cell? ⟨gM, 1, none⟩ = some (.int .i16 m.y) := KM.out.cell 1 _ rfl
  have cM2 : w15.cell? ⟨gM, 2, none⟩ = some (.int .i16 m.z) := KM.out.cell 2 _ rfl
  have cS0 : w15.cell? ⟨gS, 0, none⟩ = some (.int .i16 s.x) := KS.out.cell 0 _ rfl
  have cS1 : w15.cell? ⟨gS, 1, none⟩ = some (.int .i16 s.y) := KS.out.cell 1 _ rfl
  have cS2 : w15.cell? ⟨gS, 2, none⟩ = some (.int .i16 s.z) := KS.out.cell 2 _ rfl
  have cO0 : w15.cell? ⟨gO, 0, none⟩ = some (.int .i16 o.x) := KO.out.cell 0 _ rfl
  have cO1 : w15.cell? ⟨gO, 1, none⟩ = some (.int .i16 o.y) := KO.out.cell 1 _ rfl
  have cO2 : w15.cell? ⟨gO, 2, none⟩ = some (.int .i16 o.z) := KO.out.cell 2 _ rfl
  have KSa := (KS.out.alloc (.cells #[.int .i16 m.x, .int .i16 m.y, .int .i16 m.z, .int .i16 o.x, .int .i16 o.y, .int .i16 o.z] 24))
  have dS0 : (w15.alloc (.cells #[.int .i16 m.x, .int .i16 m.y, .int .i16 m.z, .int .i16 o.x, .int .i16 o.y, .int .i16 o.z] 24)).cell? ⟨gS, 0, none⟩ = some (.int .i16 s.x) := KSa.cell 0 _ rfl
  have dS1 : (w15.alloc (.cells #[.int .i16 m.x, .int .i16 m.y, .int .i16 m.z, .int .i16 o.x, .int .i16 o.y, .int .i16 o.z] 24)).cell? ⟨gS, 1, none⟩ = some (.int .i16 s.y) := KSa.cell 1 _ rfl
  have dS2 : (w15.alloc (.cells #[.int .i16 m.x, .int .i16 m.y, .int .i16 m.z, .int .i16 o.x, .int .i16 o.y, .int .i16 o.z] 24)).cell? ⟨gS, 2, none⟩ = some (.int .i16 s.z) := KSa.cell 2 _ rfl
  clear KSa
  have q := Lib.hid (specBestMix_calls [m, o] hxo.out (.slice (some ⟨w15.heap.size, 0, none⟩) 2 2) s hso.out (w15.alloc (.cells #[.int .i16 m.x, .int .i16 m.y, .int .i16 m.z, .int .i16 o.x, .int .i16 o.y, .int .i16 o.z] 24)) (two_row m o _ _ (Bk.new w15 24 #[.int .i16 m.x, .int .i16 m.y, .int .i16 m.z, .int .i16 o.x, .int .i16 o.y, .int .i16 o.z] w15.heap.size rfl)))
  rw [hbb.out] at q
  unfold Mix.v at q
  go_wp2_with fail
  refine q.out.mono ?_
  rintro e w16 ⟨rfl, hb⟩
  clear q dS0 dS1 dS2 cM0 cM1 cM2 cS0 cS1 cS2 cO0 cO1 cO2
  replace HB := Lib.hid (ext_trans (HB.out.alloc HB.out.size (.cells #[.int .i16 m.x, .int .i16 m.y, .int .i16 m.z, .int .i16 o.x, .int .i16 o.y, .int .i16 o.z] 24)) hb)
  replace KM := Lib.hid ((KM.out.alloc (.cells #[.int .i16 m.x, .int .i16 m.y, .int .i16 m.z, .int .i16 o.x, .int .i16 o.y, .int .i16 o.z] 24)).ext hb)
  replace KS := Lib.hid ((KS.out.alloc (.cells #[.int .i16 m.x, .int .i16 m.y, .int .i16 m.z, .int .i16 o.x, .int .i16 o.y, .int .i16 o.z] 24)).ext hb)
  replace KO := Lib.hid ((KO.out.alloc (.cells #[.int .i16 m.x, .int .i16 m.y, .int .i16 m.z, .int .i16 o.x, .int .i16 o.y, .int .i16 o.z] 24)).ext hb)
  clear hb
  dsimp only
  have cM0 : w16.cell? ⟨gM, 0, none⟩ = some (.int .i16 m.x) := KM.out.cell 0 _ rfl
  have cM1 : w16.cell? ⟨gM, 1, none⟩ = some (.int .i16 m.y) := KM.out.cell 1 _ rfl
  have cM2 : w16.cell? ⟨gM, 2, none⟩ = some (.int .i16 m.z) := KM.out.cell 2 _ rfl
  have cS0 : w16.cell? ⟨gS, 0, none⟩ = some (.int .i16 s.x) := KS.out.cell 0 _ rfl
  have cS1 : w16.cell? ⟨gS, 1, none⟩ = some (.int .i16 s.y) := KS.out.cell 1 _ rfl
  have cS2 : w16.cell? ⟨gS, 2, none⟩ = some (.int .i16 s.z) := KS.out.cell 2 _ rfl
  have cO0 : w16.cell? ⟨gO, 0, none⟩ = some (.int .i16 o.x) := KO.out.cell 0 _ rfl
  have cO1 : w16.cell? ⟨gO, 1, none⟩ = some (.int .i16 o.y) := KO.out.cell 1 _ rfl
  have cO2 : w16.cell? ⟨gO, 2, none⟩ = some (.int .i16 o.z) := KO.out.cell 2 _ rfl
  have q := Lib.hid (specMostFrom_calls o hoo.out s hso.out w16)
  rw [hmo2.out] at q
  unfold Mix.v at q
  go_wp2_with fail
  refine q.out.mono ?_
  rintro e w17 ⟨rfl, hb⟩
  clear q cM0 cM1 cM2 cS0 cS1 cS2 cO0 cO1 cO2
  replace HB := Lib.hid (ext_trans HB.out hb)
  clear hb KM KS KO hmo2 hbb hxo
  dsimp only
  rcases hbc.out with ⟨h1, rfl, rfl⟩ | ⟨h1, rfl, rfl⟩
  · have h2 : decide (bh ≤ K) = false := decide_eq_false (by omega)
    have h3 : decide (K < bh) = true := decide_eq_true (by omega)
    have h5 : (if K < bh then bh else K) = bh := if_pos (by omega)
    clear hbc h1
    go_upto_region 36 with (fail)
    exact tailM36 W _ q0 A0 cap0 Q0 HB _ _ _ _ _ _ _ _ _ _ _ _ _ _ _ _ _ _ _ _ _ _ _ _ _ _ _ _ _ _ _ _ _ _ _ _ _ _ _ _ _ _ _ _ _ _ _ _ _ _ _ _ _ _ _ _ _ _ _ _ _ _ _ _ _ _ _ _ _ _ _ _ _ _ _ _ _ _ _ _ _ _ _ _ _ _ _ _ _ _ _ _ _ _ _ _ _ _ _ _ _ _ _ _ _ _ _ _ _ _ _ _ _ _ _ _ _ _ _ _ _ _ _ _ _ _ _ _ _ _ _ _ _ _ _ _ _ _ _ _ _ _ _ _ _ _ _ _ _ _ _ _ _ _ _ _ _ _ _ _ _ _ _ _ _ _ _ _ _ _ _ _ _ _ _ _ _ _ _ _ _ _ _ _ _ _ _ _ _ _ _ _ _ _ _ _ _ _ _ _ _ _ _ _ _ _ _ _ _ _ _ _ _ _ _ _ _ _ _ _ _ _ _ _ _ _ _ _ _ _ _ _ _ _ _ _ _ _ _ _ _ _ _ _ _ _ _ _ _ _ _ _ _ _ _ _ _ _ _ _ _ _ _ _ _ _ _ _ _ _ _ _ _ _ _ _ _ _ _ _ _ _ _ _ _ _ _ _ _ _ _ _ _ _ _ _ _ _ _ _ _ _ _ _ _ _ _ _ _ _ _ _ _ _ _ _ _ _ _ _ _ _ _ _ _ _ _ _ _ _ _ _ _ _ _ _ _ _ _ _ _ _ _ _ _ _ _ _ _ _ _ _ _ _ _ _ _ _ _ _ _ _ _ _ _ _ _ _ _ _ _ _ _ _ _ _ _ _ _ _ _ _ _ _ _ _ _ _ _ _ _ _ _ _ _ _ _ _ _ _ _ _ _ _ _ _ _ _ _ _ _ _ _ _ _ _ _ _ _ _ _ _ _ _ _ _ _ _ _ _ _ _ _ _ _ _ _ _ _ _ (by assumption)
  · have h2 : decide (J ≤ bh) = true := decide_eq_true (by omega)
    have h3 : decide (bh < J) = false := decide_eq_false (by omega)
    have h5 : (if bh < J then J else bh) = bh := if_neg (by omega)
    clear hbc h1
    go_upto_region 36 with (fail)
    exact tailM36 W _ q0 A0 cap0 Q0 HB _ _ _ _ _ _ _ _ _ _ _ _ _ _ _ _ _ _ _ _ _ _ _ _ _ _ _ _ _ _ _ _ _ _ _ _ _ _ _ _ _ _ _ _ _ _ _ _ _ _ _ _ _ _ _ _ _ _ _ _ _ _ _ _ _ _ _ _ _ _ _ _ _ _ _ _ _ _ _ _ _ _ _ _ _ _ _ _ _ _ _ _ _ _ _ _ _ _ _ _ _ _ _ _ _ _ _ _ _ _ _ _ _ _ _ _ _ _ _ _ _ _ _ _ _ _ _ _ _ _ _ _ _ _ _ _ _ _ _ _ _ _ _ _ _ _ _ _ _ _ _ _ _ _ _ _ _ _ _ _ _ _ _ _ _ _ _ _ _ _ _ _ _ _ _ _ _ _ _ _ _ _ _ _ _ _ _ _ _ _ _ _ _ _ _ _ _ _ _ _ _ _ _ _ _ _ _ _ _ _ _ _ _ _ _ _ _ _ _ _ _ _ _ _ _ _ _ _ _ _ _ _ _ _ _ _ _ _ _ _ _ _ _ _ _ _ _ _ _ _ _ _ _ _ _ _ _ _ _ _ _ _ _ _ _ _ _ _ _ _ _ _ _ _ _ _ _ _ _ _ _ _ _ _ _ _ _ _ _ _ _ _ _ _ _ _ _ _ _ _ _ _ _ _ _ _ _ _ _ _ _ _ _ _ _ _ _ _ _ _ _ _ _ _ _ _ _ _ _ _ _ _ _ _ _ _ _ _ _ _ _ _ _ _ _ _ _ _ _ _ _ _ _ _ _ _ _ _ _ _ _ _ _ _ _ _ _ _ _ _ _ _ _ _ _ _ _ _ _ _ _ _ _ _ _ _ _ _ _ _ _ _ _ _ _ _ _ _ _ _ _ _ _ _ _ _ _ _ _ _ _ _ _ _ _ _ _ _ _ _ _ _ _ _ _ _ _ _ _ _ _ _ _ _ _ _ _ _ _ _ (by assumption)
noncomputable def codtailM30 : Code := (Try.f7.body.bind (tailAt 30)).getD .skip
set_option maxHeartbeats 40000000 in
theorem tailM30 (W w : World) (q0 q1 : List Int) (A0 A1 : Option Addr) (cap0 cap1 : Nat) (m s : Mix) (gM gS : Nat) (K : Int)
    (Q0 : Hid (Bys W W.heap.size (.slice A0 q0.length cap0) q0)) (Q1 : Hid (Bys W W.heap.size (.slice A1 q1.length cap1) q1)) (HB : Hid (Below W.heap.size W w))
    (hmo : Hid m.ok) (hso : Hid s.ok) (hv : Hid (vMixS m = true)) (hvs : Hid (vStock s = true)) (KM : Hid (Bk w gM 24 #[.int .i16 m.x, .int .i16 m.y, .int .i16 m.z])) (KS : Hid (Bk w gS 24 #[.int .i16 s.x, .int .i16 s.y, .int .i16 s.z])) (hK2 : Hid (mostA m s = K)) (sxyz : Hid ((0 ≤ s.x ∧ s.x ≤ 99) ∧ (0 ≤ s.y ∧ s.y ≤ 99) ∧ (0 ≤ s.z ∧ s.z ≤ 99)))
    (c2 c3 c4 c7 c8 c9 c10 c11 c12 c13 c15 c16 c17 c18 c19 c20 c21 c22 c23 c24 c25 c26 c27 c28 c29 c30 c31 c32 c33 c34 c35 c36 c37 c38 c39 c40 c41 c42 c43 c44 c45 c46 c47 c48 c49 c50 c51 c52 c53 c54 c55 c56 c57 c58 c59 c60 c61 c62 c63 c64 c65 c66 c67 c68 c69 c70 c71 c72 c73 c74 c75 c76 c77 c78 c79 c80 c81 c82 c83 c84 c85 c86 c87 c88 c89 c90 c91 c92 c93 c94 c95 c96 c97 c98 c99 c100 c101 c102 c103 c104 c105 c106 c107 c108 c109 c110 c111 c112 c113 c114 c115 c116 c117 c118 c119 c120 c121 c122 c123 c124 c125 c126 c127 c128 c129 c130 c131 c132 c133 c134 c135 c136 c137 c138 c139 c140 c141 c142 c143 c144 c145 c146 c147 c148 c149 c150 c151 c152 c153 c154 c155 c156 c157 c158 c159 c160 c161 c162 c163 c164 c165 c166 c167 c168 c169 c170 c171 c172 c173 c174 c175 c176 c177 c178 c179 c180 c181 c182 c183 c184 c185 c186 c187 c188 c189 c190 c191 c192 c193 c194 c195 c196 c197 c198 c199 c200 c201 c202 c203 c204 c205 c206 c207 c208 c209 c210 c211 c212 c213 c214 c215 c216 c217 c218 c219 c220 c221 c222 c223 c224 c225 c226 c227 c228 c229 c230 c231 c232 c233 c234 c235 c236 c237 c238 c239 c240 c241 c242 c243 c244 c245 c246 c247 c248 c249 c250 c251 c252 c253 c254 c255 c256 c257 c258 c259 c260 c261 c262 c263 c264 c265 c266 c267 c268 c269 c270 c271 c272 c273 c274 c275 c276 c277 c278 c279 c280 c281 c282 c283 c284 c285 c286 c287 c288 c289 c290 c291 c292 c293 c294 c295 c296 c297 c298 c299 c300 c301 c302 c303 c304 c305 c306 c307 c308 c309 c310 c311 c312 c313 c314 c315 c316 c317 c318 c319 c320 c321 c322 c323 c324 c325 c326 c327 c328 c329 c330 c331 c332 c333 c334 c335 c336 c337 c338 c339 c340 c341 c342 c343 c344 c345 c346 c347 c348 c349 c350 c351 c352 c353 c354 c355 c356 c357 c358 c359 c360 c361 c362 c363 c364 c365 c366 c367 c368 c369 c370 c371 c372 c373 c374 c375 c376 c377 c378 c379 c380 c381 c382 c383 c384 c385 c386 c387 c388 c389 c390 c391 c392 c393 c394 c395 c396 c397 c398 c399 c400 c401 c402 c403 c404 c405 c406 c407 c408 c409 c410 c411 c412 c413 c414 c415 c416 c417 c418 c419 c420 c421 c422 c423 c424 c425 c426 c427 c428 c429 c430 c431 c432 c433 c434 c435 c436 c437 c438 c439 : Value)
    (KC : Act → World → Prop) (hKC : ∀ a w, Code.wp Try.prog (sndOf codtailM30) (bodyPost Try.prog Try.f7 fun e w' => e = .returned (.bool true) ∧ Below W.heap.size W w') a w → KC a w) :
    Code.wp Try.prog (fstOf codtailM30) (Exit.then KC (bodyPost Try.prog Try.f7 fun e w' => e = .returned (.bool true) ∧ Below W.heap.size W w')) ⟨#[.slice A0 q0.length cap0, .slice A1 q1.length cap1, c2, c3, c4, .pointer (some ⟨gM, 0, none⟩), .pointer (some ⟨gS, 0, none⟩), c7, c8, c9, c10, c11, c12, c13, .int .i64 K, c15, c16, c17, c18, c19, c20, c21, c22, c23, c24, c25, c26, c27, c28, c29, c30, c31, c32, c33, c34, c35, c36, c37, c38, c39, c40, c41, c42, c43, c44, c45, c46, c47, c48, c49, c50, c51, c52, c53, c54, c55, c56, c57, c58, c59, c60, c61, c62, c63, c64, c65, c66, c67, c68, c69, c70, c71, c72, c73, c74, c75, c76, c77, c78, c79, c80, c81, c82, c83, c84, c85, c86, c87, c88, c89, c90, c91, c92, c93, c94, c95, c96, c97, c98, c99, c100, c101, c102, c103, c104, c105, c106, c107, c108, c109, c110, c111, c112, c113, c114, c115, c116, c117, c118, c119, c120, c121, c122, c123, c124, c125, c126, c127, c128, c129, c130, c131, c132, c133, c134, c135, c136, c137, c138, c139, c140, c141, c142, c143, c144, c145, c146, c147, c148, c149, c150, c151, c152, c153, c154, c155, c156, c157, c158, c159, c160, c161, c162, c163, c164, c165, c166, c167, c168, c169, c170, c171, c172, c173, c174, c175, c176, c177, c178, c179, c180, c181, c182, c183, c184, c185, c186, c187, c188, c189, c190, c191, c192, c193, c194, c195, c196, c197, c198, c199, c200, c201, c202, c203, c204, c205, c206, c207, c208, c209, c210, c211, c212, c213, c214, c215, c216, c217, c218, c219, c220, c221, c222, c223, c224, c225, c226, c227, c228, c229, c230, c231, c232, c233, c234, c235, c236, c237, c238, c239, c240, c241, c242, c243, c244, c245, c246, c247, c248, c249, c250, c251, c252, c253, c254, c255, c256, c257, c258, c259, c260, c261, c262, c263, c264, c265, c266, c267, c268, c269, c270, c271, c272, c273, c274, c275, c276, c277, c278, c279, c280, c281, c282, c283, c284, c285, c286, c287, c288, c289, c290, c291, c292, c293, c294, c295, c296, c297, c298, c299, c300, c301, c302, c303, c304, c305, c306, c307, c308, c309, c310, c311, c312, c313, c314, c315, c316, c317, c318, c319, c320, c321, c322, c323, c324, c325, c326, c327, c328, c329, c330, c331, c332, c333, c334, c335, c336, c337, c338, c339, c340, c341, c342, c343, c344, c345, c346, c347, c348, c349, c350, c351, c352, c353, c354, c355, c356, c357, c358, c359, c360, c361, c362, c363, c364, c365, c366, c367, c368, c369, c370, c371, c372, c373, c374, c375, c376, c377, c378, c379, c380, c381, c382, c383, c384, c385, c386, c387, c388, c389, c390, c391, c392, c393, c394, c395, c396, c397, c398, c399, c400, c401, c402, c403, c404, c405, c406, c407, c408, c409, c410, c411, c412, c413, c414, c415, c416, c417, c418, c419, c420, c421, c422, c423, c424, c425, c426, c427, c428, c429, c430, c431, c432, c433, c434, c435, c436, c437, c438, c439], []⟩ w := by
  conv => arg 2; whnf
  conv at hKC => enter [a, w, 1, 2]; whnf
  have hmost := Lib.hid (hK2.out ▸ mostA_facts m s hv.out sxyz.out)
  go_wp2_with fail
  have Q1b := Lib.hid (⟨Q1.out.sl.ext HB.out, Q1.out.ok⟩ : Bys w w.heap.size _ q1)
  refine (a2Mix_calls _ q1 w Q1b.out).mono ?_
  rintro e w14 ⟨o, rfl, ox, oy', oz, os, hb⟩
  clear Q1b
  have hvo := Lib.hid (show vMixS o = true from by simp [vMixS, inB]; omega)
  have hoo := Lib.hid (show o.ok from ⟨by omega, by omega, by omega, by omega, by omega, by omega⟩)
  have hbest := Lib.hid (best_two hv.out hvo.out hvs.out)
  have hmo2 := Lib.hid (show mostFrom o s = (mostA o s, 0) from by rw [mostFrom, if_pos hvo.out, if_pos hvs.out])
  have hmost2 := Lib.hid (mostA_facts o s hvo.out sxyz.out)
  rw [hK2.out] at hbest
  obtain ⟨J, hJ⟩ : ∃ J, mostA o s = J := ⟨_, rfl⟩
  rw [hJ] at hbest hmo2 hmost2
  clear hJ ox oy' oz os
  obtain ⟨bi, bh, hbb, hbc⟩ : ∃ bi bh : Int, bestMix [m, o] s = (bi, bh, 0) ∧ ((K < J ∧ bi = 1 ∧ bh = J) ∨ (¬ K < J ∧ bi = 0 ∧ bh = K)) := by
    by_cases h : K < J
    · exact ⟨1, J, by rw [hbest.out, if_pos h], .inl ⟨h, rfl, rfl⟩⟩
    · exact ⟨0, K, by rw [hbest.out, if_neg h], .inr ⟨h, rfl, rfl⟩⟩
  have hbb := Lib.hid hbb
  have hbc := Lib.hid hbc
  have hxo := Lib.hid (show ∀ x ∈ [m, o], x.ok from by intro x hx; simp at hx; rcases hx with rfl | rfl; exact hmo.out; exact hoo.out)
  unfold Mix.v
  have HB2 := Lib.hid ((ext_trans HB.out hb).alloc (ext_trans HB.out hb).size (.cells #[.int .i16 o.x, .int .i16 o.y, .int .i16 o.z] 24))
  have KM2 := Lib.hid ((KM.out.ext hb).alloc (.cells #[.int .i16 o.x, .int .i16 o.y, .int .i16 o.z] 24))
  have KS2 := Lib.hid ((KS.out.ext hb).alloc (.cells #[.int .i16 o.x, .int .i16 o.y, .int .i16 o.z] 24))
  have KO := Lib.hid (Bk.new w14 24 #[.int .i16 o.x, .int .i16 o.y, .int .i16 o.z] w14.heap.size rfl)
  clear hb HB KM KS
  dsimp only
  go_upto_region 31 with (fail)
  exact tailM31 W _ q0 A0 cap0 m s o gM gS w14.heap.size K J bi bh Q0 HB2 hso hoo KM2 KS2 KO hmost.out.1 hmost.out.2.1 hmost2.out.1 hmost2.out.2.1 hmo2 hbb hbc hxo _ _ _ _ _ _ _ _ _ _ _ _ _ _ _ _ _ _ _ _ _ _ _ _ _ _ _ _ _ _ _ _ _ _ _ _ _ _ _ _ _ _ _ _ _ _ _ _ _ _ _ _ _ _ _ _ _ _ _ _ _ _ _ _ _ _ _ _ _ _ _ _ _ _ _ _ _ _ _ _ _ _ _ _ _ _ _ _ _ _ _ _ _ _ _ _ _ _ _ _ _ _ _ _ _ _ _ _ _ _ _ _ _ _ _ _ _ _ _ _ _ _ _ _ _ _ _ _ _ _ _ _ _ _ _ _ _ _ _ _ _ _ _ _ _ _ _ _ _ _ _ _ _ _ _ _ _ _ _ _ _ _ _ _ _ _ _ _ _ _ _ _ _ _ _ _ _ _ _ _ _ _ _ _ _ _ _ _ _ _ _ _ _ _ _ _ _ _ _ _ _ _ _ _ _ _ _ _ _ _ _ _ _ _ _ _ _ _ _ _ _ _ _ _ _ _ _ _ _ _ _ _ _ _ _ _ _ _ _ _ _ _ _ _ _ _ _ _ _ _ _ _ _ _ _ _ _ _ _ _ _ _ _ _ _ _ _ _ _ _ _ _ _ _ _ _ _ _ _ _ _ _ _ _ _ _ _ _ _ _ _ _ _ _ _ _ _ _ _ _ _ _ _ _ _ _ _ _ _ _ _ _ _ _ _ _ _ _ _ _ _ _ _ _ _ _ _ _ _ _ _ _ _ _ _ _ _ _ _ _ _ _ _ _ _ _ _ _ _ _ _ _ _ _ _ _ _ _ _ _ _ _ _ _ _ _ _ _ _ _ _ _ _ _ _ _ _ _ _ _ _ _ _ _ _ _ _ _ _ _ _ _ _ _ _ _ _ _ _ _ _ _ _ _ _ _ _ _ _ _ _ _ _ _ _ _ _ _ _ _ _ _ _ _ _ _ _ _ _ _ _ _ _ _ _ _ (by assumption)
end Go.Proofs.Ytgifakacnneleaa
