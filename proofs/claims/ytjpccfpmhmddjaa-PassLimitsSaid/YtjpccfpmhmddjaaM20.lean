/-
  What is proved: the two tests in the loop of PassLimits.
-/
import Derived.Test.YtjpccfpmhmddjaaM19
import Derived.Deep.CutRange
import Derived.Test.YtjpccfpmhmddjaaM9
import Derived.OpenShut
import Derived.Test.YtjpccfpmhmddjaaM14
set_option linter.all false
namespace Go.Proofs.Ytjpccfpmhmddjaa
open Go.RowKit
attribute [local irreducible] Go.wpCalm

noncomputable def r32 : Code := (Try.f8.body.bind (theRegion 32)).getD .skip
set_option maxRecDepth 1000000 in
set_option maxHeartbeats 16000000 in
theorem lim_r32 (wr : World) (n blk ob oo m ocap b16 q R R1 K1 pr : Nat) (hn : n ≤ 4) (hm : m ≤ 24) (hmo : m ≤ ocap) (hoc : ocap ≤ 9223372036854775807) (hq : (q : Int) < m) (hR : (R : Int) < n) (hp6 : pr ≤ 6)
    (o0 : wr.cell? ⟨ob, oo + q, none⟩ = some (.int .i64 R)) (p0 : wr.cell? ⟨b16, 0, none⟩ = some (.int .i64 R1)) (p1 : wr.cell? ⟨b16, 1, none⟩ = some (.int .i64 K1)) (a0 : wr.cell? ⟨blk, R, none⟩ = some (.int .i64 pr))
    (Q : Exit → Act → World → Prop) (z0 z1 z2 z3 z4 z5 z6 z7 z8 z9 z10 z11 z12 z13 z14 z15 z17 z18 z19 z20 z21 z22 z23 z24 z25 z26 z27 z28 z29 z31 z34 z35 z36 z37 z38 z39 z40 z41 z42 z43 z44 z45 z46 z47 z48 z49 z50 z51 z52 z53 z54 z55 z56 z57 z58 z59 z60 z61 z62 z63 z64 z65 z66 z67 z68 z69 z70 z71 z72 z73 z74 z75 z76 z77 z78 z79 z80 z81 z82 z83 z84 z85 z86 z87 z88 z89 z90 z91 z92 z93 z94 z95 z96 z97 z98 z99 z100 z101 z102 z103 z104 z105 z106 z107 z108 z109 z110 z111 z112 z113 z114 z115 z116 z117 z118 z119 z120 z121 z122 z123 z124 z125 z126 z127 z128 z129 z130 z131 z132 z133 z134 z135 z136 z137 z138 z139 z140 z141 z142 z143 z144 z145 z146 z147 z148 z149 z150 z151 z152 z153 z154 z155 z156 z157 z158 z159 z160 z161 z162 z163 z164 z165 z166 z167 z168 z169 z170 z171 z172 z173 z174 z175 z176 z177 z178 z179 z180 z181 z182 z183 z184 z185 z186 z187 z188 z189 z190 z191 z192 z193 z194 z195 z196 z197 z198 z199 z200 z201 z202 z203 z204 z205 z206 z207 z208 z209 z210 z211 z212 z213 z214 z215 z216 z217 z218 z219 z220 z221 z222 z223 z224 z225 z226 z227 z228 z229 z230 z231 z232 z233 z234 z235 z236 z237 z238 z239 z240 z241 z242 z243 z244 z245 z246 z247 z248 z249 z250 z251 z252 z253 z254 z255 z256 z257 z258 z259 z260 z261 z262 z263 z264 z265 z266 z267 z268 z269 z270 z271 z272 z273 z274 z275 z276 z277 z278 z279 z280 z281 z282 z283 z284 z285 z286 z287 z288 z289 z290 z291 z292 z293 z294 z295 z296 z297 z298 z299 z300 z301 z302 z303 z304 z305 z306 z307 z308 z309 z310 z311 z312 z313 z314 z315 z316 z317 z318 z319 z320 z321 z322 z323 z324 z325 z326 z327 z328 z329 z330 z331 z332 z333 z334 z335 z336 z337 z338 z339 z340 z341 z342 : Value)
    (hexit : ∀ (x262 x263 x264 x265 x266 x267 x268 x269 x270 x271 x272 x273 x274 x275 x276 x277 x278 x279 : Value) (W : World), wr.grows W → Q .normal ⟨List.toArray (z0 :: z1 :: z2 :: z3 :: z4 :: z5 :: z6 :: z7 :: z8 :: z9 :: z10 :: z11 :: z12 :: z13 :: z14 :: z15 :: .pointer (some ⟨b16, 0, none⟩) :: z17 :: z18 :: z19 :: z20 :: z21 :: z22 :: z23 :: z24 :: z25 :: z26 :: z27 :: z28 :: z29 :: .slice (some ⟨ob, oo, none⟩) m ocap :: z31 :: .slice (some ⟨blk, 0, none⟩) n n :: .int .i64 q :: z34 :: z35 :: z36 :: z37 :: z38 :: z39 :: z40 :: z41 :: z42 :: z43 :: z44 :: z45 :: z46 :: z47 :: z48 :: z49 :: z50 :: z51 :: z52 :: z53 :: z54 :: z55 :: z56 :: z57 :: z58 :: z59 :: z60 :: z61 :: z62 :: z63 :: z64 :: z65 :: z66 :: z67 :: z68 :: z69 :: z70 :: z71 :: z72 :: z73 :: z74 :: z75 :: z76 :: z77 :: z78 :: z79 :: z80 :: z81 :: z82 :: z83 :: z84 :: z85 :: z86 :: z87 :: z88 :: z89 :: z90 :: z91 :: z92 :: z93 :: z94 :: z95 :: z96 :: z97 :: z98 :: z99 :: z100 :: z101 :: z102 :: z103 :: z104 :: z105 :: z106 :: z107 :: z108 :: z109 :: z110 :: z111 :: z112 :: z113 :: z114 :: z115 :: z116 :: z117 :: z118 :: z119 :: z120 :: z121 :: z122 :: z123 :: z124 :: z125 :: z126 :: z127 :: z128 :: z129 :: z130 :: z131 :: z132 :: z133 :: z134 :: z135 :: z136 :: z137 :: z138 :: z139 :: z140 :: z141 :: z142 :: z143 :: z144 :: z145 :: z146 :: z147 :: z148 :: z149 :: z150 :: z151 :: z152 :: z153 :: z154 :: z155 :: z156 :: z157 :: z158 :: z159 :: z160 :: z161 :: z162 :: z163 :: z164 :: z165 :: z166 :: z167 :: z168 :: z169 :: z170 :: z171 :: z172 :: z173 :: z174 :: z175 :: z176 :: z177 :: z178 :: z179 :: z180 :: z181 :: z182 :: z183 :: z184 :: z185 :: z186 :: z187 :: z188 :: z189 :: z190 :: z191 :: z192 :: z193 :: z194 :: z195 :: z196 :: z197 :: z198 :: z199 :: z200 :: z201 :: z202 :: z203 :: z204 :: z205 :: z206 :: z207 :: z208 :: z209 :: z210 :: z211 :: z212 :: z213 :: z214 :: z215 :: z216 :: z217 :: z218 :: z219 :: z220 :: z221 :: z222 :: z223 :: z224 :: z225 :: z226 :: z227 :: z228 :: z229 :: z230 :: z231 :: z232 :: z233 :: z234 :: z235 :: z236 :: z237 :: z238 :: z239 :: z240 :: z241 :: z242 :: z243 :: z244 :: z245 :: z246 :: z247 :: z248 :: z249 :: z250 :: z251 :: z252 :: z253 :: z254 :: z255 :: z256 :: z257 :: z258 :: z259 :: z260 :: z261 :: x262 :: x263 :: x264 :: x265 :: x266 :: x267 :: x268 :: x269 :: x270 :: x271 :: x272 :: x273 :: x274 :: x275 :: x276 :: x277 :: x278 :: x279 :: .bool (decide (R = R1 ∧ pr = K1)) :: z281 :: z282 :: z283 :: z284 :: z285 :: z286 :: z287 :: z288 :: z289 :: z290 :: z291 :: z292 :: z293 :: z294 :: z295 :: z296 :: z297 :: z298 :: z299 :: z300 :: z301 :: z302 :: z303 :: z304 :: z305 :: z306 :: z307 :: z308 :: z309 :: z310 :: z311 :: z312 :: z313 :: z314 :: z315 :: z316 :: z317 :: z318 :: z319 :: z320 :: z321 :: z322 :: z323 :: z324 :: z325 :: z326 :: z327 :: z328 :: z329 :: z330 :: z331 :: z332 :: z333 :: z334 :: z335 :: z336 :: z337 :: z338 :: z339 :: z340 :: z341 :: z342 :: []), []⟩ W) :
    Code.wp Try.prog r32 Q ⟨List.toArray (z0 :: z1 :: z2 :: z3 :: z4 :: z5 :: z6 :: z7 :: z8 :: z9 :: z10 :: z11 :: z12 :: z13 :: z14 :: z15 :: .pointer (some ⟨b16, 0, none⟩) :: z17 :: z18 :: z19 :: z20 :: z21 :: z22 :: z23 :: z24 :: z25 :: z26 :: z27 :: z28 :: z29 :: .slice (some ⟨ob, oo, none⟩) m ocap :: z31 :: .slice (some ⟨blk, 0, none⟩) n n :: .int .i64 q :: z34 :: z35 :: z36 :: z37 :: z38 :: z39 :: z40 :: z41 :: z42 :: z43 :: z44 :: z45 :: z46 :: z47 :: z48 :: z49 :: z50 :: z51 :: z52 :: z53 :: z54 :: z55 :: z56 :: z57 :: z58 :: z59 :: z60 :: z61 :: z62 :: z63 :: z64 :: z65 :: z66 :: z67 :: z68 :: z69 :: z70 :: z71 :: z72 :: z73 :: z74 :: z75 :: z76 :: z77 :: z78 :: z79 :: z80 :: z81 :: z82 :: z83 :: z84 :: z85 :: z86 :: z87 :: z88 :: z89 :: z90 :: z91 :: z92 :: z93 :: z94 :: z95 :: z96 :: z97 :: z98 :: z99 :: z100 :: z101 :: z102 :: z103 :: z104 :: z105 :: z106 :: z107 :: z108 :: z109 :: z110 :: z111 :: z112 :: z113 :: z114 :: z115 :: z116 :: z117 :: z118 :: z119 :: z120 :: z121 :: z122 :: z123 :: z124 :: z125 :: z126 :: z127 :: z128 :: z129 :: z130 :: z131 :: z132 :: z133 :: z134 :: z135 :: z136 :: z137 :: z138 :: z139 :: z140 :: z141 :: z142 :: z143 :: z144 :: z145 :: z146 :: z147 :: z148 :: z149 :: z150 :: z151 :: z152 :: z153 :: z154 :: z155 :: z156 :: z157 :: z158 :: z159 :: z160 :: z161 :: z162 :: z163 :: z164 :: z165 :: z166 :: z167 :: z168 :: z169 :: z170 :: z171 :: z172 :: z173 :: z174 :: z175 :: z176 :: z177 :: z178 :: z179 :: z180 :: z181 :: z182 :: z183 :: z184 :: z185 :: z186 :: z187 :: z188 :: z189 :: z190 :: z191 :: z192 :: z193 :: z194 :: z195 :: z196 :: z197 :: z198 :: z199 :: z200 :: z201 :: z202 :: z203 :: z204 :: z205 :: z206 :: z207 :: z208 :: z209 :: z210 :: z211 :: z212 :: z213 :: z214 :: z215 :: z216 :: z217 :: z218 :: z219 :: z220 :: z221 :: z222 :: z223 :: z224 :: z225 :: z226 :: z227 :: z228 :: z229 :: z230 :: z231 :: z232 :: z233 :: z234 :: z235 :: z236 :: z237 :: z238 :: z239 :: z240 :: z241 :: z242 :: z243 :: z244 :: z245 :: z246 :: z247 :: z248 :: z249 :: z250 :: z251 :: z252 :: z253 :: z254 :: z255 :: z256 :: z257 :: z258 :: z259 :: z260 :: z261 :: z262 :: z263 :: z264 :: z265 :: z266 :: z267 :: z268 :: z269 :: z270 :: z271 :: z272 :: z273 :: z274 :: z275 :: z276 :: z277 :: z278 :: z279 :: z280 :: z281 :: z282 :: z283 :: z284 :: z285 :: z286 :: z287 :: z288 :: z289 :: z290 :: z291 :: z292 :: z293 :: z294 :: z295 :: z296 :: z297 :: z298 :: z299 :: z300 :: z301 :: z302 :: z303 :: z304 :: z305 :: z306 :: z307 :: z308 :: z309 :: z310 :: z311 :: z312 :: z313 :: z314 :: z315 :: z316 :: z317 :: z318 :: z319 :: z320 :: z321 :: z322 :: z323 :: z324 :: z325 :: z326 :: z327 :: z328 :: z329 :: z330 :: z331 :: z332 :: z333 :: z334 :: z335 :: z336 :: z337 :: z338 :: z339 :: z340 :: z341 :: z342 :: []), []⟩ wr := by
  have Hexit := Lib.hid hexit
  clear hexit
  conv => arg 2; whnf
  by_cases h1 : R = R1
  · subst h1
    by_cases h2 : pr = K1
    · subst h2
      rw [show decide (R = R ∧ pr = pr) = true by simp] at Hexit
      have h3 : ((pr : Int) == pr) = true := by simp
      (refine wp_region_calm (by kernel_rfl) (by kernel_rfl) ?_; (repeat (refine wpCalm_step (fun K hK => ?_); go_simp; first | (refine hK _ ?_; clear hK K) | (apply Exists.intro; refine ⟨fun n' x' => ?_, hK _ ?_⟩; (fail); clear hK K))); refine wpCalm_nil ?_; intro nq xq)
      exact Hexit.out _ _ _ _ _ _ _ _ _ _ _ _ _ _ _ _ _ _ _ (by (repeat (first | exact World.grows.refl _ | assumption | refine World.grows.alloc ?_ _ | refine World.grows.plus ?_ _ _ | refine World.grows.drew ?_)))
    · rw [show decide (R = R ∧ pr = K1) = false by simp [h2]] at Hexit
      have h3 : ((pr : Int) == K1) = false := by simpa using (show ¬ (pr : Int) = K1 by omega)
      (refine wp_region_calm (by kernel_rfl) (by kernel_rfl) ?_; (repeat (refine wpCalm_step (fun K hK => ?_); go_simp; first | (refine hK _ ?_; clear hK K) | (apply Exists.intro; refine ⟨fun n' x' => ?_, hK _ ?_⟩; (fail); clear hK K))); refine wpCalm_nil ?_; intro nq xq)
      exact Hexit.out _ _ _ _ _ _ _ _ _ _ _ _ _ _ _ _ _ _ _ (by (repeat (first | exact World.grows.refl _ | assumption | refine World.grows.alloc ?_ _ | refine World.grows.plus ?_ _ _ | refine World.grows.drew ?_)))
  · rw [show decide (R = R1 ∧ pr = K1) = false by simp [h1]] at Hexit
    have h3 : ((R : Int) == R1) = false := by simpa using (show ¬ (R : Int) = R1 by omega)
    (refine wp_region_calm (by kernel_rfl) (by kernel_rfl) ?_; (repeat (refine wpCalm_step (fun K hK => ?_); go_simp; first | (refine hK _ ?_; clear hK K) | (apply Exists.intro; refine ⟨fun n' x' => ?_, hK _ ?_⟩; (fail); clear hK K))); refine wpCalm_nil ?_; intro nq xq)
    exact Hexit.out _ _ _ _ _ _ _ _ _ _ _ _ _ _ _ _ _ _ _ (by (repeat (first | exact World.grows.refl _ | assumption | refine World.grows.alloc ?_ _ | refine World.grows.plus ?_ _ _ | refine World.grows.drew ?_)))

noncomputable def r36 : Code := (Try.f8.body.bind (theRegion 36)).getD .skip
set_option maxRecDepth 1000000 in
set_option maxHeartbeats 16000000 in
theorem lim_r36 (wr : World) (n blk ob oo m ocap b16 b17 q R R1 K1 R2 K2 pr pr1 : Nat) (m1 : Bool) (hn : n ≤ 4) (hm : m ≤ 24) (hmo : m ≤ ocap) (hoc : ocap ≤ 9223372036854775807) (hq : (q : Int) < m) (hR : (R : Int) < n) (hR1 : (R1 : Int) < n) (hp6 : pr ≤ 6)
    (o0 : wr.cell? ⟨ob, oo + q, none⟩ = some (.int .i64 R)) (p0 : wr.cell? ⟨b16, 0, none⟩ = some (.int .i64 R1)) (p1 : wr.cell? ⟨b16, 1, none⟩ = some (.int .i64 K1)) (q0 : wr.cell? ⟨b17, 0, none⟩ = some (.int .i64 R2)) (q1 : wr.cell? ⟨b17, 1, none⟩ = some (.int .i64 K2))
    (a0 : wr.cell? ⟨blk, R, none⟩ = some (.int .i64 pr)) (a1 : wr.cell? ⟨blk, R1, none⟩ = some (.int .i64 pr1)) (hk : R = R2 → pr = K2 → m1 = true → ¬ pr1 ≤ K1)
    (Q : Exit → Act → World → Prop) (z0 z1 z2 z3 z4 z5 z6 z7 z8 z9 z10 z11 z12 z13 z14 z15 z18 z19 z20 z21 z23 z24 z25 z26 z27 z28 z29 z31 z34 z35 z36 z37 z38 z39 z40 z41 z42 z43 z44 z45 z46 z47 z48 z49 z50 z51 z52 z53 z54 z55 z56 z57 z58 z59 z60 z61 z62 z63 z64 z65 z66 z67 z68 z69 z70 z71 z72 z73 z74 z75 z76 z77 z78 z79 z80 z81 z82 z83 z84 z85 z86 z87 z88 z89 z90 z91 z92 z93 z94 z95 z96 z97 z98 z99 z100 z101 z102 z103 z104 z105 z106 z107 z108 z109 z110 z111 z112 z113 z114 z115 z116 z117 z118 z119 z120 z121 z122 z123 z124 z125 z126 z127 z128 z129 z130 z131 z132 z133 z134 z135 z136 z137 z138 z139 z140 z141 z142 z143 z144 z145 z146 z147 z148 z149 z150 z151 z152 z153 z154 z155 z156 z157 z158 z159 z160 z161 z162 z163 z164 z165 z166 z167 z168 z169 z170 z171 z172 z173 z174 z175 z176 z177 z178 z179 z180 z181 z182 z183 z184 z185 z186 z187 z188 z189 z190 z191 z192 z193 z194 z195 z196 z197 z198 z199 z200 z201 z202 z203 z204 z205 z206 z207 z208 z209 z210 z211 z212 z213 z214 z215 z216 z217 z218 z219 z220 z221 z222 z223 z224 z225 z226 z227 z228 z229 z230 z231 z232 z233 z234 z235 z236 z237 z238 z239 z240 z241 z242 z243 z244 z245 z246 z247 z248 z249 z250 z251 z252 z253 z254 z255 z256 z257 z258 z259 z260 z261 z262 z263 z264 z265 z266 z267 z268 z269 z270 z271 z272 z273 z274 z275 z276 z277 z278 z279 z280 z281 z282 z283 z284 z285 z286 z287 z288 z289 z290 z291 z292 z293 z294 z295 z296 z297 z298 z299 z300 z301 z302 z303 z304 z305 z306 z307 z308 z309 z310 z311 z312 z313 z314 z315 z316 z317 z318 z319 z320 z321 z322 z323 z324 z325 z326 z327 z328 z329 z330 z331 z332 z333 z334 z335 z336 z337 z338 z339 z340 z341 z342 : Value)
    (hexit : ∀ (x301 x302 x303 x304 x305 x306 x307 x308 x309 x310 x311 x312 x313 x314 x315 x316 x317 x318 x319 x320 x321 x322 x323 x324 x325 x326 x327 x328 x329 x330 x331 : Value) (W : World), wr.grows W → Q .normal ⟨List.toArray (z0 :: z1 :: z2 :: z3 :: z4 :: z5 :: z6 :: z7 :: z8 :: z9 :: z10 :: z11 :: z12 :: z13 :: z14 :: z15 :: .pointer (some ⟨b16, 0, none⟩) :: .pointer (some ⟨b17, 0, none⟩) :: z18 :: z19 :: z20 :: z21 :: .bool m1 :: z23 :: z24 :: z25 :: z26 :: z27 :: z28 :: z29 :: .slice (some ⟨ob, oo, none⟩) m ocap :: z31 :: .slice (some ⟨blk, 0, none⟩) n n :: .int .i64 q :: z34 :: z35 :: z36 :: z37 :: z38 :: z39 :: z40 :: z41 :: z42 :: z43 :: z44 :: z45 :: z46 :: z47 :: z48 :: z49 :: z50 :: z51 :: z52 :: z53 :: z54 :: z55 :: z56 :: z57 :: z58 :: z59 :: z60 :: z61 :: z62 :: z63 :: z64 :: z65 :: z66 :: z67 :: z68 :: z69 :: z70 :: z71 :: z72 :: z73 :: z74 :: z75 :: z76 :: z77 :: z78 :: z79 :: z80 :: z81 :: z82 :: z83 :: z84 :: z85 :: z86 :: z87 :: z88 :: z89 :: z90 :: z91 :: z92 :: z93 :: z94 :: z95 :: z96 :: z97 :: z98 :: z99 :: z100 :: z101 :: z102 :: z103 :: z104 :: z105 :: z106 :: z107 :: z108 :: z109 :: z110 :: z111 :: z112 :: z113 :: z114 :: z115 :: z116 :: z117 :: z118 :: z119 :: z120 :: z121 :: z122 :: z123 :: z124 :: z125 :: z126 :: z127 :: z128 :: z129 :: z130 :: z131 :: z132 :: z133 :: z134 :: z135 :: z136 :: z137 :: z138 :: z139 :: z140 :: z141 :: z142 :: z143 :: z144 :: z145 :: z146 :: z147 :: z148 :: z149 :: z150 :: z151 :: z152 :: z153 :: z154 :: z155 :: z156 :: z157 :: z158 :: z159 :: z160 :: z161 :: z162 :: z163 :: z164 :: z165 :: z166 :: z167 :: z168 :: z169 :: z170 :: z171 :: z172 :: z173 :: z174 :: z175 :: z176 :: z177 :: z178 :: z179 :: z180 :: z181 :: z182 :: z183 :: z184 :: z185 :: z186 :: z187 :: z188 :: z189 :: z190 :: z191 :: z192 :: z193 :: z194 :: z195 :: z196 :: z197 :: z198 :: z199 :: z200 :: z201 :: z202 :: z203 :: z204 :: z205 :: z206 :: z207 :: z208 :: z209 :: z210 :: z211 :: z212 :: z213 :: z214 :: z215 :: z216 :: z217 :: z218 :: z219 :: z220 :: z221 :: z222 :: z223 :: z224 :: z225 :: z226 :: z227 :: z228 :: z229 :: z230 :: z231 :: z232 :: z233 :: z234 :: z235 :: z236 :: z237 :: z238 :: z239 :: z240 :: z241 :: z242 :: z243 :: z244 :: z245 :: z246 :: z247 :: z248 :: z249 :: z250 :: z251 :: z252 :: z253 :: z254 :: z255 :: z256 :: z257 :: z258 :: z259 :: z260 :: z261 :: z262 :: z263 :: z264 :: z265 :: z266 :: z267 :: z268 :: z269 :: z270 :: z271 :: z272 :: z273 :: z274 :: z275 :: z276 :: z277 :: z278 :: z279 :: z280 :: z281 :: z282 :: z283 :: z284 :: z285 :: z286 :: z287 :: z288 :: z289 :: z290 :: z291 :: z292 :: z293 :: z294 :: z295 :: z296 :: z297 :: z298 :: z299 :: z300 :: x301 :: x302 :: x303 :: x304 :: x305 :: x306 :: x307 :: x308 :: x309 :: x310 :: x311 :: x312 :: x313 :: x314 :: x315 :: x316 :: x317 :: x318 :: x319 :: x320 :: x321 :: x322 :: x323 :: x324 :: x325 :: x326 :: x327 :: x328 :: x329 :: x330 :: x331 :: .bool (false) :: z333 :: z334 :: z335 :: z336 :: z337 :: z338 :: z339 :: z340 :: z341 :: z342 :: []), []⟩ W) :
    Code.wp Try.prog r36 Q ⟨List.toArray (z0 :: z1 :: z2 :: z3 :: z4 :: z5 :: z6 :: z7 :: z8 :: z9 :: z10 :: z11 :: z12 :: z13 :: z14 :: z15 :: .pointer (some ⟨b16, 0, none⟩) :: .pointer (some ⟨b17, 0, none⟩) :: z18 :: z19 :: z20 :: z21 :: .bool m1 :: z23 :: z24 :: z25 :: z26 :: z27 :: z28 :: z29 :: .slice (some ⟨ob, oo, none⟩) m ocap :: z31 :: .slice (some ⟨blk, 0, none⟩) n n :: .int .i64 q :: z34 :: z35 :: z36 :: z37 :: z38 :: z39 :: z40 :: z41 :: z42 :: z43 :: z44 :: z45 :: z46 :: z47 :: z48 :: z49 :: z50 :: z51 :: z52 :: z53 :: z54 :: z55 :: z56 :: z57 :: z58 :: z59 :: z60 :: z61 :: z62 :: z63 :: z64 :: z65 :: z66 :: z67 :: z68 :: z69 :: z70 :: z71 :: z72 :: z73 :: z74 :: z75 :: z76 :: z77 :: z78 :: z79 :: z80 :: z81 :: z82 :: z83 :: z84 :: z85 :: z86 :: z87 :: z88 :: z89 :: z90 :: z91 :: z92 :: z93 :: z94 :: z95 :: z96 :: z97 :: z98 :: z99 :: z100 :: z101 :: z102 :: z103 :: z104 :: z105 :: z106 :: z107 :: z108 :: z109 :: z110 :: z111 :: z112 :: z113 :: z114 :: z115 :: z116 :: z117 :: z118 :: z119 :: z120 :: z121 :: z122 :: z123 :: z124 :: z125 :: z126 :: z127 :: z128 :: z129 :: z130 :: z131 :: z132 :: z133 :: z134 :: z135 :: z136 :: z137 :: z138 :: z139 :: z140 :: z141 :: z142 :: z143 :: z144 :: z145 :: z146 :: z147 :: z148 :: z149 :: z150 :: z151 :: z152 :: z153 :: z154 :: z155 :: z156 :: z157 :: z158 :: z159 :: z160 :: z161 :: z162 :: z163 :: z164 :: z165 :: z166 :: z167 :: z168 :: z169 :: z170 :: z171 :: z172 :: z173 :: z174 :: z175 :: z176 :: z177 :: z178 :: z179 :: z180 :: z181 :: z182 :: z183 :: z184 :: z185 :: z186 :: z187 :: z188 :: z189 :: z190 :: z191 :: z192 :: z193 :: z194 :: z195 :: z196 :: z197 :: z198 :: z199 :: z200 :: z201 :: z202 :: z203 :: z204 :: z205 :: z206 :: z207 :: z208 :: z209 :: z210 :: z211 :: z212 :: z213 :: z214 :: z215 :: z216 :: z217 :: z218 :: z219 :: z220 :: z221 :: z222 :: z223 :: z224 :: z225 :: z226 :: z227 :: z228 :: z229 :: z230 :: z231 :: z232 :: z233 :: z234 :: z235 :: z236 :: z237 :: z238 :: z239 :: z240 :: z241 :: z242 :: z243 :: z244 :: z245 :: z246 :: z247 :: z248 :: z249 :: z250 :: z251 :: z252 :: z253 :: z254 :: z255 :: z256 :: z257 :: z258 :: z259 :: z260 :: z261 :: z262 :: z263 :: z264 :: z265 :: z266 :: z267 :: z268 :: z269 :: z270 :: z271 :: z272 :: z273 :: z274 :: z275 :: z276 :: z277 :: z278 :: z279 :: z280 :: z281 :: z282 :: z283 :: z284 :: z285 :: z286 :: z287 :: z288 :: z289 :: z290 :: z291 :: z292 :: z293 :: z294 :: z295 :: z296 :: z297 :: z298 :: z299 :: z300 :: z301 :: z302 :: z303 :: z304 :: z305 :: z306 :: z307 :: z308 :: z309 :: z310 :: z311 :: z312 :: z313 :: z314 :: z315 :: z316 :: z317 :: z318 :: z319 :: z320 :: z321 :: z322 :: z323 :: z324 :: z325 :: z326 :: z327 :: z328 :: z329 :: z330 :: z331 :: z332 :: z333 :: z334 :: z335 :: z336 :: z337 :: z338 :: z339 :: z340 :: z341 :: z342 :: []), []⟩ wr := by
  have Hexit := Lib.hid hexit
  clear hexit
  conv => arg 2; whnf
  by_cases h1 : R = R2
  · subst h1
    by_cases h2 : pr = K2
    · subst h2
      have h3 : ((pr : Int) == pr) = true := by simp
      cases m1 with
      | true =>
        have h4 : ¬ (pr1 : Int) ≤ K1 := by have := hk rfl rfl rfl; omega
        have h5 : decide ((pr1 : Int) ≤ K1) = false := decide_eq_false h4
        clear hk
        (refine wp_region_calm (by kernel_rfl) (by kernel_rfl) ?_; (repeat (refine wpCalm_step (fun K hK => ?_); go_simp; first | (refine hK _ ?_; clear hK K) | (apply Exists.intro; refine ⟨fun n' x' => ?_, hK _ ?_⟩; (fail); clear hK K))); refine wpCalm_nil ?_; intro nq xq)
        (try simp only [h5])
        exact Hexit.out _ _ _ _ _ _ _ _ _ _ _ _ _ _ _ _ _ _ _ _ _ _ _ _ _ _ _ _ _ _ _ _ (by (repeat (first | exact World.grows.refl _ | assumption | refine World.grows.alloc ?_ _ | refine World.grows.plus ?_ _ _ | refine World.grows.drew ?_)))
      | false =>
        clear hk
        (refine wp_region_calm (by kernel_rfl) (by kernel_rfl) ?_; (repeat (refine wpCalm_step (fun K hK => ?_); go_simp; first | (refine hK _ ?_; clear hK K) | (apply Exists.intro; refine ⟨fun n' x' => ?_, hK _ ?_⟩; (fail); clear hK K))); refine wpCalm_nil ?_; intro nq xq)
        exact Hexit.out _ _ _ _ _ _ _ _ _ _ _ _ _ _ _ _ _ _ _ _ _ _ _ _ _ _ _ _ _ _ _ _ (by (repeat (first | exact World.grows.refl _ | assumption | refine World.grows.alloc ?_ _ | refine World.grows.plus ?_ _ _ | refine World.grows.drew ?_)))
    · have h3 : ((pr : Int) == K2) = false := by simpa using (show ¬ (pr : Int) = K2 by omega)
      clear hk
      (refine wp_region_calm (by kernel_rfl) (by kernel_rfl) ?_; (repeat (refine wpCalm_step (fun K hK => ?_); go_simp; first | (refine hK _ ?_; clear hK K) | (apply Exists.intro; refine ⟨fun n' x' => ?_, hK _ ?_⟩; (fail); clear hK K))); refine wpCalm_nil ?_; intro nq xq)
      exact Hexit.out _ _ _ _ _ _ _ _ _ _ _ _ _ _ _ _ _ _ _ _ _ _ _ _ _ _ _ _ _ _ _ _ (by (repeat (first | exact World.grows.refl _ | assumption | refine World.grows.alloc ?_ _ | refine World.grows.plus ?_ _ _ | refine World.grows.drew ?_)))
  · have h3 : ((R : Int) == R2) = false := by simpa using (show ¬ (R : Int) = R2 by omega)
    clear hk
    (refine wp_region_calm (by kernel_rfl) (by kernel_rfl) ?_; (repeat (refine wpCalm_step (fun K hK => ?_); go_simp; first | (refine hK _ ?_; clear hK K) | (apply Exists.intro; refine ⟨fun n' x' => ?_, hK _ ?_⟩; (fail); clear hK K))); refine wpCalm_nil ?_; intro nq xq)
    exact Hexit.out _ _ _ _ _ _ _ _ _ _ _ _ _ _ _ _ _ _ _ _ _ _ _ _ _ _ _ _ _ _ _ _ (by (repeat (first | exact World.grows.refl _ | assumption | refine World.grows.alloc ?_ _ | refine World.grows.plus ?_ _ _ | refine World.grows.drew ?_)))
end Go.Proofs.Ytjpccfpmhmddjaa

/-
  What is proved: the loop of PassLimits: no way through it returns false.
-/
namespace Go.Proofs.Ytjpccfpmhmddjaa
open Go.RowKit
attribute [local irreducible] Go.wpCalm

def firstLoop : Code → Option Code
  | .loop c => some c
  | .seq a b => match firstLoop a with
    | some c => some c
    | none => firstLoop b
  | .block _ c => firstLoop c
  | .scope c => firstLoop c
  | .cond _ a b => match firstLoop a with
    | some c => some c
    | none => firstLoop b
  | _ => none
noncomputable def body8 : Code := (Try.f8.body.bind firstLoop).getD .skip

set_option maxRecDepth 1000000 in
set_option maxHeartbeats 16000000 in
theorem limits_loop (w W7 : World) (J : Job) (hc : J.check = 0) (jb jo jcap : Nat) (hjc2 : jcap ≤ 9223372036854775807) (b5 b16 b17 b26 : Nat) (R1 K1 R2 K2 : Nat) (hrk : R1 < J.n ∧ K1 < J.len R1 ∧ R2 < J.n ∧ K2 < J.len R2) (L N lo hi : Int) (m1 : Bool) (m : Nat) (g : Nat → Nat) (ob oo ocap : Nat)
    (hm2 : m ≤ 24) (hoc2 : ocap ≤ 9223372036854775807) (hmo : m ≤ ocap) (hg : J.OrdOk m g) (hoc : ∀ i : Nat, i < m → W7.cell? ⟨ob, oo + i, none⟩ = some (.int .i64 (g i : Nat)))
    (hx : BoxAt w W7 b5 (.slice (some ⟨jb, jo, none⟩) J.n jcap) J) (hp : PairAt W7 b16 R1 K1) (hq : PairAt W7 b17 R2 K2) (hr : PairAt W7 b26 lo hi) (hNL : N ≤ L)
    (hh : ∀ i, i < m → (g i = R1 → walkP g i R1 = K1 → lo ≤ J.heat (walkP g i) ∧ J.heat (walkP g i) ≤ hi) ∧ (g i = R2 → walkP g i R2 = K2 → m1 = true → ¬ walkP g i R1 ≤ K1))
    (Qx : Exit → Act → World → Prop) (z0 z1 z2 z3 z4 z6 z7 z8 z9 z11 z12 z13 z15 z18 z19 z20 z21 z23 z24 z25 z27 z28 z29 z36 z37 z38 z39 z40 z41 z42 z43 z44 z45 z46 z47 z48 z49 z50 z51 z52 z53 z54 z55 z56 z57 z58 z59 z60 z61 z62 z63 z64 z65 z66 z67 z68 z69 z70 z71 z72 z73 z74 z75 z76 z77 z78 z79 z80 z81 z82 z83 z84 z85 z86 z87 z88 z89 z90 z91 z92 z93 z94 z95 z96 z97 z98 z99 z100 z101 z102 z103 z104 z105 z106 z107 z108 z109 z110 z111 z112 z113 z114 z115 z116 z117 z118 z119 z120 z121 z122 z123 z124 z125 z126 z127 z128 z129 z130 z131 z132 z133 z134 z135 z136 z137 z138 z139 z140 z141 z142 z143 z144 z145 z146 z147 z148 z149 z150 z151 z152 z153 z154 z155 z156 z157 z158 z159 z160 z161 z162 z163 z164 z165 z166 z167 z168 z169 z170 z171 z172 z173 z174 z175 z176 z177 z178 z179 z180 z181 z182 z183 z184 z185 z186 z187 z188 z189 z190 z191 z192 z193 z194 z195 z196 z197 z198 z199 z200 z201 z202 z203 z204 z205 z206 z207 z208 z209 z210 z211 z212 z213 z214 z215 z216 z217 z218 z219 z220 z221 z222 z223 z224 z225 z226 z227 z228 z229 z230 z231 z232 z233 z234 z235 z236 z237 z238 z239 z240 z241 z242 z243 z244 z245 z246 z247 z248 z249 z250 z342 z10 z34 z35 z251 z252 z253 z254 z255 z256 z257 z258 z259 z260 z261 z262 z263 z264 z265 z266 z267 z268 z269 z270 z271 z272 z273 z274 z275 z276 z277 z278 z279 z280 z281 z282 z283 z284 z285 z286 z287 z288 z289 z290 z291 z292 z293 z294 z295 z296 z297 z298 z299 z300 z301 z302 z303 z304 z305 z306 z307 z308 z309 z310 z311 z312 z313 z314 z315 z316 z317 z318 z319 z320 z321 z322 z323 z324 z325 z326 z327 z328 z329 z330 z331 z332 z333 z334 z335 z336 z337 z338 z339 z340 z341 : Value)
    (hexit : ∀ (x10 x33 x34 x35 x251 x252 x253 x254 x255 x256 x257 x258 x259 x260 x261 x262 x263 x264 x265 x266 x267 x268 x269 x270 x271 x272 x273 x274 x275 x276 x277 x278 x279 x280 x281 x282 x283 x284 x285 x286 x287 x288 x289 x290 x291 x292 x293 x294 x295 x296 x297 x298 x299 x300 x301 x302 x303 x304 x305 x306 x307 x308 x309 x310 x311 x312 x313 x314 x315 x316 x317 x318 x319 x320 x321 x322 x323 x324 x325 x326 x327 x328 x329 x330 x331 x332 x333 x334 x335 x336 x337 x338 x339 x340 x341 : Value) (W' : World), W7.grows W' → Qx (.exit 0) ⟨List.toArray (z0 :: z1 :: z2 :: z3 :: z4 :: .pointer (some ⟨b5, 0, none⟩) :: z6 :: z7 :: z8 :: z9 :: x10 :: z11 :: z12 :: z13 :: .int .i64 L :: z15 :: .pointer (some ⟨b16, 0, none⟩) :: .pointer (some ⟨b17, 0, none⟩) :: z18 :: z19 :: z20 :: z21 :: .bool m1 :: z23 :: z24 :: z25 :: .pointer (some ⟨b26, 0, none⟩) :: z27 :: z28 :: z29 :: .slice (some ⟨ob, oo, none⟩) m ocap :: .int .i64 N :: .slice (some ⟨W7.heap.size, 0, none⟩) J.n J.n :: x33 :: x34 :: x35 :: z36 :: z37 :: z38 :: z39 :: z40 :: z41 :: z42 :: z43 :: z44 :: z45 :: z46 :: z47 :: z48 :: z49 :: z50 :: z51 :: z52 :: z53 :: z54 :: z55 :: z56 :: z57 :: z58 :: z59 :: z60 :: z61 :: z62 :: z63 :: z64 :: z65 :: z66 :: z67 :: z68 :: z69 :: z70 :: z71 :: z72 :: z73 :: z74 :: z75 :: z76 :: z77 :: z78 :: z79 :: z80 :: z81 :: z82 :: z83 :: z84 :: z85 :: z86 :: z87 :: z88 :: z89 :: z90 :: z91 :: z92 :: z93 :: z94 :: z95 :: z96 :: z97 :: z98 :: z99 :: z100 :: z101 :: z102 :: z103 :: z104 :: z105 :: z106 :: z107 :: z108 :: z109 :: z110 :: z111 :: z112 :: z113 :: z114 :: z115 :: z116 :: z117 :: z118 :: z119 :: z120 :: z121 :: z122 :: z123 :: z124 :: z125 :: z126 :: z127 :: z128 :: z129 :: z130 :: z131 :: z132 :: z133 :: z134 :: z135 :: z136 :: z137 :: z138 :: z139 :: z140 :: z141 :: z142 :: z143 :: z144 :: z145 :: z146 :: z147 :: z148 :: z149 :: z150 :: z151 :: z152 :: z153 :: z154 :: z155 :: z156 :: z157 :: z158 :: z159 :: z160 :: z161 :: z162 :: z163 :: z164 :: z165 :: z166 :: z167 :: z168 :: z169 :: z170 :: z171 :: z172 :: z173 :: z174 :: z175 :: z176 :: z177 :: z178 :: z179 :: z180 :: z181 :: z182 :: z183 :: z184 :: z185 :: z186 :: z187 :: z188 :: z189 :: z190 :: z191 :: z192 :: z193 :: z194 :: z195 :: z196 :: z197 :: z198 :: z199 :: z200 :: z201 :: z202 :: z203 :: z204 :: z205 :: z206 :: z207 :: z208 :: z209 :: z210 :: z211 :: z212 :: z213 :: z214 :: z215 :: z216 :: z217 :: z218 :: z219 :: z220 :: z221 :: z222 :: z223 :: z224 :: z225 :: z226 :: z227 :: z228 :: z229 :: z230 :: z231 :: z232 :: z233 :: z234 :: z235 :: z236 :: z237 :: z238 :: z239 :: z240 :: z241 :: z242 :: z243 :: z244 :: z245 :: z246 :: z247 :: z248 :: z249 :: z250 :: x251 :: x252 :: x253 :: x254 :: x255 :: x256 :: x257 :: x258 :: x259 :: x260 :: x261 :: x262 :: x263 :: x264 :: x265 :: x266 :: x267 :: x268 :: x269 :: x270 :: x271 :: x272 :: x273 :: x274 :: x275 :: x276 :: x277 :: x278 :: x279 :: x280 :: x281 :: x282 :: x283 :: x284 :: x285 :: x286 :: x287 :: x288 :: x289 :: x290 :: x291 :: x292 :: x293 :: x294 :: x295 :: x296 :: x297 :: x298 :: x299 :: x300 :: x301 :: x302 :: x303 :: x304 :: x305 :: x306 :: x307 :: x308 :: x309 :: x310 :: x311 :: x312 :: x313 :: x314 :: x315 :: x316 :: x317 :: x318 :: x319 :: x320 :: x321 :: x322 :: x323 :: x324 :: x325 :: x326 :: x327 :: x328 :: x329 :: x330 :: x331 :: x332 :: x333 :: x334 :: x335 :: x336 :: x337 :: x338 :: x339 :: x340 :: x341 :: z342 :: []), []⟩ W') :
    Code.wp Try.prog (Code.loop body8) Qx ⟨List.toArray (z0 :: z1 :: z2 :: z3 :: z4 :: .pointer (some ⟨b5, 0, none⟩) :: z6 :: z7 :: z8 :: z9 :: z10 :: z11 :: z12 :: z13 :: .int .i64 L :: z15 :: .pointer (some ⟨b16, 0, none⟩) :: .pointer (some ⟨b17, 0, none⟩) :: z18 :: z19 :: z20 :: z21 :: .bool m1 :: z23 :: z24 :: z25 :: .pointer (some ⟨b26, 0, none⟩) :: z27 :: z28 :: z29 :: .slice (some ⟨ob, oo, none⟩) m ocap :: .int .i64 N :: .slice (some ⟨W7.heap.size, 0, none⟩) J.n J.n :: .int .i64 0 :: z34 :: z35 :: z36 :: z37 :: z38 :: z39 :: z40 :: z41 :: z42 :: z43 :: z44 :: z45 :: z46 :: z47 :: z48 :: z49 :: z50 :: z51 :: z52 :: z53 :: z54 :: z55 :: z56 :: z57 :: z58 :: z59 :: z60 :: z61 :: z62 :: z63 :: z64 :: z65 :: z66 :: z67 :: z68 :: z69 :: z70 :: z71 :: z72 :: z73 :: z74 :: z75 :: z76 :: z77 :: z78 :: z79 :: z80 :: z81 :: z82 :: z83 :: z84 :: z85 :: z86 :: z87 :: z88 :: z89 :: z90 :: z91 :: z92 :: z93 :: z94 :: z95 :: z96 :: z97 :: z98 :: z99 :: z100 :: z101 :: z102 :: z103 :: z104 :: z105 :: z106 :: z107 :: z108 :: z109 :: z110 :: z111 :: z112 :: z113 :: z114 :: z115 :: z116 :: z117 :: z118 :: z119 :: z120 :: z121 :: z122 :: z123 :: z124 :: z125 :: z126 :: z127 :: z128 :: z129 :: z130 :: z131 :: z132 :: z133 :: z134 :: z135 :: z136 :: z137 :: z138 :: z139 :: z140 :: z141 :: z142 :: z143 :: z144 :: z145 :: z146 :: z147 :: z148 :: z149 :: z150 :: z151 :: z152 :: z153 :: z154 :: z155 :: z156 :: z157 :: z158 :: z159 :: z160 :: z161 :: z162 :: z163 :: z164 :: z165 :: z166 :: z167 :: z168 :: z169 :: z170 :: z171 :: z172 :: z173 :: z174 :: z175 :: z176 :: z177 :: z178 :: z179 :: z180 :: z181 :: z182 :: z183 :: z184 :: z185 :: z186 :: z187 :: z188 :: z189 :: z190 :: z191 :: z192 :: z193 :: z194 :: z195 :: z196 :: z197 :: z198 :: z199 :: z200 :: z201 :: z202 :: z203 :: z204 :: z205 :: z206 :: z207 :: z208 :: z209 :: z210 :: z211 :: z212 :: z213 :: z214 :: z215 :: z216 :: z217 :: z218 :: z219 :: z220 :: z221 :: z222 :: z223 :: z224 :: z225 :: z226 :: z227 :: z228 :: z229 :: z230 :: z231 :: z232 :: z233 :: z234 :: z235 :: z236 :: z237 :: z238 :: z239 :: z240 :: z241 :: z242 :: z243 :: z244 :: z245 :: z246 :: z247 :: z248 :: z249 :: z250 :: z251 :: z252 :: z253 :: z254 :: z255 :: z256 :: z257 :: z258 :: z259 :: z260 :: z261 :: z262 :: z263 :: z264 :: z265 :: z266 :: z267 :: z268 :: z269 :: z270 :: z271 :: z272 :: z273 :: z274 :: z275 :: z276 :: z277 :: z278 :: z279 :: z280 :: z281 :: z282 :: z283 :: z284 :: z285 :: z286 :: z287 :: z288 :: z289 :: z290 :: z291 :: z292 :: z293 :: z294 :: z295 :: z296 :: z297 :: z298 :: z299 :: z300 :: z301 :: z302 :: z303 :: z304 :: z305 :: z306 :: z307 :: z308 :: z309 :: z310 :: z311 :: z312 :: z313 :: z314 :: z315 :: z316 :: z317 :: z318 :: z319 :: z320 :: z321 :: z322 :: z323 :: z324 :: z325 :: z326 :: z327 :: z328 :: z329 :: z330 :: z331 :: z332 :: z333 :: z334 :: z335 :: z336 :: z337 :: z338 :: z339 :: z340 :: z341 :: z342 :: []), []⟩ (W7.alloc (.cells (rowA J.n fun _ => 0) 3)) := by
  have Hexit := Lib.hid hexit
  have Hc := Lib.hid hc
  have HJ := Lib.hid ((Job.Ok_iff J).2 hc)
  have HRK := Lib.hid hrk
  have HG := Lib.hid hg
  have Hoc := Lib.hid hoc
  have HX7 := Lib.hid hx; have HP7 := Lib.hid hp; have HQ7 := Lib.hid hq; have HR7 := Lib.hid hr
  have HH := Lib.hid hh
  have hn4 := HJ.out.n4
  have hn9 : J.n ≤ 1000000000 := by omega
  have hA1 : (W7.alloc (.cells (rowA J.n fun _ => 0) 3)).heap[W7.heap.size]? = some (.cells (rowA J.n (walkP g 0)) 3) := heap_alloc_new _ _
  have hgA : W7.grows (W7.alloc (.cells (rowA J.n fun _ => 0) 3)) := by (repeat (first | exact World.grows.refl _ | assumption | refine World.grows.alloc ?_ _ | refine World.grows.plus ?_ _ _ | refine World.grows.drew ?_))
  clear hexit hc hrk hg hoc hx hp hq hr hh
  conv => arg 2; arg 1; whnf
  go_loopw [33] (fun i wr => ∃ q : Nat, q ≤ m ∧ i = .int .i64 q ∧ Hid (wr.heap[W7.heap.size]? = some (.cells (rowA J.n (walkP g q)) 3)) ∧ Hid (W7.grows wr)) (fun i _ => m - (intOf i).toNat)
  case atStart => exact ⟨0, by omega, rfl, Lib.hid hA1, Lib.hid hgA⟩
  case round =>
    obtain ⟨q, hq, rfl, RA, hg⟩ := hrel
    clear hA1 hgA
    have HX := Lib.hid (HX7.out.mono hg.out); have HP := Lib.hid (HP7.out.mono hg.out); have HQ := Lib.hid (HQ7.out.mono hg.out); have HR3 := Lib.hid (HR7.out.mono hg.out)
    have c0 := HX.out.2.2.1; have c1 := HX.out.2.2.2; have p0 := HP.out.1; have p1 := HP.out.2; have q0 := HQ.out.1; have q1 := HQ.out.2; have r0 := HR3.out.1; have r1 := HR3.out.2
    by_cases hlt : q < m
    · have hlti : (q : Int) < m := by omega
      have hRn := HG.out.lt q hlt
      have hrl := HG.out.lt_len hlt
      have hin := HG.out.walkIn (k := q) (by omega)
      have hhe := Lib.hid (Job.heat_at Hc.out hin)
      have hle6 : ∀ r, r < J.n → walkP g q r ≤ 6 := fun r hr => Nat.le_trans (hin.le r hr) (HJ.out.l6 r hr)
      have o0 := hg.out.cell_of (Hoc.out q hlt)
      have Hwalk := Lib.hid (show walkP g (q + 1) = upd (walkP g q) (g q) (walkP g q (g q) + 1) from rfl)
      have Hk := Lib.hid (HH.out q hlt)
      obtain ⟨R, hR⟩ : ∃ R, g q = R := ⟨_, rfl⟩
      obtain ⟨P, hP⟩ : ∃ P, walkP g q = P := ⟨_, rfl⟩
      rw [hR] at hRn hrl o0 Hwalk Hk
      rw [hP] at hrl hhe Hwalk Hk RA hle6
      clear hR hP hin
      have a0 := rowA_cell RA.out hRn
      have a1 := rowA_cell RA.out HRK.out.1
      have f0 := rowA_frozen RA.out R
      have hblk : W7.heap.size < wr.heap.size := World.lt_of_block RA.out
      have hRi : (R : Int) < J.n := by omega
      have hR1i : (R1 : Int) < J.n := by have := HRK.out.1; omega
      have hp6 := hle6 R hRn
      clear hle6
      go_upto_region 32 with fail
      refine lim_r32 wr J.n W7.heap.size ob oo m ocap b16 q R R1 K1 (P R) hn4 hm2 hmo hoc2 hlti hRi hp6 o0 p0 p1 a0 _ _ _ _ _ _ _ _ _ _ _ _ _ _ _ _ _ _ _ _ _ _ _ _ _ _ _ _ _ _ _ _ _ _ _ _ _ _ _ _ _ _ _ _ _ _ _ _ _ _ _ _ _ _ _ _ _ _ _ _ _ _ _ _ _ _ _ _ _ _ _ _ _ _ _ _ _ _ _ _ _ _ _ _ _ _ _ _ _ _ _ _ _ _ _ _ _ _ _ _ _ _ _ _ _ _ _ _ _ _ _ _ _ _ _ _ _ _ _ _ _ _ _ _ _ _ _ _ _ _ _ _ _ _ _ _ _ _ _ _ _ _ _ _ _ _ _ _ _ _ _ _ _ _ _ _ _ _ _ _ _ _ _ _ _ _ _ _ _ _ _ _ _ _ _ _ _ _ _ _ _ _ _ _ _ _ _ _ _ _ _ _ _ _ _ _ _ _ _ _ _ _ _ _ _ _ _ _ _ _ _ _ _ _ _ _ _ _ _ _ _ _ _ _ _ _ _ _ _ _ _ _ _ _ _ _ _ _ _ _ _ _ _ _ _ _ _ _ _ _ _ _ _ _ _ _ _ _ _ _ _ _ _ _ _ _ _ _ _ _ _ _ _ _ _ _ _ _ _ _ _ _ _ _ _ _ _ _ _ _ _ _ _ _ _ _ _ _ _ _ _ _ _ _ _ _ _ _ _ _ _ _ _ _ _ _ _ _ _ _ _ _ _ _ _ _ _ _ _ _ _ _ _ _ _ _ _ _ _ _ ?_
      intro x262 x263 x264 x265 x266 x267 x268 x269 x270 x271 x272 x273 x274 x275 x276 x277 x278 x279 wc hgc
      focus
        have hv := hgc
        have HXv := Lib.hid (HX.out.mono hv); have HPv := Lib.hid (HP.out.mono hv); have HQv := Lib.hid (HQ.out.mono hv); have HRv := Lib.hid (HR3.out.mono hv); clear HX HP HQ HR3 c0 c1 p0 p1 q0 q1 r0 r1; have HX := HXv; have HP := HPv; have HQ := HQv; have HR3 := HRv; clear HXv HPv HQv HRv; have c0 := HX.out.2.2.1; have c1 := HX.out.2.2.2; have p0 := HP.out.1; have p1 := HP.out.2; have q0 := HQ.out.1; have q1 := HQ.out.2; have r0 := HR3.out.1; have r1 := HR3.out.2; replace o0 := hv.cell_of o0; replace a0 := hv.cell_of a0; replace a1 := hv.cell_of a1; replace f0 := (Below.frozen (p := ⟨W7.heap.size, R, none⟩) hv hblk).trans f0; replace RA := Lib.hid (hv.heap_of RA.out); replace hblk := World.lt_of_block RA.out
        clear hgc
        have gW : Hid (W7.grows wc) := Lib.hid (hg.out.trans hv)
        obtain ⟨wd, rfl⟩ : ∃ wd, wd = wc := ⟨_, rfl⟩
        go_upto_if 280 with fail
        go_cut [] from 251 to 341 (fun w => Hid (wd.grows w))
        case first =>
          by_cases hd : R = R1 ∧ P R = K1
          · rw [decide_eq_true hd]
            obtain ⟨rfl, hpk⟩ := hd
            have hk := Hk.out.1 rfl hpk
            clear hpk
            have n1 : ¬ J.heat P < lo := by omega
            have n2 : ¬ hi < J.heat P := by omega
            have h16 : Hid (∀ W, wd.grows W → Calls Try.prog 16 #[.agg #[.int .i64 J.start, .slice (some ⟨jb, jo, none⟩) J.n jcap], .slice (some ⟨W7.heap.size, 0, none⟩) J.n J.n] W fun e w' => e = .returned (.tuple #[.int .i64 (J.heat P), .int .i64 0]) ∧ W.grows w') := Lib.hid fun W hW => by
              have := Heat_c W _ J (HX.out.1.mono hW) _ J.n _ (rowA_ints' (hW.heap_of RA.out) (by unfold maxLen; omega))
              rwa [hhe.out.1, hhe.out.2] at this
            go_wp2_with (go_at_call 16; go_loud (refine (h16.out _ (by (repeat (first | exact World.grows.refl _ | assumption | refine World.grows.alloc ?_ _ | refine World.grows.plus ?_ _ _ | refine World.grows.drew ?_)))).mono ?_; rintro e w6 ⟨rfl, hg6⟩; have Hg6 := Lib.hid (show wd.grows w6 from World.grows.trans (by (repeat (first | exact World.grows.refl _ | assumption | refine World.grows.alloc ?_ _ | refine World.grows.plus ?_ _ _ | refine World.grows.drew ?_))) hg6); replace r0 := hg6.cell_of r0; replace r1 := hg6.cell_of r1; clear hg6))
            go_meet
            exact Lib.hid (Hg6.out.trans (by (repeat (first | exact World.grows.refl _ | assumption | refine World.grows.alloc ?_ _ | refine World.grows.plus ?_ _ _ | refine World.grows.drew ?_))))
          · rw [decide_eq_false hd]
            clear hd
            go_wp2
            go_meet
            exact Lib.hid (World.grows.refl _)
        case rest =>
          have hv := hcut.out
          have HXv := Lib.hid (HX.out.mono hv); have HPv := Lib.hid (HP.out.mono hv); have HQv := Lib.hid (HQ.out.mono hv); have HRv := Lib.hid (HR3.out.mono hv); clear HX HP HQ HR3 c0 c1 p0 p1 q0 q1 r0 r1; have HX := HXv; have HP := HPv; have HQ := HQv; have HR3 := HRv; clear HXv HPv HQv HRv; have c0 := HX.out.2.2.1; have c1 := HX.out.2.2.2; have p0 := HP.out.1; have p1 := HP.out.2; have q0 := HQ.out.1; have q1 := HQ.out.2; have r0 := HR3.out.1; have r1 := HR3.out.2; replace o0 := hv.cell_of o0; replace a0 := hv.cell_of a0; replace a1 := hv.cell_of a1; replace f0 := (Below.frozen (p := ⟨W7.heap.size, R, none⟩) hv hblk).trans f0; replace RA := Lib.hid (hv.heap_of RA.out); replace hblk := World.lt_of_block RA.out
          clear hcut hhe
          replace gW := Lib.hid (gW.out.trans hv)
          clear hv
          obtain ⟨we, rfl⟩ : ∃ we, we = wc := ⟨_, rfl⟩
          go_upto_region 36 with fail
          refine lim_r36 we J.n W7.heap.size ob oo m ocap b16 b17 q R R1 K1 R2 K2 (P R) (P R1) m1 hn4 hm2 hmo hoc2 hlti hRi hR1i hp6 o0 p0 p1 q0 q1 a0 a1 (fun h1 h2 h3 => by subst h1; exact Hk.out.2 rfl h2 h3) _ _ _ _ _ _ _ _ _ _ _ _ _ _ _ _ _ _ _ _ _ _ _ _ _ _ _ _ _ _ _ _ _ _ _ _ _ _ _ _ _ _ _ _ _ _ _ _ _ _ _ _ _ _ _ _ _ _ _ _ _ _ _ _ _ _ _ _ _ _ _ _ _ _ _ _ _ _ _ _ _ _ _ _ _ _ _ _ _ _ _ _ _ _ _ _ _ _ _ _ _ _ _ _ _ _ _ _ _ _ _ _ _ _ _ _ _ _ _ _ _ _ _ _ _ _ _ _ _ _ _ _ _ _ _ _ _ _ _ _ _ _ _ _ _ _ _ _ _ _ _ _ _ _ _ _ _ _ _ _ _ _ _ _ _ _ _ _ _ _ _ _ _ _ _ _ _ _ _ _ _ _ _ _ _ _ _ _ _ _ _ _ _ _ _ _ _ _ _ _ _ _ _ _ _ _ _ _ _ _ _ _ _ _ _ _ _ _ _ _ _ _ _ _ _ _ _ _ _ _ _ _ _ _ _ _ _ _ _ _ _ _ _ _ _ _ _ _ _ _ _ _ _ _ _ _ _ _ _ _ _ _ _ _ _ _ _ _ _ _ _ _ _ _ _ _ _ _ _ _ _ _ _ _ _ _ _ _ _ _ _ _ _ _ _ _ _ _ _ _ _ _ _ _ _ _ _ _ _ _ _ _ _ _ _ _ _ _ _ _ _ _ _ _ _ _ _ _ _ _ _ _ _ _ _ _ _ _ ?_
          intro x301 x302 x303 x304 x305 x306 x307 x308 x309 x310 x311 x312 x313 x314 x315 x316 x317 x318 x319 x320 x321 x322 x323 x324 x325 x326 x327 x328 x329 x330 x331 wc hgc
          focus
            have hv := hgc
            have HXv := Lib.hid (HX.out.mono hv); have HPv := Lib.hid (HP.out.mono hv); have HQv := Lib.hid (HQ.out.mono hv); have HRv := Lib.hid (HR3.out.mono hv); clear HX HP HQ HR3 c0 c1 p0 p1 q0 q1 r0 r1; have HX := HXv; have HP := HPv; have HQ := HQv; have HR3 := HRv; clear HXv HPv HQv HRv; have c0 := HX.out.2.2.1; have c1 := HX.out.2.2.2; have p0 := HP.out.1; have p1 := HP.out.2; have q0 := HQ.out.1; have q1 := HQ.out.2; have r0 := HR3.out.1; have r1 := HR3.out.2; replace o0 := hv.cell_of o0; replace a0 := hv.cell_of a0; replace a1 := hv.cell_of a1; replace f0 := (Below.frozen (p := ⟨W7.heap.size, R, none⟩) hv hblk).trans f0; replace RA := Lib.hid (hv.heap_of RA.out); replace hblk := World.lt_of_block RA.out
            replace gW := Lib.hid (gW.out.trans hv)
            clear hgc hv
            go_wp2
            go_roundw
            case rel =>
              refine ⟨q + 1, by omega, by go_num, Lib.hid ?_, Lib.hid ?_⟩
              · rw [Hwalk.out, ← upd_updN]
                first
                | exact rowA_store RA.out hRn (P R + 1)
                | exact World.grows.heap_of (World.grows_plus _ _ _) (rowA_store RA.out hRn (P R + 1))
              · exact (gW.out.setCell (Nat.le_refl _) _).trans (by (repeat (first | exact World.grows.refl _ | assumption | refine World.grows.alloc ?_ _ | refine World.grows.plus ?_ _ _ | refine World.grows.drew ?_)))
            case measure => simp [intOf] <;> omega
    · have hqe : q = m := by omega
      subst hqe
      go_wp2
      exact Hexit.out _ _ _ _ _ _ _ _ _ _ _ _ _ _ _ _ _ _ _ _ _ _ _ _ _ _ _ _ _ _ _ _ _ _ _ _ _ _ _ _ _ _ _ _ _ _ _ _ _ _ _ _ _ _ _ _ _ _ _ _ _ _ _ _ _ _ _ _ _ _ _ _ _ _ _ _ _ _ _ _ _ _ _ _ _ _ _ _ _ _ _ _ _ _ _ _ hg.out
end Go.Proofs.Ytjpccfpmhmddjaa

/-
  What is proved: PassLimits returns true (the walk), a limit that is high enough.
-/
namespace Go.Proofs.Ytjpccfpmhmddjaa
open Go.RowKit
attribute [local irreducible] Go.wpCalm

set_option maxRecDepth 100000 in
set_option maxHeartbeats 16000000 in
theorem limits_3 (w : World) (v : Value) (J : Job) (hv : RawAt w v J) (off : Int) (hoff : -32768 ≤ off ∧ off ≤ 32767) (up : Int) (hup : 0 ≤ up ∧ up ≤ 65535)
    (bv : Value) (mb : Nat) (fb : Nat → Int) (hb : NumsAt .u8 w bv mb fb) (hfb0 : ∀ i, i < mb → 0 ≤ fb i ∧ fb i ≤ 255) (a0 a1 a2 a3 : Nat) (ha0 : a0 ≤ 255) (ha1 : a1 ≤ 255) (ha2 : a2 ≤ 255) (ha3 : a3 ≤ 255) (hc : J.check = 0) (hot : Int) (hB0 : J.Best hot) (hmb : ¬ 40 < mb) (h1 : hot ≤ hot + off) :
    Calls Try.prog 8 #[v, .int .i16 off, .int .u16 up, bv, .agg #[.int .u8 a0, .int .u8 a1, .int .u8 a2, .int .u8 a3]] w fun e w' => e = .returned (.bool true) ∧ w.grows w' := by
  obtain ⟨rv, row, rfl, hs, hr⟩ := hv
  have Hv := Lib.hid (show RawAt w (.agg #[.int .i64 J.start, rv]) J from ⟨rv, row, rfl, hs, hr⟩)
  have hx0 := BoxAt.start (w := w) (rv := rv) (J := J) ⟨rv, row, rfl, hs, hr⟩
  have HX := Lib.hid (hx0.mono (World.grows.alloc (World.grows.refl _) (.cells #[.int .u8 a0, .int .u8 a1, .int .u8 a2, .int .u8 a3] 60)))
  have HF := Lib.hid (FourAt.new (w.alloc (.cells #[.int .i64 J.start, rv] 24)) a0 a1 a2 a3 60)
  simp only [World.size_alloc] at HF
  have hg0 : w.grows ((w.alloc (.cells #[.int .i64 J.start, rv] 24)).alloc (.cells #[.int .u8 a0, .int .u8 a1, .int .u8 a2, .int .u8 a3] 60)) := by (repeat (first | exact World.grows.refl _ | assumption | refine World.grows.alloc ?_ _ | refine World.grows.plus ?_ _ _ | refine World.grows.drew ?_))
  have HB := Lib.hid (hb.mono hg0)
  have hfb := Lib.hid hfb0
  obtain ⟨ba, bcap, rfl, hb1, hb2, -⟩ := hb
  unfold maxLen at hb2
  clear hs hr hfb0 hg0 hx0
  have c0 := HX.out.2.2.1; have c1 := HX.out.2.2.2
  have f0 := HF.out.1; have f1 := HF.out.2.1; have f2 := HF.out.2.2.1; have f3 := HF.out.2.2.2
  have h38 := fun W h => fine_c W (.agg #[.int .i64 J.start, rv]) J h
  go_enter Try.func8, Try.ntmps8
  · rw [decide_eq_true hc] at h38
    have Hc := Lib.hid hc
    have HB0 := Lib.hid hB0
    clear hB0
    have HJ := Lib.hid ((Job.Ok_iff J).2 hc)
    clear hc
    obtain ⟨jb, jo, jcap, rb, ro, rc, hrv, hjc, hjc2, hR⟩ := Hv.out.job HJ.out
    obtain ⟨rfl⟩ : rv = .slice (some ⟨jb, jo, none⟩) J.n jcap := by simpa using hrv
    have HR := Lib.hid hR
    unfold maxLen at hjc2
    have hn1 := HJ.out.n1
    have hn4 := HJ.out.n4
    have hn9 : J.n ≤ 1000000000 := by omega
    clear hR
    go_wp2_with (first
      | (go_at_call 38; refine (h38 _ (HX.out.1.mono (by (repeat (first | exact World.grows.refl _ | assumption | refine World.grows.alloc ?_ _ | refine World.grows.plus ?_ _ _ | refine World.grows.drew ?_))))).mono ?_; rintro e W2 ⟨rfl, hg⟩; replace HB := Lib.hid (HB.out.mono (World.grows.trans (by (repeat (first | exact World.grows.refl _ | assumption | refine World.grows.alloc ?_ _ | refine World.grows.plus ?_ _ _ | refine World.grows.drew ?_))) hg)); replace HX := Lib.hid (HX.out.mono (World.grows.trans (by (repeat (first | exact World.grows.refl _ | assumption | refine World.grows.alloc ?_ _ | refine World.grows.plus ?_ _ _ | refine World.grows.drew ?_))) hg)); replace c0 := HX.out.2.2.1; replace c1 := HX.out.2.2.2; replace HF := Lib.hid (HF.out.mono (World.grows.trans (by (repeat (first | exact World.grows.refl _ | assumption | refine World.grows.alloc ?_ _ | refine World.grows.plus ?_ _ _ | refine World.grows.drew ?_))) hg)); replace f0 := HF.out.1; replace f1 := HF.out.2.1; replace f2 := HF.out.2.2.1; replace f3 := HF.out.2.2.2; clear hg)
      | (go_at_call 44; fail))
    clear h38
    (refine (best_c _ _ J (HX.out.1.mono (by (repeat (first | exact World.grows.refl _ | assumption | refine World.grows.alloc ?_ _ | refine World.grows.plus ?_ _ _ | refine World.grows.drew ?_))))).mono ?_; rintro e W2 ⟨sv, hot2, rfl, hg, -, hbb⟩; rw [Hc.out]; obtain rfl : hot = hot2 := HB0.out.unique (hbb Hc.out).1; have hB := Lib.hid (hbb Hc.out).1; obtain ⟨o, ho1, ho2⟩ := (hbb Hc.out).2; have HS := Lib.hid ho1.order; replace HB := Lib.hid (HB.out.mono (World.grows.trans (by (repeat (first | exact World.grows.refl _ | assumption | refine World.grows.alloc ?_ _ | refine World.grows.plus ?_ _ _ | refine World.grows.drew ?_))) hg)); replace HX := Lib.hid (HX.out.mono (World.grows.trans (by (repeat (first | exact World.grows.refl _ | assumption | refine World.grows.alloc ?_ _ | refine World.grows.plus ?_ _ _ | refine World.grows.drew ?_))) hg)); replace c0 := HX.out.2.2.1; replace c1 := HX.out.2.2.2; replace HF := Lib.hid (HF.out.mono (World.grows.trans (by (repeat (first | exact World.grows.refl _ | assumption | refine World.grows.alloc ?_ _ | refine World.grows.plus ?_ _ _ | refine World.grows.drew ?_))) hg)); replace f0 := HF.out.1; replace f1 := HF.out.2.1; replace f2 := HF.out.2.2.1; replace f3 := HF.out.2.2.2; clear hg hbb ho1 ho2)
    have hbd := hB.out.bd HJ.out
    have e0 : IntKind.i64.wrap (hot + off) = hot + off := wrapI (by omega)
    have e1 : IntKind.i64.wrap (hot + off + up) = hot + off + up := wrapI (by omega)
    have hnp : (0 : Int) < J.n := by omega
    have hni : ¬ (J.n : Int) = 0 := by omega
    obtain ⟨R1, hR1⟩ : ∃ R1 : Nat, (a0 : Int) % (J.n : Int) = (R1 : Int) := ⟨a0 % J.n, by omega⟩
    have hR1n : R1 < J.n := by have := Int.emod_lt_of_pos (a0 : Int) hnp; omega
    have hR1i : (R1 : Int) < J.n := by omega
    obtain ⟨R2, hR2⟩ : ∃ R2 : Nat, (a2 : Int) % (J.n : Int) = (R2 : Int) := ⟨a2 % J.n, by omega⟩
    have hR2n : R2 < J.n := by have := Int.emod_lt_of_pos (a2 : Int) hnp; omega
    have hR2i : (R2 : Int) < J.n := by omega
    have hl1 := HJ.out.l1 R1 hR1n; have hl2 := HJ.out.l1 R2 hR2n
    have hm1 := HJ.out.l6 R1 hR1n; have hm2 := HJ.out.l6 R2 hR2n
    have hk1 : ¬ (J.len R1 : Int) = 0 := by omega
    have hk2 : ¬ (J.len R2 : Int) = 0 := by omega
    obtain ⟨K1, hK1⟩ : ∃ K1 : Nat, (a1 : Int) % (J.len R1 : Int) = (K1 : Int) := ⟨a1 % J.len R1, by omega⟩
    have hK1n : K1 < J.len R1 := by have := Int.emod_lt_of_pos (a1 : Int) (show (0 : Int) < J.len R1 by omega); omega
    obtain ⟨K2, hK2⟩ : ∃ K2 : Nat, (a3 : Int) % (J.len R2 : Int) = (K2 : Int) := ⟨a3 % J.len R2, by omega⟩
    have hK2n : K2 < J.len R2 := by have := Int.emod_lt_of_pos (a3 : Int) (show (0 : Int) < J.len R2 by omega); omega
    have z1 := HX.out.2.1.cell_of (HR.out.row R1 hR1n)
    have z2 := HX.out.2.1.cell_of (HR.out.row R2 hR2n)
    go_wp2_with (first
      | (go_at_call 40; refine (name_c _ _ _).mono ?_; rintro e WA ⟨rfl, hg⟩; replace z1 := hg.cell_of z1; replace z2 := hg.cell_of z2; replace HB := Lib.hid (HB.out.mono (World.grows.trans (by (repeat (first | exact World.grows.refl _ | assumption | refine World.grows.alloc ?_ _ | refine World.grows.plus ?_ _ _ | refine World.grows.drew ?_))) hg)); replace HX := Lib.hid (HX.out.mono (World.grows.trans (by (repeat (first | exact World.grows.refl _ | assumption | refine World.grows.alloc ?_ _ | refine World.grows.plus ?_ _ _ | refine World.grows.drew ?_))) hg)); replace c0 := HX.out.2.2.1; replace c1 := HX.out.2.2.2; replace HF := Lib.hid (HF.out.mono (World.grows.trans (by (repeat (first | exact World.grows.refl _ | assumption | refine World.grows.alloc ?_ _ | refine World.grows.plus ?_ _ _ | refine World.grows.drew ?_))) hg)); replace f0 := HF.out.1; replace f1 := HF.out.2.1; replace f2 := HF.out.2.2.1; replace f3 := HF.out.2.2.2; clear hg)
      | (go_at_call 44; fail))
    have hK1i : (K1 : Int) < J.len R1 := by omega
    have hK2i : (K2 : Int) < J.len R2 := by omega
    have hrc1 := HR.out.cap R1 hR1n
    have hrc2 := HR.out.cap R2 hR2n
    unfold maxLen at hrc1 hrc2
    have hk1' : ¬ J.len R1 = 0 := by omega
    have hk2' : ¬ J.len R2 = 0 := by omega
    have e2 : IntKind.i64.wrap (K1 : Int) = K1 := wrapI (by omega)
    have e3 : IntKind.i64.wrap (K2 : Int) = K2 := wrapI (by omega)
    (refine wp_region_tail 12 (by kernel_rfl) (by kernel_rfl) (by decide) ?_; simp only [List.take_succ_cons, List.take_zero, List.drop_succ_cons, List.drop_zero, List.take_nil, List.drop_nil, List.append_nil, List.nil_append, List.cons_append, Nat.reduceAdd, Nat.reduceSub]; (repeat (refine wpCalm_step (fun K hK => ?_); go_simp; first | (refine hK _ ?_; clear hK K) | (apply Exists.intro; refine ⟨fun n' x' => ?_, hK _ ?_⟩; (fail); clear hK K))); refine wpCalm_nil ?_; intro nq xq)
    go_wp2_with (go_at_call 44; fail)
    (refine (name_c _ _ _).mono ?_; rintro e W3 ⟨rfl, hg⟩; have HP := Lib.hid ((PairAt.new WA R1 K1 47).mono (World.grows.trans (by (repeat (first | exact World.grows.refl _ | assumption | refine World.grows.alloc ?_ _ | refine World.grows.plus ?_ _ _ | refine World.grows.drew ?_))) hg)); have p0 := HP.out.1; have p1 := HP.out.2; replace z1 := hg.cell_of (World.grows.cell_of (show WA.grows _ from by (repeat (first | exact World.grows.refl _ | assumption | refine World.grows.alloc ?_ _ | refine World.grows.plus ?_ _ _ | refine World.grows.drew ?_))) z1); replace z2 := hg.cell_of (World.grows.cell_of (show WA.grows _ from by (repeat (first | exact World.grows.refl _ | assumption | refine World.grows.alloc ?_ _ | refine World.grows.plus ?_ _ _ | refine World.grows.drew ?_))) z2); replace HB := Lib.hid (HB.out.mono (World.grows.trans (by (repeat (first | exact World.grows.refl _ | assumption | refine World.grows.alloc ?_ _ | refine World.grows.plus ?_ _ _ | refine World.grows.drew ?_))) hg)); replace HX := Lib.hid (HX.out.mono (World.grows.trans (by (repeat (first | exact World.grows.refl _ | assumption | refine World.grows.alloc ?_ _ | refine World.grows.plus ?_ _ _ | refine World.grows.drew ?_))) hg)); replace c0 := HX.out.2.2.1; replace c1 := HX.out.2.2.2; replace HF := Lib.hid (HF.out.mono (World.grows.trans (by (repeat (first | exact World.grows.refl _ | assumption | refine World.grows.alloc ?_ _ | refine World.grows.plus ?_ _ _ | refine World.grows.drew ?_))) hg)); replace f0 := HF.out.1; replace f1 := HF.out.2.1; replace f2 := HF.out.2.2.1; replace f3 := HF.out.2.2.2; clear hg)
    go_wp2_with (go_at_call 44; fail)
    (refine wp_region_tail 12 (by kernel_rfl) (by kernel_rfl) (by decide) ?_; simp only [List.take_succ_cons, List.take_zero, List.drop_succ_cons, List.drop_zero, List.take_nil, List.drop_nil, List.append_nil, List.nil_append, List.cons_append, Nat.reduceAdd, Nat.reduceSub]; (repeat (refine wpCalm_step (fun K hK => ?_); go_simp; first | (refine hK _ ?_; clear hK K) | (apply Exists.intro; refine ⟨fun n' x' => ?_, hK _ ?_⟩; (fail); clear hK K))); refine wpCalm_nil ?_; intro nq xq)
    go_wp2_with (go_at_call 44; fail)
    obtain ⟨L, hL⟩ : ∃ L, hot + off = L := ⟨_, rfl⟩
    obtain ⟨M, hM⟩ : ∃ M, L + up = M := ⟨_, rfl⟩
    simp only [hL, hM]
    have hLM : L ≤ M := by omega
    have hLb : -60000 ≤ L ∧ L ≤ 60000 := by omega
    have HL := Lib.hid (hB.out.limits Hc.out HS.out.1 HS.out.2 hLM hR1n hK1n hR2n hK2n)
    have HW := Lib.hid (fun m g (h : J.OrdOk m g) (hh : ∀ k, k < m → J.hotAt g k ≤ L) i (hi : i < m) => h.limits hh hi (R1 := R1) (K1 := K1) (R2 := R2) (K2 := K2))
    clear HS
    have h26 := Lib.hid (fun l W (hW : RawAt W (.agg #[.int .i64 J.start, .slice (some ⟨jb, jo, none⟩) J.n jcap]) J) => count_c W (.agg #[.int .i64 J.start, .slice (some ⟨jb, jo, none⟩) J.n jcap]) J hW l)
    have h34 := Lib.hid (fun l W (hW : RawAt W (.agg #[.int .i64 J.start, .slice (some ⟨jb, jo, none⟩) J.n jcap]) J) => must_c W (.agg #[.int .i64 J.start, .slice (some ⟨jb, jo, none⟩) J.n jcap]) J hW l R1 K1 R2 K2)
    have h36 := Lib.hid (fun l W (hW : RawAt W (.agg #[.int .i64 J.start, .slice (some ⟨jb, jo, none⟩) J.n jcap]) J) => bef_c W (.agg #[.int .i64 J.start, .slice (some ⟨jb, jo, none⟩) J.n jcap]) J hW l R1 K1)
    simp only [Hc.out] at h26
    generalize hlo : J.befLo (J.befL L R1 K1) (J.befL L R1 K1).length = lo at HL HW
    generalize hhi : J.befHi (J.befL L R1 K1) (J.befL L R1 K1).length = hi at HL HW
    generalize hlo2 : J.befLo (J.befL M R1 K1) (J.befL M R1 K1).length = lo2 at HL
    generalize hhi2 : J.befHi (J.befL M R1 K1) (J.befL M R1 K1).length = hi2 at HL
    have hl4 := Lib.hid (And.intro hlo (And.intro hhi (And.intro hlo2 hhi2)))
    clear hlo hhi hlo2 hhi2
    have Hgen : ∃ (A B E1 E2 D1 D2 : Int) (m1 m2 : Bool), J.countAns L = A ∧ J.countAns M = B ∧ J.seenErr L 2 (two R1 R2) (two K1 K2) = E1 ∧ J.seenErr M 2 (two R1 R2) (two K1 K2) = E2 ∧ J.seenErr L 1 (fun _ => R1) (fun _ => K1) = D1 ∧ J.seenErr M 1 (fun _ => R1) (fun _ => K1) = D2 ∧ J.mustAns L R1 K1 R2 K2 = m1 ∧ J.mustAns M R1 K1 R2 K2 = m2 := ⟨_, _, _, _, _, _, _, _, rfl, rfl, rfl, rfl, rfl, rfl, rfl, rfl⟩
    obtain ⟨A, B, E1, E2, D1, D2, m1, m2, k1, k2, k3, k4, k5, k6, k7, k8⟩ := Hgen
    simp only [k1, k2, k3, k4, k5, k6, k7, k8] at HL HW
    have A26 := Lib.hid (fun W hW => k1 ▸ h26.out L W hW)
    have B26 := Lib.hid (fun W hW => k2 ▸ h26.out M W hW)
    have A34 := Lib.hid (fun W hW => k3 ▸ k7 ▸ h34.out L W hW)
    have B34 := Lib.hid (fun W hW => k4 ▸ k8 ▸ h34.out M W hW)
    have A36 := Lib.hid (fun W hW => k5 ▸ h36.out L W hW)
    have B36 := Lib.hid (fun W hW => k6 ▸ h36.out M W hW)
    clear k1 k2 k3 k4 k5 k6 k7 k8 h26 h34 h36
    have HQ := Lib.hid (PairAt.new W3 R2 K2 47)
    have q0 := HQ.out.1; have q1 := HQ.out.2
    clear z1 z2 f0 f1 f2 f3 HF
    (refine (A26.out _ (HX.out.1.mono (by (repeat (first | exact World.grows.refl _ | assumption | refine World.grows.alloc ?_ _ | refine World.grows.plus ?_ _ _ | refine World.grows.drew ?_))))).mono ?_; rintro e W4 ⟨rfl, hg⟩; replace HB := Lib.hid (HB.out.mono (World.grows.trans (by (repeat (first | exact World.grows.refl _ | assumption | refine World.grows.alloc ?_ _ | refine World.grows.plus ?_ _ _ | refine World.grows.drew ?_))) hg)); replace HX := Lib.hid (HX.out.mono (World.grows.trans (by (repeat (first | exact World.grows.refl _ | assumption | refine World.grows.alloc ?_ _ | refine World.grows.plus ?_ _ _ | refine World.grows.drew ?_))) hg)); replace c0 := HX.out.2.2.1; replace c1 := HX.out.2.2.2; replace HP := Lib.hid (HP.out.mono (World.grows.trans (by (repeat (first | exact World.grows.refl _ | assumption | refine World.grows.alloc ?_ _ | refine World.grows.plus ?_ _ _ | refine World.grows.drew ?_))) hg)); replace p0 := HP.out.1; replace p1 := HP.out.2; replace HQ := Lib.hid (HQ.out.mono ((World.grows_plus _ _ _).trans hg)); replace q0 := HQ.out.1; replace q1 := HQ.out.2; clear hg A26)
    go_wp2_with (go_at_call 44; fail)
    (refine (B26.out _ (HX.out.1.mono (by (repeat (first | exact World.grows.refl _ | assumption | refine World.grows.alloc ?_ _ | refine World.grows.plus ?_ _ _ | refine World.grows.drew ?_))))).mono ?_; rintro e W2 ⟨rfl, hg⟩; replace HB := Lib.hid (HB.out.mono (World.grows.trans (by (repeat (first | exact World.grows.refl _ | assumption | refine World.grows.alloc ?_ _ | refine World.grows.plus ?_ _ _ | refine World.grows.drew ?_))) hg)); replace HX := Lib.hid (HX.out.mono (World.grows.trans (by (repeat (first | exact World.grows.refl _ | assumption | refine World.grows.alloc ?_ _ | refine World.grows.plus ?_ _ _ | refine World.grows.drew ?_))) hg)); replace c0 := HX.out.2.2.1; replace c1 := HX.out.2.2.2; replace HP := Lib.hid (HP.out.mono (World.grows.trans (by (repeat (first | exact World.grows.refl _ | assumption | refine World.grows.alloc ?_ _ | refine World.grows.plus ?_ _ _ | refine World.grows.drew ?_))) hg)); replace p0 := HP.out.1; replace p1 := HP.out.2; replace HQ := Lib.hid (HQ.out.mono (World.grows.trans (by (repeat (first | exact World.grows.refl _ | assumption | refine World.grows.alloc ?_ _ | refine World.grows.plus ?_ _ _ | refine World.grows.drew ?_))) hg)); replace q0 := HQ.out.1; replace q1 := HQ.out.2; clear hg B26)
    go_wp2_with (go_at_call 44; fail)
    (refine (A34.out _ (HX.out.1.mono (by (repeat (first | exact World.grows.refl _ | assumption | refine World.grows.alloc ?_ _ | refine World.grows.plus ?_ _ _ | refine World.grows.drew ?_))))).mono ?_; rintro e W2 ⟨rfl, hg⟩; replace HB := Lib.hid (HB.out.mono (World.grows.trans (by (repeat (first | exact World.grows.refl _ | assumption | refine World.grows.alloc ?_ _ | refine World.grows.plus ?_ _ _ | refine World.grows.drew ?_))) hg)); replace HX := Lib.hid (HX.out.mono (World.grows.trans (by (repeat (first | exact World.grows.refl _ | assumption | refine World.grows.alloc ?_ _ | refine World.grows.plus ?_ _ _ | refine World.grows.drew ?_))) hg)); replace c0 := HX.out.2.2.1; replace c1 := HX.out.2.2.2; replace HP := Lib.hid (HP.out.mono (World.grows.trans (by (repeat (first | exact World.grows.refl _ | assumption | refine World.grows.alloc ?_ _ | refine World.grows.plus ?_ _ _ | refine World.grows.drew ?_))) hg)); replace p0 := HP.out.1; replace p1 := HP.out.2; replace HQ := Lib.hid (HQ.out.mono (World.grows.trans (by (repeat (first | exact World.grows.refl _ | assumption | refine World.grows.alloc ?_ _ | refine World.grows.plus ?_ _ _ | refine World.grows.drew ?_))) hg)); replace q0 := HQ.out.1; replace q1 := HQ.out.2; clear hg A34)
    go_wp2_with (go_at_call 44; fail)
    (refine (B34.out _ (HX.out.1.mono (by (repeat (first | exact World.grows.refl _ | assumption | refine World.grows.alloc ?_ _ | refine World.grows.plus ?_ _ _ | refine World.grows.drew ?_))))).mono ?_; rintro e W2 ⟨rfl, hg⟩; replace HB := Lib.hid (HB.out.mono (World.grows.trans (by (repeat (first | exact World.grows.refl _ | assumption | refine World.grows.alloc ?_ _ | refine World.grows.plus ?_ _ _ | refine World.grows.drew ?_))) hg)); replace HX := Lib.hid (HX.out.mono (World.grows.trans (by (repeat (first | exact World.grows.refl _ | assumption | refine World.grows.alloc ?_ _ | refine World.grows.plus ?_ _ _ | refine World.grows.drew ?_))) hg)); replace c0 := HX.out.2.2.1; replace c1 := HX.out.2.2.2; replace HP := Lib.hid (HP.out.mono (World.grows.trans (by (repeat (first | exact World.grows.refl _ | assumption | refine World.grows.alloc ?_ _ | refine World.grows.plus ?_ _ _ | refine World.grows.drew ?_))) hg)); replace p0 := HP.out.1; replace p1 := HP.out.2; replace HQ := Lib.hid (HQ.out.mono (World.grows.trans (by (repeat (first | exact World.grows.refl _ | assumption | refine World.grows.alloc ?_ _ | refine World.grows.plus ?_ _ _ | refine World.grows.drew ?_))) hg)); replace q0 := HQ.out.1; replace q1 := HQ.out.2; clear hg B34)
    go_wp2_with (go_at_call 44; fail)
    (refine (A36.out _ (HX.out.1.mono (by (repeat (first | exact World.grows.refl _ | assumption | refine World.grows.alloc ?_ _ | refine World.grows.plus ?_ _ _ | refine World.grows.drew ?_))))).mono ?_; rintro e W5 ⟨xl, xh, rfl, hg, hx1, hx2⟩; have HA := Lib.hid (And.intro hx1 hx2); replace HB := Lib.hid (HB.out.mono (World.grows.trans (by (repeat (first | exact World.grows.refl _ | assumption | refine World.grows.alloc ?_ _ | refine World.grows.plus ?_ _ _ | refine World.grows.drew ?_))) hg)); replace HX := Lib.hid (HX.out.mono (World.grows.trans (by (repeat (first | exact World.grows.refl _ | assumption | refine World.grows.alloc ?_ _ | refine World.grows.plus ?_ _ _ | refine World.grows.drew ?_))) hg)); replace c0 := HX.out.2.2.1; replace c1 := HX.out.2.2.2; replace HP := Lib.hid (HP.out.mono (World.grows.trans (by (repeat (first | exact World.grows.refl _ | assumption | refine World.grows.alloc ?_ _ | refine World.grows.plus ?_ _ _ | refine World.grows.drew ?_))) hg)); replace p0 := HP.out.1; replace p1 := HP.out.2; replace HQ := Lib.hid (HQ.out.mono (World.grows.trans (by (repeat (first | exact World.grows.refl _ | assumption | refine World.grows.alloc ?_ _ | refine World.grows.plus ?_ _ _ | refine World.grows.drew ?_))) hg)); replace q0 := HQ.out.1; replace q1 := HQ.out.2; clear hg A36 hx1 hx2)
    have HR3 := Lib.hid (PairAt.new W5 xl xh 51)
    go_wp2_with (go_at_call 44; fail)
    (refine (B36.out _ (HX.out.1.mono (by (repeat (first | exact World.grows.refl _ | assumption | refine World.grows.alloc ?_ _ | refine World.grows.plus ?_ _ _ | refine World.grows.drew ?_))))).mono ?_; rintro e W6 ⟨yl, yh, rfl, hg, hx1, hx2⟩; have HE := Lib.hid (And.intro hx1 hx2); replace HB := Lib.hid (HB.out.mono (World.grows.trans (by (repeat (first | exact World.grows.refl _ | assumption | refine World.grows.alloc ?_ _ | refine World.grows.plus ?_ _ _ | refine World.grows.drew ?_))) hg)); replace HX := Lib.hid (HX.out.mono (World.grows.trans (by (repeat (first | exact World.grows.refl _ | assumption | refine World.grows.alloc ?_ _ | refine World.grows.plus ?_ _ _ | refine World.grows.drew ?_))) hg)); replace c0 := HX.out.2.2.1; replace c1 := HX.out.2.2.2; replace HP := Lib.hid (HP.out.mono (World.grows.trans (by (repeat (first | exact World.grows.refl _ | assumption | refine World.grows.alloc ?_ _ | refine World.grows.plus ?_ _ _ | refine World.grows.drew ?_))) hg)); replace p0 := HP.out.1; replace p1 := HP.out.2; replace HQ := Lib.hid (HQ.out.mono (World.grows.trans (by (repeat (first | exact World.grows.refl _ | assumption | refine World.grows.alloc ?_ _ | refine World.grows.plus ?_ _ _ | refine World.grows.drew ?_))) hg)); replace q0 := HQ.out.1; replace q1 := HQ.out.2; replace HR3 := Lib.hid (HR3.out.mono hg); clear hg B36 hx1 hx2)
    have HR4 := Lib.hid (PairAt.new W6 yl yh 51)
    have r0 := HR3.out.1; have r1 := HR3.out.2
    have HRK := Lib.hid (And.intro hR1n (And.intro hK1n (And.intro hR2n hK2n)))
    clear hR1 hR2 hK1 hK2 hni hnp hk1 hk2 hk1' hk2' e2 e3 hl1 hl2 hm1 hm2 hrc1 hrc2 hK1i hK2i hR1i hR2i e0 e1 hR1n hR2n hK1n hK2n hbd hLb ha0 ha1 ha2 ha3 hoff hup
    rcases HL.out with ⟨n1, n2, -⟩ | ⟨n1, n2, -⟩ | ⟨n1, n2, n3, n4, rfl, rfl, rfl, rfl, n5, n6, n7, n8⟩
    · omega
    · omega
    obtain rfl : lo = xl := ((HA.out.2 rfl).1.trans hl4.out.1).symm
    obtain rfl : hi = xh := ((HA.out.2 rfl).2.trans hl4.out.2.1).symm
    obtain rfl : lo2 = yl := ((HE.out.2 rfl).1.trans hl4.out.2.2.1).symm
    obtain rfl : hi2 = yh := ((HE.out.2 rfl).2.trans hl4.out.2.2.2).symm
    clear HA HE HL hl4
    have n1' : ¬ B < A := by omega
    have n3' : ¬ A < 0 := by omega
    have n6' : ¬ lo < lo2 := by omega
    have n7' : ¬ hi2 < hi := by omega
    have n8' : ¬ hi < lo := by omega
    have hlw : ¬ L < hot := by omega
    have hB0 : 0 < B := by omega
    have h4 := HR4.out.1; have h5 := HR4.out.2
    go_upto_region 18 with fail
    go_cut [22, 24, 200] from 36 (fun a b s w => a = .bool m1 ∧ b = .bool m2 ∧ s = .bool false ∧ w = W6.alloc (.cells #[.int .i64 lo2, .int .i64 hi2] 51))
    case first =>
      go_wp2
      all_goals
        go_meet
        cases m1 <;> cases m2 <;> first | exact ⟨rfl, rfl, by first | (simp; done) | (simp; omega), rfl⟩ | (exfalso; contradiction) | (exfalso; cases n5 rfl; done) | (exfalso; rename_i hz; exact hz rfl) | (exfalso; simp_all; done)
    case rest =>
      obtain ⟨rfl, rfl, rfl, rfl⟩ := hcut
      clear n5
      go_wp2_with (go_at_call 44; fail)
      (refine (order_c _ _ J (HX.out.1.mono (by (repeat (first | exact World.grows.refl _ | assumption | refine World.grows.alloc ?_ _ | refine World.grows.plus ?_ _ _ | refine World.grows.drew ?_)))) HJ.out _ mb fb (HB.out.mono (by (repeat (first | exact World.grows.refl _ | assumption | refine World.grows.alloc ?_ _ | refine World.grows.plus ?_ _ _ | refine World.grows.drew ?_)))) hfb.out).mono ?_; rintro e W2 ⟨ov, m, g, rfl, hg, ho, hok⟩; have HO := Lib.hid ho; have HG := Lib.hid hok; obtain ⟨oa, ocap, rfl, ho1, ho2, -⟩ := ho; unfold maxLen at ho2; clear hok HB; replace HX := Lib.hid (HX.out.mono (World.grows.trans (by (repeat (first | exact World.grows.refl _ | assumption | refine World.grows.alloc ?_ _ | refine World.grows.plus ?_ _ _ | refine World.grows.drew ?_))) hg)); replace c0 := HX.out.2.2.1; replace c1 := HX.out.2.2.2; replace HP := Lib.hid (HP.out.mono (World.grows.trans (by (repeat (first | exact World.grows.refl _ | assumption | refine World.grows.alloc ?_ _ | refine World.grows.plus ?_ _ _ | refine World.grows.drew ?_))) hg)); replace p0 := HP.out.1; replace p1 := HP.out.2; replace HQ := Lib.hid (HQ.out.mono (World.grows.trans (by (repeat (first | exact World.grows.refl _ | assumption | refine World.grows.alloc ?_ _ | refine World.grows.plus ?_ _ _ | refine World.grows.drew ?_))) hg)); replace q0 := HQ.out.1; replace q1 := HQ.out.2; replace HR3 := Lib.hid (HR3.out.mono (World.grows.trans (by (repeat (first | exact World.grows.refl _ | assumption | refine World.grows.alloc ?_ _ | refine World.grows.plus ?_ _ _ | refine World.grows.drew ?_))) hg)); replace r0 := HR3.out.1; replace r1 := HR3.out.2; clear hg)
      have hf0 := HG.out.follow Hc.out
      have hans := Job.ordAns_ok hf0
      rw [show natOf (fun i => ((g i : Nat) : Int)) = g from rfl] at hans
      obtain ⟨hm1, hm2⟩ := HG.out.m_bd HJ.out
      have hle := Lib.hid (maxN_le_iff (h := J.hotAt g) (l := L) m hm1)
      have h18 := Lib.hid (fun W (hW : RawAt W (.agg #[.int .i64 J.start, .slice (some ⟨jb, jo, none⟩) J.n jcap]) J) ov (hl : IntsAt W ov m (fun i => (g i : Nat))) => checkOrd_c W (.agg #[.int .i64 J.start, .slice (some ⟨jb, jo, none⟩) J.n jcap]) J hW ov m _ hl)
      simp only [hf0, hans] at h18
      obtain ⟨N, hN⟩ : ∃ N, maxN (J.hotAt g) m = N := ⟨_, rfl⟩
      rw [hN] at h18 hle
      clear hf0 hans hN
      go_wp2_with (go_at_call 44; fail)
      (refine (h18.out _ (HX.out.1.mono (by (repeat (first | exact World.grows.refl _ | assumption | refine World.grows.alloc ?_ _ | refine World.grows.plus ?_ _ _ | refine World.grows.drew ?_)))) _ (HO.out.mono (by (repeat (first | exact World.grows.refl _ | assumption | refine World.grows.alloc ?_ _ | refine World.grows.plus ?_ _ _ | refine World.grows.drew ?_))))).mono ?_; rintro e W7 ⟨rfl, hg⟩; replace HO := Lib.hid (HO.out.mono (World.grows.trans (by (repeat (first | exact World.grows.refl _ | assumption | refine World.grows.alloc ?_ _ | refine World.grows.plus ?_ _ _ | refine World.grows.drew ?_))) hg)); replace HX := Lib.hid (HX.out.mono (World.grows.trans (by (repeat (first | exact World.grows.refl _ | assumption | refine World.grows.alloc ?_ _ | refine World.grows.plus ?_ _ _ | refine World.grows.drew ?_))) hg)); replace c0 := HX.out.2.2.1; replace c1 := HX.out.2.2.2; replace HP := Lib.hid (HP.out.mono (World.grows.trans (by (repeat (first | exact World.grows.refl _ | assumption | refine World.grows.alloc ?_ _ | refine World.grows.plus ?_ _ _ | refine World.grows.drew ?_))) hg)); replace p0 := HP.out.1; replace p1 := HP.out.2; replace HQ := Lib.hid (HQ.out.mono (World.grows.trans (by (repeat (first | exact World.grows.refl _ | assumption | refine World.grows.alloc ?_ _ | refine World.grows.plus ?_ _ _ | refine World.grows.drew ?_))) hg)); replace q0 := HQ.out.1; replace q1 := HQ.out.2; replace HR3 := Lib.hid (HR3.out.mono (World.grows.trans (by (repeat (first | exact World.grows.refl _ | assumption | refine World.grows.alloc ?_ _ | refine World.grows.plus ?_ _ _ | refine World.grows.drew ?_))) hg)); replace r0 := HR3.out.1; replace r1 := HR3.out.2; clear hg h18)
      obtain ⟨_, _, heo, _, _, hoc⟩ := HO.out
      cases heo
      obtain ⟨ob, oo, rfl, -⟩ := hoc 0 0 (by omega) (by omega)
      have Hoc : Hid (∀ i : Nat, i < m → W7.cell? ⟨ob, oo + i, none⟩ = some (.int .i64 (g i : Nat))) := Lib.hid fun i hi => by
        obtain ⟨b', o', he, hc⟩ := hoc i 0 hi (by omega)
        cases he
        simpa using hc
      clear hoc
      have hA1 : (W7.alloc (.cells (rowA J.n fun _ => 0) 3)).heap[W7.heap.size]? = some (.cells (rowA J.n (walkP g 0)) 3) := heap_alloc_new _ _
      have hgA : W7.grows (W7.alloc (.cells (rowA J.n fun _ => 0) 3)) := by (repeat (first | exact World.grows.refl _ | assumption | refine World.grows.alloc ?_ _ | refine World.grows.plus ?_ _ _ | refine World.grows.drew ?_))
      have HX7 := HX; have HP7 := HP; have HQ7 := HQ; have HR7 := HR3
      go_wp2
      clear c0 c1 p0 p1 q0 q1 r0 r1
      by_cases hNL : N ≤ L
      · have hh := HW.out m g HG.out (hle.out.1 hNL)
        refine limits_loop w W7 J Hc.out jb jo jcap (by omega) w.heap.size WA.heap.size W3.heap.size W5.heap.size R1 K1 R2 K2 HRK.out L N lo hi m1 m g ob oo ocap hm2 (by omega) ho1 HG.out Hoc.out HX7.out HP7.out HQ7.out HR7.out hNL hh _ _ _ _ _ _ _ _ _ _ _ _ _ _ _ _ _ _ _ _ _ _ _ _ _ _ _ _ _ _ _ _ _ _ _ _ _ _ _ _ _ _ _ _ _ _ _ _ _ _ _ _ _ _ _ _ _ _ _ _ _ _ _ _ _ _ _ _ _ _ _ _ _ _ _ _ _ _ _ _ _ _ _ _ _ _ _ _ _ _ _ _ _ _ _ _ _ _ _ _ _ _ _ _ _ _ _ _ _ _ _ _ _ _ _ _ _ _ _ _ _ _ _ _ _ _ _ _ _ _ _ _ _ _ _ _ _ _ _ _ _ _ _ _ _ _ _ _ _ _ _ _ _ _ _ _ _ _ _ _ _ _ _ _ _ _ _ _ _ _ _ _ _ _ _ _ _ _ _ _ _ _ _ _ _ _ _ _ _ _ _ _ _ _ _ _ _ _ _ _ _ _ _ _ _ _ _ _ _ _ _ _ _ _ _ _ _ _ _ _ _ _ _ _ _ _ _ _ _ _ _ _ _ _ _ _ _ _ _ _ _ _ _ _ _ _ _ _ _ _ _ _ _ _ _ _ _ _ _ _ _ _ _ _ _ _ _ _ _ _ _ _ _ _ _ _ _ _ _ _ _ _ _ _ _ _ _ _ _ _ _ _ _ _ _ _ _ _ _ _ _ _ _ _ _ _ _ _ _ _ _ _ _ _ _ _ _ _ _ _ _ _ _ _ _ _ _ _ _ _ _ _ _ _ ?_
        intro x10 x33 x34 x35 x251 x252 x253 x254 x255 x256 x257 x258 x259 x260 x261 x262 x263 x264 x265 x266 x267 x268 x269 x270 x271 x272 x273 x274 x275 x276 x277 x278 x279 x280 x281 x282 x283 x284 x285 x286 x287 x288 x289 x290 x291 x292 x293 x294 x295 x296 x297 x298 x299 x300 x301 x302 x303 x304 x305 x306 x307 x308 x309 x310 x311 x312 x313 x314 x315 x316 x317 x318 x319 x320 x321 x322 x323 x324 x325 x326 x327 x328 x329 x330 x331 x332 x333 x334 x335 x336 x337 x338 x339 x340 x341 WL hgW
        go_wp2_with (go_at_call 15; refine (works_c _).mono ?_; rintro e W2 ⟨rfl, hgz⟩; obtain ⟨nz, xz, rfl⟩ := World.plus_of hgz)
        go_ret
        exact ⟨rfl, (HX7.out.mono hgW).2.1.trans (by (repeat (first | exact World.grows.refl _ | assumption | refine World.grows.alloc ?_ _ | refine World.grows.plus ?_ _ _ | refine World.grows.drew ?_)))⟩
      · have HX8 := Lib.hid (HX7.out.mono hgA)
        clear HX HP HQ HR3
        go_loopw [33] (fun i wr => i = .int .i64 0 ∧ Hid (W7.grows wr)) (fun i _ => 0)
        case atStart => exact ⟨rfl, Lib.hid hgA⟩
        case round =>
          obtain ⟨rfl, hg⟩ := hrel
          have HX := Lib.hid (HX7.out.mono hg.out)
          have hm0 : (0 : Int) < m := by omega
          go_wp2_with (go_at_call 15; refine (works_c _).mono ?_; rintro e W2 ⟨rfl, hgz⟩; obtain ⟨nz, xz, rfl⟩ := World.plus_of hgz)
          go_ret
          exact ⟨rfl, HX.out.2.1.trans (by (repeat (first | exact World.grows.refl _ | assumption | refine World.grows.alloc ?_ _ | refine World.grows.plus ?_ _ _ | refine World.grows.drew ?_)))⟩
end Go.Proofs.Ytjpccfpmhmddjaa

/-
  What is proved: PassLimits returns true (the walk).
-/
namespace Go.Proofs.Ytjpccfpmhmddjaa
open Go.RowKit

theorem limits_w (w : World) (v : Value) (J : Job) (hv : RawAt w v J) (off : Int) (hoff : -32768 ≤ off ∧ off ≤ 32767) (up : Int) (hup : 0 ≤ up ∧ up ≤ 65535)
    (bv : Value) (mb : Nat) (fb : Nat → Int) (hb : NumsAt .u8 w bv mb fb) (hfb0 : ∀ i, i < mb → 0 ≤ fb i ∧ fb i ≤ 255) (a0 a1 a2 a3 : Nat) (ha0 : a0 ≤ 255) (ha1 : a1 ≤ 255) (ha2 : a2 ≤ 255) (ha3 : a3 ≤ 255) :
    Calls Try.prog 8 #[v, .int .i16 off, .int .u16 up, bv, .agg #[.int .u8 a0, .int .u8 a1, .int .u8 a2, .int .u8 a3]] w fun e w' => e = .returned (.bool true) ∧ w.grows w' := by
  by_cases hq : J.check ≠ 0 ∨ 40 < mb
  · exact limits_0 w v J hv off hoff up hup bv mb fb hb hfb0 a0 a1 a2 a3 ha0 ha1 ha2 ha3 hq
  have hc : J.check = 0 := by
    by_cases h : J.check = 0
    · exact h
    · exact absurd (.inl h) hq
  have hmb : ¬ 40 < mb := fun h => hq (.inr h)
  obtain ⟨_, _, _, ⟨_, hot, _, _, _, hbb⟩, _⟩ := best_c w v J hv []
  have hB := (hbb hc).1
  by_cases h1 : hot ≤ hot + off
  · exact limits_3 w v J hv off hoff up hup bv mb fb hb hfb0 a0 a1 a2 a3 ha0 ha1 ha2 ha3 hc hot hB hmb h1
  by_cases h2 : hot ≤ hot + off + up
  · exact limits_2 w v J hv off hoff up hup bv mb fb hb hfb0 a0 a1 a2 a3 ha0 ha1 ha2 ha3 hc hot hB hmb (by omega) h2
  · exact limits_1 w v J hv off hoff up hup bv mb fb hb hfb0 a0 a1 a2 a3 ha0 ha1 ha2 ha3 hc hot hB hmb (by omega)
end Go.Proofs.Ytjpccfpmhmddjaa

/-
  What is proved: arguments in fives and sixes; arrays of numbers as arguments.
-/
namespace Go
open Go.ChangeShapes Go.WideShapes Go.ChangeAt

section
variable {H : Type} {enc : TypeId × Value → H} {P : Program} {w : World} {base : Nat} {spare : Nat → Bool} {held : Bool}
theorem trodAll_5 {t1 t2 t3 t4 t5 : TypeId} {args : Array Value} {ds : List (DataW H)} {ps : List MemPlace} (h : DataW.TrodAll enc P w base spare held [t1, t2, t3, t4, t5] args.toList ds ps) :
    ∃ v1 v2 v3 v4 v5 d1 d2 d3 d4 d5 p1 p2 p3 p4 p5, args = #[v1, v2, v3, v4, v5] ∧ ds = [d1, d2, d3, d4, d5] ∧ ps = p1 ++ (p2 ++ (p3 ++ (p4 ++ p5))) ∧ DataW.Trod enc P w base spare held t1 v1 d1 p1 ∧ DataW.Trod enc P w base spare held t2 v2 d2 p2 ∧
      DataW.Trod enc P w base spare held t3 v3 d3 p3 ∧ DataW.Trod enc P w base spare held t4 v4 d4 p4 ∧ DataW.Trod enc P w base spare held t5 v5 d5 p5 := by
  obtain ⟨v1, s1, d1, e1, p1, q1, hargs, rfl, rfl, h1, r1⟩ := trodAll_cons h
  obtain ⟨v2, s2, d2, e2, p2, q2, rfl, rfl, rfl, h2, r2⟩ := trodAll_cons r1
  obtain ⟨v3, s3, d3, e3, p3, q3, rfl, rfl, rfl, h3, r3⟩ := trodAll_cons r2
  obtain ⟨v4, s4, d4, e4, p4, q4, rfl, rfl, rfl, h4, r4⟩ := trodAll_cons r3
  obtain ⟨v5, s5, d5, e5, p5, q5, rfl, rfl, rfl, h5, r5⟩ := trodAll_cons r4
  obtain ⟨rfl, rfl, rfl⟩ := trodAll_nil r5
  exact ⟨v1, v2, v3, v4, v5, d1, d2, d3, d4, d5, p1, p2, p3, p4, p5, by cases args; simp_all, rfl, by simp, h1, h2, h3, h4, h5⟩
theorem trodAll_6 {t1 t2 t3 t4 t5 t6 : TypeId} {args : Array Value} {ds : List (DataW H)} {ps : List MemPlace} (h : DataW.TrodAll enc P w base spare held [t1, t2, t3, t4, t5, t6] args.toList ds ps) :
    ∃ v1 v2 v3 v4 v5 v6 d1 d2 d3 d4 d5 d6 p1 p2 p3 p4 p5 p6, args = #[v1, v2, v3, v4, v5, v6] ∧ ds = [d1, d2, d3, d4, d5, d6] ∧ ps = p1 ++ (p2 ++ (p3 ++ (p4 ++ (p5 ++ p6)))) ∧ DataW.Trod enc P w base spare held t1 v1 d1 p1 ∧ DataW.Trod enc P w base spare held t2 v2 d2 p2 ∧
      DataW.Trod enc P w base spare held t3 v3 d3 p3 ∧ DataW.Trod enc P w base spare held t4 v4 d4 p4 ∧ DataW.Trod enc P w base spare held t5 v5 d5 p5 ∧ DataW.Trod enc P w base spare held t6 v6 d6 p6 := by
  obtain ⟨v1, s1, d1, e1, p1, q1, hargs, rfl, rfl, h1, r1⟩ := trodAll_cons h
  obtain ⟨v2, s2, d2, e2, p2, q2, rfl, rfl, rfl, h2, r2⟩ := trodAll_cons r1
  obtain ⟨v3, s3, d3, e3, p3, q3, rfl, rfl, rfl, h3, r3⟩ := trodAll_cons r2
  obtain ⟨v4, s4, d4, e4, p4, q4, rfl, rfl, rfl, h4, r4⟩ := trodAll_cons r3
  obtain ⟨v5, s5, d5, e5, p5, q5, rfl, rfl, rfl, h5, r5⟩ := trodAll_cons r4
  obtain ⟨v6, s6, d6, e6, p6, q6, rfl, rfl, rfl, h6, r6⟩ := trodAll_cons r5
  obtain ⟨rfl, rfl, rfl⟩ := trodAll_nil r6
  exact ⟨v1, v2, v3, v4, v5, v6, d1, d2, d3, d4, d5, d6, p1, p2, p3, p4, p5, p6, by cases args; simp_all, rfl, by simp, h1, h2, h3, h4, h5, h6⟩
theorem okWide_array {r : Reach} {v : Value} {n : Nat} {e t : TypeId} (ht : P.underlying t = some (.array n e)) (h : Value.okWide P w r base t v) : ∃ cs, v = .agg cs ∧ cs.size = P.cellsOf t := by
  simp only [Value.okWide, ht] at h
  obtain ⟨cs, h1, h2, _⟩ := h
  exact ⟨cs, h1, h2⟩
/-- an array of numbers of one kind -/
theorem array_nums {t e : TypeId} {k : IntKind} {n fuel : Nat} {cs : List Value} {x : DataW H × List MemPlace} (ht : P.underlying t = some (.array n e)) (he : P.underlying e = some (.int k)) (hc : P.cellsOf e = 1) (hn : P.cellsOf t = n)
    (h : DataW.trod enc P w base spare held fuel t cs = some x) : cs.length = n ∧ ∀ i, i < n → ∃ z : Int, cs[i]? = some (.int k z) ∧ (Lit.int k z).wf = true := by
  obtain ⟨xs, m, -, -, hl, hlen, hx⟩ := DataW.trod_array ht h
  refine ⟨by omega, fun i hi => ?_⟩
  have h1 := hx i hi
  rw [hc, Nat.mul_one, List.getElem?_eq_getElem (by omega)] at h1
  obtain ⟨z, e1, _, e2⟩ := DataW.trod_int he h1
  refine ⟨z, ?_, e2⟩
  have h2 : i < cs.length := by omega
  have h3 : (cs.drop i).take 1 = [cs[i]] := by rw [List.drop_eq_getElem_cons h2]; rfl
  rw [h3] at e1
  rw [List.getElem?_eq_getElem h2]
  simpa using e1
end
end Go

/-
  What is proved: four small numbers, and a list of passes, that a law of layer 4 is handed.
-/
namespace Go.Proofs.Ytjpccfpmhmddjaa
open Go.ChangeShapes Go.WideShapes Go.ChangeAt Go.RowKit Go.Deep Go.Joins

theorem cells60 : Try.prog.cellsOf 60 = 4 := by kernel_rfl
section
variable {H : Type} {enc : TypeId × Value → H} {w : World} {base : Nat} {held : Bool}
set_option maxRecDepth 100000 in
theorem four_of {v : Value} {d : DataW H} {p : List MemPlace} (hv : Value.okWide Try.prog w .any base 60 v) (h : DataW.Trod enc Try.prog w 0 (fun _ => true) held 60 v d p) :
    ∃ a b c e : Nat, v = .agg #[.int .u8 a, .int .u8 b, .int .u8 c, .int .u8 e] ∧ a ≤ 255 ∧ b ≤ 255 ∧ c ≤ 255 ∧ e ≤ 255 := by
  obtain ⟨cs, rfl, hsz⟩ := okWide_array Try.underlying60 hv
  obtain ⟨fuel, hf⟩ := h
  obtain ⟨hl, hx⟩ := array_nums Try.underlying60 Try.underlying5 cells5 cells60 hf
  have key : ∀ i, i < 4 → ∃ a : Nat, cs.toList[i]? = some (.int .u8 a) ∧ a ≤ 255 := fun i hi => by
    obtain ⟨z, e1, e2⟩ := hx i hi
    have := lit_u8 e2
    refine ⟨z.toNat, ?_, by omega⟩
    rw [show ((z.toNat : Nat) : Int) = z by omega]
    exact e1
  obtain ⟨a, ha, a1⟩ := key 0 (by omega)
  obtain ⟨b, hb, b1⟩ := key 1 (by omega)
  obtain ⟨c, hc, c1⟩ := key 2 (by omega)
  obtain ⟨e, he, e1⟩ := key 3 (by omega)
  refine ⟨a, b, c, e, ?_, a1, b1, c1, e1⟩
  congr 1
  apply Array.ext_getElem?
  intro i
  rw [← Array.getElem?_toList] 
  have hl' : cs.toList.length = 4 := hl
  match i with
  | 0 => simpa using ha
  | 1 => simpa using hb
  | 2 => simpa using hc
  | 3 => simpa using he
  | i + 4 =>
    rw [List.getElem?_eq_none (by omega)]
    simp
set_option maxRecDepth 100000 in
theorem passes_arg {v : Value} {d : DataW H} {p : List MemPlace} (hv : Value.okWide Try.prog w .any base 62 v) (h : DataW.Trod enc Try.prog w 0 (fun _ => true) held 62 v d p) :
    ∃ (m : Nat) (pk lv : Nat → Int), SliceAt w v m 2 (fun k j => if j = 0 then .int .i64 (pk k) else .int .i64 (lv k)) := by
  obtain ⟨a, len, cap, rfl⟩ := okWide_slice Try.underlying62 hv
  obtain ⟨fuel, hf⟩ := h
  obtain ⟨m, pk, lv, h1, -⟩ := passes_of (n := 0) hf
  exact ⟨m, pk, lv, h1⟩
set_option maxRecDepth 100000 in
theorem u8_of {v : Value} {d : DataW H} {p : List MemPlace} (hv : Value.okWide Try.prog w .any base 5 v) (h : DataW.Trod enc Try.prog w 0 (fun _ => true) held 5 v d p) :
    ∃ n : Nat, v = .int .u8 n ∧ n ≤ 255 := by
  obtain ⟨z, rfl, -, -, hw⟩ := open_int Try.underlying5 hv h
  have := lit_u8 hw
  exact ⟨z.toNat, by rw [show ((z.toNat : Nat) : Int) = z by omega], by omega⟩
end
end Go.Proofs.Ytjpccfpmhmddjaa

/-
  What is proved: the statement PassLimits, at every input.
-/
namespace Go.Proofs.Ytjpccfpmhmddjaa
open Go.ChangeShapes Go.WideShapes Go.ChangeAt Go.RowKit

set_option maxRecDepth 100000 in
theorem passLimits_lifted (os : Os) (started : os.Started) (H : Type) (enc : TypeId × Value → H) :
    ReturnsInHanded {} Try.checked os 8 .any (Rows.passLimitsSpec.pre6 enc Try.prog Try.f8 Rows.passLimitsRow.domain false) (Rows.passLimitsSpec.post enc Try.prog Try.f8 false true false false) := by
  refine law_lifted (C := Try.checked) (tb := 4) started own_c laid_c (by kernel_rfl) Try.func8 (of_decide_eq_true (by kernel_rfl))
    (ChangeSpec.witness6 (enc := enc) (C := Try.checked) false ⟨#[], #[.agg #[.int .i64 0, .slice none 0 0], .int .i16 0, .int .u16 0, .slice none 0 0, .agg #[.int .u8 0, .int .u8 0, .int .u8 0, .int .u8 0]], []⟩ 8 (by kernel_rfl) (by kernel_rfl) (by kernel_rfl) (by kernel_rfl))
    rfl Try.underlying4 rfl (fun ds hl => ?_) (fun W base args ds ps hval hA => ?_)
  · match ds, hl with
    | [d1, d2, d3, d4, d5], _ => exact ⟨rfl, rfl, rfl⟩
  · have hA' : DataW.TrodAll enc Try.prog W 0 (fun _ => true) true Try.f8.params.toList args.toList ds ps := hA
    have hval' : ∀ (j : Nat) t v, Try.f8.params[j]? = some t → args[j]? = some v → Value.okWide Try.prog W .any base t v := hval
    rw [Try.params8] at hA' hval'
    obtain ⟨v1, v2, v3, v4, v5, d1, d2, d3, d4, d5, p1, p2, p3, p4, p5, rfl, rfl, rfl, h1, h2, h3, h4, h5⟩ := trodAll_5 hA'
    obtain ⟨J1, hJ1, hF1⟩ := job_of (hval' 0 24 v1 rfl rfl) h1
    obtain ⟨z2, rfl, -, -, hw2⟩ := open_int Try.underlying58 (hval' 1 58 v2 rfl rfl) h2; have hz2 := lit_i16 hw2
    obtain ⟨z3, rfl, -, -, hw3⟩ := open_int Try.underlying59 (hval' 2 59 v3 rfl rfl) h3; have hz3 := lit_u16 hw3
    obtain ⟨m4, f4, hf4, hb4⟩ := bytes_of (hval' 3 55 v4 rfl rfl) h4
    obtain ⟨q1, q2, q3, q4, rfl, w1, w2, w3, w4⟩ := four_of (hval' 4 60 v5 rfl rfl) h5
    exact limits_w W v1 J1 hJ1 z2 hz2 z3 hz3 v4 m4 f4 hf4 hb4 q1 q2 q3 q4 w1 w2 w3 w4

theorem passLimits_holds : Rows.PassLimitsSaid :=
  OpenClaim.holds_of_wide 8 Try.f8 rfl rfl rfl rfl rfl rfl rfl ⟨rfl, rfl, rfl, rfl, rfl⟩ rfl rfl rfl rfl rfl (by kernel_rfl) Try.func8 (by kernel_rfl)
    (of_decide_eq_true (by kernel_rfl)) (by unfold Func.isWrapper; first | (rw [if_pos (by decide +kernel)]; kernel_rfl) | (rw [if_neg (by decide +kernel)]; exact ⟨rfl, rfl⟩))
    (fun os started H enc _ => passLimits_lifted os started H enc)
end Go.Proofs.Ytjpccfpmhmddjaa

