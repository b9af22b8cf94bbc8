/- HerdEntered 18: SwB, SwE. -/
import Derived.Test.YtmennjmjakdkcaaEn17
namespace Go.Proofs.Ytmennjmjakdkcaa
open Go.RowKit
set_option linter.unusedVariables false
set_option linter.unusedSimpArgs false
set_option maxRecDepth 1000000 in
set_option maxHeartbeats 8000000 in
theorem sw_born (w w1 W : World) (H q p f al nh be off ce g18 ze1 ze2 zg1 zg2 z3 zr M3 : Nat) (t ho kd sm : Int) (vd : Value) (A Ak Ah : Option Addr) (c ck ch : Nat) (l : List Mk) (ks : List Int) (hs gs : List (List Int)) (ds : List De) (gone whose : List Int) (v1 v2 v3 v4 v5 v6 v7 v8 v9 v10 v11 v14 v15 v16 v19 v20 v26 v27 v28 v29 v30 v31 v32 v33 v34 v35 v36 v37 v38 v39 v40 v41 v42 v43 v44 v45 v46 v47 v48 v49 v50 v51 v52 v53 v54 v55 v56 v57 v58 v59 v60 v61 v62 v63 v64 v65 v66 v67 v68 v69 v70 v71 v72 v73 v74 v75 v76 v77 v78 v79 v80 v81 v82 v83 v84 v85 v86 v87 v88 v89 v90 v91 v92 v93 v94 v95 v96 v97 v98 v99 v100 v101 v102 v103 v104 v105 v106 v107 v108 v109 v110 v111 v112 v113 v114 v115 v116 v117 v118 v119 v120 v121 v122 v123 v124 v125 v126 v127 v128 v129 v130 v131 v132 v133 v134 v135 v136 v137 v138 v139 v140 v141 v142 v143 v144 v145 v146 v147 v148 v149 v150 v151 v152 v153 v154 v155 v156 v157 v158 v159 v160 v161 v162 v163 v164 v165 v166 v167 v168 v169 v170 v171 v172 v173 v174 v175 v176 v177 v178 v179 v180 v181 v182 v183 v184 v185 v186 v187 v188 v189 v190 v191 v192 v193 v194 v195 v196 v197 v198 v199 v200 v201 v202 v203 v204 v205 v206 v207 v208 v209 v210 v211 v212 v213 v214 v215 v216 v217 v218 v219 v220 v221 v222 v223 v224 v225 v226 v227 v228 v229 v230 v231 v232 v233 v234 v235 v236 v237 v238 v239 v240 v241 v242 v243 v244 v245 v246 v247 v248 v249 v250 v251 v252 v253 v254 v255 v256 v257 v258 v259 v260 v261 v262 v263 v264 v265 v266 v267 v268 v269 v270 v271 v272 v273 v274 v275 v276 v277 v278 v279 v280 v281 v282 v283 v284 v285 v286 v287 v288 v289 v290 v291 v292 v293 v294 v295 v296 v297 v298 v299 v300 v301 v302 v303 v304 v305 v306 v307 v308 v309 v310 v311 v312 v313 v314 v315 v316 v317 v318 v319 v320 v321 v322 v323 v324 v325 v326 v327 v328 v329 v330 v331 v332 v333 v334 v335 v336 v337 v338 v339 v340 v341 v342 v343 v344 v345 v346 v347 v348 v349 v350 v351 v352 v353 v354 v355 v356 v357 v358 v359 v360 v361 v362 v363 v364 v365 v366 v367 v368 v369 v370 v371 v372 v373 v374 v375 v376 v377 v378 v379 v380 v381 v382 v383 v384 v385 v386 v387 v388 v389 v390 v391 v392 v393 v394 v395 v396 v397 v398 v399 v400 : Value) (Q : Exit → Act → World → Prop)
    (HRD : Hid (SwD w w1 H q t al nh be off ce g18 ze1 ze2 zg1 zg2 z3 zr p A Ak Ah c ck ch vd ds gs gone v19 whose (M3 + 1 + 1 + 1) ⟨6, f, 0, 0, 0, 0, 0, sZ⟩ W)) (HC : Hid (SwC t al nh f ho sm l ks hs ds gs gone whose)) (hfn : f < nh) (hnh3 : nh ≤ 3) (hal5 : al ≤ 5) (hal0 : 0 < al) (hMN3 : M3 ≤ 4611686018000030000) (hHW : Hd W H (M3 + 1 + 1 + 1)) (hsb : 0 ≤ sm ∧ sm ≤ 80)
    (hk : kd = 1)
    (HQ : SwQ w w1 H q p f al nh be off ce g18 ze1 ze2 zg1 zg2 z3 zr M3 t ho kd vd A Ak Ah c ck ch l ks hs ds whose v1 v2 v3 v4 v5 v6 v7 v8 v9 v10 v11 v14 v15 v16 v19 v20 v29 v30 v31 v32 v33 v34 v35 v36 v37 v38 v39 v40 v41 v42 v43 v44 v45 v46 v47 v48 v49 v50 v51 v52 v53 v54 v55 v56 v57 v58 v59 v60 v61 v62 v63 v64 v65 v66 v67 v68 v69 v70 v71 v72 v73 v74 v75 v76 v77 v78 v79 v80 v81 v82 v83 v84 v85 v86 v87 v88 v89 v90 v91 v92 v93 v94 v95 v96 v97 v387 v388 v389 v390 v391 v392 v393 v394 v395 v396 v397 v398 v399 v400 Q) :
    Code.wp Try.prog swCode Q ⟨#[Value.pointer (some ⟨H, 0, none⟩), v1, v2, v3, v4, v5, v6, v7, v8, v9, v10, v11, Value.pointer (some ⟨q, 0, none⟩), Value.int .i64 (al : Int), v14, v15, v16, Value.slice (some ⟨be, off, none⟩) nh ce, Value.slice (some ⟨g18, 0, none⟩) al al, v19, v20, Value.int .i64 (f : Int), Value.int .i64 ho, Value.int .i64 (-1), Value.int .i64 kd, Value.pointer (some ⟨p, 0, none⟩), v26, v27, v28, v29, v30, v31, v32, v33, v34, v35, v36, v37, v38, v39, v40, v41, v42, v43, v44, v45, v46, v47, v48, v49, v50, v51, v52, v53, v54, v55, v56, v57, v58, v59, v60, v61, v62, v63, v64, v65, v66, v67, v68, v69, v70, v71, v72, v73, v74, v75, v76, v77, v78, v79, v80, v81, v82, v83, v84, v85, v86, v87, v88, v89, v90, v91, v92, v93, v94, v95, v96, v97, v98, v99, v100, v101, v102, v103, v104, v105, v106, v107, v108, v109, v110, v111, v112, v113, v114, v115, v116, v117, v118, v119, v120, v121, v122, v123, v124, v125, v126, v127, v128, v129, v130, v131, v132, v133, v134, v135, v136, v137, v138, v139, v140, v141, v142, v143, v144, v145, v146, v147, v148, v149, v150, v151, v152, v153, v154, v155, v156, v157, v158, v159, v160, v161, v162, v163, v164, v165, v166, v167, v168, v169, v170, v171, v172, v173, v174, v175, v176, v177, v178, v179, v180, v181, v182, v183, v184, v185, v186, v187, v188, v189, v190, v191, v192, v193, v194, v195, v196, v197, v198, v199, v200, v201, v202, v203, v204, v205, v206, v207, v208, v209, v210, v211, v212, v213, v214, v215, v216, v217, v218, v219, v220, v221, v222, v223, v224, v225, v226, v227, v228, v229, v230, v231, v232, v233, v234, v235, v236, v237, v238, v239, v240, v241, v242, v243, v244, v245, v246, v247, v248, v249, v250, v251, v252, v253, v254, v255, v256, v257, v258, v259, v260, v261, v262, v263, v264, v265, v266, v267, v268, v269, v270, v271, v272, v273, v274, v275, v276, v277, v278, v279, v280, v281, v282, v283, v284, v285, v286, v287, v288, v289, v290, v291, v292, v293, v294, v295, v296, v297, v298, v299, v300, v301, v302, v303, v304, v305, v306, v307, v308, v309, v310, v311, v312, v313, v314, v315, v316, v317, v318, v319, v320, v321, v322, v323, v324, v325, v326, v327, v328, v329, v330, v331, v332, v333, v334, v335, v336, v337, v338, v339, v340, v341, v342, v343, v344, v345, v346, v347, v348, v349, v350, v351, v352, v353, v354, v355, v356, v357, v358, v359, v360, v361, v362, v363, v364, v365, v366, v367, v368, v369, v370, v371, v372, v373, v374, v375, v376, v377, v378, v379, v380, v381, v382, v383, v384, v385, v386, v387, v388, v389, v390, v391, v392, v393, v394, v395, v396, v397, v398, v399, v400], []⟩ W := by
  conv => arg 2; whnf
  subst hk
  go_upto_region 28 with (first
    | (go_at_call 24; refine (upto_any H (M3 + 1 + 1 + 1) ((al : Int) - 1) W hHW (by omega) (by omega)).mono ?_; rintro e w5 ⟨o, rfl, ho0, hd5⟩; have hH5 := hd5.hd; have HR5 := Lib.hid (And.intro (RD.dealt HRD.out hd5) ho0); clear hd5 ho0)
    | (go_at_call 34; refine (among_any H (M3 + 1 + 1 + 1 + 1) 1 3 w5 hH5 (by omega) (by omega) (by omega)).mono ?_; rintro e w6 ⟨k, rfl, hk1, hk2, hd6⟩; have hR6 := HR5.out.1.dealt hd6; have HR6 := Lib.hid hR6; obtain ⟨e0, e1, e2, e3, e4, e5, e6, e7, e8, e9, e10, e11⟩ := blkD hR6.bx; obtain ⟨z0, z1, z2, z3a, z4, z5, z6, z7, z8, z9, z10, z11⟩ := And.intro (frz hR6.bx 0) (And.intro (frz hR6.bx 1) (And.intro (frz hR6.bx 2) (And.intro (frz hR6.bx 3) (And.intro (frz hR6.bx 4) (And.intro (frz hR6.bx 5) (And.intro (frz hR6.bx 6) (And.intro (frz hR6.bx 7) (And.intro (frz hR6.bx 8) (And.intro (frz hR6.bx 9) (And.intro (frz hR6.bx 10) (frz hR6.bx 11))))))))))); clear hR6 hd6))
  have hR7 := HR6.out.deed ⟨1, f, o, 0, 0, k, 0, sZ⟩
  obtain ⟨V, hV⟩ : ∃ V, V = setL w6 p (l12 ⟨1, f, o, 0, 0, k, 0, sZ⟩) := ⟨_, rfl⟩
  rw [← hV] at hR7
  simp only [setL, l12] at hV
  rw [← hV]
  clear e0 e1 e2 e3 e4 e5 e6 e7 e8 e9 e10 e11 z0 z1 z2 z3a z4 z5 z6 z7 z8 z9 z10 z11
  clear hV
  have hR8 := hR7.drew1
  have hol : o < al := by have := HR5.out.2; omega
  obtain ⟨be', off', g1, cg, e1', g2, g3, g4, g5, g6, g7, g8, g9, hKK⟩ := hR8.c1 HC.out.sh hfn hol
  cases e1'
  obtain ⟨d0, d1, d2, d3, d4, d5, -⟩ := blkD hR8.bx
  have hgb := HC.out.gb o hol
  have hkb : 1 ≤ k ∧ k ≤ 3 := by omega
  have HK := Lib.hid hKK
  clear hR7 hR8 hKK hk1 hk2 hH5
  refine wp_region_tag 18 0 0 [] [] 0 (fun _ w1 w2 => w1 = w2) (fun _ w1 => w1 = V.drew) [0, 0, 0, 0, 0, 0, 0, 0, 0, 0, 0, 0, 0, 0, 0, 0, 0, 0] (by as_aux_lemma => kernel_rfl) (by as_aux_lemma => kernel_rfl) (by as_aux_lemma => kernel_rfl) (by as_aux_lemma => kernel_rfl) (by omega) (.inl rfl) rfl rfl (fun _ _ _ _ _ _ hT hp => hT ▸ hp) (fun _ => rfl) ?_
  apply Exists.intro
  refine ⟨fun ys => ?_, fun ops K hK => ?_⟩
  · simp only [List.take_succ_cons, List.take_zero, dstsOf, List.filterMap_cons, List.filterMap_nil, putAll]
    go_simp
    rfl
  simp only [List.take_succ_cons, List.take_zero, List.drop_succ_cons, List.drop_zero] at hK ⊢
  repeat
    refine LexT.const (fun _ => rfl) ?_
    apply Exists.intro
    refine ⟨fun ys w' hp hpk hq hd => ?_, ?_⟩
    · try simp [DepsOf, depsGo, DF.holds, Region.binds, EqF] at hd
      try simp only [hd]
      replace hp : w' = V.drew := hp
      subst hp
      clear hpk hq
      intro Q2 hQ2
      go_wp2_with fail
      rfl
    try simp only [List.nil_append, List.cons_append]
  refine hK _ fun ys w' hp hF => ?_
  simp [AllF, DF.holds] at hF
  replace hp : w' = V.drew := hp
  subst hp
  simp only [hF]
  go_wp2_with fail
  refine HQ _ _ _ _ _ _ _ _ _ _ _ _ _ _ _ _ _ _ _ _ _ _ _ _ _ _ _ _ _ _ _ _ _ _ _ _ _ _ _ _ _ _ _ _ _ _ _ _ _ _ _ _ _ _ _ _ _ _ _ _ _ _ _ _ _ _ _ _ _ _ _ _ _ _ _ _ _ _ _ _ _ _ _ _ _ _ _ _ _ _ _ _ _ _ _ _ _ _ _ _ _ _ _ _ _ _ _ _ _ _ _ _ _ _ _ _ _ _ _ _ _ _ _ _ _ _ _ _ _ _ _ _ _ _ _ _ _ _ _ _ _ _ _ _ _ _ _ _ _ _ _ _ _ _ _ _ _ _ _ _ _ _ _ _ _ _ _ _ _ _ _ _ _ _ _ _ _ _ _ _ _ _ _ _ _ _ _ _ _ _ _ _ _ _ _ _ _ _ _ _ _ _ _ _ _ _ _ _ _ _ _ _ _ _ _ _ _ _ _ _ _ _ _ _ _ _ _ _ _ _ _ _ _ _ _ _ _ _ _ _ _ _ _ _ _ _ _ _ _ _ _ _ _ _ _ _ _ _ _ _ _ _ _ _ _ _ _ _ _ _ _ _ _ _ _ _ _ _ _ _ _ _ _ _ _ _ _ _ _ _ _ _ _ _ ?_
  exact ⟨-1, _, _, _, rfl, (HK.out _ k rfl).mono (by omega), HC.out.r.born HC.out.fk (by rw [HC.out.nl]; exact hol) hkb⟩
end Go.Proofs.Ytmennjmjakdkcaa
namespace Go.Proofs.Ytmennjmjakdkcaa
open Go.RowKit
set_option linter.unusedVariables false
set_option linter.unusedSimpArgs false
set_option maxRecDepth 1000000 in
set_option maxHeartbeats 8000000 in
theorem sw_eaten1 (w w1 W : World) (H q p f al nh be off ce g18 ze1 ze2 zg1 zg2 z3 zr M3 : Nat) (t ho kd sm : Int) (vd : Value) (A Ak Ah : Option Addr) (c ck ch : Nat) (l : List Mk) (ks : List Int) (hs gs : List (List Int)) (ds : List De) (gone whose : List Int) (v1 v2 v3 v4 v5 v6 v7 v8 v9 v10 v11 v14 v15 v16 v19 v20 v26 v27 v28 v29 v30 v31 v32 v33 v34 v35 v36 v37 v38 v39 v40 v41 v42 v43 v44 v45 v46 v47 v48 v49 v50 v51 v52 v53 v54 v55 v56 v57 v58 v59 v60 v61 v62 v63 v64 v65 v66 v67 v68 v69 v70 v71 v72 v73 v74 v75 v76 v77 v78 v79 v80 v81 v82 v83 v84 v85 v86 v87 v88 v89 v90 v91 v92 v93 v94 v95 v96 v97 v98 v99 v100 v101 v102 v103 v104 v105 v106 v107 v108 v109 v110 v111 v112 v113 v114 v115 v116 v117 v118 v119 v120 v121 v122 v123 v124 v125 v126 v127 v128 v129 v130 v131 v132 v133 v134 v135 v136 v137 v138 v139 v140 v141 v142 v143 v144 v145 v146 v147 v148 v149 v150 v151 v152 v153 v154 v155 v156 v157 v158 v159 v160 v161 v162 v163 v164 v165 v166 v167 v168 v169 v170 v171 v172 v173 v174 v175 v176 v177 v178 v179 v180 v181 v182 v183 v184 v185 v186 v187 v188 v189 v190 v191 v192 v193 v194 v195 v196 v197 v198 v199 v200 v201 v202 v203 v204 v205 v206 v207 v208 v209 v210 v211 v212 v213 v214 v215 v216 v217 v218 v219 v220 v221 v222 v223 v224 v225 v226 v227 v228 v229 v230 v231 v232 v233 v234 v235 v236 v237 v238 v239 v240 v241 v242 v243 v244 v245 v246 v247 v248 v249 v250 v251 v252 v253 v254 v255 v256 v257 v258 v259 v260 v261 v262 v263 v264 v265 v266 v267 v268 v269 v270 v271 v272 v273 v274 v275 v276 v277 v278 v279 v280 v281 v282 v283 v284 v285 v286 v287 v288 v289 v290 v291 v292 v293 v294 v295 v296 v297 v298 v299 v300 v301 v302 v303 v304 v305 v306 v307 v308 v309 v310 v311 v312 v313 v314 v315 v316 v317 v318 v319 v320 v321 v322 v323 v324 v325 v326 v327 v328 v329 v330 v331 v332 v333 v334 v335 v336 v337 v338 v339 v340 v341 v342 v343 v344 v345 v346 v347 v348 v349 v350 v351 v352 v353 v354 v355 v356 v357 v358 v359 v360 v361 v362 v363 v364 v365 v366 v367 v368 v369 v370 v371 v372 v373 v374 v375 v376 v377 v378 v379 v380 v381 v382 v383 v384 v385 v386 v387 v388 v389 v390 v391 v392 v393 v394 v395 v396 v397 v398 v399 v400 : Value) (Q : Exit → Act → World → Prop)
    (HRD : Hid (SwD w w1 H q t al nh be off ce g18 ze1 ze2 zg1 zg2 z3 zr p A Ak Ah c ck ch vd ds gs gone v19 whose (M3 + 1 + 1 + 1) ⟨6, f, 0, 0, 0, 0, 0, sZ⟩ W)) (HC : Hid (SwC t al nh f ho sm l ks hs ds gs gone whose)) (hfn : f < nh) (hnh3 : nh ≤ 3) (hal5 : al ≤ 5) (hal0 : 0 < al) (hMN3 : M3 ≤ 4611686018000030000) (hHW : Hd W H (M3 + 1 + 1 + 1)) (hsb : 0 ≤ sm ∧ sm ≤ 80)
    (hk : kd = 3) (o : Nat) (hoe : ho = o) (hol : o < al) (hop : 0 < getG gs f o) (hm : 20 < getG gs f o)
    (HQ : SwQ w w1 H q p f al nh be off ce g18 ze1 ze2 zg1 zg2 z3 zr M3 t ho kd vd A Ak Ah c ck ch l ks hs ds whose v1 v2 v3 v4 v5 v6 v7 v8 v9 v10 v11 v14 v15 v16 v19 v20 v29 v30 v31 v32 v33 v34 v35 v36 v37 v38 v39 v40 v41 v42 v43 v44 v45 v46 v47 v48 v49 v50 v51 v52 v53 v54 v55 v56 v57 v58 v59 v60 v61 v62 v63 v64 v65 v66 v67 v68 v69 v70 v71 v72 v73 v74 v75 v76 v77 v78 v79 v80 v81 v82 v83 v84 v85 v86 v87 v88 v89 v90 v91 v92 v93 v94 v95 v96 v97 v387 v388 v389 v390 v391 v392 v393 v394 v395 v396 v397 v398 v399 v400 Q) :
    Code.wp Try.prog swCode Q ⟨#[Value.pointer (some ⟨H, 0, none⟩), v1, v2, v3, v4, v5, v6, v7, v8, v9, v10, v11, Value.pointer (some ⟨q, 0, none⟩), Value.int .i64 (al : Int), v14, v15, v16, Value.slice (some ⟨be, off, none⟩) nh ce, Value.slice (some ⟨g18, 0, none⟩) al al, v19, v20, Value.int .i64 (f : Int), Value.int .i64 ho, Value.int .i64 (-1), Value.int .i64 kd, Value.pointer (some ⟨p, 0, none⟩), v26, v27, v28, v29, v30, v31, v32, v33, v34, v35, v36, v37, v38, v39, v40, v41, v42, v43, v44, v45, v46, v47, v48, v49, v50, v51, v52, v53, v54, v55, v56, v57, v58, v59, v60, v61, v62, v63, v64, v65, v66, v67, v68, v69, v70, v71, v72, v73, v74, v75, v76, v77, v78, v79, v80, v81, v82, v83, v84, v85, v86, v87, v88, v89, v90, v91, v92, v93, v94, v95, v96, v97, v98, v99, v100, v101, v102, v103, v104, v105, v106, v107, v108, v109, v110, v111, v112, v113, v114, v115, v116, v117, v118, v119, v120, v121, v122, v123, v124, v125, v126, v127, v128, v129, v130, v131, v132, v133, v134, v135, v136, v137, v138, v139, v140, v141, v142, v143, v144, v145, v146, v147, v148, v149, v150, v151, v152, v153, v154, v155, v156, v157, v158, v159, v160, v161, v162, v163, v164, v165, v166, v167, v168, v169, v170, v171, v172, v173, v174, v175, v176, v177, v178, v179, v180, v181, v182, v183, v184, v185, v186, v187, v188, v189, v190, v191, v192, v193, v194, v195, v196, v197, v198, v199, v200, v201, v202, v203, v204, v205, v206, v207, v208, v209, v210, v211, v212, v213, v214, v215, v216, v217, v218, v219, v220, v221, v222, v223, v224, v225, v226, v227, v228, v229, v230, v231, v232, v233, v234, v235, v236, v237, v238, v239, v240, v241, v242, v243, v244, v245, v246, v247, v248, v249, v250, v251, v252, v253, v254, v255, v256, v257, v258, v259, v260, v261, v262, v263, v264, v265, v266, v267, v268, v269, v270, v271, v272, v273, v274, v275, v276, v277, v278, v279, v280, v281, v282, v283, v284, v285, v286, v287, v288, v289, v290, v291, v292, v293, v294, v295, v296, v297, v298, v299, v300, v301, v302, v303, v304, v305, v306, v307, v308, v309, v310, v311, v312, v313, v314, v315, v316, v317, v318, v319, v320, v321, v322, v323, v324, v325, v326, v327, v328, v329, v330, v331, v332, v333, v334, v335, v336, v337, v338, v339, v340, v341, v342, v343, v344, v345, v346, v347, v348, v349, v350, v351, v352, v353, v354, v355, v356, v357, v358, v359, v360, v361, v362, v363, v364, v365, v366, v367, v368, v369, v370, v371, v372, v373, v374, v375, v376, v377, v378, v379, v380, v381, v382, v383, v384, v385, v386, v387, v388, v389, v390, v391, v392, v393, v394, v395, v396, v397, v398, v399, v400], []⟩ W := by
  conv => arg 2; whnf
  subst hk hoe
  have hgb := HC.out.gb o hol
  obtain ⟨be', off', g1, cg, e1', g2, g3, g4, g5, g6, g7, g8, g9, -⟩ := RD.c1 HRD.out HC.out.sh hfn hol
  cases e1'
  go_upto_region 34 with (go_at_call 34; refine (among_any H (M3 + 1 + 1 + 1) 1 _ W hHW (by omega) (by omega) (by omega)).mono ?_; rintro e w6 ⟨k, rfl, hk1, hk2, hd6⟩; have hR6 := RD.dealt HRD.out hd6; have HR6 := Lib.hid hR6; obtain ⟨e0, e1, e2, e3, e4, e5, e6, e7, e8, e9, e10, e11⟩ := blkD hR6.bx; obtain ⟨z0, z1, z2, z3a, z4, z5, z6, z7, z8, z9, z10, z11⟩ := And.intro (frz hR6.bx 0) (And.intro (frz hR6.bx 1) (And.intro (frz hR6.bx 2) (And.intro (frz hR6.bx 3) (And.intro (frz hR6.bx 4) (And.intro (frz hR6.bx 5) (And.intro (frz hR6.bx 6) (And.intro (frz hR6.bx 7) (And.intro (frz hR6.bx 8) (And.intro (frz hR6.bx 9) (And.intro (frz hR6.bx 10) (frz hR6.bx 11))))))))))); clear hR6 hd6)
  have hR7 := HR6.out.deed ⟨3, f, o, 0, 0, k, 0, sZ⟩
  obtain ⟨V, hV⟩ : ∃ V, V = setL w6 p (l12 ⟨3, f, o, 0, 0, k, 0, sZ⟩) := ⟨_, rfl⟩
  rw [← hV] at hR7
  simp only [setL, l12] at hV
  rw [← hV]
  clear e0 e1 e2 e3 e4 e5 e6 e7 e8 e9 e10 e11 z0 z1 z2 z3a z4 z5 z6 z7 z8 z9 z10 z11
  clear hV
  have hR8 := hR7.drew1
  have hkb : (1 ≤ k ∧ k ≤ 20) ∧ k ≤ getG gs f o := by omega
  clear g2 g3 g4 g5 g6 g7 g8 g9
  obtain ⟨be', off', g1, cg, e1', g2, g3, g4, g5, g6, g7, g8, g9, hKK⟩ := hR8.c1 HC.out.sh hfn hol
  cases e1'
  obtain ⟨d0, d1, d2, d3, d4, d5, -⟩ := blkD hR8.bx
  have HK := Lib.hid hKK
  have HKB := Lib.hid hkb
  clear hR7 hR8 hKK hk1 hk2
  refine wp_region_tag 16 0 0 [] [] 0 (fun _ w1 w2 => w1 = w2) (fun _ w1 => w1 = V.drew) [0, 0, 0, 0, 0, 0, 0, 0, 0, 0, 0, 0, 0, 0, 0, 0] (by as_aux_lemma => kernel_rfl) (by as_aux_lemma => kernel_rfl) (by as_aux_lemma => kernel_rfl) (by as_aux_lemma => kernel_rfl) (by omega) (.inl rfl) rfl rfl (fun _ _ _ _ _ _ hT hp => hT ▸ hp) (fun _ => rfl) ?_
  apply Exists.intro
  refine ⟨fun ys => ?_, fun ops K hK => ?_⟩
  · simp only [List.take_succ_cons, List.take_zero, dstsOf, List.filterMap_cons, List.filterMap_nil, putAll]
    go_simp
    rfl
  simp only [List.take_succ_cons, List.take_zero, List.drop_succ_cons, List.drop_zero] at hK ⊢
  repeat
    refine LexT.const (fun _ => rfl) ?_
    apply Exists.intro
    refine ⟨fun ys w' hp hpk hq hd => ?_, ?_⟩
    · try simp [DepsOf, depsGo, DF.holds, Region.binds, EqF] at hd
      try simp only [hd]
      replace hp : w' = V.drew := hp
      subst hp
      clear hpk hq
      intro Q2 hQ2
      go_wp2_with fail
      rfl
    try simp only [List.nil_append, List.cons_append]
  refine hK _ fun ys w' hp hF => ?_
  simp [AllF, DF.holds] at hF
  replace hp : w' = V.drew := hp
  subst hp
  simp only [hF]
  go_wp2_with fail
  refine HQ _ _ _ _ _ _ _ _ _ _ _ _ _ _ _ _ _ _ _ _ _ _ _ _ _ _ _ _ _ _ _ _ _ _ _ _ _ _ _ _ _ _ _ _ _ _ _ _ _ _ _ _ _ _ _ _ _ _ _ _ _ _ _ _ _ _ _ _ _ _ _ _ _ _ _ _ _ _ _ _ _ _ _ _ _ _ _ _ _ _ _ _ _ _ _ _ _ _ _ _ _ _ _ _ _ _ _ _ _ _ _ _ _ _ _ _ _ _ _ _ _ _ _ _ _ _ _ _ _ _ _ _ _ _ _ _ _ _ _ _ _ _ _ _ _ _ _ _ _ _ _ _ _ _ _ _ _ _ _ _ _ _ _ _ _ _ _ _ _ _ _ _ _ _ _ _ _ _ _ _ _ _ _ _ _ _ _ _ _ _ _ _ _ _ _ _ _ _ _ _ _ _ _ _ _ _ _ _ _ _ _ _ _ _ _ _ _ _ _ _ _ _ _ _ _ _ _ _ _ _ _ _ _ _ _ _ _ _ _ _ _ _ _ _ _ _ _ _ _ _ _ _ _ _ _ _ _ _ _ _ _ _ _ _ _ _ _ _ _ _ _ _ _ _ _ _ _ _ _ _ _ _ _ _ _ _ _ _ _ _ _ _ _ _ ?_
  exact ⟨-1, _, _, _, rfl, (HK.out _ (-k) (by omega)).mono (by omega), HC.out.r.eaten HC.out.fk (by rw [HC.out.nl]; exact hol) HKB.out.1 HKB.out.2⟩
set_option maxRecDepth 1000000 in
set_option maxHeartbeats 8000000 in
theorem sw_eaten2 (w w1 W : World) (H q p f al nh be off ce g18 ze1 ze2 zg1 zg2 z3 zr M3 : Nat) (t ho kd sm : Int) (vd : Value) (A Ak Ah : Option Addr) (c ck ch : Nat) (l : List Mk) (ks : List Int) (hs gs : List (List Int)) (ds : List De) (gone whose : List Int) (v1 v2 v3 v4 v5 v6 v7 v8 v9 v10 v11 v14 v15 v16 v19 v20 v26 v27 v28 v29 v30 v31 v32 v33 v34 v35 v36 v37 v38 v39 v40 v41 v42 v43 v44 v45 v46 v47 v48 v49 v50 v51 v52 v53 v54 v55 v56 v57 v58 v59 v60 v61 v62 v63 v64 v65 v66 v67 v68 v69 v70 v71 v72 v73 v74 v75 v76 v77 v78 v79 v80 v81 v82 v83 v84 v85 v86 v87 v88 v89 v90 v91 v92 v93 v94 v95 v96 v97 v98 v99 v100 v101 v102 v103 v104 v105 v106 v107 v108 v109 v110 v111 v112 v113 v114 v115 v116 v117 v118 v119 v120 v121 v122 v123 v124 v125 v126 v127 v128 v129 v130 v131 v132 v133 v134 v135 v136 v137 v138 v139 v140 v141 v142 v143 v144 v145 v146 v147 v148 v149 v150 v151 v152 v153 v154 v155 v156 v157 v158 v159 v160 v161 v162 v163 v164 v165 v166 v167 v168 v169 v170 v171 v172 v173 v174 v175 v176 v177 v178 v179 v180 v181 v182 v183 v184 v185 v186 v187 v188 v189 v190 v191 v192 v193 v194 v195 v196 v197 v198 v199 v200 v201 v202 v203 v204 v205 v206 v207 v208 v209 v210 v211 v212 v213 v214 v215 v216 v217 v218 v219 v220 v221 v222 v223 v224 v225 v226 v227 v228 v229 v230 v231 v232 v233 v234 v235 v236 v237 v238 v239 v240 v241 v242 v243 v244 v245 v246 v247 v248 v249 v250 v251 v252 v253 v254 v255 v256 v257 v258 v259 v260 v261 v262 v263 v264 v265 v266 v267 v268 v269 v270 v271 v272 v273 v274 v275 v276 v277 v278 v279 v280 v281 v282 v283 v284 v285 v286 v287 v288 v289 v290 v291 v292 v293 v294 v295 v296 v297 v298 v299 v300 v301 v302 v303 v304 v305 v306 v307 v308 v309 v310 v311 v312 v313 v314 v315 v316 v317 v318 v319 v320 v321 v322 v323 v324 v325 v326 v327 v328 v329 v330 v331 v332 v333 v334 v335 v336 v337 v338 v339 v340 v341 v342 v343 v344 v345 v346 v347 v348 v349 v350 v351 v352 v353 v354 v355 v356 v357 v358 v359 v360 v361 v362 v363 v364 v365 v366 v367 v368 v369 v370 v371 v372 v373 v374 v375 v376 v377 v378 v379 v380 v381 v382 v383 v384 v385 v386 v387 v388 v389 v390 v391 v392 v393 v394 v395 v396 v397 v398 v399 v400 : Value) (Q : Exit → Act → World → Prop)
    (HRD : Hid (SwD w w1 H q t al nh be off ce g18 ze1 ze2 zg1 zg2 z3 zr p A Ak Ah c ck ch vd ds gs gone v19 whose (M3 + 1 + 1 + 1) ⟨6, f, 0, 0, 0, 0, 0, sZ⟩ W)) (HC : Hid (SwC t al nh f ho sm l ks hs ds gs gone whose)) (hfn : f < nh) (hnh3 : nh ≤ 3) (hal5 : al ≤ 5) (hal0 : 0 < al) (hMN3 : M3 ≤ 4611686018000030000) (hHW : Hd W H (M3 + 1 + 1 + 1)) (hsb : 0 ≤ sm ∧ sm ≤ 80)
    (hk : kd = 3) (o : Nat) (hoe : ho = o) (hol : o < al) (hop : 0 < getG gs f o) (hm : ¬ 20 < getG gs f o)
    (HQ : SwQ w w1 H q p f al nh be off ce g18 ze1 ze2 zg1 zg2 z3 zr M3 t ho kd vd A Ak Ah c ck ch l ks hs ds whose v1 v2 v3 v4 v5 v6 v7 v8 v9 v10 v11 v14 v15 v16 v19 v20 v29 v30 v31 v32 v33 v34 v35 v36 v37 v38 v39 v40 v41 v42 v43 v44 v45 v46 v47 v48 v49 v50 v51 v52 v53 v54 v55 v56 v57 v58 v59 v60 v61 v62 v63 v64 v65 v66 v67 v68 v69 v70 v71 v72 v73 v74 v75 v76 v77 v78 v79 v80 v81 v82 v83 v84 v85 v86 v87 v88 v89 v90 v91 v92 v93 v94 v95 v96 v97 v387 v388 v389 v390 v391 v392 v393 v394 v395 v396 v397 v398 v399 v400 Q) :
    Code.wp Try.prog swCode Q ⟨#[Value.pointer (some ⟨H, 0, none⟩), v1, v2, v3, v4, v5, v6, v7, v8, v9, v10, v11, Value.pointer (some ⟨q, 0, none⟩), Value.int .i64 (al : Int), v14, v15, v16, Value.slice (some ⟨be, off, none⟩) nh ce, Value.slice (some ⟨g18, 0, none⟩) al al, v19, v20, Value.int .i64 (f : Int), Value.int .i64 ho, Value.int .i64 (-1), Value.int .i64 kd, Value.pointer (some ⟨p, 0, none⟩), v26, v27, v28, v29, v30, v31, v32, v33, v34, v35, v36, v37, v38, v39, v40, v41, v42, v43, v44, v45, v46, v47, v48, v49, v50, v51, v52, v53, v54, v55, v56, v57, v58, v59, v60, v61, v62, v63, v64, v65, v66, v67, v68, v69, v70, v71, v72, v73, v74, v75, v76, v77, v78, v79, v80, v81, v82, v83, v84, v85, v86, v87, v88, v89, v90, v91, v92, v93, v94, v95, v96, v97, v98, v99, v100, v101, v102, v103, v104, v105, v106, v107, v108, v109, v110, v111, v112, v113, v114, v115, v116, v117, v118, v119, v120, v121, v122, v123, v124, v125, v126, v127, v128, v129, v130, v131, v132, v133, v134, v135, v136, v137, v138, v139, v140, v141, v142, v143, v144, v145, v146, v147, v148, v149, v150, v151, v152, v153, v154, v155, v156, v157, v158, v159, v160, v161, v162, v163, v164, v165, v166, v167, v168, v169, v170, v171, v172, v173, v174, v175, v176, v177, v178, v179, v180, v181, v182, v183, v184, v185, v186, v187, v188, v189, v190, v191, v192, v193, v194, v195, v196, v197, v198, v199, v200, v201, v202, v203, v204, v205, v206, v207, v208, v209, v210, v211, v212, v213, v214, v215, v216, v217, v218, v219, v220, v221, v222, v223, v224, v225, v226, v227, v228, v229, v230, v231, v232, v233, v234, v235, v236, v237, v238, v239, v240, v241, v242, v243, v244, v245, v246, v247, v248, v249, v250, v251, v252, v253, v254, v255, v256, v257, v258, v259, v260, v261, v262, v263, v264, v265, v266, v267, v268, v269, v270, v271, v272, v273, v274, v275, v276, v277, v278, v279, v280, v281, v282, v283, v284, v285, v286, v287, v288, v289, v290, v291, v292, v293, v294, v295, v296, v297, v298, v299, v300, v301, v302, v303, v304, v305, v306, v307, v308, v309, v310, v311, v312, v313, v314, v315, v316, v317, v318, v319, v320, v321, v322, v323, v324, v325, v326, v327, v328, v329, v330, v331, v332, v333, v334, v335, v336, v337, v338, v339, v340, v341, v342, v343, v344, v345, v346, v347, v348, v349, v350, v351, v352, v353, v354, v355, v356, v357, v358, v359, v360, v361, v362, v363, v364, v365, v366, v367, v368, v369, v370, v371, v372, v373, v374, v375, v376, v377, v378, v379, v380, v381, v382, v383, v384, v385, v386, v387, v388, v389, v390, v391, v392, v393, v394, v395, v396, v397, v398, v399, v400], []⟩ W := by
  conv => arg 2; whnf
  subst hk hoe
  have hgb := HC.out.gb o hol
  obtain ⟨be', off', g1, cg, e1', g2, g3, g4, g5, g6, g7, g8, g9, -⟩ := RD.c1 HRD.out HC.out.sh hfn hol
  cases e1'
  go_upto_region 34 with (go_at_call 34; refine (among_any H (M3 + 1 + 1 + 1) 1 _ W hHW (by omega) (by omega) (by omega)).mono ?_; rintro e w6 ⟨k, rfl, hk1, hk2, hd6⟩; have hR6 := RD.dealt HRD.out hd6; have HR6 := Lib.hid hR6; obtain ⟨e0, e1, e2, e3, e4, e5, e6, e7, e8, e9, e10, e11⟩ := blkD hR6.bx; obtain ⟨z0, z1, z2, z3a, z4, z5, z6, z7, z8, z9, z10, z11⟩ := And.intro (frz hR6.bx 0) (And.intro (frz hR6.bx 1) (And.intro (frz hR6.bx 2) (And.intro (frz hR6.bx 3) (And.intro (frz hR6.bx 4) (And.intro (frz hR6.bx 5) (And.intro (frz hR6.bx 6) (And.intro (frz hR6.bx 7) (And.intro (frz hR6.bx 8) (And.intro (frz hR6.bx 9) (And.intro (frz hR6.bx 10) (frz hR6.bx 11))))))))))); clear hR6 hd6)
  have hR7 := HR6.out.deed ⟨3, f, o, 0, 0, k, 0, sZ⟩
  obtain ⟨V, hV⟩ : ∃ V, V = setL w6 p (l12 ⟨3, f, o, 0, 0, k, 0, sZ⟩) := ⟨_, rfl⟩
  rw [← hV] at hR7
  simp only [setL, l12] at hV
  rw [← hV]
  clear e0 e1 e2 e3 e4 e5 e6 e7 e8 e9 e10 e11 z0 z1 z2 z3a z4 z5 z6 z7 z8 z9 z10 z11
  clear hV
  have hR8 := hR7.drew1
  have hkb : (1 ≤ k ∧ k ≤ 20) ∧ k ≤ getG gs f o := by omega
  clear g2 g3 g4 g5 g6 g7 g8 g9
  obtain ⟨be', off', g1, cg, e1', g2, g3, g4, g5, g6, g7, g8, g9, hKK⟩ := hR8.c1 HC.out.sh hfn hol
  cases e1'
  obtain ⟨d0, d1, d2, d3, d4, d5, -⟩ := blkD hR8.bx
  have HK := Lib.hid hKK
  have HKB := Lib.hid hkb
  clear hR7 hR8 hKK hk1 hk2
  refine wp_region_tag 16 0 0 [] [] 0 (fun _ w1 w2 => w1 = w2) (fun _ w1 => w1 = V.drew) [0, 0, 0, 0, 0, 0, 0, 0, 0, 0, 0, 0, 0, 0, 0, 0] (by as_aux_lemma => kernel_rfl) (by as_aux_lemma => kernel_rfl) (by as_aux_lemma => kernel_rfl) (by as_aux_lemma => kernel_rfl) (by omega) (.inl rfl) rfl rfl (fun _ _ _ _ _ _ hT hp => hT ▸ hp) (fun _ => rfl) ?_
  apply Exists.intro
  refine ⟨fun ys => ?_, fun ops K hK => ?_⟩
  · simp only [List.take_succ_cons, List.take_zero, dstsOf, List.filterMap_cons, List.filterMap_nil, putAll]
    go_simp
    rfl
  simp only [List.take_succ_cons, List.take_zero, List.drop_succ_cons, List.drop_zero] at hK ⊢
  repeat
    refine LexT.const (fun _ => rfl) ?_
    apply Exists.intro
    refine ⟨fun ys w' hp hpk hq hd => ?_, ?_⟩
    · try simp [DepsOf, depsGo, DF.holds, Region.binds, EqF] at hd
      try simp only [hd]
      replace hp : w' = V.drew := hp
      subst hp
      clear hpk hq
      intro Q2 hQ2
      go_wp2_with fail
      rfl
    try simp only [List.nil_append, List.cons_append]
  refine hK _ fun ys w' hp hF => ?_
  simp [AllF, DF.holds] at hF
  replace hp : w' = V.drew := hp
  subst hp
  simp only [hF]
  go_wp2_with fail
  refine HQ _ _ _ _ _ _ _ _ _ _ _ _ _ _ _ _ _ _ _ _ _ _ _ _ _ _ _ _ _ _ _ _ _ _ _ _ _ _ _ _ _ _ _ _ _ _ _ _ _ _ _ _ _ _ _ _ _ _ _ _ _ _ _ _ _ _ _ _ _ _ _ _ _ _ _ _ _ _ _ _ _ _ _ _ _ _ _ _ _ _ _ _ _ _ _ _ _ _ _ _ _ _ _ _ _ _ _ _ _ _ _ _ _ _ _ _ _ _ _ _ _ _ _ _ _ _ _ _ _ _ _ _ _ _ _ _ _ _ _ _ _ _ _ _ _ _ _ _ _ _ _ _ _ _ _ _ _ _ _ _ _ _ _ _ _ _ _ _ _ _ _ _ _ _ _ _ _ _ _ _ _ _ _ _ _ _ _ _ _ _ _ _ _ _ _ _ _ _ _ _ _ _ _ _ _ _ _ _ _ _ _ _ _ _ _ _ _ _ _ _ _ _ _ _ _ _ _ _ _ _ _ _ _ _ _ _ _ _ _ _ _ _ _ _ _ _ _ _ _ _ _ _ _ _ _ _ _ _ _ _ _ _ _ _ _ _ _ _ _ _ _ _ _ _ _ _ _ _ _ _ _ _ _ _ _ _ _ _ _ _ _ _ _ _ ?_
  exact ⟨-1, _, _, _, rfl, (HK.out _ (-k) (by omega)).mono (by omega), HC.out.r.eaten HC.out.fk (by rw [HC.out.nl]; exact hol) HKB.out.1 HKB.out.2⟩
end Go.Proofs.Ytmennjmjakdkcaa
