/-
  JournalOwn: the law, walked. And: JournalOwn: behind the loop.
-/
import Derived.Test.YtpkdalpjfcopbaaDoorNOwn8
import Derived.Test.YtpkdalpjfcopbaaDoorNOwn39
import Derived.Deep.CutBlock
namespace Go.Proofs.YtpkdalpjfcopbaaDoor
open Go.RowKit
theorem rd_fresh {w : World} {n : Nat} {t : TypeId} {fz : Nat × Nat} {cur : Array Value} {bs : List UInt8} (hc : cur.toList = bvs bs) (hl : bs.length = n) :
    RdB (w.alloc (.cells cur t fz)) (w.alloc (.cells cur t fz)).heap.size (some ⟨w.heap.size, 0, none⟩) n bs :=
  ⟨by simp [bvs_length, hl], fun _ => ⟨w.heap.size, 0, rfl, by simp, fun j u hu => by
    have e : (w.alloc (.cells cur t fz)).heap[w.heap.size]? = some (.cells cur t fz) := heap_alloc_new w _
    unfold World.cell?
    rw [e, Nat.zero_add]
    rw [← hc, Array.getElem?_toList] at hu
    simpa using hu⟩⟩
set_option maxRecDepth 100000 in
set_option maxHeartbeats 6400000 in
theorem own_34 {Q : Exit → Act → World → Prop} {u1 u2 u6 u7 u8 u9 u10 u11 u12 u13 u14 u15 u16 u17 u18 u19 u20 u21 u22 u23 u24 u25 u26 u27 u28 u29 u30 u31 u32 u33 u34 u35 u36 u37 u38 u39 u40 u41 u42 u43 u44 u45 u46 u47 u48 u49 u50 u51 u52 u53 u54 u55 u56 u57 u58 u59 u60 u61 u62 u63 u64 u65 u66 u67 u68 u69 u70 u71 u72 u73 u74 u75 u76 u77 u78 u79 u80 u81 u82 u83 u84 u85 u86 u87 u88 u89 u90 u91 u92 u93 u94 u95 u96 u97 u98 u99 u100 u101 u102 u103 u104 u105 u106 u107 u108 u109 u110 u111 u112 u113 u114 u115 u116 u117 u118 u119 u120 u121 u122 u123 u124 u125 u126 u127 u128 u129 u130 u131 u132 u133 u134 u135 u136 u137 u138 u139 u140 u141 u142 u143 u144 u145 u146 u147 u148 u149 u150 u151 u152 u153 u154 u155 u156 u157 u158 u159 u160 u161 u162 u163 u164 u165 u166 u167 u168 u169 u170 u171 u172 u173 u174 u175 u176 u177 u178 u179 u180 u181 u182 u183 u184 u185 u186 u187 u188 u189 u190 u191 u192 u193 u194 u195 u196 u197 u198 u199 u200 u201 u202 u203 u204 u205 u206 u207 u208 u209 u210 u211 u212 u213 u214 u215 u216 u217 u218 u219 u220 u221 u222 u223 u224 u225 u226 u227 u228 u229 u230 u231 u232 u233 u234 u235 u236 u237 u238 u239 u240 u241 u242 u243 u244 u245 u246 u247 u248 u249 u250 u251 u252 u253 u254 u255 u256 u257 u258 u259 u260 u261 u262 u263 u264 u265 u266 u267 u268 : Value} {w wr : World} {Av : Option Addr} {n cap tg s k : Nat} {u5 : Value}
    (hret : ∀ (v1 v5 v6 v7 v8 v9 v10 v11 v12 v13 v14 v15 v16 v17 v18 v19 v20 v21 v22 v23 v24 v25 v26 v27 v28 v29 v30 v31 v32 v33 v34 v35 v36 v37 v38 v39 v40 v41 v42 v43 v44 v45 v46 v47 v48 v49 v50 v51 v52 v53 v54 v55 v56 v57 v58 v59 v60 v61 v62 v63 v64 v65 v66 v67 v68 v69 v70 v71 v72 v73 v74 v75 v76 v77 v78 v79 v80 v81 v82 v83 v84 v85 v86 v87 v88 v89 v90 v91 v92 v93 v94 v95 v96 v97 v98 v99 v100 v101 v102 v103 v104 v105 v106 v107 v108 v109 v110 v111 v112 v113 v114 v115 v116 v117 v118 v119 v120 v121 v122 v123 v124 v125 v126 v127 v128 v129 v130 v131 v132 v133 v134 v135 v136 v137 v138 v139 v140 v141 v142 v143 v144 v145 v146 v147 v148 v149 v150 v151 v152 v153 v154 v155 v156 v157 v158 v159 v160 v161 v162 v163 v164 v165 v166 v167 v168 v169 v170 v171 v172 v173 v174 v175 v176 v177 v178 v179 v180 v181 v182 v183 v184 v185 v186 v187 v188 v189 v190 v191 v192 v193 v194 v195 v196 v197 v198 v199 v200 v201 v202 v203 v204 v205 v206 v207 v208 v209 v210 v211 v212 v213 v214 v215 v216 v217 v218 v219 v220 v221 v222 v223 v224 v225 v226 v227 v228 v229 v230 v231 v232 v233 v234 v235 v236 v237 v238 v239 v240 v241 v242 v243 v244 v245 v246 v247 v248 v249 v250 v251 v252 v253 v254 v255 v256 v257 v258 v259 v260 v261 v262 v263 v264 v265 v266 v267 v268 : Value) (wx : World), Below w.heap.size w wx → Q .ret (Act.mk #[.slice Av n cap, v1, .bool true, .pointer (some ⟨tg, 0, none⟩), .pointer (some ⟨s, 0, none⟩), v5, v6, v7, v8, v9, v10, v11, v12, v13, v14, v15, v16, v17, v18, v19, v20, v21, v22, v23, v24, v25, v26, v27, v28, v29, v30, v31, v32, v33, v34, v35, v36, v37, v38, v39, v40, v41, v42, v43, v44, v45, v46, v47, v48, v49, v50, v51, v52, v53, v54, v55, v56, v57, v58, v59, v60, v61, v62, v63, v64, v65, v66, v67, v68, v69, v70, v71, v72, v73, v74, v75, v76, v77, v78, v79, v80, v81, v82, v83, v84, v85, v86, v87, v88, v89, v90, v91, v92, v93, v94, v95, v96, v97, v98, v99, v100, v101, v102, v103, v104, v105, v106, v107, v108, v109, v110, v111, v112, v113, v114, v115, v116, v117, v118, v119, v120, v121, v122, v123, v124, v125, v126, v127, v128, v129, v130, v131, v132, v133, v134, v135, v136, v137, v138, v139, v140, v141, v142, v143, v144, v145, v146, v147, v148, v149, v150, v151, v152, v153, v154, v155, v156, v157, v158, v159, v160, v161, v162, v163, v164, v165, v166, v167, v168, v169, v170, v171, v172, v173, v174, v175, v176, v177, v178, v179, v180, v181, v182, v183, v184, v185, v186, v187, v188, v189, v190, v191, v192, v193, v194, v195, v196, v197, v198, v199, v200, v201, v202, v203, v204, v205, v206, v207, v208, v209, v210, v211, v212, v213, v214, v215, v216, v217, v218, v219, v220, v221, v222, v223, v224, v225, v226, v227, v228, v229, v230, v231, v232, v233, v234, v235, v236, v237, v238, v239, v240, v241, v242, v243, v244, v245, v246, v247, v248, v249, v250, v251, v252, v253, v254, v255, v256, v257, v258, v259, v260, v261, v262, v263, v264, v265, v266, v267, v268] []) wx)
    (HOW : Hid (Ow w tg s k wr)) (_hk : k ≤ 60) (HT : Hid (Nibs w)) : (((Tryd.f8.body).getD .skip).sub [true, true, true, true, true]).wp Tryd.prog Q (Act.mk #[.slice Av n cap, u1, u2, .pointer (some ⟨tg, 0, none⟩), .pointer (some ⟨s, 0, none⟩), u5, u6, u7, u8, u9, u10, u11, u12, u13, u14, u15, u16, u17, u18, u19, u20, u21, u22, u23, u24, u25, u26, u27, u28, u29, u30, u31, u32, u33, u34, u35, u36, u37, u38, u39, u40, u41, u42, u43, u44, u45, u46, u47, u48, u49, u50, u51, u52, u53, u54, u55, u56, u57, u58, u59, u60, u61, u62, u63, u64, u65, u66, u67, u68, u69, u70, u71, u72, u73, u74, u75, u76, u77, u78, u79, u80, u81, u82, u83, u84, u85, u86, u87, u88, u89, u90, u91, u92, u93, u94, u95, u96, u97, u98, u99, u100, u101, u102, u103, u104, u105, u106, u107, u108, u109, u110, u111, u112, u113, u114, u115, u116, u117, u118, u119, u120, u121, u122, u123, u124, u125, u126, u127, u128, u129, u130, u131, u132, u133, u134, u135, u136, u137, u138, u139, u140, u141, u142, u143, u144, u145, u146, u147, u148, u149, u150, u151, u152, u153, u154, u155, u156, u157, u158, u159, u160, u161, u162, u163, u164, u165, u166, u167, u168, u169, u170, u171, u172, u173, u174, u175, u176, u177, u178, u179, u180, u181, u182, u183, u184, u185, u186, u187, u188, u189, u190, u191, u192, u193, u194, u195, u196, u197, u198, u199, u200, u201, u202, u203, u204, u205, u206, u207, u208, u209, u210, u211, u212, u213, u214, u215, u216, u217, u218, u219, u220, u221, u222, u223, u224, u225, u226, u227, u228, u229, u230, u231, u232, u233, u234, u235, u236, u237, u238, u239, u240, u241, u242, u243, u244, u245, u246, u247, u248, u249, u250, u251, u252, u253, u254, u255, u256, u257, u258, u259, u260, u261, u262, u263, u264, u265, u266, u267, u268] []) wr := by
  have HEND := Lib.hid hret
  clear hret
  obtain ⟨jg, A0, c0, A1, c1, vb, j, f, file, vt, vm, T, M, hO⟩ := HOW.out
  have HWH := Lib.hid (whole_any hO.st (Nat.zero_le _))
  have HO := Lib.hid hO
  clear hO
  refine tail_step (a := ((Tryd.f8.body).getD .skip).sub [true, true, true, true, true, false]) (b := ((Tryd.f8.body).getD .skip).sub [true, true, true, true, true, true]) (by kernel_rfl) (fun KT HKT => ?_); dsimp only [Tryd.f8, Option.getD, Code.sub]
  go_wp2_with (go_at_call 42; refine HWH.out.mono ?_; rintro _ w1 ⟨rfl, hb1⟩; have H1 := Lib.hid hb1; clear hb1; go_simp)
  have HO1 := Lib.hid (HO.out.over H1.out)
  have HNB : Hid (Nibs w1) := Lib.hid (HT.out.below HO1.out.bw)
  have HG := Lib.hid HO1.out.g
  refine tail_step (a := ((Tryd.f8.body).getD .skip).sub [true, true, true, true, true, true, false]) (b := ((Tryd.f8.body).getD .skip).sub [true, true, true, true, true, true, true]) (by kernel_rfl) (fun KT HKT => ?_); dsimp only [Tryd.f8, Option.getD, Code.sub]
  have x0 := HO1.out.d.blk.cell 0
  obtain ⟨w2, hw2⟩ : ∃ x, x = w1.alloc (.cells #[.int .u8 7] 5) := ⟨_, rfl⟩
  have hb2 : Below w1.heap.size w1 w2 := by rw [hw2]; exact one_box' _ _
  have hr2 : RdB w2 w2.heap.size (some ⟨w1.heap.size, 0, none⟩) 1 [7] := by rw [hw2]; exact rd_fresh rfl rfl
  have HW2 := Lib.hid hw2
  have H2 := Lib.hid (And.intro hr2 hb2)
  have HO2 := Lib.hid (HO1.out.over hb2)
  have HN2 : Hid (Nibs w2) := Lib.hid (HNB.out.below H2.out.2)
  clear hr2 hb2 hw2
  have x1 : w2.cell? ⟨tg, 0, none⟩ = some (.pointer (some ⟨jg, 0, none⟩)) := HO2.out.d.blk.cell 0
  obtain ⟨xx, HXA⟩ : ∃ x, Hid (j.append ⟨4, [7]⟩ = x) := ⟨_, Lib.hid rfl⟩
  have HAP := Lib.hid (Append_any (w := w2) 4 (some ⟨w1.heap.size, 0, none⟩) 1 1 [7] HO2.out.d.pj HG.out.fine.len H2.out.1 (by omega) HN2.out)
  rw [HXA.out] at HAP
  go_wp2_with (rw [← HW2.out]; go_at_call 26; refine HAP.out.mono ?_; rintro _ w3 ⟨va, rfl, hp3, ho3, hc3⟩; have H3 := Lib.hid (And.intro hp3 (And.intro ho3 hc3)); clear hp3 ho3 hc3 HAP x0 x1; go_simp)
  have HD3 := Lib.hid (HO2.out.d.jour H3.out.2.2 H3.out.1)
  have HB3 : Hid (Below w.heap.size w w3) := Lib.hid (HO2.out.bw.trans (H3.out.2.2.to_below HO2.out.bw.size fun q e => by have := HO2.out.ge.2.1; omega))
  by_cases hl : j.text.length + 8 + 1 ≤ 65536
  · have hx : xx = ({ j with recs := j.recs ++ [⟨4, [7]⟩] }, [⟨(j.file : Int), false, frameB (last4 j.text) ⟨4, [7]⟩⟩], 0) := by
      rw [← HXA.out]
      unfold JP.append
      rw [if_pos (by decide), if_pos (by simpa using hl)]
    subst hx
    refine tail_step (a := ((Tryd.f8.body).getD .skip).sub [true, true, true, true, true, true, true, false]) (b := ((Tryd.f8.body).getD .skip).sub [true, true, true, true, true, true, true, true]) (by kernel_rfl) (fun KT HKT => ?_); dsimp only [Tryd.f8, Option.getD, Code.sub]
    go_wp2_with fail
    obtain ⟨Aa, capa, rfl⟩ := H3.out.2.1.shapeN
    have hst := append_stp HG.out ⟨4, [7]⟩
    rw [HXA.out] at hst
    exact own_39 HEND.out HD3 HB3 HG (Lib.hid hst.good) (Lib.hid rfl) rfl (Lib.hid ⟨H3.out.2.1, hst.cost⟩) HT
  · have hx : xx = (j, [], 17) := by
      rw [← HXA.out]
      unfold JP.append
      rw [if_pos (by decide), if_neg (by simpa using hl)]
    subst hx
    have HSZ := Lib.hid (Size_c HD3.out.pj)
    have x0 := HD3.out.blk.cell 0
    have hI : (65527 : Int) < ((j.text.length : Nat) : Int) := by omega
    refine tail_step (a := ((Tryd.f8.body).getD .skip).sub [true, true, true, true, true, true, true, false]) (b := ((Tryd.f8.body).getD .skip).sub [true, true, true, true, true, true, true, true]) (by kernel_rfl) (fun KT HKT => ?_); dsimp only [Tryd.f8, Option.getD, Code.sub]
    go_wp2_with (go_at_call 22; refine HSZ.out.mono ?_; rintro _ _ ⟨rfl, rfl⟩; go_simp)
    exact HEND.out _ _ _ _ _ _ _ _ _ _ _ _ _ _ _ _ _ _ _ _ _ _ _ _ _ _ _ _ _ _ _ _ _ _ _ _ _ _ _ _ _ _ _ _ _ _ _ _ _ _ _ _ _ _ _ _ _ _ _ _ _ _ _ _ _ _ _ _ _ _ _ _ _ _ _ _ _ _ _ _ _ _ _ _ _ _ _ _ _ _ _ _ _ _ _ _ _ _ _ _ _ _ _ _ _ _ _ _ _ _ _ _ _ _ _ _ _ _ _ _ _ _ _ _ _ _ _ _ _ _ _ _ _ _ _ _ _ _ _ _ _ _ _ _ _ _ _ _ _ _ _ _ _ _ _ _ _ _ _ _ _ _ _ _ _ _ _ _ _ _ _ _ _ _ _ _ _ _ _ _ _ _ _ _ _ _ _ _ _ _ _ _ _ _ _ _ _ _ _ _ _ _ _ _ _ _ _ _ _ _ _ _ _ _ _ _ _ _ _ _ _ _ _ _ _ _ _ _ _ _ _ _ _ _ _ _ _ _ _ _ _ _ _ _ _ _ _ _ _ _ _ _ _ _ _ _ _ _ _ _ _ _ _ _ _ _ HB3.out
end Go.Proofs.YtpkdalpjfcopbaaDoor
namespace Go.Proofs.YtpkdalpjfcopbaaDoor
open Go.RowKit
theorem wp_code {P : Program} {Q : Exit → Act → World → Prop} {c c' : Code} {a : Act} {w : World} (h : c = c') (h2 : c'.wp P Q a w) : c.wp P Q a w := by rw [h]; exact h2
set_option maxRecDepth 100000 in
set_option maxHeartbeats 6400000 in
theorem own_8 {Q : Exit → Act → World → Prop} {u1 u2 u6 u7 u8 u9 u10 u11 u12 u13 u14 u15 u16 u17 u18 u19 u20 u21 u22 u23 u24 u25 u26 u27 u28 u29 u30 u31 u32 u33 u34 u35 u36 u37 u38 u39 u40 u41 u42 u43 u44 u45 u46 u47 u48 u49 u50 u51 u52 u53 u54 u55 u56 u57 u58 u59 u60 u61 u62 u63 u64 u65 u66 u67 u68 u69 u70 u71 u72 u73 u74 u75 u76 u77 u78 u79 u80 u81 u82 u83 u84 u85 u86 u87 u88 u89 u90 u91 u92 u93 u94 u95 u96 u97 u98 u99 u100 u101 u102 u103 u104 u105 u106 u107 u108 u109 u110 u111 u112 u113 u114 u115 u116 u117 u118 u119 u120 u121 u122 u123 u124 u125 u126 u127 u128 u129 u130 u131 u132 u133 u134 u135 u136 u137 u138 u139 u140 u141 u142 u143 u144 u145 u146 u147 u148 u149 u150 u151 u152 u153 u154 u155 u156 u157 u158 u159 u160 u161 u162 u163 u164 u165 u166 u167 u168 u169 u170 u171 u172 u173 u174 u175 u176 u177 u178 u179 u180 u181 u182 u183 u184 u185 u186 u187 u188 u189 u190 u191 u192 u193 u194 u195 u196 u197 u198 u199 u200 u201 u202 u203 u204 u205 u206 u207 u208 u209 u210 u211 u212 u213 u214 u215 u216 u217 u218 u219 u220 u221 u222 u223 u224 u225 u226 u227 u228 u229 u230 u231 u232 u233 u234 u235 u236 u237 u238 u239 u240 u241 u242 u243 u244 u245 u246 u247 u248 u249 u250 u251 u252 u253 u254 u255 u256 u257 u258 u259 u260 u261 u262 u263 u264 u265 u266 u267 u268 : Value} {w wr : World} {Av : Option Addr} {n cap b off tg s k nb capb : Nat} {kd on kn ln rk : Int} {Ao : Option Addr} {body : List UInt8}
    (hend : ∀ (v6 v7 v8 v9 v10 v11 v12 v13 v14 v15 v16 v17 v18 v19 v20 v39 v40 v41 v42 v43 v44 v45 v46 v47 v48 v49 v50 v51 v52 v53 v54 v55 v56 v57 v58 v59 v60 v61 v62 v63 v64 v65 v66 v67 v68 v69 v70 v71 v72 v73 v74 v75 v76 v77 v78 v79 v80 v81 v82 v83 v84 v85 v86 v87 v88 v89 v90 v91 v92 v93 v94 v95 v96 v97 v98 v99 v100 v101 v102 v103 v104 v105 v106 v107 v108 v109 v110 v111 v112 v113 v114 v115 v116 v117 v118 v119 v120 v121 v122 v123 v124 v125 v126 v127 v128 v129 v130 v131 v132 v133 v134 v135 v136 v137 v138 v139 v140 v141 v142 v143 v144 v145 v146 v147 v148 v149 v150 v151 v152 v153 v154 v155 v156 v157 v158 v159 v160 v161 v162 v163 v164 v165 v166 v167 v168 v169 v170 v171 v172 v173 v174 v175 v176 v177 v178 v179 v180 v181 v182 v183 v184 v185 v186 v187 v188 v189 v190 v191 v192 v193 v194 v195 v196 v197 v198 v199 v200 v201 v202 v203 v204 v205 v206 v207 v208 v209 v210 v211 v212 v213 v214 v215 v216 v217 v218 v219 v220 v221 v222 v223 v224 : Value) (wx : World), Ow w tg s (k + 1) wx → Q .normal (Act.mk #[.slice Av n cap, u1, u2, .pointer (some ⟨tg, 0, none⟩), .pointer (some ⟨s, 0, none⟩), .int .i64 (k : Int), v6, v7, v8, v9, v10, v11, v12, v13, v14, v15, v16, v17, v18, v19, v20, u21, u22, u23, u24, u25, u26, u27, u28, u29, u30, u31, u32, u33, u34, u35, u36, u37, u38, v39, v40, v41, v42, v43, v44, v45, v46, v47, v48, v49, v50, v51, v52, v53, v54, v55, v56, v57, v58, v59, v60, v61, v62, v63, v64, v65, v66, v67, v68, v69, v70, v71, v72, v73, v74, v75, v76, v77, v78, v79, v80, v81, v82, v83, v84, v85, v86, v87, v88, v89, v90, v91, v92, v93, v94, v95, v96, v97, v98, v99, v100, v101, v102, v103, v104, v105, v106, v107, v108, v109, v110, v111, v112, v113, v114, v115, v116, v117, v118, v119, v120, v121, v122, v123, v124, v125, v126, v127, v128, v129, v130, v131, v132, v133, v134, v135, v136, v137, v138, v139, v140, v141, v142, v143, v144, v145, v146, v147, v148, v149, v150, v151, v152, v153, v154, v155, v156, v157, v158, v159, v160, v161, v162, v163, v164, v165, v166, v167, v168, v169, v170, v171, v172, v173, v174, v175, v176, v177, v178, v179, v180, v181, v182, v183, v184, v185, v186, v187, v188, v189, v190, v191, v192, v193, v194, v195, v196, v197, v198, v199, v200, v201, v202, v203, v204, v205, v206, v207, v208, v209, v210, v211, v212, v213, v214, v215, v216, v217, v218, v219, v220, v221, v222, v223, v224, u225, u226, u227, u228, u229, u230, u231, u232, u233, u234, u235, u236, u237, u238, u239, u240, u241, u242, u243, u244, u245, u246, u247, u248, u249, u250, u251, u252, u253, u254, u255, u256, u257, u258, u259, u260, u261, u262, u263, u264, u265, u266, u267, u268] []) wx)
    (hAv : Av = some ⟨b, off, none⟩) (HOW : Hid (Ow w tg s k wr)) (HOP : Hid (OpAt wr w.heap.size b off k kd on kn ln rk Ao nb capb body)) (hk : k < 60) (hkn : k < n) (HT : Hid (Nibs w)) : (((Tryd.f8.body).getD .skip).sub [true, true, true, true, false, true, false, false, true, false, false]).wp Tryd.prog Q (Act.mk #[.slice Av n cap, u1, u2, .pointer (some ⟨tg, 0, none⟩), .pointer (some ⟨s, 0, none⟩), .int .i64 (k : Int), u6, u7, u8, u9, u10, u11, u12, u13, u14, u15, u16, u17, u18, u19, u20, u21, u22, u23, u24, u25, u26, u27, u28, u29, u30, u31, u32, u33, u34, u35, u36, u37, u38, u39, u40, u41, u42, u43, u44, u45, u46, u47, u48, u49, u50, u51, u52, u53, u54, u55, u56, u57, u58, u59, u60, u61, u62, u63, u64, u65, u66, u67, u68, u69, u70, u71, u72, u73, u74, u75, u76, u77, u78, u79, u80, u81, u82, u83, u84, u85, u86, u87, u88, u89, u90, u91, u92, u93, u94, u95, u96, u97, u98, u99, u100, u101, u102, u103, u104, u105, u106, u107, u108, u109, u110, u111, u112, u113, u114, u115, u116, u117, u118, u119, u120, u121, u122, u123, u124, u125, u126, u127, u128, u129, u130, u131, u132, u133, u134, u135, u136, u137, u138, u139, u140, u141, u142, u143, u144, u145, u146, u147, u148, u149, u150, u151, u152, u153, u154, u155, u156, u157, u158, u159, u160, u161, u162, u163, u164, u165, u166, u167, u168, u169, u170, u171, u172, u173, u174, u175, u176, u177, u178, u179, u180, u181, u182, u183, u184, u185, u186, u187, u188, u189, u190, u191, u192, u193, u194, u195, u196, u197, u198, u199, u200, u201, u202, u203, u204, u205, u206, u207, u208, u209, u210, u211, u212, u213, u214, u215, u216, u217, u218, u219, u220, u221, u222, u223, u224, u225, u226, u227, u228, u229, u230, u231, u232, u233, u234, u235, u236, u237, u238, u239, u240, u241, u242, u243, u244, u245, u246, u247, u248, u249, u250, u251, u252, u253, u254, u255, u256, u257, u258, u259, u260, u261, u262, u263, u264, u265, u266, u267, u268] []) wr := by
  by_cases h1 : kd = 1
  · exact own_8a hend hAv HOW HOP hk hkn HT h1
  · by_cases h6 : kd = 6
    · exact own_8b hend hAv HOW HOP hk hkn HT h6
    · by_cases h2 : kd = 2
      · exact own_8c hend hAv HOW HOP hk hkn HT h2
      · by_cases h7 : kd = 7
        · exact own_8d hend hAv HOW HOP hk hkn HT h7
        · exact own_8e hend hAv HOW HOP hk hkn HT h1 h6 h2 h7
set_option maxRecDepth 100000 in
set_option maxHeartbeats 6400000 in
theorem JOwn_go (Av : Option Addr) (n cap : Nat) (w : World) (hn : n ≤ 140737488351232) (ho : Ops w w.heap.size Av n) (ht : Nibs w) :
    Calls Tryd.prog 8 #[.slice Av n cap] w fun e w' => e = .returned (.bool true) ∧ Below w.heap.size w w' := by
  have HO := Lib.hid ho
  have HT := Lib.hid ht
  have HFR := Lib.hid (fresh_any ht)
  clear ho ht
  go_enter Tryd.func8, Tryd.ntmps8
  go_upto_block 0 with (go_at_call 30; refine HFR.out.mono ?_; rintro _ w1 ⟨tg, jg, f, rfl, hd1, ht1, hj1, hb1⟩; have H1 := Lib.hid (And.intro hd1 (And.intro ht1 (And.intro hj1 hb1))); clear hd1 ht1 hj1 hb1)
  obtain ⟨w2, hw2⟩ : ∃ x, x = w1.alloc (.cells #[.slice none 0 0, .slice none 0 0] 73) := ⟨_, rfl⟩
  rw [← hw2]
  obtain ⟨s, hs⟩ : ∃ s, s = w1.heap.size := ⟨_, rfl⟩
  rw [← hs]
  have HOW0 : Hid (Ow w tg s 0 w2) := by
    obtain ⟨⟨A0, c0, A1, c1, vb, K, hd, hk, hg⟩, ht1, hj1, hb1⟩ := H1.out
    obtain rfl : K = [] := by simpa [newJ] using hk
    have hb2 : Below w1.heap.size w1 w2 := by rw [hw2]; exact one_box' _ _
    have hB : Blk w2 s 73 #[.slice none 0 0, .slice none 0 0] := by rw [hs, hw2]; exact Blk.new _ _ _
    have hnil : w2.ownsRow 0 22 1 (.slice none 0 0) 0 [] := ⟨by simp, .inl ⟨rfl, rfl⟩⟩
    refine Lib.hid ⟨jg, A0, c0, A1, c1, vb, newJ, f, _, .slice none 0 0, .slice none 0 0, [], [], hd.over hb2, hg, ⟨⟨hB, hnil, hnil, fun g h => by simp [Value.ownBlock] at h⟩, rfl, fun k t m h => by simp at h, by simp⟩, ⟨ht1, hj1, by rw [hs]; exact hb1.size⟩, by decide, by simp, by simp [newJ], Below.then hb1 hb2, fun g h => by simp [Value.ownBlock] at h, fun g h => by simp [Value.ownBlock] at h⟩
  clear hw2 hs H1 HFR
  go_cut [5] from 6 to 225 (fun _ wx => ∃ k, k ≤ 60 ∧ Hid (Ow w tg s k wx))
  case first =>
    go_wp2_with fail
    go_loopw [5, 6, 7, 8, 9, 10, 11, 12, 13, 14, 15, 16, 17, 18, 19, 20] (fun i _ _ _ _ _ _ _ _ _ _ _ _ _ _ _ wr => ∃ k : Nat, k ≤ 60 ∧ i = .int .i64 (k : Int) ∧ Hid (Ow w tg s k wr)) (fun i _ _ _ _ _ _ _ _ _ _ _ _ _ _ _ _ => 60 - (intOf i).toNat)
    case atStart => exact ⟨0, by omega, rfl, HOW0⟩
    case round =>
      clear HOW0
      obtain ⟨k, hk, rfl, HOW⟩ := hrel
      by_cases hgo : k < n ∧ k < 60
      · obtain ⟨hlt, h6⟩ := hgo
        have hI : (k : Int) < (n : Int) := by omega
        have hI6 : (k : Int) < 60 := by omega
        obtain ⟨b, off, rfl, hbl, hops⟩ := (HO.out.below HOW.out.below) (by omega)
        obtain ⟨kd, on, kn, ln, rk, Ao, nb, capb, body, hop⟩ := hops k hlt
        have x0 := hop.c0
        have x1 := hop.c1
        have x2 := hop.c2
        have x3 := hop.c3
        have x4 := hop.c4
        have x5 := hop.c5
        have HOP := Lib.hid hop
        clear hop hops
        clear x0 x1 x2 x3 x4 x5
        go_upto_block 1 with fail
        refine wp_block ?_
        refine wp_code (c' := ((Tryd.f8.body).getD .skip).sub [true, true, true, true, false, true, false, false, true, false, false]) (by kernel_rfl) ?_
        refine own_8 (Av := some ⟨b, off, none⟩) ?_ rfl HOW HOP h6 hlt HT
        intros
        rename_i wx hx
        have HX := Lib.hid hx
        clear hx
        dsimp only
        go_wp2_with fail
        exact ⟨⟨k + 1, by omega, rfl, HX⟩, by simp [intOf] <;> omega⟩
      · by_cases hlt : k < n
        · have hI : (k : Int) < (n : Int) := by omega
          obtain rfl : k = 60 := by omega
          go_wp2_with fail
          go_meet
          exact ⟨60, by omega, HOW⟩
        · have hI : ¬ (k : Int) < (n : Int) := by omega
          have hD : decide ((k : Int) < (n : Int)) = false := by simpa using hI
          go_wp2_with fail
          go_meet
          exact ⟨k, hk, HOW⟩
  case rest =>
    obtain ⟨k, hk, HOW⟩ := hcut
    apply_assumption
    refine wp_code (c' := ((Tryd.f8.body).getD .skip).sub [true, true, true, true, true]) (by kernel_rfl) ?_
    refine own_34 ?_ HOW hk HT
    intros
    rename_i wx hx
    have HX := Lib.hid hx
    clear hx
    dsimp only
    go_ret
    exact ⟨rfl, HX.out⟩
theorem JournalOwn_walk (Av : Option Addr) (n cap : Nat) (w : World) (_hn : n ≤ cap) (hn2 : n ≤ 140737488351232) (ho : Ops w w.heap.size Av n) (ht : Nibs w) :
    Calls Tryd.prog 8 #[.slice Av n cap] w fun e w' => e = .returned (.bool true) ∧ Below w.heap.size w w' := JOwn_go Av n cap w hn2 ho ht
end Go.Proofs.YtpkdalpjfcopbaaDoor
