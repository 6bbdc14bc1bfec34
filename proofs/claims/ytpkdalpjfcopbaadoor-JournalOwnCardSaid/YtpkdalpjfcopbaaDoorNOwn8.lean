/-
  JournalOwn's round: its call.
-/
import Derived.Test.YtpkdalpjfcopbaaDoorNOwn17
namespace Go.Proofs.YtpkdalpjfcopbaaDoor
open Go.RowKit
set_option maxRecDepth 100000 in
set_option maxHeartbeats 6400000 in
theorem own_8a {Q : Exit → Act → World → Prop} {u1 u2 u6 u7 u8 u9 u10 u11 u12 u13 u14 u15 u16 u17 u18 u19 u20 u21 u22 u23 u24 u25 u26 u27 u28 u29 u30 u31 u32 u33 u34 u35 u36 u37 u38 u39 u40 u41 u42 u43 u44 u45 u46 u47 u48 u49 u50 u51 u52 u53 u54 u55 u56 u57 u58 u59 u60 u61 u62 u63 u64 u65 u66 u67 u68 u69 u70 u71 u72 u73 u74 u75 u76 u77 u78 u79 u80 u81 u82 u83 u84 u85 u86 u87 u88 u89 u90 u91 u92 u93 u94 u95 u96 u97 u98 u99 u100 u101 u102 u103 u104 u105 u106 u107 u108 u109 u110 u111 u112 u113 u114 u115 u116 u117 u118 u119 u120 u121 u122 u123 u124 u125 u126 u127 u128 u129 u130 u131 u132 u133 u134 u135 u136 u137 u138 u139 u140 u141 u142 u143 u144 u145 u146 u147 u148 u149 u150 u151 u152 u153 u154 u155 u156 u157 u158 u159 u160 u161 u162 u163 u164 u165 u166 u167 u168 u169 u170 u171 u172 u173 u174 u175 u176 u177 u178 u179 u180 u181 u182 u183 u184 u185 u186 u187 u188 u189 u190 u191 u192 u193 u194 u195 u196 u197 u198 u199 u200 u201 u202 u203 u204 u205 u206 u207 u208 u209 u210 u211 u212 u213 u214 u215 u216 u217 u218 u219 u220 u221 u222 u223 u224 u225 u226 u227 u228 u229 u230 u231 u232 u233 u234 u235 u236 u237 u238 u239 u240 u241 u242 u243 u244 u245 u246 u247 u248 u249 u250 u251 u252 u253 u254 u255 u256 u257 u258 u259 u260 u261 u262 u263 u264 u265 u266 u267 u268 : Value} {w wr : World} {Av : Option Addr} {n cap b off tg s k nb capb : Nat} {kd on kn ln rk : Int} {Ao : Option Addr} {body : List UInt8}
    (hend : ∀ (v6 v7 v8 v9 v10 v11 v12 v13 v14 v15 v16 v17 v18 v19 v20 v39 v40 v41 v42 v43 v44 v45 v46 v47 v48 v49 v50 v51 v52 v53 v54 v55 v56 v57 v58 v59 v60 v61 v62 v63 v64 v65 v66 v67 v68 v69 v70 v71 v72 v73 v74 v75 v76 v77 v78 v79 v80 v81 v82 v83 v84 v85 v86 v87 v88 v89 v90 v91 v92 v93 v94 v95 v96 v97 v98 v99 v100 v101 v102 v103 v104 v105 v106 v107 v108 v109 v110 v111 v112 v113 v114 v115 v116 v117 v118 v119 v120 v121 v122 v123 v124 v125 v126 v127 v128 v129 v130 v131 v132 v133 v134 v135 v136 v137 v138 v139 v140 v141 v142 v143 v144 v145 v146 v147 v148 v149 v150 v151 v152 v153 v154 v155 v156 v157 v158 v159 v160 v161 v162 v163 v164 v165 v166 v167 v168 v169 v170 v171 v172 v173 v174 v175 v176 v177 v178 v179 v180 v181 v182 v183 v184 v185 v186 v187 v188 v189 v190 v191 v192 v193 v194 v195 v196 v197 v198 v199 v200 v201 v202 v203 v204 v205 v206 v207 v208 v209 v210 v211 v212 v213 v214 v215 v216 v217 v218 v219 v220 v221 v222 v223 v224 : Value) (wx : World), Ow w tg s (k + 1) wx → Q .normal (Act.mk #[.slice Av n cap, u1, u2, .pointer (some ⟨tg, 0, none⟩), .pointer (some ⟨s, 0, none⟩), .int .i64 (k : Int), v6, v7, v8, v9, v10, v11, v12, v13, v14, v15, v16, v17, v18, v19, v20, u21, u22, u23, u24, u25, u26, u27, u28, u29, u30, u31, u32, u33, u34, u35, u36, u37, u38, v39, v40, v41, v42, v43, v44, v45, v46, v47, v48, v49, v50, v51, v52, v53, v54, v55, v56, v57, v58, v59, v60, v61, v62, v63, v64, v65, v66, v67, v68, v69, v70, v71, v72, v73, v74, v75, v76, v77, v78, v79, v80, v81, v82, v83, v84, v85, v86, v87, v88, v89, v90, v91, v92, v93, v94, v95, v96, v97, v98, v99, v100, v101, v102, v103, v104, v105, v106, v107, v108, v109, v110, v111, v112, v113, v114, v115, v116, v117, v118, v119, v120, v121, v122, v123, v124, v125, v126, v127, v128, v129, v130, v131, v132, v133, v134, v135, v136, v137, v138, v139, v140, v141, v142, v143, v144, v145, v146, v147, v148, v149, v150, v151, v152, v153, v154, v155, v156, v157, v158, v159, v160, v161, v162, v163, v164, v165, v166, v167, v168, v169, v170, v171, v172, v173, v174, v175, v176, v177, v178, v179, v180, v181, v182, v183, v184, v185, v186, v187, v188, v189, v190, v191, v192, v193, v194, v195, v196, v197, v198, v199, v200, v201, v202, v203, v204, v205, v206, v207, v208, v209, v210, v211, v212, v213, v214, v215, v216, v217, v218, v219, v220, v221, v222, v223, v224, u225, u226, u227, u228, u229, u230, u231, u232, u233, u234, u235, u236, u237, u238, u239, u240, u241, u242, u243, u244, u245, u246, u247, u248, u249, u250, u251, u252, u253, u254, u255, u256, u257, u258, u259, u260, u261, u262, u263, u264, u265, u266, u267, u268] []) wx)
    (hAv : Av = some ⟨b, off, none⟩) (HOW : Hid (Ow w tg s k wr)) (HOP : Hid (OpAt wr w.heap.size b off k kd on kn ln rk Ao nb capb body)) (hk : k < 60) (hkn : k < n) (HT : Hid (Nibs w)) (h : kd = 1) : (((Tryd.f8.body).getD .skip).sub [true, true, true, true, false, true, false, false, true, false, false]).wp Tryd.prog Q (Act.mk #[.slice Av n cap, u1, u2, .pointer (some ⟨tg, 0, none⟩), .pointer (some ⟨s, 0, none⟩), .int .i64 (k : Int), u6, u7, u8, u9, u10, u11, u12, u13, u14, u15, u16, u17, u18, u19, u20, u21, u22, u23, u24, u25, u26, u27, u28, u29, u30, u31, u32, u33, u34, u35, u36, u37, u38, u39, u40, u41, u42, u43, u44, u45, u46, u47, u48, u49, u50, u51, u52, u53, u54, u55, u56, u57, u58, u59, u60, u61, u62, u63, u64, u65, u66, u67, u68, u69, u70, u71, u72, u73, u74, u75, u76, u77, u78, u79, u80, u81, u82, u83, u84, u85, u86, u87, u88, u89, u90, u91, u92, u93, u94, u95, u96, u97, u98, u99, u100, u101, u102, u103, u104, u105, u106, u107, u108, u109, u110, u111, u112, u113, u114, u115, u116, u117, u118, u119, u120, u121, u122, u123, u124, u125, u126, u127, u128, u129, u130, u131, u132, u133, u134, u135, u136, u137, u138, u139, u140, u141, u142, u143, u144, u145, u146, u147, u148, u149, u150, u151, u152, u153, u154, u155, u156, u157, u158, u159, u160, u161, u162, u163, u164, u165, u166, u167, u168, u169, u170, u171, u172, u173, u174, u175, u176, u177, u178, u179, u180, u181, u182, u183, u184, u185, u186, u187, u188, u189, u190, u191, u192, u193, u194, u195, u196, u197, u198, u199, u200, u201, u202, u203, u204, u205, u206, u207, u208, u209, u210, u211, u212, u213, u214, u215, u216, u217, u218, u219, u220, u221, u222, u223, u224, u225, u226, u227, u228, u229, u230, u231, u232, u233, u234, u235, u236, u237, u238, u239, u240, u241, u242, u243, u244, u245, u246, u247, u248, u249, u250, u251, u252, u253, u254, u255, u256, u257, u258, u259, u260, u261, u262, u263, u264, u265, u266, u267, u268] []) wr := by
  subst hAv
  have HKD := Lib.hid h
  clear h
  have HEND := Lib.hid hend
  clear hend
  obtain rfl := HOP.out.rd.lenB
  obtain ⟨jg, A0, c0, A1, c1, vb, j, f, file, vt, vm, T, M, hO⟩ := HOW.out
  obtain ⟨w1, hw1⟩ : ∃ x, x = wr.alloc (.cells #[.int .i64 kd, .int .i64 on, .int .i64 kn, .int .i64 ln, .int .i64 rk, .slice Ao body.length capb] 57) := ⟨_, rfl⟩
  have hb1 : Below wr.heap.size wr w1 := by rw [hw1]; exact one_box' _ _
  have hX1 : Blk w1 wr.heap.size 57 #[.int .i64 kd, .int .i64 on, .int .i64 kn, .int .i64 ln, .int .i64 rk, .slice Ao body.length capb] := by rw [hw1]; exact Blk.new _ _ _
  have HX1 := Lib.hid hX1
  have HB1 := Lib.hid hb1
  have HW1 := Lib.hid hw1
  have HR1 : Hid (Rn w wr w1 tg s k jg A0 c0 A1 c1 vb j f file vt vm T M wr.heap.size kd) := Lib.hid ⟨hO.d.over hb1, hO.st.over hb1, hO.ge, by have := hO.gen; omega, hO.few, by have := hO.rl; omega, hO.bw.trans (hb1.mono hO.bw.size), hb1.size, hO.rows, fun k t m h1 h2 => ⟨fun g hn hg => (hO.st.ok k t m h1 h2).tx.lt hn hg, fun g hn hg => (hO.st.ok k t m h1 h2).mo.lt hn hg⟩, ⟨hX1.isT, hX1.cell 0⟩, hO.bw.size, hO.bw.size⟩
  have HG := Lib.hid hO.g
  have HGN : Hid (j.gen ≤ 1 + k ∧ j.recs.length ≤ k) := Lib.hid ⟨hO.gen, hO.rl⟩
  have HNB : Hid (Nibs wr) := Lib.hid (HT.out.below hO.bw)
  have hbl : body.length ≤ 140737488351232 := by have := HOP.out.le; have := HOP.out.cap; omega
  have HRR : Hid (∀ W, Below wr.heap.size wr W → RdB W W.heap.size Ao body.length body) := Lib.hid fun W hW => ((HOP.out.rd.more hO.bw.size).below hW).more hW.size
  have x0 := HOP.out.c0
  have x1 := HOP.out.c1
  have x2 := HOP.out.c2
  have x3 := HOP.out.c3
  have x4 := HOP.out.c4
  have x5 := HOP.out.c5
  have hnI : (k : Int) < (n : Int) := by omega
  clear hO hw1 hb1 hX1
  refine tail_step (a := ((Tryd.f8.body).getD .skip).sub [true, true, true, true, false, true, false, false, true, false, false, false]) (b := ((Tryd.f8.body).getD .skip).sub [true, true, true, true, false, true, false, false, true, false, false, true]) (by kernel_rfl) (fun KT HKT => ?_); dsimp only [Tryd.f8, Option.getD, Code.sub]
  go_wp2_with fail
  rw [← HW1.out]
  clear x0 x1 x2 x3 x4 x5
  refine tail_step (a := ((Tryd.f8.body).getD .skip).sub [true, true, true, true, false, true, false, false, true, false, false, true, false]) (b := ((Tryd.f8.body).getD .skip).sub [true, true, true, true, false, true, false, false, true, false, false, true, true]) (by kernel_rfl) (fun KT HKT => ?_); dsimp only [Tryd.f8, Option.getD, Code.sub]
  go_wp2_with fail
  have x0 : w1.cell? ⟨wr.heap.size, 0, none⟩ = some (.int .i64 kd) := HX1.out.cell 0
  have h := HKD.out
  clear HKD
  subst h
  refine tail_step (a := ((Tryd.f8.body).getD .skip).sub [true, true, true, true, false, true, false, false, true, false, false, true, true, false]) (b := ((Tryd.f8.body).getD .skip).sub [true, true, true, true, false, true, false, false, true, false, false, true, true, true]) (by kernel_rfl) (fun KT HKT => ?_); dsimp only [Tryd.f8, Option.getD, Code.sub]
  refine calm_own ?_
  go_upto_region 13 with fail
  obtain ⟨wd, hwd⟩ : ∃ wd, wd = w1.drew := ⟨_, rfl⟩
  have hbd : Below w1.heap.size w1 wd := by rw [hwd]; exact below_drewN (Below.refl _ _) 1
  have HRD := Lib.hid (HR1.out.over hbd)
  have HJL : Hid (jg < wd.heap.size) := Lib.hid HRD.out.d.pj.lt
  have HXD := Lib.hid (HX1.out.over hbd)
  have HSB : Hid (∀ W, Below wd.heap.size wd W → W.cell? ⟨tg, 0, none⟩ = some (.pointer (some ⟨jg, 0, none⟩)) ∧ W.cell? ⟨wr.heap.size, 4, none⟩ = some (.int .i64 rk) ∧ W.cell? ⟨wr.heap.size, 5, none⟩ = some (.slice Ao body.length capb)) := Lib.hid fun W hW => ⟨(HRD.out.d.over hW).blk.cell 0, (HXD.out.over hW).cell 4, (HXD.out.over hW).cell 5⟩
  have HBD := Lib.hid (Below.then HB1.out hbd)
  have HCP := Lib.hid (copied_any rk Ao body.length capb body (HRR.out _ HBD.out) (by omega))
  have HWD := Lib.hid hwd
  clear hwd hbd
  refine wp_region_held_drew (S := fun W => W.cell? ⟨tg, 0, none⟩ = some (.pointer (some ⟨jg, 0, none⟩)) ∧ W.cell? ⟨wr.heap.size, 4, none⟩ = some (.int .i64 rk) ∧ W.cell? ⟨wr.heap.size, 5, none⟩ = some (.slice Ao body.length capb)) (by kernel_rfl) (by rw [← HWD.out]; exact HSB.out _ (Below.refl _ _)) (fun hsw => ?_)
  rw [← HWD.out] at hsw ⊢
  refine wpAnyH_take (i := 0) (oi := ?oi0aa) (v := ?v0aa) ?hi0aa (by kernel_rfl) (by kernel_rfl) (by kernel_rfl) ?hq0aa ?hy0aa (by assumption) ?rest0aa
  case hi0aa => (simp only [List.getElem?_toArray, List.getElem?_cons_zero]; rfl)
  case hy0aa => (refine Or.inl ⟨by rfl, ?_⟩; intro w hSw; (try dsimp only at hSw); go_simp; try with_reducible rfl)
  case hq0aa => exact fun _ _ _ h => h
  try simp only [Act.put, List.setIfInBounds_toArray, List.set_cons_zero, List.set_cons_succ]
  refine wpAnyH_take (i := 1) (oi := ?oi1aa) (v := ?v1aa) ?hi1aa (by kernel_rfl) (by kernel_rfl) (by kernel_rfl) ?hq1aa ?hy1aa (by assumption) ?rest1aa
  case hi1aa => (simp only [List.getElem?_toArray, List.getElem?_cons_zero, List.getElem?_cons_succ]; rfl)
  case hy1aa => (refine Or.inl ⟨by rfl, ?_⟩; intro w hSw; (try dsimp only at hSw); go_simp; try with_reducible rfl)
  case hq1aa => exact fun _ _ _ h => h
  try simp only [Act.put, List.setIfInBounds_toArray, List.set_cons_zero, List.set_cons_succ]
  refine wpAnyH_take (i := 2) (oi := ?oi2aa) (v := ?v2aa) ?hi2aa (by kernel_rfl) (by kernel_rfl) (by kernel_rfl) ?hq2aa ?hy2aa (by assumption) ?rest2aa
  case hi2aa => (simp only [List.getElem?_toArray, List.getElem?_cons_zero, List.getElem?_cons_succ]; rfl)
  case hy2aa => (refine Or.inl ⟨by rfl, ?_⟩; intro w hSw; (try dsimp only at hSw); go_simp; try with_reducible rfl)
  case hq2aa => exact fun _ _ _ h => h
  try simp only [Act.put, List.setIfInBounds_toArray, List.set_cons_zero, List.set_cons_succ]
  refine wpAnyH_take (i := 3) (oi := ?oi3aa) (v := ?v3aa) ?hi3aa (by kernel_rfl) (by kernel_rfl) (by kernel_rfl) ?hq3aa ?hy3aa (by assumption) ?rest3aa
  case hi3aa => (simp only [List.getElem?_toArray, List.getElem?_cons_zero, List.getElem?_cons_succ]; rfl)
  case hy3aa => (refine Or.inl ⟨by rfl, ?_⟩; intro w hSw; (try dsimp only at hSw); go_simp; try with_reducible rfl)
  case hq3aa => exact fun _ _ _ h => h
  try simp only [Act.put, List.setIfInBounds_toArray, List.set_cons_zero, List.set_cons_succ]
  refine wpAnyH_take (i := 4) (oi := ?oi4aa) (v := ?v4aa) ?hi4aa (by kernel_rfl) (by kernel_rfl) (by kernel_rfl) ?hq4aa ?hy4aa (by assumption) ?rest4aa
  case hi4aa => (simp only [List.getElem?_toArray, List.getElem?_cons_zero, List.getElem?_cons_succ]; rfl)
  case hy4aa => (refine Or.inl ⟨by rfl, ?_⟩; intro w hSw; (try dsimp only at hSw); go_simp; try with_reducible rfl)
  case hq4aa => exact fun _ _ _ h => h
  try simp only [Act.put, List.setIfInBounds_toArray, List.set_cons_zero, List.set_cons_succ]
  refine wpAnyH_take (i := 5) (oi := ?oi5aa) (v := ?v5aa) ?hi5aa (by kernel_rfl) (by kernel_rfl) (by kernel_rfl) ?hq5aa ?hy5aa (by assumption) ?rest5aa
  case hi5aa => (simp only [List.getElem?_toArray, List.getElem?_cons_zero, List.getElem?_cons_succ]; rfl)
  case hy5aa => (refine Or.inl ⟨by rfl, ?_⟩; intro w hSw; (try dsimp only at hSw); go_simp; try with_reducible rfl)
  case hq5aa => exact fun _ _ _ h => h
  try simp only [Act.put, List.setIfInBounds_toArray, List.set_cons_zero, List.set_cons_succ]
  refine wpAnyH_ready (rs := [6]) (by kernel_rfl) (by simp) ?_
  refine AllReadyH.cons (o := ?o6ba) ?ho6ba (fun K hK => ?st6ba) ?mo6ba
  case ho6ba => (simp only [List.getElem?_toArray, List.getElem?_cons_zero, List.getElem?_cons_succ]; rfl)
  case mo6ba => exact AllReadyH.nil
  go_simp
  refine HCP.out.mono ?_
  rintro _ w2 ⟨A2, q2, rfl, ho2, hb2⟩
  have H2 := Lib.hid (And.intro ho2 hb2)
  clear ho2 hb2
  have HD2 := Lib.hid (HRD.out.d.over H2.out.2)
  have HR2 := Lib.hid (HRD.out.over H2.out.2)
  have HN2 : Hid (Nibs w2) := Lib.hid ((HNB.out.below HBD.out).below H2.out.2)
  go_simp
  refine hK.out _ _ (HSB.out _ H2.out.2) (fun _ => ?_)
  clear hK K
  try simp only [Act.put, List.setIfInBounds_toArray, List.set_cons_zero, List.set_cons_succ]
  obtain ⟨xx, HXA⟩ : ∃ x, Hid (j.append ⟨rk, body⟩ = x) := ⟨_, Lib.hid rfl⟩
  have HAP := Lib.hid (Append_any (w := w2) rk A2 body.length q2 body HD2.out.pj HG.out.fine.len (Rd.of_own H2.out.1) (by omega) HN2.out)
  rw [HXA.out] at HAP
  refine wpAnyH_ready (rs := [7]) (by kernel_rfl) (by simp) ?_
  refine AllReadyH.cons (o := ?o7ca) ?ho7ca (fun K hK => ?st7ca) ?mo7ca
  case ho7ca => (simp only [List.getElem?_toArray, List.getElem?_cons_zero, List.getElem?_cons_succ]; rfl)
  case mo7ca => exact AllReadyH.nil
  go_simp
  refine HAP.out.mono ?_
  rintro _ w3 ⟨va, rfl, hp3, ho3, hc3⟩
  obtain ⟨Aa, capa, rfl⟩ := ho3.shapeN
  have H3 := Lib.hid (And.intro hp3 (And.intro ho3 hc3))
  clear hp3 ho3 hc3 HAP
  have HD3 := Lib.hid (HD2.out.jour H3.out.2.2 H3.out.1)
  have HX3 : Hid (CellT w3 57 ⟨wr.heap.size, 4, none⟩ (.int .i64 rk) ∧ CellT w3 57 ⟨wr.heap.size, 5, none⟩ (.slice Ao body.length capb)) := by
    have h1 := HXD.out.over H2.out.2
    obtain ⟨sj, hBj, _⟩ := HD2.out.pj.blk
    have hne : ¬ wr.heap.size = jg := fun e => by
      subst e
      exact absurd (hBj.isT.eq_ h1.isT) (by decide)
    exact Lib.hid ⟨CellT.chg ⟨h1.isT, h1.cell 4⟩ H3.out.2.2 hne, CellT.chg ⟨h1.isT, h1.cell 5⟩ H3.out.2.2 hne⟩
  go_simp
  refine hK.out _ _ ⟨HD3.out.blk.cell 0, HX3.out.1.cell, HX3.out.2.cell⟩ (fun _ => ?_)
  clear hK K hsw
  try simp only [Act.put, List.setIfInBounds_toArray, List.set_cons_zero, List.set_cons_succ]
  refine wpAnyH_take (i := 8) (oi := ?oi8da) (v := ?v8da) ?hi8da (by kernel_rfl) (by kernel_rfl) (by kernel_rfl) ?hq8da ?hy8da (by assumption) ?rest8da
  case hi8da => (simp only [List.getElem?_toArray, List.getElem?_cons_zero, List.getElem?_cons_succ]; rfl)
  case hy8da => (refine Or.inl ⟨by rfl, ?_⟩; intro w hSw; (try dsimp only at hSw); go_simp; try with_reducible rfl)
  case hq8da => exact fun _ _ _ h => h
  try simp only [Act.put, List.setIfInBounds_toArray, List.set_cons_zero, List.set_cons_succ]
  refine wpAnyH_take (i := 9) (oi := ?oi9da) (v := ?v9da) ?hi9da (by kernel_rfl) (by kernel_rfl) (by kernel_rfl) ?hq9da ?hy9da (by assumption) ?rest9da
  case hi9da => (simp only [List.getElem?_toArray, List.getElem?_cons_zero, List.getElem?_cons_succ]; rfl)
  case hy9da => (refine Or.inl ⟨by rfl, ?_⟩; intro w hSw; (try dsimp only at hSw); go_simp; try with_reducible rfl)
  case hq9da => exact fun _ _ _ h => h
  try simp only [Act.put, List.setIfInBounds_toArray, List.set_cons_zero, List.set_cons_succ]
  refine wpAnyH_take (i := 10) (oi := ?oi10da) (v := ?v10da) ?hi10da (by kernel_rfl) (by kernel_rfl) (by kernel_rfl) ?hq10da ?hy10da (by assumption) ?rest10da
  case hi10da => (simp only [List.getElem?_toArray, List.getElem?_cons_zero, List.getElem?_cons_succ]; rfl)
  case hy10da => (refine Or.inl ⟨by rfl, ?_⟩; intro w hSw; (try dsimp only at hSw); go_simp; try with_reducible rfl)
  case hq10da => exact fun _ _ _ h => h
  try simp only [Act.put, List.setIfInBounds_toArray, List.set_cons_zero, List.set_cons_succ]
  refine wpAnyH_take (i := 11) (oi := ?oi11da) (v := ?v11da) ?hi11da (by kernel_rfl) (by kernel_rfl) (by kernel_rfl) ?hq11da ?hy11da (by assumption) ?rest11da
  case hi11da => (simp only [List.getElem?_toArray, List.getElem?_cons_zero, List.getElem?_cons_succ]; rfl)
  case hy11da => (refine Or.inl ⟨by rfl, ?_⟩; intro w hSw; (try dsimp only at hSw); go_simp; try with_reducible rfl)
  case hq11da => exact fun _ _ _ h => h
  try simp only [Act.put, List.setIfInBounds_toArray, List.set_cons_zero, List.set_cons_succ]
  refine wpAnyH_done (by kernel_rfl) ?_ _
  go_wp2_with fail
  have hst := append_stp HG.out ⟨rk, body⟩
  rw [HXA.out] at hst
  have hgn := HGN.out
  exact own_17 HEND.out (Lib.hid (HR2.out.desk HD3.out (H3.out.2.2.mono fun q _ e => .inr e) (.inl rfl) (by have := hst.gen; omega) (by have := hst.rl; omega))) (Lib.hid ⟨hst.good, rfl⟩) (Lib.hid HG.out.half.la) (Lib.hid ⟨H3.out.2.1, hst.cost, hst.bs⟩) (Lib.hid ⟨(Below.then HBD.out H2.out.2).size, H3.out.2.2.size⟩) hk HT
set_option maxRecDepth 100000 in
set_option maxHeartbeats 6400000 in
theorem own_8b {Q : Exit → Act → World → Prop} {u1 u2 u6 u7 u8 u9 u10 u11 u12 u13 u14 u15 u16 u17 u18 u19 u20 u21 u22 u23 u24 u25 u26 u27 u28 u29 u30 u31 u32 u33 u34 u35 u36 u37 u38 u39 u40 u41 u42 u43 u44 u45 u46 u47 u48 u49 u50 u51 u52 u53 u54 u55 u56 u57 u58 u59 u60 u61 u62 u63 u64 u65 u66 u67 u68 u69 u70 u71 u72 u73 u74 u75 u76 u77 u78 u79 u80 u81 u82 u83 u84 u85 u86 u87 u88 u89 u90 u91 u92 u93 u94 u95 u96 u97 u98 u99 u100 u101 u102 u103 u104 u105 u106 u107 u108 u109 u110 u111 u112 u113 u114 u115 u116 u117 u118 u119 u120 u121 u122 u123 u124 u125 u126 u127 u128 u129 u130 u131 u132 u133 u134 u135 u136 u137 u138 u139 u140 u141 u142 u143 u144 u145 u146 u147 u148 u149 u150 u151 u152 u153 u154 u155 u156 u157 u158 u159 u160 u161 u162 u163 u164 u165 u166 u167 u168 u169 u170 u171 u172 u173 u174 u175 u176 u177 u178 u179 u180 u181 u182 u183 u184 u185 u186 u187 u188 u189 u190 u191 u192 u193 u194 u195 u196 u197 u198 u199 u200 u201 u202 u203 u204 u205 u206 u207 u208 u209 u210 u211 u212 u213 u214 u215 u216 u217 u218 u219 u220 u221 u222 u223 u224 u225 u226 u227 u228 u229 u230 u231 u232 u233 u234 u235 u236 u237 u238 u239 u240 u241 u242 u243 u244 u245 u246 u247 u248 u249 u250 u251 u252 u253 u254 u255 u256 u257 u258 u259 u260 u261 u262 u263 u264 u265 u266 u267 u268 : Value} {w wr : World} {Av : Option Addr} {n cap b off tg s k nb capb : Nat} {kd on kn ln rk : Int} {Ao : Option Addr} {body : List UInt8}
    (hend : ∀ (v6 v7 v8 v9 v10 v11 v12 v13 v14 v15 v16 v17 v18 v19 v20 v39 v40 v41 v42 v43 v44 v45 v46 v47 v48 v49 v50 v51 v52 v53 v54 v55 v56 v57 v58 v59 v60 v61 v62 v63 v64 v65 v66 v67 v68 v69 v70 v71 v72 v73 v74 v75 v76 v77 v78 v79 v80 v81 v82 v83 v84 v85 v86 v87 v88 v89 v90 v91 v92 v93 v94 v95 v96 v97 v98 v99 v100 v101 v102 v103 v104 v105 v106 v107 v108 v109 v110 v111 v112 v113 v114 v115 v116 v117 v118 v119 v120 v121 v122 v123 v124 v125 v126 v127 v128 v129 v130 v131 v132 v133 v134 v135 v136 v137 v138 v139 v140 v141 v142 v143 v144 v145 v146 v147 v148 v149 v150 v151 v152 v153 v154 v155 v156 v157 v158 v159 v160 v161 v162 v163 v164 v165 v166 v167 v168 v169 v170 v171 v172 v173 v174 v175 v176 v177 v178 v179 v180 v181 v182 v183 v184 v185 v186 v187 v188 v189 v190 v191 v192 v193 v194 v195 v196 v197 v198 v199 v200 v201 v202 v203 v204 v205 v206 v207 v208 v209 v210 v211 v212 v213 v214 v215 v216 v217 v218 v219 v220 v221 v222 v223 v224 : Value) (wx : World), Ow w tg s (k + 1) wx → Q .normal (Act.mk #[.slice Av n cap, u1, u2, .pointer (some ⟨tg, 0, none⟩), .pointer (some ⟨s, 0, none⟩), .int .i64 (k : Int), v6, v7, v8, v9, v10, v11, v12, v13, v14, v15, v16, v17, v18, v19, v20, u21, u22, u23, u24, u25, u26, u27, u28, u29, u30, u31, u32, u33, u34, u35, u36, u37, u38, v39, v40, v41, v42, v43, v44, v45, v46, v47, v48, v49, v50, v51, v52, v53, v54, v55, v56, v57, v58, v59, v60, v61, v62, v63, v64, v65, v66, v67, v68, v69, v70, v71, v72, v73, v74, v75, v76, v77, v78, v79, v80, v81, v82, v83, v84, v85, v86, v87, v88, v89, v90, v91, v92, v93, v94, v95, v96, v97, v98, v99, v100, v101, v102, v103, v104, v105, v106, v107, v108, v109, v110, v111, v112, v113, v114, v115, v116, v117, v118, v119, v120, v121, v122, v123, v124, v125, v126, v127, v128, v129, v130, v131, v132, v133, v134, v135, v136, v137, v138, v139, v140, v141, v142, v143, v144, v145, v146, v147, v148, v149, v150, v151, v152, v153, v154, v155, v156, v157, v158, v159, v160, v161, v162, v163, v164, v165, v166, v167, v168, v169, v170, v171, v172, v173, v174, v175, v176, v177, v178, v179, v180, v181, v182, v183, v184, v185, v186, v187, v188, v189, v190, v191, v192, v193, v194, v195, v196, v197, v198, v199, v200, v201, v202, v203, v204, v205, v206, v207, v208, v209, v210, v211, v212, v213, v214, v215, v216, v217, v218, v219, v220, v221, v222, v223, v224, u225, u226, u227, u228, u229, u230, u231, u232, u233, u234, u235, u236, u237, u238, u239, u240, u241, u242, u243, u244, u245, u246, u247, u248, u249, u250, u251, u252, u253, u254, u255, u256, u257, u258, u259, u260, u261, u262, u263, u264, u265, u266, u267, u268] []) wx)
    (hAv : Av = some ⟨b, off, none⟩) (HOW : Hid (Ow w tg s k wr)) (HOP : Hid (OpAt wr w.heap.size b off k kd on kn ln rk Ao nb capb body)) (hk : k < 60) (hkn : k < n) (HT : Hid (Nibs w)) (h : kd = 6) : (((Tryd.f8.body).getD .skip).sub [true, true, true, true, false, true, false, false, true, false, false]).wp Tryd.prog Q (Act.mk #[.slice Av n cap, u1, u2, .pointer (some ⟨tg, 0, none⟩), .pointer (some ⟨s, 0, none⟩), .int .i64 (k : Int), u6, u7, u8, u9, u10, u11, u12, u13, u14, u15, u16, u17, u18, u19, u20, u21, u22, u23, u24, u25, u26, u27, u28, u29, u30, u31, u32, u33, u34, u35, u36, u37, u38, u39, u40, u41, u42, u43, u44, u45, u46, u47, u48, u49, u50, u51, u52, u53, u54, u55, u56, u57, u58, u59, u60, u61, u62, u63, u64, u65, u66, u67, u68, u69, u70, u71, u72, u73, u74, u75, u76, u77, u78, u79, u80, u81, u82, u83, u84, u85, u86, u87, u88, u89, u90, u91, u92, u93, u94, u95, u96, u97, u98, u99, u100, u101, u102, u103, u104, u105, u106, u107, u108, u109, u110, u111, u112, u113, u114, u115, u116, u117, u118, u119, u120, u121, u122, u123, u124, u125, u126, u127, u128, u129, u130, u131, u132, u133, u134, u135, u136, u137, u138, u139, u140, u141, u142, u143, u144, u145, u146, u147, u148, u149, u150, u151, u152, u153, u154, u155, u156, u157, u158, u159, u160, u161, u162, u163, u164, u165, u166, u167, u168, u169, u170, u171, u172, u173, u174, u175, u176, u177, u178, u179, u180, u181, u182, u183, u184, u185, u186, u187, u188, u189, u190, u191, u192, u193, u194, u195, u196, u197, u198, u199, u200, u201, u202, u203, u204, u205, u206, u207, u208, u209, u210, u211, u212, u213, u214, u215, u216, u217, u218, u219, u220, u221, u222, u223, u224, u225, u226, u227, u228, u229, u230, u231, u232, u233, u234, u235, u236, u237, u238, u239, u240, u241, u242, u243, u244, u245, u246, u247, u248, u249, u250, u251, u252, u253, u254, u255, u256, u257, u258, u259, u260, u261, u262, u263, u264, u265, u266, u267, u268] []) wr := by
  subst hAv
  have HKD := Lib.hid h
  clear h
  have HEND := Lib.hid hend
  clear hend
  obtain rfl := HOP.out.rd.lenB
  obtain ⟨jg, A0, c0, A1, c1, vb, j, f, file, vt, vm, T, M, hO⟩ := HOW.out
  obtain ⟨w1, hw1⟩ : ∃ x, x = wr.alloc (.cells #[.int .i64 kd, .int .i64 on, .int .i64 kn, .int .i64 ln, .int .i64 rk, .slice Ao body.length capb] 57) := ⟨_, rfl⟩
  have hb1 : Below wr.heap.size wr w1 := by rw [hw1]; exact one_box' _ _
  have hX1 : Blk w1 wr.heap.size 57 #[.int .i64 kd, .int .i64 on, .int .i64 kn, .int .i64 ln, .int .i64 rk, .slice Ao body.length capb] := by rw [hw1]; exact Blk.new _ _ _
  have HX1 := Lib.hid hX1
  have HB1 := Lib.hid hb1
  have HW1 := Lib.hid hw1
  have HR1 : Hid (Rn w wr w1 tg s k jg A0 c0 A1 c1 vb j f file vt vm T M wr.heap.size kd) := Lib.hid ⟨hO.d.over hb1, hO.st.over hb1, hO.ge, by have := hO.gen; omega, hO.few, by have := hO.rl; omega, hO.bw.trans (hb1.mono hO.bw.size), hb1.size, hO.rows, fun k t m h1 h2 => ⟨fun g hn hg => (hO.st.ok k t m h1 h2).tx.lt hn hg, fun g hn hg => (hO.st.ok k t m h1 h2).mo.lt hn hg⟩, ⟨hX1.isT, hX1.cell 0⟩, hO.bw.size, hO.bw.size⟩
  have HG := Lib.hid hO.g
  have HGN : Hid (j.gen ≤ 1 + k ∧ j.recs.length ≤ k) := Lib.hid ⟨hO.gen, hO.rl⟩
  have HNB : Hid (Nibs wr) := Lib.hid (HT.out.below hO.bw)
  have hbl : body.length ≤ 140737488351232 := by have := HOP.out.le; have := HOP.out.cap; omega
  have HRR : Hid (∀ W, Below wr.heap.size wr W → RdB W W.heap.size Ao body.length body) := Lib.hid fun W hW => ((HOP.out.rd.more hO.bw.size).below hW).more hW.size
  have x0 := HOP.out.c0
  have x1 := HOP.out.c1
  have x2 := HOP.out.c2
  have x3 := HOP.out.c3
  have x4 := HOP.out.c4
  have x5 := HOP.out.c5
  have hnI : (k : Int) < (n : Int) := by omega
  clear hO hw1 hb1 hX1
  refine tail_step (a := ((Tryd.f8.body).getD .skip).sub [true, true, true, true, false, true, false, false, true, false, false, false]) (b := ((Tryd.f8.body).getD .skip).sub [true, true, true, true, false, true, false, false, true, false, false, true]) (by kernel_rfl) (fun KT HKT => ?_); dsimp only [Tryd.f8, Option.getD, Code.sub]
  go_wp2_with fail
  rw [← HW1.out]
  clear x0 x1 x2 x3 x4 x5
  refine tail_step (a := ((Tryd.f8.body).getD .skip).sub [true, true, true, true, false, true, false, false, true, false, false, true, false]) (b := ((Tryd.f8.body).getD .skip).sub [true, true, true, true, false, true, false, false, true, false, false, true, true]) (by kernel_rfl) (fun KT HKT => ?_); dsimp only [Tryd.f8, Option.getD, Code.sub]
  go_wp2_with fail
  have x0 : w1.cell? ⟨wr.heap.size, 0, none⟩ = some (.int .i64 kd) := HX1.out.cell 0
  have h := HKD.out
  clear HKD
  subst h
  refine tail_step (a := ((Tryd.f8.body).getD .skip).sub [true, true, true, true, false, true, false, false, true, false, false, true, true, false]) (b := ((Tryd.f8.body).getD .skip).sub [true, true, true, true, false, true, false, false, true, false, false, true, true, true]) (by kernel_rfl) (fun KT HKT => ?_); dsimp only [Tryd.f8, Option.getD, Code.sub]
  refine calm_own ?_
  go_upto_region 13 with fail
  obtain ⟨wd, hwd⟩ : ∃ wd, wd = w1.drew := ⟨_, rfl⟩
  have hbd : Below w1.heap.size w1 wd := by rw [hwd]; exact below_drewN (Below.refl _ _) 1
  have HRD := Lib.hid (HR1.out.over hbd)
  have HJL : Hid (jg < wd.heap.size) := Lib.hid HRD.out.d.pj.lt
  have HXD := Lib.hid (HX1.out.over hbd)
  have HSB : Hid (∀ W, Below wd.heap.size wd W → W.cell? ⟨tg, 0, none⟩ = some (.pointer (some ⟨jg, 0, none⟩)) ∧ W.cell? ⟨wr.heap.size, 4, none⟩ = some (.int .i64 rk) ∧ W.cell? ⟨wr.heap.size, 5, none⟩ = some (.slice Ao body.length capb)) := Lib.hid fun W hW => ⟨(HRD.out.d.over hW).blk.cell 0, (HXD.out.over hW).cell 4, (HXD.out.over hW).cell 5⟩
  have HBD := Lib.hid (Below.then HB1.out hbd)
  have HCP := Lib.hid (copied_any rk Ao body.length capb body (HRR.out _ HBD.out) (by omega))
  have HWD := Lib.hid hwd
  clear hwd hbd
  refine wp_region_held_drew (S := fun W => W.cell? ⟨tg, 0, none⟩ = some (.pointer (some ⟨jg, 0, none⟩)) ∧ W.cell? ⟨wr.heap.size, 4, none⟩ = some (.int .i64 rk) ∧ W.cell? ⟨wr.heap.size, 5, none⟩ = some (.slice Ao body.length capb)) (by kernel_rfl) (by rw [← HWD.out]; exact HSB.out _ (Below.refl _ _)) (fun hsw => ?_)
  rw [← HWD.out] at hsw ⊢
  refine wpAnyH_take (i := 0) (oi := ?oi0ab) (v := ?v0ab) ?hi0ab (by kernel_rfl) (by kernel_rfl) (by kernel_rfl) ?hq0ab ?hy0ab (by assumption) ?rest0ab
  case hi0ab => (simp only [List.getElem?_toArray, List.getElem?_cons_zero]; rfl)
  case hy0ab => (refine Or.inl ⟨by rfl, ?_⟩; intro w hSw; (try dsimp only at hSw); go_simp; try with_reducible rfl)
  case hq0ab => exact fun _ _ _ h => h
  try simp only [Act.put, List.setIfInBounds_toArray, List.set_cons_zero, List.set_cons_succ]
  refine wpAnyH_take (i := 1) (oi := ?oi1ab) (v := ?v1ab) ?hi1ab (by kernel_rfl) (by kernel_rfl) (by kernel_rfl) ?hq1ab ?hy1ab (by assumption) ?rest1ab
  case hi1ab => (simp only [List.getElem?_toArray, List.getElem?_cons_zero, List.getElem?_cons_succ]; rfl)
  case hy1ab => (refine Or.inl ⟨by rfl, ?_⟩; intro w hSw; (try dsimp only at hSw); go_simp; try with_reducible rfl)
  case hq1ab => exact fun _ _ _ h => h
  try simp only [Act.put, List.setIfInBounds_toArray, List.set_cons_zero, List.set_cons_succ]
  refine wpAnyH_take (i := 2) (oi := ?oi2ab) (v := ?v2ab) ?hi2ab (by kernel_rfl) (by kernel_rfl) (by kernel_rfl) ?hq2ab ?hy2ab (by assumption) ?rest2ab
  case hi2ab => (simp only [List.getElem?_toArray, List.getElem?_cons_zero, List.getElem?_cons_succ]; rfl)
  case hy2ab => (refine Or.inl ⟨by rfl, ?_⟩; intro w hSw; (try dsimp only at hSw); go_simp; try with_reducible rfl)
  case hq2ab => exact fun _ _ _ h => h
  try simp only [Act.put, List.setIfInBounds_toArray, List.set_cons_zero, List.set_cons_succ]
  refine wpAnyH_take (i := 3) (oi := ?oi3ab) (v := ?v3ab) ?hi3ab (by kernel_rfl) (by kernel_rfl) (by kernel_rfl) ?hq3ab ?hy3ab (by assumption) ?rest3ab
  case hi3ab => (simp only [List.getElem?_toArray, List.getElem?_cons_zero, List.getElem?_cons_succ]; rfl)
  case hy3ab => (refine Or.inl ⟨by rfl, ?_⟩; intro w hSw; (try dsimp only at hSw); go_simp; try with_reducible rfl)
  case hq3ab => exact fun _ _ _ h => h
  try simp only [Act.put, List.setIfInBounds_toArray, List.set_cons_zero, List.set_cons_succ]
  refine wpAnyH_take (i := 4) (oi := ?oi4ab) (v := ?v4ab) ?hi4ab (by kernel_rfl) (by kernel_rfl) (by kernel_rfl) ?hq4ab ?hy4ab (by assumption) ?rest4ab
  case hi4ab => (simp only [List.getElem?_toArray, List.getElem?_cons_zero, List.getElem?_cons_succ]; rfl)
  case hy4ab => (refine Or.inl ⟨by rfl, ?_⟩; intro w hSw; (try dsimp only at hSw); go_simp; try with_reducible rfl)
  case hq4ab => exact fun _ _ _ h => h
  try simp only [Act.put, List.setIfInBounds_toArray, List.set_cons_zero, List.set_cons_succ]
  refine wpAnyH_take (i := 5) (oi := ?oi5ab) (v := ?v5ab) ?hi5ab (by kernel_rfl) (by kernel_rfl) (by kernel_rfl) ?hq5ab ?hy5ab (by assumption) ?rest5ab
  case hi5ab => (simp only [List.getElem?_toArray, List.getElem?_cons_zero, List.getElem?_cons_succ]; rfl)
  case hy5ab => (refine Or.inl ⟨by rfl, ?_⟩; intro w hSw; (try dsimp only at hSw); go_simp; try with_reducible rfl)
  case hq5ab => exact fun _ _ _ h => h
  try simp only [Act.put, List.setIfInBounds_toArray, List.set_cons_zero, List.set_cons_succ]
  refine wpAnyH_ready (rs := [6]) (by kernel_rfl) (by simp) ?_
  refine AllReadyH.cons (o := ?o6bb) ?ho6bb (fun K hK => ?st6bb) ?mo6bb
  case ho6bb => (simp only [List.getElem?_toArray, List.getElem?_cons_zero, List.getElem?_cons_succ]; rfl)
  case mo6bb => exact AllReadyH.nil
  go_simp
  refine HCP.out.mono ?_
  rintro _ w2 ⟨A2, q2, rfl, ho2, hb2⟩
  have H2 := Lib.hid (And.intro ho2 hb2)
  clear ho2 hb2
  have HD2 := Lib.hid (HRD.out.d.over H2.out.2)
  have HR2 := Lib.hid (HRD.out.over H2.out.2)
  have HN2 : Hid (Nibs w2) := Lib.hid ((HNB.out.below HBD.out).below H2.out.2)
  go_simp
  refine hK.out _ _ (HSB.out _ H2.out.2) (fun _ => ?_)
  clear hK K
  try simp only [Act.put, List.setIfInBounds_toArray, List.set_cons_zero, List.set_cons_succ]
  obtain ⟨xx, HXA⟩ : ∃ x, Hid (j.append ⟨rk, body⟩ = x) := ⟨_, Lib.hid rfl⟩
  have HAP := Lib.hid (Append_any (w := w2) rk A2 body.length q2 body HD2.out.pj HG.out.fine.len (Rd.of_own H2.out.1) (by omega) HN2.out)
  rw [HXA.out] at HAP
  refine wpAnyH_ready (rs := [7]) (by kernel_rfl) (by simp) ?_
  refine AllReadyH.cons (o := ?o7cb) ?ho7cb (fun K hK => ?st7cb) ?mo7cb
  case ho7cb => (simp only [List.getElem?_toArray, List.getElem?_cons_zero, List.getElem?_cons_succ]; rfl)
  case mo7cb => exact AllReadyH.nil
  go_simp
  refine HAP.out.mono ?_
  rintro _ w3 ⟨va, rfl, hp3, ho3, hc3⟩
  obtain ⟨Aa, capa, rfl⟩ := ho3.shapeN
  have H3 := Lib.hid (And.intro hp3 (And.intro ho3 hc3))
  clear hp3 ho3 hc3 HAP
  have HD3 := Lib.hid (HD2.out.jour H3.out.2.2 H3.out.1)
  have HX3 : Hid (CellT w3 57 ⟨wr.heap.size, 4, none⟩ (.int .i64 rk) ∧ CellT w3 57 ⟨wr.heap.size, 5, none⟩ (.slice Ao body.length capb)) := by
    have h1 := HXD.out.over H2.out.2
    obtain ⟨sj, hBj, _⟩ := HD2.out.pj.blk
    have hne : ¬ wr.heap.size = jg := fun e => by
      subst e
      exact absurd (hBj.isT.eq_ h1.isT) (by decide)
    exact Lib.hid ⟨CellT.chg ⟨h1.isT, h1.cell 4⟩ H3.out.2.2 hne, CellT.chg ⟨h1.isT, h1.cell 5⟩ H3.out.2.2 hne⟩
  go_simp
  refine hK.out _ _ ⟨HD3.out.blk.cell 0, HX3.out.1.cell, HX3.out.2.cell⟩ (fun _ => ?_)
  clear hK K hsw
  try simp only [Act.put, List.setIfInBounds_toArray, List.set_cons_zero, List.set_cons_succ]
  refine wpAnyH_take (i := 8) (oi := ?oi8db) (v := ?v8db) ?hi8db (by kernel_rfl) (by kernel_rfl) (by kernel_rfl) ?hq8db ?hy8db (by assumption) ?rest8db
  case hi8db => (simp only [List.getElem?_toArray, List.getElem?_cons_zero, List.getElem?_cons_succ]; rfl)
  case hy8db => (refine Or.inl ⟨by rfl, ?_⟩; intro w hSw; (try dsimp only at hSw); go_simp; try with_reducible rfl)
  case hq8db => exact fun _ _ _ h => h
  try simp only [Act.put, List.setIfInBounds_toArray, List.set_cons_zero, List.set_cons_succ]
  refine wpAnyH_take (i := 9) (oi := ?oi9db) (v := ?v9db) ?hi9db (by kernel_rfl) (by kernel_rfl) (by kernel_rfl) ?hq9db ?hy9db (by assumption) ?rest9db
  case hi9db => (simp only [List.getElem?_toArray, List.getElem?_cons_zero, List.getElem?_cons_succ]; rfl)
  case hy9db => (refine Or.inl ⟨by rfl, ?_⟩; intro w hSw; (try dsimp only at hSw); go_simp; try with_reducible rfl)
  case hq9db => exact fun _ _ _ h => h
  try simp only [Act.put, List.setIfInBounds_toArray, List.set_cons_zero, List.set_cons_succ]
  refine wpAnyH_take (i := 10) (oi := ?oi10db) (v := ?v10db) ?hi10db (by kernel_rfl) (by kernel_rfl) (by kernel_rfl) ?hq10db ?hy10db (by assumption) ?rest10db
  case hi10db => (simp only [List.getElem?_toArray, List.getElem?_cons_zero, List.getElem?_cons_succ]; rfl)
  case hy10db => (refine Or.inl ⟨by rfl, ?_⟩; intro w hSw; (try dsimp only at hSw); go_simp; try with_reducible rfl)
  case hq10db => exact fun _ _ _ h => h
  try simp only [Act.put, List.setIfInBounds_toArray, List.set_cons_zero, List.set_cons_succ]
  refine wpAnyH_take (i := 11) (oi := ?oi11db) (v := ?v11db) ?hi11db (by kernel_rfl) (by kernel_rfl) (by kernel_rfl) ?hq11db ?hy11db (by assumption) ?rest11db
  case hi11db => (simp only [List.getElem?_toArray, List.getElem?_cons_zero, List.getElem?_cons_succ]; rfl)
  case hy11db => (refine Or.inl ⟨by rfl, ?_⟩; intro w hSw; (try dsimp only at hSw); go_simp; try with_reducible rfl)
  case hq11db => exact fun _ _ _ h => h
  try simp only [Act.put, List.setIfInBounds_toArray, List.set_cons_zero, List.set_cons_succ]
  refine wpAnyH_done (by kernel_rfl) ?_ _
  go_wp2_with fail
  have hst := append_stp HG.out ⟨rk, body⟩
  rw [HXA.out] at hst
  have hgn := HGN.out
  exact own_17 HEND.out (Lib.hid (HR2.out.desk HD3.out (H3.out.2.2.mono fun q _ e => .inr e) (.inl rfl) (by have := hst.gen; omega) (by have := hst.rl; omega))) (Lib.hid ⟨hst.good, rfl⟩) (Lib.hid HG.out.half.la) (Lib.hid ⟨H3.out.2.1, hst.cost, hst.bs⟩) (Lib.hid ⟨(Below.then HBD.out H2.out.2).size, H3.out.2.2.size⟩) hk HT
set_option maxRecDepth 100000 in
set_option maxHeartbeats 6400000 in
theorem own_8c {Q : Exit → Act → World → Prop} {u1 u2 u6 u7 u8 u9 u10 u11 u12 u13 u14 u15 u16 u17 u18 u19 u20 u21 u22 u23 u24 u25 u26 u27 u28 u29 u30 u31 u32 u33 u34 u35 u36 u37 u38 u39 u40 u41 u42 u43 u44 u45 u46 u47 u48 u49 u50 u51 u52 u53 u54 u55 u56 u57 u58 u59 u60 u61 u62 u63 u64 u65 u66 u67 u68 u69 u70 u71 u72 u73 u74 u75 u76 u77 u78 u79 u80 u81 u82 u83 u84 u85 u86 u87 u88 u89 u90 u91 u92 u93 u94 u95 u96 u97 u98 u99 u100 u101 u102 u103 u104 u105 u106 u107 u108 u109 u110 u111 u112 u113 u114 u115 u116 u117 u118 u119 u120 u121 u122 u123 u124 u125 u126 u127 u128 u129 u130 u131 u132 u133 u134 u135 u136 u137 u138 u139 u140 u141 u142 u143 u144 u145 u146 u147 u148 u149 u150 u151 u152 u153 u154 u155 u156 u157 u158 u159 u160 u161 u162 u163 u164 u165 u166 u167 u168 u169 u170 u171 u172 u173 u174 u175 u176 u177 u178 u179 u180 u181 u182 u183 u184 u185 u186 u187 u188 u189 u190 u191 u192 u193 u194 u195 u196 u197 u198 u199 u200 u201 u202 u203 u204 u205 u206 u207 u208 u209 u210 u211 u212 u213 u214 u215 u216 u217 u218 u219 u220 u221 u222 u223 u224 u225 u226 u227 u228 u229 u230 u231 u232 u233 u234 u235 u236 u237 u238 u239 u240 u241 u242 u243 u244 u245 u246 u247 u248 u249 u250 u251 u252 u253 u254 u255 u256 u257 u258 u259 u260 u261 u262 u263 u264 u265 u266 u267 u268 : Value} {w wr : World} {Av : Option Addr} {n cap b off tg s k nb capb : Nat} {kd on kn ln rk : Int} {Ao : Option Addr} {body : List UInt8}
    (hend : ∀ (v6 v7 v8 v9 v10 v11 v12 v13 v14 v15 v16 v17 v18 v19 v20 v39 v40 v41 v42 v43 v44 v45 v46 v47 v48 v49 v50 v51 v52 v53 v54 v55 v56 v57 v58 v59 v60 v61 v62 v63 v64 v65 v66 v67 v68 v69 v70 v71 v72 v73 v74 v75 v76 v77 v78 v79 v80 v81 v82 v83 v84 v85 v86 v87 v88 v89 v90 v91 v92 v93 v94 v95 v96 v97 v98 v99 v100 v101 v102 v103 v104 v105 v106 v107 v108 v109 v110 v111 v112 v113 v114 v115 v116 v117 v118 v119 v120 v121 v122 v123 v124 v125 v126 v127 v128 v129 v130 v131 v132 v133 v134 v135 v136 v137 v138 v139 v140 v141 v142 v143 v144 v145 v146 v147 v148 v149 v150 v151 v152 v153 v154 v155 v156 v157 v158 v159 v160 v161 v162 v163 v164 v165 v166 v167 v168 v169 v170 v171 v172 v173 v174 v175 v176 v177 v178 v179 v180 v181 v182 v183 v184 v185 v186 v187 v188 v189 v190 v191 v192 v193 v194 v195 v196 v197 v198 v199 v200 v201 v202 v203 v204 v205 v206 v207 v208 v209 v210 v211 v212 v213 v214 v215 v216 v217 v218 v219 v220 v221 v222 v223 v224 : Value) (wx : World), Ow w tg s (k + 1) wx → Q .normal (Act.mk #[.slice Av n cap, u1, u2, .pointer (some ⟨tg, 0, none⟩), .pointer (some ⟨s, 0, none⟩), .int .i64 (k : Int), v6, v7, v8, v9, v10, v11, v12, v13, v14, v15, v16, v17, v18, v19, v20, u21, u22, u23, u24, u25, u26, u27, u28, u29, u30, u31, u32, u33, u34, u35, u36, u37, u38, v39, v40, v41, v42, v43, v44, v45, v46, v47, v48, v49, v50, v51, v52, v53, v54, v55, v56, v57, v58, v59, v60, v61, v62, v63, v64, v65, v66, v67, v68, v69, v70, v71, v72, v73, v74, v75, v76, v77, v78, v79, v80, v81, v82, v83, v84, v85, v86, v87, v88, v89, v90, v91, v92, v93, v94, v95, v96, v97, v98, v99, v100, v101, v102, v103, v104, v105, v106, v107, v108, v109, v110, v111, v112, v113, v114, v115, v116, v117, v118, v119, v120, v121, v122, v123, v124, v125, v126, v127, v128, v129, v130, v131, v132, v133, v134, v135, v136, v137, v138, v139, v140, v141, v142, v143, v144, v145, v146, v147, v148, v149, v150, v151, v152, v153, v154, v155, v156, v157, v158, v159, v160, v161, v162, v163, v164, v165, v166, v167, v168, v169, v170, v171, v172, v173, v174, v175, v176, v177, v178, v179, v180, v181, v182, v183, v184, v185, v186, v187, v188, v189, v190, v191, v192, v193, v194, v195, v196, v197, v198, v199, v200, v201, v202, v203, v204, v205, v206, v207, v208, v209, v210, v211, v212, v213, v214, v215, v216, v217, v218, v219, v220, v221, v222, v223, v224, u225, u226, u227, u228, u229, u230, u231, u232, u233, u234, u235, u236, u237, u238, u239, u240, u241, u242, u243, u244, u245, u246, u247, u248, u249, u250, u251, u252, u253, u254, u255, u256, u257, u258, u259, u260, u261, u262, u263, u264, u265, u266, u267, u268] []) wx)
    (hAv : Av = some ⟨b, off, none⟩) (HOW : Hid (Ow w tg s k wr)) (HOP : Hid (OpAt wr w.heap.size b off k kd on kn ln rk Ao nb capb body)) (hk : k < 60) (hkn : k < n) (HT : Hid (Nibs w)) (h : kd = 2) : (((Tryd.f8.body).getD .skip).sub [true, true, true, true, false, true, false, false, true, false, false]).wp Tryd.prog Q (Act.mk #[.slice Av n cap, u1, u2, .pointer (some ⟨tg, 0, none⟩), .pointer (some ⟨s, 0, none⟩), .int .i64 (k : Int), u6, u7, u8, u9, u10, u11, u12, u13, u14, u15, u16, u17, u18, u19, u20, u21, u22, u23, u24, u25, u26, u27, u28, u29, u30, u31, u32, u33, u34, u35, u36, u37, u38, u39, u40, u41, u42, u43, u44, u45, u46, u47, u48, u49, u50, u51, u52, u53, u54, u55, u56, u57, u58, u59, u60, u61, u62, u63, u64, u65, u66, u67, u68, u69, u70, u71, u72, u73, u74, u75, u76, u77, u78, u79, u80, u81, u82, u83, u84, u85, u86, u87, u88, u89, u90, u91, u92, u93, u94, u95, u96, u97, u98, u99, u100, u101, u102, u103, u104, u105, u106, u107, u108, u109, u110, u111, u112, u113, u114, u115, u116, u117, u118, u119, u120, u121, u122, u123, u124, u125, u126, u127, u128, u129, u130, u131, u132, u133, u134, u135, u136, u137, u138, u139, u140, u141, u142, u143, u144, u145, u146, u147, u148, u149, u150, u151, u152, u153, u154, u155, u156, u157, u158, u159, u160, u161, u162, u163, u164, u165, u166, u167, u168, u169, u170, u171, u172, u173, u174, u175, u176, u177, u178, u179, u180, u181, u182, u183, u184, u185, u186, u187, u188, u189, u190, u191, u192, u193, u194, u195, u196, u197, u198, u199, u200, u201, u202, u203, u204, u205, u206, u207, u208, u209, u210, u211, u212, u213, u214, u215, u216, u217, u218, u219, u220, u221, u222, u223, u224, u225, u226, u227, u228, u229, u230, u231, u232, u233, u234, u235, u236, u237, u238, u239, u240, u241, u242, u243, u244, u245, u246, u247, u248, u249, u250, u251, u252, u253, u254, u255, u256, u257, u258, u259, u260, u261, u262, u263, u264, u265, u266, u267, u268] []) wr := by
  subst hAv
  have HKD := Lib.hid h
  clear h
  have HEND := Lib.hid hend
  clear hend
  obtain rfl := HOP.out.rd.lenB
  obtain ⟨jg, A0, c0, A1, c1, vb, j, f, file, vt, vm, T, M, hO⟩ := HOW.out
  obtain ⟨w1, hw1⟩ : ∃ x, x = wr.alloc (.cells #[.int .i64 kd, .int .i64 on, .int .i64 kn, .int .i64 ln, .int .i64 rk, .slice Ao body.length capb] 57) := ⟨_, rfl⟩
  have hb1 : Below wr.heap.size wr w1 := by rw [hw1]; exact one_box' _ _
  have hX1 : Blk w1 wr.heap.size 57 #[.int .i64 kd, .int .i64 on, .int .i64 kn, .int .i64 ln, .int .i64 rk, .slice Ao body.length capb] := by rw [hw1]; exact Blk.new _ _ _
  have HX1 := Lib.hid hX1
  have HB1 := Lib.hid hb1
  have HW1 := Lib.hid hw1
  have HR1 : Hid (Rn w wr w1 tg s k jg A0 c0 A1 c1 vb j f file vt vm T M wr.heap.size kd) := Lib.hid ⟨hO.d.over hb1, hO.st.over hb1, hO.ge, by have := hO.gen; omega, hO.few, by have := hO.rl; omega, hO.bw.trans (hb1.mono hO.bw.size), hb1.size, hO.rows, fun k t m h1 h2 => ⟨fun g hn hg => (hO.st.ok k t m h1 h2).tx.lt hn hg, fun g hn hg => (hO.st.ok k t m h1 h2).mo.lt hn hg⟩, ⟨hX1.isT, hX1.cell 0⟩, hO.bw.size, hO.bw.size⟩
  have HG := Lib.hid hO.g
  have HGN : Hid (j.gen ≤ 1 + k ∧ j.recs.length ≤ k) := Lib.hid ⟨hO.gen, hO.rl⟩
  have HNB : Hid (Nibs wr) := Lib.hid (HT.out.below hO.bw)
  have hbl : body.length ≤ 140737488351232 := by have := HOP.out.le; have := HOP.out.cap; omega
  have HRR : Hid (∀ W, Below wr.heap.size wr W → RdB W W.heap.size Ao body.length body) := Lib.hid fun W hW => ((HOP.out.rd.more hO.bw.size).below hW).more hW.size
  have x0 := HOP.out.c0
  have x1 := HOP.out.c1
  have x2 := HOP.out.c2
  have x3 := HOP.out.c3
  have x4 := HOP.out.c4
  have x5 := HOP.out.c5
  have hnI : (k : Int) < (n : Int) := by omega
  clear hO hw1 hb1 hX1
  refine tail_step (a := ((Tryd.f8.body).getD .skip).sub [true, true, true, true, false, true, false, false, true, false, false, false]) (b := ((Tryd.f8.body).getD .skip).sub [true, true, true, true, false, true, false, false, true, false, false, true]) (by kernel_rfl) (fun KT HKT => ?_); dsimp only [Tryd.f8, Option.getD, Code.sub]
  go_wp2_with fail
  rw [← HW1.out]
  clear x0 x1 x2 x3 x4 x5
  refine tail_step (a := ((Tryd.f8.body).getD .skip).sub [true, true, true, true, false, true, false, false, true, false, false, true, false]) (b := ((Tryd.f8.body).getD .skip).sub [true, true, true, true, false, true, false, false, true, false, false, true, true]) (by kernel_rfl) (fun KT HKT => ?_); dsimp only [Tryd.f8, Option.getD, Code.sub]
  go_wp2_with fail
  have x0 : w1.cell? ⟨wr.heap.size, 0, none⟩ = some (.int .i64 kd) := HX1.out.cell 0
  have h := HKD.out
  clear HKD
  subst h
  refine tail_step (a := ((Tryd.f8.body).getD .skip).sub [true, true, true, true, false, true, false, false, true, false, false, true, true, false]) (b := ((Tryd.f8.body).getD .skip).sub [true, true, true, true, false, true, false, false, true, false, false, true, true, true]) (by kernel_rfl) (fun KT HKT => ?_); dsimp only [Tryd.f8, Option.getD, Code.sub]
  refine calm_own ?_
  go_upto_region 16 with fail
  obtain ⟨wd, hwd⟩ : ∃ wd, wd = w1.drew := ⟨_, rfl⟩
  have hbd : Below w1.heap.size w1 wd := by rw [hwd]; exact below_drewN (Below.refl _ _) 1
  have HRD := Lib.hid (HR1.out.over hbd)
  have HJL : Hid (jg < wd.heap.size) := Lib.hid HRD.out.d.pj.lt
  have HXD := Lib.hid (HX1.out.over hbd)
  have HSB : Hid (∀ W, Below wd.heap.size wd W → W.cell? ⟨tg, 0, none⟩ = some (.pointer (some ⟨jg, 0, none⟩)) ∧ W.cell? ⟨wr.heap.size, 4, none⟩ = some (.int .i64 rk) ∧ W.cell? ⟨wr.heap.size, 5, none⟩ = some (.slice Ao body.length capb)) := Lib.hid fun W hW => ⟨(HRD.out.d.over hW).blk.cell 0, (HXD.out.over hW).cell 4, (HXD.out.over hW).cell 5⟩
  have HBD := Lib.hid (Below.then HB1.out hbd)
  have HCP := Lib.hid (copied_any rk Ao body.length capb body (HRR.out _ HBD.out) (by omega))
  have HWD := Lib.hid hwd
  clear hwd hbd
  refine wp_region_held_drew (S := fun W => W.cell? ⟨tg, 0, none⟩ = some (.pointer (some ⟨jg, 0, none⟩)) ∧ W.cell? ⟨wr.heap.size, 4, none⟩ = some (.int .i64 rk) ∧ W.cell? ⟨wr.heap.size, 5, none⟩ = some (.slice Ao body.length capb)) (by kernel_rfl) (by rw [← HWD.out]; exact HSB.out _ (Below.refl _ _)) (fun hsw => ?_)
  rw [← HWD.out] at hsw ⊢
  refine wpAnyH_take (i := 0) (oi := ?oi0ac) (v := ?v0ac) ?hi0ac (by kernel_rfl) (by kernel_rfl) (by kernel_rfl) ?hq0ac ?hy0ac (by assumption) ?rest0ac
  case hi0ac => (simp only [List.getElem?_toArray, List.getElem?_cons_zero]; rfl)
  case hy0ac => (refine Or.inl ⟨by rfl, ?_⟩; intro w hSw; (try dsimp only at hSw); go_simp; try with_reducible rfl)
  case hq0ac => exact fun _ _ _ h => h
  try simp only [Act.put, List.setIfInBounds_toArray, List.set_cons_zero, List.set_cons_succ]
  refine wpAnyH_take (i := 1) (oi := ?oi1ac) (v := ?v1ac) ?hi1ac (by kernel_rfl) (by kernel_rfl) (by kernel_rfl) ?hq1ac ?hy1ac (by assumption) ?rest1ac
  case hi1ac => (simp only [List.getElem?_toArray, List.getElem?_cons_zero, List.getElem?_cons_succ]; rfl)
  case hy1ac => (refine Or.inl ⟨by rfl, ?_⟩; intro w hSw; (try dsimp only at hSw); go_simp; try with_reducible rfl)
  case hq1ac => exact fun _ _ _ h => h
  try simp only [Act.put, List.setIfInBounds_toArray, List.set_cons_zero, List.set_cons_succ]
  refine wpAnyH_take (i := 2) (oi := ?oi2ac) (v := ?v2ac) ?hi2ac (by kernel_rfl) (by kernel_rfl) (by kernel_rfl) ?hq2ac ?hy2ac (by assumption) ?rest2ac
  case hi2ac => (simp only [List.getElem?_toArray, List.getElem?_cons_zero, List.getElem?_cons_succ]; rfl)
  case hy2ac => (refine Or.inl ⟨by rfl, ?_⟩; intro w hSw; (try dsimp only at hSw); go_simp; try with_reducible rfl)
  case hq2ac => exact fun _ _ _ h => h
  try simp only [Act.put, List.setIfInBounds_toArray, List.set_cons_zero, List.set_cons_succ]
  refine wpAnyH_take (i := 3) (oi := ?oi3ac) (v := ?v3ac) ?hi3ac (by kernel_rfl) (by kernel_rfl) (by kernel_rfl) ?hq3ac ?hy3ac (by assumption) ?rest3ac
  case hi3ac => (simp only [List.getElem?_toArray, List.getElem?_cons_zero, List.getElem?_cons_succ]; rfl)
  case hy3ac => (refine Or.inl ⟨by rfl, ?_⟩; intro w hSw; (try dsimp only at hSw); go_simp; try with_reducible rfl)
  case hq3ac => exact fun _ _ _ h => h
  try simp only [Act.put, List.setIfInBounds_toArray, List.set_cons_zero, List.set_cons_succ]
  refine wpAnyH_take (i := 4) (oi := ?oi4ac) (v := ?v4ac) ?hi4ac (by kernel_rfl) (by kernel_rfl) (by kernel_rfl) ?hq4ac ?hy4ac (by assumption) ?rest4ac
  case hi4ac => (simp only [List.getElem?_toArray, List.getElem?_cons_zero, List.getElem?_cons_succ]; rfl)
  case hy4ac => (refine Or.inl ⟨by rfl, ?_⟩; intro w hSw; (try dsimp only at hSw); go_simp; try with_reducible rfl)
  case hq4ac => exact fun _ _ _ h => h
  try simp only [Act.put, List.setIfInBounds_toArray, List.set_cons_zero, List.set_cons_succ]
  refine wpAnyH_take (i := 5) (oi := ?oi5ac) (v := ?v5ac) ?hi5ac (by kernel_rfl) (by kernel_rfl) (by kernel_rfl) ?hq5ac ?hy5ac (by assumption) ?rest5ac
  case hi5ac => (simp only [List.getElem?_toArray, List.getElem?_cons_zero, List.getElem?_cons_succ]; rfl)
  case hy5ac => (refine Or.inl ⟨by rfl, ?_⟩; intro w hSw; (try dsimp only at hSw); go_simp; try with_reducible rfl)
  case hq5ac => exact fun _ _ _ h => h
  try simp only [Act.put, List.setIfInBounds_toArray, List.set_cons_zero, List.set_cons_succ]
  refine wpAnyH_ready (rs := [6]) (by kernel_rfl) (by simp) ?_
  refine AllReadyH.cons (o := ?o6bc) ?ho6bc (fun K hK => ?st6bc) ?mo6bc
  case ho6bc => (simp only [List.getElem?_toArray, List.getElem?_cons_zero, List.getElem?_cons_succ]; rfl)
  case mo6bc => exact AllReadyH.nil
  go_simp
  refine HCP.out.mono ?_
  rintro _ w2 ⟨A2, q2, rfl, ho2, hb2⟩
  have H2 := Lib.hid (And.intro ho2 hb2)
  clear ho2 hb2
  have HD2 := Lib.hid (HRD.out.d.over H2.out.2)
  have HR2 := Lib.hid (HRD.out.over H2.out.2)
  have HN2 : Hid (Nibs w2) := Lib.hid ((HNB.out.below HBD.out).below H2.out.2)
  go_simp
  refine hK.out _ _ (HSB.out _ H2.out.2) (fun _ => ?_)
  clear hK K
  try simp only [Act.put, List.setIfInBounds_toArray, List.set_cons_zero, List.set_cons_succ]
  obtain ⟨xx, HXA⟩ : ∃ x, Hid (j.compact ⟨rk, body⟩ = x) := ⟨_, Lib.hid rfl⟩
  have hq2 : body.length ≤ q2 := by obtain ⟨_, _, e, h1, _⟩ := own_shape H2.out.1; injection e with _ _ e; omega
  have HAP := Lib.hid (Compact_any (w := w2) rk A2 body.length q2 body HD2.out.pj HG.out.fine.file HG.out.fine.gen.2 hq2 (Rd.of_own H2.out.1) (by omega) (fun h0 b' o' s' e => by
    obtain ⟨g', _, _, e', hb', _⟩ := own_parts H2.out.1 h0
    injection e' with e' _ _
    rw [e] at e'
    injection e' with e'
    injection e' with e' _
    have := HJL.out
    omega) HN2.out (by
    obtain ⟨sj, hBj, _⟩ := HD2.out.pj.blk
    exact HN2.out.off hBj rfl))
  rw [HXA.out] at HAP
  refine wpAnyH_ready (rs := [7]) (by kernel_rfl) (by simp) ?_
  refine AllReadyH.cons (o := ?o7cc) ?ho7cc (fun K hK => ?st7cc) ?mo7cc
  case ho7cc => (simp only [List.getElem?_toArray, List.getElem?_cons_zero, List.getElem?_cons_succ]; rfl)
  case mo7cc => exact AllReadyH.nil
  go_simp
  refine HAP.out.mono ?_
  rintro _ w3 ⟨va, rfl, hp3, ho3, hc3⟩
  obtain ⟨Aa, capa, rfl⟩ := ho3.shapeN
  have H3 := Lib.hid (And.intro hp3 (And.intro ho3 hc3))
  clear hp3 ho3 hc3 HAP
  have HD3 := Lib.hid (HD2.out.jour H3.out.2.2 H3.out.1)
  have HX3 : Hid (CellT w3 57 ⟨wr.heap.size, 4, none⟩ (.int .i64 rk) ∧ CellT w3 57 ⟨wr.heap.size, 5, none⟩ (.slice Ao body.length capb)) := by
    have h1 := HXD.out.over H2.out.2
    obtain ⟨sj, hBj, _⟩ := HD2.out.pj.blk
    have hne : ¬ wr.heap.size = jg := fun e => by
      subst e
      exact absurd (hBj.isT.eq_ h1.isT) (by decide)
    exact Lib.hid ⟨CellT.chg ⟨h1.isT, h1.cell 4⟩ H3.out.2.2 hne, CellT.chg ⟨h1.isT, h1.cell 5⟩ H3.out.2.2 hne⟩
  go_simp
  refine hK.out _ _ ⟨HD3.out.blk.cell 0, HX3.out.1.cell, HX3.out.2.cell⟩ (fun _ => ?_)
  clear hK K hsw
  try simp only [Act.put, List.setIfInBounds_toArray, List.set_cons_zero, List.set_cons_succ]
  refine wpAnyH_take (i := 8) (oi := ?oi8dc) (v := ?v8dc) ?hi8dc (by kernel_rfl) (by kernel_rfl) (by kernel_rfl) ?hq8dc ?hy8dc (by assumption) ?rest8dc
  case hi8dc => (simp only [List.getElem?_toArray, List.getElem?_cons_zero, List.getElem?_cons_succ]; rfl)
  case hy8dc => (refine Or.inl ⟨by rfl, ?_⟩; intro w hSw; (try dsimp only at hSw); go_simp; try with_reducible rfl)
  case hq8dc => exact fun _ _ _ h => h
  try simp only [Act.put, List.setIfInBounds_toArray, List.set_cons_zero, List.set_cons_succ]
  refine wpAnyH_take (i := 9) (oi := ?oi9dc) (v := ?v9dc) ?hi9dc (by kernel_rfl) (by kernel_rfl) (by kernel_rfl) ?hq9dc ?hy9dc (by assumption) ?rest9dc
  case hi9dc => (simp only [List.getElem?_toArray, List.getElem?_cons_zero, List.getElem?_cons_succ]; rfl)
  case hy9dc => (refine Or.inl ⟨by rfl, ?_⟩; intro w hSw; (try dsimp only at hSw); go_simp; try with_reducible rfl)
  case hq9dc => exact fun _ _ _ h => h
  try simp only [Act.put, List.setIfInBounds_toArray, List.set_cons_zero, List.set_cons_succ]
  refine wpAnyH_take (i := 10) (oi := ?oi10dc) (v := ?v10dc) ?hi10dc (by kernel_rfl) (by kernel_rfl) (by kernel_rfl) ?hq10dc ?hy10dc (by assumption) ?rest10dc
  case hi10dc => (simp only [List.getElem?_toArray, List.getElem?_cons_zero, List.getElem?_cons_succ]; rfl)
  case hy10dc => (refine Or.inl ⟨by rfl, ?_⟩; intro w hSw; (try dsimp only at hSw); go_simp; try with_reducible rfl)
  case hq10dc => exact fun _ _ _ h => h
  try simp only [Act.put, List.setIfInBounds_toArray, List.set_cons_zero, List.set_cons_succ]
  refine wpAnyH_take (i := 11) (oi := ?oi11dc) (v := ?v11dc) ?hi11dc (by kernel_rfl) (by kernel_rfl) (by kernel_rfl) ?hq11dc ?hy11dc (by assumption) ?rest11dc
  case hi11dc => (simp only [List.getElem?_toArray, List.getElem?_cons_zero, List.getElem?_cons_succ]; rfl)
  case hy11dc => (refine Or.inl ⟨by rfl, ?_⟩; intro w hSw; (try dsimp only at hSw); go_simp; try with_reducible rfl)
  case hq11dc => exact fun _ _ _ h => h
  try simp only [Act.put, List.setIfInBounds_toArray, List.set_cons_zero, List.set_cons_succ]
  refine wpAnyH_done (by kernel_rfl) ?_ _
  go_wp2_with fail
  have hst := compact_stp HG.out (by have := HGN.out; omega) ⟨rk, body⟩
  rw [HXA.out] at hst
  have hgn := HGN.out
  exact own_17 HEND.out (Lib.hid (HR2.out.desk HD3.out (H3.out.2.2.mono fun q _ e => .inr e) (.inl rfl) (by have := hst.gen; omega) (by have := hst.rl; omega))) (Lib.hid ⟨hst.good, rfl⟩) (Lib.hid HG.out.half.la) (Lib.hid ⟨H3.out.2.1, hst.cost, hst.bs⟩) (Lib.hid ⟨(Below.then HBD.out H2.out.2).size, H3.out.2.2.size⟩) hk HT
set_option maxRecDepth 100000 in
set_option maxHeartbeats 6400000 in
theorem own_8d {Q : Exit → Act → World → Prop} {u1 u2 u6 u7 u8 u9 u10 u11 u12 u13 u14 u15 u16 u17 u18 u19 u20 u21 u22 u23 u24 u25 u26 u27 u28 u29 u30 u31 u32 u33 u34 u35 u36 u37 u38 u39 u40 u41 u42 u43 u44 u45 u46 u47 u48 u49 u50 u51 u52 u53 u54 u55 u56 u57 u58 u59 u60 u61 u62 u63 u64 u65 u66 u67 u68 u69 u70 u71 u72 u73 u74 u75 u76 u77 u78 u79 u80 u81 u82 u83 u84 u85 u86 u87 u88 u89 u90 u91 u92 u93 u94 u95 u96 u97 u98 u99 u100 u101 u102 u103 u104 u105 u106 u107 u108 u109 u110 u111 u112 u113 u114 u115 u116 u117 u118 u119 u120 u121 u122 u123 u124 u125 u126 u127 u128 u129 u130 u131 u132 u133 u134 u135 u136 u137 u138 u139 u140 u141 u142 u143 u144 u145 u146 u147 u148 u149 u150 u151 u152 u153 u154 u155 u156 u157 u158 u159 u160 u161 u162 u163 u164 u165 u166 u167 u168 u169 u170 u171 u172 u173 u174 u175 u176 u177 u178 u179 u180 u181 u182 u183 u184 u185 u186 u187 u188 u189 u190 u191 u192 u193 u194 u195 u196 u197 u198 u199 u200 u201 u202 u203 u204 u205 u206 u207 u208 u209 u210 u211 u212 u213 u214 u215 u216 u217 u218 u219 u220 u221 u222 u223 u224 u225 u226 u227 u228 u229 u230 u231 u232 u233 u234 u235 u236 u237 u238 u239 u240 u241 u242 u243 u244 u245 u246 u247 u248 u249 u250 u251 u252 u253 u254 u255 u256 u257 u258 u259 u260 u261 u262 u263 u264 u265 u266 u267 u268 : Value} {w wr : World} {Av : Option Addr} {n cap b off tg s k nb capb : Nat} {kd on kn ln rk : Int} {Ao : Option Addr} {body : List UInt8}
    (hend : ∀ (v6 v7 v8 v9 v10 v11 v12 v13 v14 v15 v16 v17 v18 v19 v20 v39 v40 v41 v42 v43 v44 v45 v46 v47 v48 v49 v50 v51 v52 v53 v54 v55 v56 v57 v58 v59 v60 v61 v62 v63 v64 v65 v66 v67 v68 v69 v70 v71 v72 v73 v74 v75 v76 v77 v78 v79 v80 v81 v82 v83 v84 v85 v86 v87 v88 v89 v90 v91 v92 v93 v94 v95 v96 v97 v98 v99 v100 v101 v102 v103 v104 v105 v106 v107 v108 v109 v110 v111 v112 v113 v114 v115 v116 v117 v118 v119 v120 v121 v122 v123 v124 v125 v126 v127 v128 v129 v130 v131 v132 v133 v134 v135 v136 v137 v138 v139 v140 v141 v142 v143 v144 v145 v146 v147 v148 v149 v150 v151 v152 v153 v154 v155 v156 v157 v158 v159 v160 v161 v162 v163 v164 v165 v166 v167 v168 v169 v170 v171 v172 v173 v174 v175 v176 v177 v178 v179 v180 v181 v182 v183 v184 v185 v186 v187 v188 v189 v190 v191 v192 v193 v194 v195 v196 v197 v198 v199 v200 v201 v202 v203 v204 v205 v206 v207 v208 v209 v210 v211 v212 v213 v214 v215 v216 v217 v218 v219 v220 v221 v222 v223 v224 : Value) (wx : World), Ow w tg s (k + 1) wx → Q .normal (Act.mk #[.slice Av n cap, u1, u2, .pointer (some ⟨tg, 0, none⟩), .pointer (some ⟨s, 0, none⟩), .int .i64 (k : Int), v6, v7, v8, v9, v10, v11, v12, v13, v14, v15, v16, v17, v18, v19, v20, u21, u22, u23, u24, u25, u26, u27, u28, u29, u30, u31, u32, u33, u34, u35, u36, u37, u38, v39, v40, v41, v42, v43, v44, v45, v46, v47, v48, v49, v50, v51, v52, v53, v54, v55, v56, v57, v58, v59, v60, v61, v62, v63, v64, v65, v66, v67, v68, v69, v70, v71, v72, v73, v74, v75, v76, v77, v78, v79, v80, v81, v82, v83, v84, v85, v86, v87, v88, v89, v90, v91, v92, v93, v94, v95, v96, v97, v98, v99, v100, v101, v102, v103, v104, v105, v106, v107, v108, v109, v110, v111, v112, v113, v114, v115, v116, v117, v118, v119, v120, v121, v122, v123, v124, v125, v126, v127, v128, v129, v130, v131, v132, v133, v134, v135, v136, v137, v138, v139, v140, v141, v142, v143, v144, v145, v146, v147, v148, v149, v150, v151, v152, v153, v154, v155, v156, v157, v158, v159, v160, v161, v162, v163, v164, v165, v166, v167, v168, v169, v170, v171, v172, v173, v174, v175, v176, v177, v178, v179, v180, v181, v182, v183, v184, v185, v186, v187, v188, v189, v190, v191, v192, v193, v194, v195, v196, v197, v198, v199, v200, v201, v202, v203, v204, v205, v206, v207, v208, v209, v210, v211, v212, v213, v214, v215, v216, v217, v218, v219, v220, v221, v222, v223, v224, u225, u226, u227, u228, u229, u230, u231, u232, u233, u234, u235, u236, u237, u238, u239, u240, u241, u242, u243, u244, u245, u246, u247, u248, u249, u250, u251, u252, u253, u254, u255, u256, u257, u258, u259, u260, u261, u262, u263, u264, u265, u266, u267, u268] []) wx)
    (hAv : Av = some ⟨b, off, none⟩) (HOW : Hid (Ow w tg s k wr)) (HOP : Hid (OpAt wr w.heap.size b off k kd on kn ln rk Ao nb capb body)) (hk : k < 60) (hkn : k < n) (HT : Hid (Nibs w)) (h : kd = 7) : (((Tryd.f8.body).getD .skip).sub [true, true, true, true, false, true, false, false, true, false, false]).wp Tryd.prog Q (Act.mk #[.slice Av n cap, u1, u2, .pointer (some ⟨tg, 0, none⟩), .pointer (some ⟨s, 0, none⟩), .int .i64 (k : Int), u6, u7, u8, u9, u10, u11, u12, u13, u14, u15, u16, u17, u18, u19, u20, u21, u22, u23, u24, u25, u26, u27, u28, u29, u30, u31, u32, u33, u34, u35, u36, u37, u38, u39, u40, u41, u42, u43, u44, u45, u46, u47, u48, u49, u50, u51, u52, u53, u54, u55, u56, u57, u58, u59, u60, u61, u62, u63, u64, u65, u66, u67, u68, u69, u70, u71, u72, u73, u74, u75, u76, u77, u78, u79, u80, u81, u82, u83, u84, u85, u86, u87, u88, u89, u90, u91, u92, u93, u94, u95, u96, u97, u98, u99, u100, u101, u102, u103, u104, u105, u106, u107, u108, u109, u110, u111, u112, u113, u114, u115, u116, u117, u118, u119, u120, u121, u122, u123, u124, u125, u126, u127, u128, u129, u130, u131, u132, u133, u134, u135, u136, u137, u138, u139, u140, u141, u142, u143, u144, u145, u146, u147, u148, u149, u150, u151, u152, u153, u154, u155, u156, u157, u158, u159, u160, u161, u162, u163, u164, u165, u166, u167, u168, u169, u170, u171, u172, u173, u174, u175, u176, u177, u178, u179, u180, u181, u182, u183, u184, u185, u186, u187, u188, u189, u190, u191, u192, u193, u194, u195, u196, u197, u198, u199, u200, u201, u202, u203, u204, u205, u206, u207, u208, u209, u210, u211, u212, u213, u214, u215, u216, u217, u218, u219, u220, u221, u222, u223, u224, u225, u226, u227, u228, u229, u230, u231, u232, u233, u234, u235, u236, u237, u238, u239, u240, u241, u242, u243, u244, u245, u246, u247, u248, u249, u250, u251, u252, u253, u254, u255, u256, u257, u258, u259, u260, u261, u262, u263, u264, u265, u266, u267, u268] []) wr := by
  subst hAv
  have HKD := Lib.hid h
  clear h
  have HEND := Lib.hid hend
  clear hend
  obtain rfl := HOP.out.rd.lenB
  obtain ⟨jg, A0, c0, A1, c1, vb, j, f, file, vt, vm, T, M, hO⟩ := HOW.out
  obtain ⟨w1, hw1⟩ : ∃ x, x = wr.alloc (.cells #[.int .i64 kd, .int .i64 on, .int .i64 kn, .int .i64 ln, .int .i64 rk, .slice Ao body.length capb] 57) := ⟨_, rfl⟩
  have hb1 : Below wr.heap.size wr w1 := by rw [hw1]; exact one_box' _ _
  have hX1 : Blk w1 wr.heap.size 57 #[.int .i64 kd, .int .i64 on, .int .i64 kn, .int .i64 ln, .int .i64 rk, .slice Ao body.length capb] := by rw [hw1]; exact Blk.new _ _ _
  have HX1 := Lib.hid hX1
  have HB1 := Lib.hid hb1
  have HW1 := Lib.hid hw1
  have HR1 : Hid (Rn w wr w1 tg s k jg A0 c0 A1 c1 vb j f file vt vm T M wr.heap.size kd) := Lib.hid ⟨hO.d.over hb1, hO.st.over hb1, hO.ge, by have := hO.gen; omega, hO.few, by have := hO.rl; omega, hO.bw.trans (hb1.mono hO.bw.size), hb1.size, hO.rows, fun k t m h1 h2 => ⟨fun g hn hg => (hO.st.ok k t m h1 h2).tx.lt hn hg, fun g hn hg => (hO.st.ok k t m h1 h2).mo.lt hn hg⟩, ⟨hX1.isT, hX1.cell 0⟩, hO.bw.size, hO.bw.size⟩
  have HG := Lib.hid hO.g
  have HGN : Hid (j.gen ≤ 1 + k ∧ j.recs.length ≤ k) := Lib.hid ⟨hO.gen, hO.rl⟩
  have HNB : Hid (Nibs wr) := Lib.hid (HT.out.below hO.bw)
  have hbl : body.length ≤ 140737488351232 := by have := HOP.out.le; have := HOP.out.cap; omega
  have HRR : Hid (∀ W, Below wr.heap.size wr W → RdB W W.heap.size Ao body.length body) := Lib.hid fun W hW => ((HOP.out.rd.more hO.bw.size).below hW).more hW.size
  have x0 := HOP.out.c0
  have x1 := HOP.out.c1
  have x2 := HOP.out.c2
  have x3 := HOP.out.c3
  have x4 := HOP.out.c4
  have x5 := HOP.out.c5
  have hnI : (k : Int) < (n : Int) := by omega
  clear hO hw1 hb1 hX1
  refine tail_step (a := ((Tryd.f8.body).getD .skip).sub [true, true, true, true, false, true, false, false, true, false, false, false]) (b := ((Tryd.f8.body).getD .skip).sub [true, true, true, true, false, true, false, false, true, false, false, true]) (by kernel_rfl) (fun KT HKT => ?_); dsimp only [Tryd.f8, Option.getD, Code.sub]
  go_wp2_with fail
  rw [← HW1.out]
  clear x0 x1 x2 x3 x4 x5
  refine tail_step (a := ((Tryd.f8.body).getD .skip).sub [true, true, true, true, false, true, false, false, true, false, false, true, false]) (b := ((Tryd.f8.body).getD .skip).sub [true, true, true, true, false, true, false, false, true, false, false, true, true]) (by kernel_rfl) (fun KT HKT => ?_); dsimp only [Tryd.f8, Option.getD, Code.sub]
  go_wp2_with fail
  have x0 : w1.cell? ⟨wr.heap.size, 0, none⟩ = some (.int .i64 kd) := HX1.out.cell 0
  have h := HKD.out
  clear HKD
  subst h
  refine tail_step (a := ((Tryd.f8.body).getD .skip).sub [true, true, true, true, false, true, false, false, true, false, false, true, true, false]) (b := ((Tryd.f8.body).getD .skip).sub [true, true, true, true, false, true, false, false, true, false, false, true, true, true]) (by kernel_rfl) (fun KT HKT => ?_); dsimp only [Tryd.f8, Option.getD, Code.sub]
  refine calm_own ?_
  go_upto_region 16 with fail
  obtain ⟨wd, hwd⟩ : ∃ wd, wd = w1.drew := ⟨_, rfl⟩
  have hbd : Below w1.heap.size w1 wd := by rw [hwd]; exact below_drewN (Below.refl _ _) 1
  have HRD := Lib.hid (HR1.out.over hbd)
  have HJL : Hid (jg < wd.heap.size) := Lib.hid HRD.out.d.pj.lt
  have HXD := Lib.hid (HX1.out.over hbd)
  have HSB : Hid (∀ W, Below wd.heap.size wd W → W.cell? ⟨tg, 0, none⟩ = some (.pointer (some ⟨jg, 0, none⟩)) ∧ W.cell? ⟨wr.heap.size, 4, none⟩ = some (.int .i64 rk) ∧ W.cell? ⟨wr.heap.size, 5, none⟩ = some (.slice Ao body.length capb)) := Lib.hid fun W hW => ⟨(HRD.out.d.over hW).blk.cell 0, (HXD.out.over hW).cell 4, (HXD.out.over hW).cell 5⟩
  have HBD := Lib.hid (Below.then HB1.out hbd)
  have HCP := Lib.hid (copied_any rk Ao body.length capb body (HRR.out _ HBD.out) (by omega))
  have HWD := Lib.hid hwd
  clear hwd hbd
  refine wp_region_held_drew (S := fun W => W.cell? ⟨tg, 0, none⟩ = some (.pointer (some ⟨jg, 0, none⟩)) ∧ W.cell? ⟨wr.heap.size, 4, none⟩ = some (.int .i64 rk) ∧ W.cell? ⟨wr.heap.size, 5, none⟩ = some (.slice Ao body.length capb)) (by kernel_rfl) (by rw [← HWD.out]; exact HSB.out _ (Below.refl _ _)) (fun hsw => ?_)
  rw [← HWD.out] at hsw ⊢
  refine wpAnyH_take (i := 0) (oi := ?oi0ad) (v := ?v0ad) ?hi0ad (by kernel_rfl) (by kernel_rfl) (by kernel_rfl) ?hq0ad ?hy0ad (by assumption) ?rest0ad
  case hi0ad => (simp only [List.getElem?_toArray, List.getElem?_cons_zero]; rfl)
  case hy0ad => (refine Or.inl ⟨by rfl, ?_⟩; intro w hSw; (try dsimp only at hSw); go_simp; try with_reducible rfl)
  case hq0ad => exact fun _ _ _ h => h
  try simp only [Act.put, List.setIfInBounds_toArray, List.set_cons_zero, List.set_cons_succ]
  refine wpAnyH_take (i := 1) (oi := ?oi1ad) (v := ?v1ad) ?hi1ad (by kernel_rfl) (by kernel_rfl) (by kernel_rfl) ?hq1ad ?hy1ad (by assumption) ?rest1ad
  case hi1ad => (simp only [List.getElem?_toArray, List.getElem?_cons_zero, List.getElem?_cons_succ]; rfl)
  case hy1ad => (refine Or.inl ⟨by rfl, ?_⟩; intro w hSw; (try dsimp only at hSw); go_simp; try with_reducible rfl)
  case hq1ad => exact fun _ _ _ h => h
  try simp only [Act.put, List.setIfInBounds_toArray, List.set_cons_zero, List.set_cons_succ]
  refine wpAnyH_take (i := 2) (oi := ?oi2ad) (v := ?v2ad) ?hi2ad (by kernel_rfl) (by kernel_rfl) (by kernel_rfl) ?hq2ad ?hy2ad (by assumption) ?rest2ad
  case hi2ad => (simp only [List.getElem?_toArray, List.getElem?_cons_zero, List.getElem?_cons_succ]; rfl)
  case hy2ad => (refine Or.inl ⟨by rfl, ?_⟩; intro w hSw; (try dsimp only at hSw); go_simp; try with_reducible rfl)
  case hq2ad => exact fun _ _ _ h => h
  try simp only [Act.put, List.setIfInBounds_toArray, List.set_cons_zero, List.set_cons_succ]
  refine wpAnyH_take (i := 3) (oi := ?oi3ad) (v := ?v3ad) ?hi3ad (by kernel_rfl) (by kernel_rfl) (by kernel_rfl) ?hq3ad ?hy3ad (by assumption) ?rest3ad
  case hi3ad => (simp only [List.getElem?_toArray, List.getElem?_cons_zero, List.getElem?_cons_succ]; rfl)
  case hy3ad => (refine Or.inl ⟨by rfl, ?_⟩; intro w hSw; (try dsimp only at hSw); go_simp; try with_reducible rfl)
  case hq3ad => exact fun _ _ _ h => h
  try simp only [Act.put, List.setIfInBounds_toArray, List.set_cons_zero, List.set_cons_succ]
  refine wpAnyH_take (i := 4) (oi := ?oi4ad) (v := ?v4ad) ?hi4ad (by kernel_rfl) (by kernel_rfl) (by kernel_rfl) ?hq4ad ?hy4ad (by assumption) ?rest4ad
  case hi4ad => (simp only [List.getElem?_toArray, List.getElem?_cons_zero, List.getElem?_cons_succ]; rfl)
  case hy4ad => (refine Or.inl ⟨by rfl, ?_⟩; intro w hSw; (try dsimp only at hSw); go_simp; try with_reducible rfl)
  case hq4ad => exact fun _ _ _ h => h
  try simp only [Act.put, List.setIfInBounds_toArray, List.set_cons_zero, List.set_cons_succ]
  refine wpAnyH_take (i := 5) (oi := ?oi5ad) (v := ?v5ad) ?hi5ad (by kernel_rfl) (by kernel_rfl) (by kernel_rfl) ?hq5ad ?hy5ad (by assumption) ?rest5ad
  case hi5ad => (simp only [List.getElem?_toArray, List.getElem?_cons_zero, List.getElem?_cons_succ]; rfl)
  case hy5ad => (refine Or.inl ⟨by rfl, ?_⟩; intro w hSw; (try dsimp only at hSw); go_simp; try with_reducible rfl)
  case hq5ad => exact fun _ _ _ h => h
  try simp only [Act.put, List.setIfInBounds_toArray, List.set_cons_zero, List.set_cons_succ]
  refine wpAnyH_ready (rs := [6]) (by kernel_rfl) (by simp) ?_
  refine AllReadyH.cons (o := ?o6bd) ?ho6bd (fun K hK => ?st6bd) ?mo6bd
  case ho6bd => (simp only [List.getElem?_toArray, List.getElem?_cons_zero, List.getElem?_cons_succ]; rfl)
  case mo6bd => exact AllReadyH.nil
  go_simp
  refine HCP.out.mono ?_
  rintro _ w2 ⟨A2, q2, rfl, ho2, hb2⟩
  have H2 := Lib.hid (And.intro ho2 hb2)
  clear ho2 hb2
  have HD2 := Lib.hid (HRD.out.d.over H2.out.2)
  have HR2 := Lib.hid (HRD.out.over H2.out.2)
  have HN2 : Hid (Nibs w2) := Lib.hid ((HNB.out.below HBD.out).below H2.out.2)
  go_simp
  refine hK.out _ _ (HSB.out _ H2.out.2) (fun _ => ?_)
  clear hK K
  try simp only [Act.put, List.setIfInBounds_toArray, List.set_cons_zero, List.set_cons_succ]
  obtain ⟨xx, HXA⟩ : ∃ x, Hid (j.compact ⟨rk, body⟩ = x) := ⟨_, Lib.hid rfl⟩
  have hq2 : body.length ≤ q2 := by obtain ⟨_, _, e, h1, _⟩ := own_shape H2.out.1; injection e with _ _ e; omega
  have HAP := Lib.hid (Compact_any (w := w2) rk A2 body.length q2 body HD2.out.pj HG.out.fine.file HG.out.fine.gen.2 hq2 (Rd.of_own H2.out.1) (by omega) (fun h0 b' o' s' e => by
    obtain ⟨g', _, _, e', hb', _⟩ := own_parts H2.out.1 h0
    injection e' with e' _ _
    rw [e] at e'
    injection e' with e'
    injection e' with e' _
    have := HJL.out
    omega) HN2.out (by
    obtain ⟨sj, hBj, _⟩ := HD2.out.pj.blk
    exact HN2.out.off hBj rfl))
  rw [HXA.out] at HAP
  refine wpAnyH_ready (rs := [7]) (by kernel_rfl) (by simp) ?_
  refine AllReadyH.cons (o := ?o7cd) ?ho7cd (fun K hK => ?st7cd) ?mo7cd
  case ho7cd => (simp only [List.getElem?_toArray, List.getElem?_cons_zero, List.getElem?_cons_succ]; rfl)
  case mo7cd => exact AllReadyH.nil
  go_simp
  refine HAP.out.mono ?_
  rintro _ w3 ⟨va, rfl, hp3, ho3, hc3⟩
  obtain ⟨Aa, capa, rfl⟩ := ho3.shapeN
  have H3 := Lib.hid (And.intro hp3 (And.intro ho3 hc3))
  clear hp3 ho3 hc3 HAP
  have HD3 := Lib.hid (HD2.out.jour H3.out.2.2 H3.out.1)
  have HX3 : Hid (CellT w3 57 ⟨wr.heap.size, 4, none⟩ (.int .i64 rk) ∧ CellT w3 57 ⟨wr.heap.size, 5, none⟩ (.slice Ao body.length capb)) := by
    have h1 := HXD.out.over H2.out.2
    obtain ⟨sj, hBj, _⟩ := HD2.out.pj.blk
    have hne : ¬ wr.heap.size = jg := fun e => by
      subst e
      exact absurd (hBj.isT.eq_ h1.isT) (by decide)
    exact Lib.hid ⟨CellT.chg ⟨h1.isT, h1.cell 4⟩ H3.out.2.2 hne, CellT.chg ⟨h1.isT, h1.cell 5⟩ H3.out.2.2 hne⟩
  go_simp
  refine hK.out _ _ ⟨HD3.out.blk.cell 0, HX3.out.1.cell, HX3.out.2.cell⟩ (fun _ => ?_)
  clear hK K hsw
  try simp only [Act.put, List.setIfInBounds_toArray, List.set_cons_zero, List.set_cons_succ]
  refine wpAnyH_take (i := 8) (oi := ?oi8dd) (v := ?v8dd) ?hi8dd (by kernel_rfl) (by kernel_rfl) (by kernel_rfl) ?hq8dd ?hy8dd (by assumption) ?rest8dd
  case hi8dd => (simp only [List.getElem?_toArray, List.getElem?_cons_zero, List.getElem?_cons_succ]; rfl)
  case hy8dd => (refine Or.inl ⟨by rfl, ?_⟩; intro w hSw; (try dsimp only at hSw); go_simp; try with_reducible rfl)
  case hq8dd => exact fun _ _ _ h => h
  try simp only [Act.put, List.setIfInBounds_toArray, List.set_cons_zero, List.set_cons_succ]
  refine wpAnyH_take (i := 9) (oi := ?oi9dd) (v := ?v9dd) ?hi9dd (by kernel_rfl) (by kernel_rfl) (by kernel_rfl) ?hq9dd ?hy9dd (by assumption) ?rest9dd
  case hi9dd => (simp only [List.getElem?_toArray, List.getElem?_cons_zero, List.getElem?_cons_succ]; rfl)
  case hy9dd => (refine Or.inl ⟨by rfl, ?_⟩; intro w hSw; (try dsimp only at hSw); go_simp; try with_reducible rfl)
  case hq9dd => exact fun _ _ _ h => h
  try simp only [Act.put, List.setIfInBounds_toArray, List.set_cons_zero, List.set_cons_succ]
  refine wpAnyH_take (i := 10) (oi := ?oi10dd) (v := ?v10dd) ?hi10dd (by kernel_rfl) (by kernel_rfl) (by kernel_rfl) ?hq10dd ?hy10dd (by assumption) ?rest10dd
  case hi10dd => (simp only [List.getElem?_toArray, List.getElem?_cons_zero, List.getElem?_cons_succ]; rfl)
  case hy10dd => (refine Or.inl ⟨by rfl, ?_⟩; intro w hSw; (try dsimp only at hSw); go_simp; try with_reducible rfl)
  case hq10dd => exact fun _ _ _ h => h
  try simp only [Act.put, List.setIfInBounds_toArray, List.set_cons_zero, List.set_cons_succ]
  refine wpAnyH_take (i := 11) (oi := ?oi11dd) (v := ?v11dd) ?hi11dd (by kernel_rfl) (by kernel_rfl) (by kernel_rfl) ?hq11dd ?hy11dd (by assumption) ?rest11dd
  case hi11dd => (simp only [List.getElem?_toArray, List.getElem?_cons_zero, List.getElem?_cons_succ]; rfl)
  case hy11dd => (refine Or.inl ⟨by rfl, ?_⟩; intro w hSw; (try dsimp only at hSw); go_simp; try with_reducible rfl)
  case hq11dd => exact fun _ _ _ h => h
  try simp only [Act.put, List.setIfInBounds_toArray, List.set_cons_zero, List.set_cons_succ]
  refine wpAnyH_done (by kernel_rfl) ?_ _
  go_wp2_with fail
  have hst := compact_stp HG.out (by have := HGN.out; omega) ⟨rk, body⟩
  rw [HXA.out] at hst
  have hgn := HGN.out
  exact own_17 HEND.out (Lib.hid (HR2.out.desk HD3.out (H3.out.2.2.mono fun q _ e => .inr e) (.inl rfl) (by have := hst.gen; omega) (by have := hst.rl; omega))) (Lib.hid ⟨hst.good, rfl⟩) (Lib.hid HG.out.half.la) (Lib.hid ⟨H3.out.2.1, hst.cost, hst.bs⟩) (Lib.hid ⟨(Below.then HBD.out H2.out.2).size, H3.out.2.2.size⟩) hk HT
set_option maxRecDepth 100000 in
set_option maxHeartbeats 6400000 in
theorem own_8e {Q : Exit → Act → World → Prop} {u1 u2 u6 u7 u8 u9 u10 u11 u12 u13 u14 u15 u16 u17 u18 u19 u20 u21 u22 u23 u24 u25 u26 u27 u28 u29 u30 u31 u32 u33 u34 u35 u36 u37 u38 u39 u40 u41 u42 u43 u44 u45 u46 u47 u48 u49 u50 u51 u52 u53 u54 u55 u56 u57 u58 u59 u60 u61 u62 u63 u64 u65 u66 u67 u68 u69 u70 u71 u72 u73 u74 u75 u76 u77 u78 u79 u80 u81 u82 u83 u84 u85 u86 u87 u88 u89 u90 u91 u92 u93 u94 u95 u96 u97 u98 u99 u100 u101 u102 u103 u104 u105 u106 u107 u108 u109 u110 u111 u112 u113 u114 u115 u116 u117 u118 u119 u120 u121 u122 u123 u124 u125 u126 u127 u128 u129 u130 u131 u132 u133 u134 u135 u136 u137 u138 u139 u140 u141 u142 u143 u144 u145 u146 u147 u148 u149 u150 u151 u152 u153 u154 u155 u156 u157 u158 u159 u160 u161 u162 u163 u164 u165 u166 u167 u168 u169 u170 u171 u172 u173 u174 u175 u176 u177 u178 u179 u180 u181 u182 u183 u184 u185 u186 u187 u188 u189 u190 u191 u192 u193 u194 u195 u196 u197 u198 u199 u200 u201 u202 u203 u204 u205 u206 u207 u208 u209 u210 u211 u212 u213 u214 u215 u216 u217 u218 u219 u220 u221 u222 u223 u224 u225 u226 u227 u228 u229 u230 u231 u232 u233 u234 u235 u236 u237 u238 u239 u240 u241 u242 u243 u244 u245 u246 u247 u248 u249 u250 u251 u252 u253 u254 u255 u256 u257 u258 u259 u260 u261 u262 u263 u264 u265 u266 u267 u268 : Value} {w wr : World} {Av : Option Addr} {n cap b off tg s k nb capb : Nat} {kd on kn ln rk : Int} {Ao : Option Addr} {body : List UInt8}
    (hend : ∀ (v6 v7 v8 v9 v10 v11 v12 v13 v14 v15 v16 v17 v18 v19 v20 v39 v40 v41 v42 v43 v44 v45 v46 v47 v48 v49 v50 v51 v52 v53 v54 v55 v56 v57 v58 v59 v60 v61 v62 v63 v64 v65 v66 v67 v68 v69 v70 v71 v72 v73 v74 v75 v76 v77 v78 v79 v80 v81 v82 v83 v84 v85 v86 v87 v88 v89 v90 v91 v92 v93 v94 v95 v96 v97 v98 v99 v100 v101 v102 v103 v104 v105 v106 v107 v108 v109 v110 v111 v112 v113 v114 v115 v116 v117 v118 v119 v120 v121 v122 v123 v124 v125 v126 v127 v128 v129 v130 v131 v132 v133 v134 v135 v136 v137 v138 v139 v140 v141 v142 v143 v144 v145 v146 v147 v148 v149 v150 v151 v152 v153 v154 v155 v156 v157 v158 v159 v160 v161 v162 v163 v164 v165 v166 v167 v168 v169 v170 v171 v172 v173 v174 v175 v176 v177 v178 v179 v180 v181 v182 v183 v184 v185 v186 v187 v188 v189 v190 v191 v192 v193 v194 v195 v196 v197 v198 v199 v200 v201 v202 v203 v204 v205 v206 v207 v208 v209 v210 v211 v212 v213 v214 v215 v216 v217 v218 v219 v220 v221 v222 v223 v224 : Value) (wx : World), Ow w tg s (k + 1) wx → Q .normal (Act.mk #[.slice Av n cap, u1, u2, .pointer (some ⟨tg, 0, none⟩), .pointer (some ⟨s, 0, none⟩), .int .i64 (k : Int), v6, v7, v8, v9, v10, v11, v12, v13, v14, v15, v16, v17, v18, v19, v20, u21, u22, u23, u24, u25, u26, u27, u28, u29, u30, u31, u32, u33, u34, u35, u36, u37, u38, v39, v40, v41, v42, v43, v44, v45, v46, v47, v48, v49, v50, v51, v52, v53, v54, v55, v56, v57, v58, v59, v60, v61, v62, v63, v64, v65, v66, v67, v68, v69, v70, v71, v72, v73, v74, v75, v76, v77, v78, v79, v80, v81, v82, v83, v84, v85, v86, v87, v88, v89, v90, v91, v92, v93, v94, v95, v96, v97, v98, v99, v100, v101, v102, v103, v104, v105, v106, v107, v108, v109, v110, v111, v112, v113, v114, v115, v116, v117, v118, v119, v120, v121, v122, v123, v124, v125, v126, v127, v128, v129, v130, v131, v132, v133, v134, v135, v136, v137, v138, v139, v140, v141, v142, v143, v144, v145, v146, v147, v148, v149, v150, v151, v152, v153, v154, v155, v156, v157, v158, v159, v160, v161, v162, v163, v164, v165, v166, v167, v168, v169, v170, v171, v172, v173, v174, v175, v176, v177, v178, v179, v180, v181, v182, v183, v184, v185, v186, v187, v188, v189, v190, v191, v192, v193, v194, v195, v196, v197, v198, v199, v200, v201, v202, v203, v204, v205, v206, v207, v208, v209, v210, v211, v212, v213, v214, v215, v216, v217, v218, v219, v220, v221, v222, v223, v224, u225, u226, u227, u228, u229, u230, u231, u232, u233, u234, u235, u236, u237, u238, u239, u240, u241, u242, u243, u244, u245, u246, u247, u248, u249, u250, u251, u252, u253, u254, u255, u256, u257, u258, u259, u260, u261, u262, u263, u264, u265, u266, u267, u268] []) wx)
    (hAv : Av = some ⟨b, off, none⟩) (HOW : Hid (Ow w tg s k wr)) (HOP : Hid (OpAt wr w.heap.size b off k kd on kn ln rk Ao nb capb body)) (hk : k < 60) (hkn : k < n) (HT : Hid (Nibs w)) (h1 : kd ≠ 1) (h6 : kd ≠ 6) (h2 : kd ≠ 2) (h7 : kd ≠ 7) : (((Tryd.f8.body).getD .skip).sub [true, true, true, true, false, true, false, false, true, false, false]).wp Tryd.prog Q (Act.mk #[.slice Av n cap, u1, u2, .pointer (some ⟨tg, 0, none⟩), .pointer (some ⟨s, 0, none⟩), .int .i64 (k : Int), u6, u7, u8, u9, u10, u11, u12, u13, u14, u15, u16, u17, u18, u19, u20, u21, u22, u23, u24, u25, u26, u27, u28, u29, u30, u31, u32, u33, u34, u35, u36, u37, u38, u39, u40, u41, u42, u43, u44, u45, u46, u47, u48, u49, u50, u51, u52, u53, u54, u55, u56, u57, u58, u59, u60, u61, u62, u63, u64, u65, u66, u67, u68, u69, u70, u71, u72, u73, u74, u75, u76, u77, u78, u79, u80, u81, u82, u83, u84, u85, u86, u87, u88, u89, u90, u91, u92, u93, u94, u95, u96, u97, u98, u99, u100, u101, u102, u103, u104, u105, u106, u107, u108, u109, u110, u111, u112, u113, u114, u115, u116, u117, u118, u119, u120, u121, u122, u123, u124, u125, u126, u127, u128, u129, u130, u131, u132, u133, u134, u135, u136, u137, u138, u139, u140, u141, u142, u143, u144, u145, u146, u147, u148, u149, u150, u151, u152, u153, u154, u155, u156, u157, u158, u159, u160, u161, u162, u163, u164, u165, u166, u167, u168, u169, u170, u171, u172, u173, u174, u175, u176, u177, u178, u179, u180, u181, u182, u183, u184, u185, u186, u187, u188, u189, u190, u191, u192, u193, u194, u195, u196, u197, u198, u199, u200, u201, u202, u203, u204, u205, u206, u207, u208, u209, u210, u211, u212, u213, u214, u215, u216, u217, u218, u219, u220, u221, u222, u223, u224, u225, u226, u227, u228, u229, u230, u231, u232, u233, u234, u235, u236, u237, u238, u239, u240, u241, u242, u243, u244, u245, u246, u247, u248, u249, u250, u251, u252, u253, u254, u255, u256, u257, u258, u259, u260, u261, u262, u263, u264, u265, u266, u267, u268] []) wr := by
  subst hAv
  have HEND := Lib.hid hend
  clear hend
  obtain rfl := HOP.out.rd.lenB
  obtain ⟨jg, A0, c0, A1, c1, vb, j, f, file, vt, vm, T, M, hO⟩ := HOW.out
  obtain ⟨w1, hw1⟩ : ∃ x, x = wr.alloc (.cells #[.int .i64 kd, .int .i64 on, .int .i64 kn, .int .i64 ln, .int .i64 rk, .slice Ao body.length capb] 57) := ⟨_, rfl⟩
  have hb1 : Below wr.heap.size wr w1 := by rw [hw1]; exact one_box' _ _
  have hX1 : Blk w1 wr.heap.size 57 #[.int .i64 kd, .int .i64 on, .int .i64 kn, .int .i64 ln, .int .i64 rk, .slice Ao body.length capb] := by rw [hw1]; exact Blk.new _ _ _
  have HX1 := Lib.hid hX1
  have HB1 := Lib.hid hb1
  have HW1 := Lib.hid hw1
  have HR1 : Hid (Rn w wr w1 tg s k jg A0 c0 A1 c1 vb j f file vt vm T M wr.heap.size kd) := Lib.hid ⟨hO.d.over hb1, hO.st.over hb1, hO.ge, by have := hO.gen; omega, hO.few, by have := hO.rl; omega, hO.bw.trans (hb1.mono hO.bw.size), hb1.size, hO.rows, fun k t m h1 h2 => ⟨fun g hn hg => (hO.st.ok k t m h1 h2).tx.lt hn hg, fun g hn hg => (hO.st.ok k t m h1 h2).mo.lt hn hg⟩, ⟨hX1.isT, hX1.cell 0⟩, hO.bw.size, hO.bw.size⟩
  have HG := Lib.hid hO.g
  have HGN : Hid (j.gen ≤ 1 + k ∧ j.recs.length ≤ k) := Lib.hid ⟨hO.gen, hO.rl⟩
  have HNB : Hid (Nibs wr) := Lib.hid (HT.out.below hO.bw)
  have hbl : body.length ≤ 140737488351232 := by have := HOP.out.le; have := HOP.out.cap; omega
  have HRR : Hid (∀ W, Below wr.heap.size wr W → RdB W W.heap.size Ao body.length body) := Lib.hid fun W hW => ((HOP.out.rd.more hO.bw.size).below hW).more hW.size
  have x0 := HOP.out.c0
  have x1 := HOP.out.c1
  have x2 := HOP.out.c2
  have x3 := HOP.out.c3
  have x4 := HOP.out.c4
  have x5 := HOP.out.c5
  have hnI : (k : Int) < (n : Int) := by omega
  clear hO hw1 hb1 hX1
  refine tail_step (a := ((Tryd.f8.body).getD .skip).sub [true, true, true, true, false, true, false, false, true, false, false, false]) (b := ((Tryd.f8.body).getD .skip).sub [true, true, true, true, false, true, false, false, true, false, false, true]) (by kernel_rfl) (fun KT HKT => ?_); dsimp only [Tryd.f8, Option.getD, Code.sub]
  go_wp2_with fail
  rw [← HW1.out]
  clear x0 x1 x2 x3 x4 x5
  refine tail_step (a := ((Tryd.f8.body).getD .skip).sub [true, true, true, true, false, true, false, false, true, false, false, true, false]) (b := ((Tryd.f8.body).getD .skip).sub [true, true, true, true, false, true, false, false, true, false, false, true, true]) (by kernel_rfl) (fun KT HKT => ?_); dsimp only [Tryd.f8, Option.getD, Code.sub]
  go_wp2_with fail
  have x0 : w1.cell? ⟨wr.heap.size, 0, none⟩ = some (.int .i64 kd) := HX1.out.cell 0
  have b1 : (kd == 1) = false := by simpa using h1
  have b6 : (kd == 6) = false := by simpa using h6
  have b2 : (kd == 2) = false := by simpa using h2
  have b7 : (kd == 7) = false := by simpa using h7
  clear h1 h6 h2 h7
  refine tail_step (a := ((Tryd.f8.body).getD .skip).sub [true, true, true, true, false, true, false, false, true, false, false, true, true, false]) (b := ((Tryd.f8.body).getD .skip).sub [true, true, true, true, false, true, false, false, true, false, false, true, true, true]) (by kernel_rfl) (fun KT HKT => ?_); dsimp only [Tryd.f8, Option.getD, Code.sub]
  go_wp2_with fail
  exact own_17 (ws := []) HEND.out HR1 (Lib.hid ⟨HG.out, rfl⟩) (Lib.hid HG.out.half.la) (Lib.hid ⟨WOut.nil, by simp [costW], fun x hx => by cases hx⟩) (Lib.hid ⟨HB1.out.size, Nat.le_refl _⟩) hk HT
end Go.Proofs.YtpkdalpjfcopbaaDoor
