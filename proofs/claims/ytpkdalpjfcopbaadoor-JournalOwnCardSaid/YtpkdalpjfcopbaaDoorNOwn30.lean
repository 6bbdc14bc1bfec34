/-
  JournalOwn's round: all lists are put into the store. And: JournalOwn's round: its last test.
-/
import Derived.Test.YtpkdalpjfcopbaaDoorNOwnA
namespace Go.Proofs.YtpkdalpjfcopbaaDoor
open Go.RowKit
set_option maxRecDepth 100000 in
set_option maxHeartbeats 6400000 in
theorem own_32 {Q : Exit → Act → World → Prop} {u1 u2 u6 u7 u8 u9 u10 u11 u12 u13 u14 u15 u16 u17 u21 u22 u23 u24 u25 u26 u27 u28 u29 u30 u31 u32 u33 u34 u35 u36 u37 u38 u39 u40 u41 u42 u43 u44 u45 u46 u47 u48 u49 u50 u51 u52 u53 u54 u55 u56 u57 u58 u59 u60 u61 u62 u63 u64 u65 u66 u67 u68 u69 u70 u71 u72 u73 u74 u75 u76 u77 u78 u79 u80 u81 u82 u83 u84 u85 u86 u87 u88 u89 u90 u91 u92 u93 u94 u95 u96 u97 u98 u99 u100 u101 u102 u103 u104 u105 u106 u107 u108 u109 u110 u111 u112 u113 u114 u115 u116 u117 u118 u119 u120 u121 u122 u123 u124 u125 u126 u127 u128 u129 u130 u131 u132 u133 u134 u135 u136 u137 u138 u139 u140 u141 u142 u143 u144 u145 u146 u147 u148 u149 u150 u151 u152 u153 u154 u155 u156 u157 u158 u159 u160 u161 u162 u163 u164 u165 u166 u167 u168 u169 u170 u171 u172 u173 u174 u175 u176 u177 u178 u179 u180 u181 u182 u183 u184 u185 u186 u187 u188 u189 u190 u191 u192 u193 u194 u195 u196 u197 u198 u199 u200 u201 u202 u203 u204 u205 u206 u207 u208 u209 u210 u211 u212 u213 u214 u215 u216 u217 u218 u219 u220 u221 u222 u223 u224 u225 u226 u227 u228 u229 u230 u231 u232 u233 u234 u235 u236 u237 u238 u239 u240 u241 u242 u243 u244 u245 u246 u247 u248 u249 u250 u251 u252 u253 u254 u255 u256 u257 u258 u259 u260 u261 u262 u263 u264 u265 u266 u267 u268 : Value} {w wr : World} {Av Aq A0 A1 Ka Kb : Option Addr} {n cap tg s k jg c0 c1 cq D ka kb fr : Nat} {vb vt vm : Value} {j : JP} {f : Fls} {file : Int} {T M : List Tv}
    (hend : ∀ (v6 v7 v8 v9 v10 v11 v12 v13 v14 v15 v16 v17 v18 v19 v20 v39 v40 v41 v42 v43 v44 v45 v46 v47 v48 v49 v50 v51 v52 v53 v54 v55 v56 v57 v58 v59 v60 v61 v62 v63 v64 v65 v66 v67 v68 v69 v70 v71 v72 v73 v74 v75 v76 v77 v78 v79 v80 v81 v82 v83 v84 v85 v86 v87 v88 v89 v90 v91 v92 v93 v94 v95 v96 v97 v98 v99 v100 v101 v102 v103 v104 v105 v106 v107 v108 v109 v110 v111 v112 v113 v114 v115 v116 v117 v118 v119 v120 v121 v122 v123 v124 v125 v126 v127 v128 v129 v130 v131 v132 v133 v134 v135 v136 v137 v138 v139 v140 v141 v142 v143 v144 v145 v146 v147 v148 v149 v150 v151 v152 v153 v154 v155 v156 v157 v158 v159 v160 v161 v162 v163 v164 v165 v166 v167 v168 v169 v170 v171 v172 v173 v174 v175 v176 v177 v178 v179 v180 v181 v182 v183 v184 v185 v186 v187 v188 v189 v190 v191 v192 v193 v194 v195 v196 v197 v198 v199 v200 v201 v202 v203 v204 v205 v206 v207 v208 v209 v210 v211 v212 v213 v214 v215 v216 v217 v218 v219 v220 v221 v222 v223 v224 : Value) (wx : World), Ow w tg s (k + 1) wx → Q .normal (Act.mk #[.slice Av n cap, u1, u2, .pointer (some ⟨tg, 0, none⟩), .pointer (some ⟨s, 0, none⟩), .int .i64 (k : Int), v6, v7, v8, v9, v10, v11, v12, v13, v14, v15, v16, v17, v18, v19, v20, u21, u22, u23, u24, u25, u26, u27, u28, u29, u30, u31, u32, u33, u34, u35, u36, u37, u38, v39, v40, v41, v42, v43, v44, v45, v46, v47, v48, v49, v50, v51, v52, v53, v54, v55, v56, v57, v58, v59, v60, v61, v62, v63, v64, v65, v66, v67, v68, v69, v70, v71, v72, v73, v74, v75, v76, v77, v78, v79, v80, v81, v82, v83, v84, v85, v86, v87, v88, v89, v90, v91, v92, v93, v94, v95, v96, v97, v98, v99, v100, v101, v102, v103, v104, v105, v106, v107, v108, v109, v110, v111, v112, v113, v114, v115, v116, v117, v118, v119, v120, v121, v122, v123, v124, v125, v126, v127, v128, v129, v130, v131, v132, v133, v134, v135, v136, v137, v138, v139, v140, v141, v142, v143, v144, v145, v146, v147, v148, v149, v150, v151, v152, v153, v154, v155, v156, v157, v158, v159, v160, v161, v162, v163, v164, v165, v166, v167, v168, v169, v170, v171, v172, v173, v174, v175, v176, v177, v178, v179, v180, v181, v182, v183, v184, v185, v186, v187, v188, v189, v190, v191, v192, v193, v194, v195, v196, v197, v198, v199, v200, v201, v202, v203, v204, v205, v206, v207, v208, v209, v210, v211, v212, v213, v214, v215, v216, v217, v218, v219, v220, v221, v222, v223, v224, u225, u226, u227, u228, u229, u230, u231, u232, u233, u234, u235, u236, u237, u238, u239, u240, u241, u242, u243, u244, u245, u246, u247, u248, u249, u250, u251, u252, u253, u254, u255, u256, u257, u258, u259, u260, u261, u262, u263, u264, u265, u266, u267, u268] []) wx)
    (HO : Hid (OwAt w wr tg s (k + 1) jg A0 c0 A1 c1 vb j f file vt vm T M)) (HQ : Hid (RcRd wr (fun _ => False) Aq j.recs.length j.recs)) (HK : Hid (Blk wr D 24 #[.slice Ka f.a.length ka, .slice Kb f.b.length kb] ∧ RdB wr wr.heap.size Ka f.a.length f.a ∧ RdB wr wr.heap.size Kb f.b.length f.b))
    (hfr : fr ≤ T.length) (HT : Hid (Nibs w)) : (((Tryd.f8.body).getD .skip).sub [true, true, true, true, false, true, false, false, true, false, false, true, true, true, true, true, true, true, true, true, true, true, true, true, true, true]).wp Tryd.prog Q (Act.mk #[.slice Av n cap, u1, u2, .pointer (some ⟨tg, 0, none⟩), .pointer (some ⟨s, 0, none⟩), .int .i64 (k : Int), u6, u7, u8, u9, u10, u11, u12, u13, u14, u15, u16, u17, .slice Aq j.recs.length cq, .pointer (some ⟨D, 0, none⟩), .int .i64 (fr : Int), u21, u22, u23, u24, u25, u26, u27, u28, u29, u30, u31, u32, u33, u34, u35, u36, u37, u38, u39, u40, u41, u42, u43, u44, u45, u46, u47, u48, u49, u50, u51, u52, u53, u54, u55, u56, u57, u58, u59, u60, u61, u62, u63, u64, u65, u66, u67, u68, u69, u70, u71, u72, u73, u74, u75, u76, u77, u78, u79, u80, u81, u82, u83, u84, u85, u86, u87, u88, u89, u90, u91, u92, u93, u94, u95, u96, u97, u98, u99, u100, u101, u102, u103, u104, u105, u106, u107, u108, u109, u110, u111, u112, u113, u114, u115, u116, u117, u118, u119, u120, u121, u122, u123, u124, u125, u126, u127, u128, u129, u130, u131, u132, u133, u134, u135, u136, u137, u138, u139, u140, u141, u142, u143, u144, u145, u146, u147, u148, u149, u150, u151, u152, u153, u154, u155, u156, u157, u158, u159, u160, u161, u162, u163, u164, u165, u166, u167, u168, u169, u170, u171, u172, u173, u174, u175, u176, u177, u178, u179, u180, u181, u182, u183, u184, u185, u186, u187, u188, u189, u190, u191, u192, u193, u194, u195, u196, u197, u198, u199, u200, u201, u202, u203, u204, u205, u206, u207, u208, u209, u210, u211, u212, u213, u214, u215, u216, u217, u218, u219, u220, u221, u222, u223, u224, u225, u226, u227, u228, u229, u230, u231, u232, u233, u234, u235, u236, u237, u238, u239, u240, u241, u242, u243, u244, u245, u246, u247, u248, u249, u250, u251, u252, u253, u254, u255, u256, u257, u258, u259, u260, u261, u262, u263, u264, u265, u266, u267, u268] []) wr := by
  have HEND := Lib.hid hend
  clear hend
  refine tail_step (a := ((Tryd.f8.body).getD .skip).sub [true, true, true, true, false, true, false, false, true, false, false, true, true, true, true, true, true, true, true, true, true, true, true, true, true, true, false]) (b := ((Tryd.f8.body).getD .skip).sub [true, true, true, true, false, true, false, false, true, false, false, true, true, true, true, true, true, true, true, true, true, true, true, true, true, true, true]) (by kernel_rfl) (fun KT HKT => ?_); dsimp only [Tryd.f8, Option.getD, Code.sub]
  obtain ⟨wd, hwd⟩ : ∃ wd, wd = wr.drew := ⟨_, rfl⟩
  have hbd : Below wr.heap.size wr wd := by rw [hwd]; exact below_drewN (Below.refl _ _) 1
  have HB := Lib.hid hbd
  have hrl := recs_le HO.out.g
  have HS : Hid (∀ W, Below wd.heap.size wd W → (W.cell? ⟨D, 0, none⟩ = some (.slice Ka f.a.length ka) ∧ W.cell? ⟨D, 1, none⟩ = some (.slice Kb f.b.length kb)) ∧ (W.cell? ⟨tg, 1, none⟩ = some (.slice A0 f.a.length c0) ∧ W.cell? ⟨tg, 2, none⟩ = some (.slice A1 f.b.length c1))) := by
    refine Lib.hid fun W hW => ?_
    have h1 := HK.out.1.over (Below.then hbd hW)
    have h2 := HO.out.d.blk.over (Below.then hbd hW)
    exact ⟨⟨h1.cell 0, h1.cell 1⟩, h2.cell 1, h2.cell 2⟩
  have HDD := Lib.hid (HO.out.d.over hbd)
  have HDK := Lib.hid (disks_yes (w := wd) Ka A0 Kb A1 ka c0 kb c1 f.a f.b (HK.out.2.1.over hbd) (HK.out.2.2.over hbd) (Rd.of_own HDD.out.o0) (Rd.of_own HDD.out.o1))
  have HWD := Lib.hid hwd
  have HNB : Hid (Nibs wd) := Lib.hid ((HT.out.below HO.out.bw).below hbd)
  have HLA := Lib.hid HO.out.g.half.la
  clear hwd hbd
  refine calm_own ?_
  refine wp_region_held_drew (S := fun W : World => (W.cell? ⟨D, 0, none⟩ = some (.slice Ka f.a.length ka) ∧ W.cell? ⟨D, 1, none⟩ = some (.slice Kb f.b.length kb)) ∧ (W.cell? ⟨tg, 1, none⟩ = some (.slice A0 f.a.length c0) ∧ W.cell? ⟨tg, 2, none⟩ = some (.slice A1 f.b.length c1))) (by kernel_rfl) (by rw [← HWD.out]; exact HS.out _ (Below.refl _ _)) (fun hsw => ?_)
  rw [← HWD.out] at hsw ⊢
  refine wpAnyH_take (i := 0) (oi := ?oi0a) (v := ?v0a) ?hi0a (by kernel_rfl) (by kernel_rfl) (by kernel_rfl) ?hq0a ?hy0a (by assumption) ?rest0a
  case hi0a => (simp only [List.getElem?_toArray, List.getElem?_cons_zero]; rfl)
  case hy0a => (refine Or.inl ⟨by rfl, ?_⟩; intro w hSw; (try dsimp only at hSw); go_simp; try with_reducible rfl)
  case hq0a => exact fun _ _ _ h => h
  try simp only [Act.put, List.setIfInBounds_toArray, List.set_cons_zero, List.set_cons_succ]
  refine wpAnyH_take (i := 1) (oi := ?oi1a) (v := ?v1a) ?hi1a (by kernel_rfl) (by kernel_rfl) (by kernel_rfl) ?hq1a ?hy1a (by assumption) ?rest1a
  case hi1a => (simp only [List.getElem?_toArray, List.getElem?_cons_zero, List.getElem?_cons_succ]; rfl)
  case hy1a => (refine Or.inl ⟨by rfl, ?_⟩; intro w hSw; (try dsimp only at hSw); go_simp; try with_reducible rfl)
  case hq1a => exact fun _ _ _ h => h
  try simp only [Act.put, List.setIfInBounds_toArray, List.set_cons_zero, List.set_cons_succ]
  refine wpAnyH_take (i := 2) (oi := ?oi2a) (v := ?v2a) ?hi2a (by kernel_rfl) (by kernel_rfl) (by kernel_rfl) ?hq2a ?hy2a (by assumption) ?rest2a
  case hi2a => (simp only [List.getElem?_toArray, List.getElem?_cons_zero, List.getElem?_cons_succ]; rfl)
  case hy2a => (refine Or.inl ⟨by rfl, ?_⟩; intro w hSw; (try dsimp only at hSw); go_simp; try with_reducible rfl)
  case hq2a => exact fun _ _ _ h => h
  try simp only [Act.put, List.setIfInBounds_toArray, List.set_cons_zero, List.set_cons_succ]
  refine wpAnyH_take (i := 3) (oi := ?oi3a) (v := ?v3a) ?hi3a (by kernel_rfl) (by kernel_rfl) (by kernel_rfl) ?hq3a ?hy3a (by assumption) ?rest3a
  case hi3a => (simp only [List.getElem?_toArray, List.getElem?_cons_zero, List.getElem?_cons_succ]; rfl)
  case hy3a => (refine Or.inl ⟨by rfl, ?_⟩; intro w hSw; (try dsimp only at hSw); go_simp; try with_reducible rfl)
  case hq3a => exact fun _ _ _ h => h
  try simp only [Act.put, List.setIfInBounds_toArray, List.set_cons_zero, List.set_cons_succ]
  refine wpAnyH_take (i := 4) (oi := ?oi4a) (v := ?v4a) ?hi4a (by kernel_rfl) (by kernel_rfl) (by kernel_rfl) ?hq4a ?hy4a (by assumption) ?rest4a
  case hi4a => (simp only [List.getElem?_toArray, List.getElem?_cons_zero, List.getElem?_cons_succ]; rfl)
  case hy4a => (refine Or.inl ⟨by rfl, ?_⟩; intro w hSw; (try dsimp only at hSw); go_simp; try with_reducible rfl)
  case hq4a => exact fun _ _ _ h => h
  try simp only [Act.put, List.setIfInBounds_toArray, List.set_cons_zero, List.set_cons_succ]
  refine wpAnyH_ready (rs := [5]) (by kernel_rfl) (by simp) ?_
  refine AllReadyH.cons (o := ?o5b) ?ho5b (fun K hK => ?st5b) ?mo5b
  case ho5b => (simp only [List.getElem?_toArray, List.getElem?_cons_zero, List.getElem?_cons_succ]; rfl)
  case mo5b => exact AllReadyH.nil
  go_simp
  refine HDK.out.mono ?_
  rintro _ w2 ⟨rfl, hb2⟩
  have H2 := Lib.hid hb2
  clear hb2
  go_simp
  refine hK.out _ _ (HS.out _ H2.out) (fun _ => ?_)
  clear hK K
  try simp only [Act.put, List.setIfInBounds_toArray, List.set_cons_zero, List.set_cons_succ]
  refine wpAnyH_take (i := 6) (oi := ?oi6c) (v := ?v6c) ?hi6c (by kernel_rfl) (by kernel_rfl) (by kernel_rfl) ?hq6c ?hy6c (by assumption) ?rest6c
  case hi6c => (simp only [List.getElem?_toArray, List.getElem?_cons_zero, List.getElem?_cons_succ]; rfl)
  case hy6c => (refine Or.inl ⟨by rfl, ?_⟩; intro w hSw; (try dsimp only at hSw); go_simp; try with_reducible rfl)
  case hq6c => exact fun _ _ _ h => h
  try simp only [Act.put, List.setIfInBounds_toArray, List.set_cons_zero, List.set_cons_succ]
  refine wpAnyH_take (i := 7) (oi := ?oi7c) (v := ?v7c) ?hi7c (by kernel_rfl) (by kernel_rfl) (by kernel_rfl) ?hq7c ?hy7c (by assumption) ?rest7c
  case hi7c => (simp only [List.getElem?_toArray, List.getElem?_cons_zero, List.getElem?_cons_succ]; rfl)
  case hy7c => (refine Or.inl ⟨by rfl, ?_⟩; intro w hSw; (try dsimp only at hSw); go_simp; try with_reducible rfl)
  case hq7c => exact fun _ _ _ h => h
  try simp only [Act.put, List.setIfInBounds_toArray, List.set_cons_zero, List.set_cons_succ]
  refine wpAnyH_take (i := 8) (oi := ?oi8c) (v := ?v8c) ?hi8c (by kernel_rfl) (by kernel_rfl) (by kernel_rfl) ?hq8c ?hy8c (by assumption) ?rest8c
  case hi8c => (simp only [List.getElem?_toArray, List.getElem?_cons_zero, List.getElem?_cons_succ]; rfl)
  case hy8c => (refine Or.inl ⟨by rfl, ?_⟩; intro w hSw; (try dsimp only at hSw); go_simp; try with_reducible rfl)
  case hq8c => exact fun _ _ _ h => h
  try simp only [Act.put, List.setIfInBounds_toArray, List.set_cons_zero, List.set_cons_succ]
  refine wpAnyH_take (i := 9) (oi := ?oi9c) (v := ?v9c) ?hi9c (by kernel_rfl) (by kernel_rfl) (by kernel_rfl) ?hq9c ?hy9c (by assumption) ?rest9c
  case hi9c => (simp only [List.getElem?_toArray, List.getElem?_cons_zero, List.getElem?_cons_succ]; rfl)
  case hy9c => (refine Or.inl ⟨by rfl, ?_⟩; intro w hSw; (try dsimp only at hSw); go_simp; try with_reducible rfl)
  case hq9c => exact fun _ _ _ h => h
  try simp only [Act.put, List.setIfInBounds_toArray, List.set_cons_zero, List.set_cons_succ]
  refine wpAnyH_take (i := 10) (oi := ?oi10c) (v := ?v10c) ?hi10c (by kernel_rfl) (by kernel_rfl) (by kernel_rfl) ?hq10c ?hy10c (by assumption) ?rest10c
  case hi10c => (simp only [List.getElem?_toArray, List.getElem?_cons_zero, List.getElem?_cons_succ]; rfl)
  case hy10c => (refine Or.inl ⟨by rfl, ?_⟩; intro w hSw; (try dsimp only at hSw); go_simp; try with_reducible rfl)
  case hq10c => exact fun _ _ _ h => h
  try simp only [Act.put, List.setIfInBounds_toArray, List.set_cons_zero, List.set_cons_succ]
  refine wpAnyH_take (i := 11) (oi := ?oi11c) (v := ?v11c) ?hi11c (by kernel_rfl) (by kernel_rfl) (by kernel_rfl) ?hq11c ?hy11c (by assumption) ?rest11c
  case hi11c => (simp only [List.getElem?_toArray, List.getElem?_cons_zero, List.getElem?_cons_succ]; rfl)
  case hy11c => (refine Or.inl ⟨by rfl, ?_⟩; intro w hSw; (try dsimp only at hSw); go_simp; try with_reducible rfl)
  case hq11c => exact fun _ _ _ h => h
  try simp only [Act.put, List.setIfInBounds_toArray, List.set_cons_zero, List.set_cons_succ]
  refine wpAnyH_take (i := 13) (oi := ?oi13c) (v := ?v13c) ?hi13c (by kernel_rfl) (by kernel_rfl) (by kernel_rfl) ?hq13c ?hy13c (by assumption) ?rest13c
  case hi13c => (simp only [List.getElem?_toArray, List.getElem?_cons_zero, List.getElem?_cons_succ]; rfl)
  case hy13c => (refine Or.inl ⟨by rfl, ?_⟩; intro w hSw; (try dsimp only at hSw); go_simp; try with_reducible rfl)
  case hq13c => exact fun _ _ _ h => h
  try simp only [Act.put, List.setIfInBounds_toArray, List.set_cons_zero, List.set_cons_succ]
  have HGV := Lib.hid (given_all (w := w2) (c0 := c0) (c1 := c1) (Rd.of_own (own_over HDD.out.o0 H2.out)) (Rd.of_own (own_over HDD.out.o1 H2.out)) (by have := HLA.out; omega) (by have := HLA.out; omega) (HNB.out.below H2.out))
  refine wpAnyH_ready (rs := [12]) (by kernel_rfl) (by simp) ?_
  refine AllReadyH.cons (o := ?o12d) ?ho12d (fun K hK => ?st12d) ?mo12d
  case ho12d => (simp only [List.getElem?_toArray, List.getElem?_cons_zero, List.getElem?_cons_succ]; rfl)
  case mo12d => exact AllReadyH.nil
  go_simp
  refine HGV.out.mono ?_
  rintro _ w3 ⟨Ag, cg, Kg, rfl, hrg, hmg, hb3⟩
  have hm2 : Kg.map Rk.rc = j.recs := by rw [hmg, good_giveR HO.out.g]
  have hl : Kg.length = j.recs.length := by rw [← hm2, List.length_map]
  rw [hl] at hrg ⊢
  have H3 := Lib.hid (Below.then H2.out hb3)
  have HRY := Lib.hid (records_yes (c1 := cg) (c2 := cq) (hrg.rdN hm2) ((HQ.out.below HB.out).below H3.out) (by omega))
  clear hrg hmg hm2 hb3 hl
  go_simp
  refine hK.out _ _ (HS.out _ H3.out) (fun _ => ?_)
  clear hK K
  try simp only [Act.put, List.setIfInBounds_toArray, List.set_cons_zero, List.set_cons_succ]
  refine wpAnyH_ready (rs := [14]) (by kernel_rfl) (by simp) ?_
  refine AllReadyH.cons (o := ?o14g) ?ho14g (fun K hK => ?st14g) ?mo14g
  case ho14g => (simp only [List.getElem?_toArray, List.getElem?_cons_zero, List.getElem?_cons_succ]; rfl)
  case mo14g => exact AllReadyH.nil
  go_simp
  refine HRY.out.mono ?_
  rintro _ w4 ⟨rfl, hb4⟩
  have H4 := Lib.hid (Below.then H3.out hb4)
  clear hb4
  go_simp
  refine hK.out _ _ (HS.out _ H4.out) (fun _ => ?_)
  clear hK K
  try simp only [Act.put, List.setIfInBounds_toArray, List.set_cons_zero, List.set_cons_succ]
  refine wpAnyH_take (i := 15) (oi := ?oi15h) (v := ?v15h) ?hi15h (by kernel_rfl) (by kernel_rfl) (by kernel_rfl) ?hq15h ?hy15h (by assumption) ?rest15h
  case hi15h => (simp only [List.getElem?_toArray, List.getElem?_cons_zero, List.getElem?_cons_succ]; rfl)
  case hy15h => (refine Or.inl ⟨by rfl, ?_⟩; intro w hSw; (try dsimp only at hSw); go_simp; try with_reducible rfl)
  case hq15h => exact fun _ _ _ h => h
  try simp only [Act.put, List.setIfInBounds_toArray, List.set_cons_zero, List.set_cons_succ]
  refine wpAnyH_take (i := 16) (oi := ?oi16h) (v := ?v16h) ?hi16h (by kernel_rfl) (by kernel_rfl) (by kernel_rfl) ?hq16h ?hy16h (by assumption) ?rest16h
  case hi16h => (simp only [List.getElem?_toArray, List.getElem?_cons_zero, List.getElem?_cons_succ]; rfl)
  case hy16h => (refine Or.inl ⟨by rfl, ?_⟩; intro w hSw; (try dsimp only at hSw); go_simp; try with_reducible rfl)
  case hq16h => exact fun _ _ _ h => h
  try simp only [Act.put, List.setIfInBounds_toArray, List.set_cons_zero, List.set_cons_succ]
  refine wpAnyH_take (i := 17) (oi := ?oi17h) (v := ?v17h) ?hi17h (by kernel_rfl) (by kernel_rfl) (by kernel_rfl) ?hq17h ?hy17h (by assumption) ?rest17h
  case hi17h => (simp only [List.getElem?_toArray, List.getElem?_cons_zero, List.getElem?_cons_succ]; rfl)
  case hy17h => (refine Or.inl ⟨by rfl, ?_⟩; intro w hSw; (try dsimp only at hSw); go_simp; try with_reducible rfl)
  case hq17h => exact fun _ _ _ h => h
  try simp only [Act.put, List.setIfInBounds_toArray, List.set_cons_zero, List.set_cons_succ]
  refine wpAnyH_take (i := 18) (oi := ?oi18h) (v := ?v18h) ?hi18h (by kernel_rfl) (by kernel_rfl) (by kernel_rfl) ?hq18h ?hy18h (by assumption) ?rest18h
  case hi18h => (simp only [List.getElem?_toArray, List.getElem?_cons_zero, List.getElem?_cons_succ]; rfl)
  case hy18h => (refine Or.inl ⟨by rfl, ?_⟩; intro w hSw; (try dsimp only at hSw); go_simp; try with_reducible rfl)
  case hq18h => exact fun _ _ _ h => h
  try simp only [Act.put, List.setIfInBounds_toArray, List.set_cons_zero, List.set_cons_succ]
  refine wpAnyH_take (i := 19) (oi := ?oi19h) (v := ?v19h) ?hi19h (by kernel_rfl) (by kernel_rfl) (by kernel_rfl) ?hq19h ?hy19h (by assumption) ?rest19h
  case hi19h => (simp only [List.getElem?_toArray, List.getElem?_cons_zero, List.getElem?_cons_succ]; rfl)
  case hy19h => (refine Or.inl ⟨by rfl, ?_⟩; intro w hSw; (try dsimp only at hSw); go_simp; try with_reducible rfl)
  case hq19h => exact fun _ _ _ h => h
  try simp only [Act.put, List.setIfInBounds_toArray, List.set_cons_zero, List.set_cons_succ]
  have HWH := Lib.hid (whole_any (w := w4) ((HO.out.st.over HB.out).over H4.out) hfr)
  refine wpAnyH_ready (rs := [20]) (by kernel_rfl) (by simp) ?_
  refine AllReadyH.cons (o := ?o20i) ?ho20i (fun K hK => ?st20i) ?mo20i
  case ho20i => (simp only [List.getElem?_toArray, List.getElem?_cons_zero, List.getElem?_cons_succ]; rfl)
  case mo20i => exact AllReadyH.nil
  go_simp
  refine HWH.out.mono ?_
  rintro _ w5 ⟨rfl, hb5⟩
  have H5 := Lib.hid (Below.then H4.out hb5)
  clear hb5
  go_simp
  refine hK.out _ _ (HS.out _ H5.out) (fun _ => ?_)
  clear hK K
  try simp only [Act.put, List.setIfInBounds_toArray, List.set_cons_zero, List.set_cons_succ]
  refine wpAnyH_take (i := 21) (oi := ?oi21l) (v := ?v21l) ?hi21l (by kernel_rfl) (by kernel_rfl) (by kernel_rfl) ?hq21l ?hy21l (by assumption) ?rest21l
  case hi21l => (simp only [List.getElem?_toArray, List.getElem?_cons_zero, List.getElem?_cons_succ]; rfl)
  case hy21l => (refine Or.inl ⟨by rfl, ?_⟩; intro w hSw; (try dsimp only at hSw); go_simp; try with_reducible rfl)
  case hq21l => exact fun _ _ _ h => h
  try simp only [Act.put, List.setIfInBounds_toArray, List.set_cons_zero, List.set_cons_succ]
  refine wpAnyH_take (i := 22) (oi := ?oi22l) (v := ?v22l) ?hi22l (by kernel_rfl) (by kernel_rfl) (by kernel_rfl) ?hq22l ?hy22l (by assumption) ?rest22l
  case hi22l => (simp only [List.getElem?_toArray, List.getElem?_cons_zero, List.getElem?_cons_succ]; rfl)
  case hy22l => (refine Or.inl ⟨by rfl, ?_⟩; intro w hSw; (try dsimp only at hSw); go_simp; try with_reducible rfl)
  case hq22l => exact fun _ _ _ h => h
  try simp only [Act.put, List.setIfInBounds_toArray, List.set_cons_zero, List.set_cons_succ]
  refine wpAnyH_done (by kernel_rfl) ?_ _
  refine HKT _ _ ?_
  dsimp only [Tryd.f8, Option.getD, Code.sub]
  go_wp2_with fail
  exact HEND.out _ _ _ _ _ _ _ _ _ _ _ _ _ _ _ _ _ _ _ _ _ _ _ _ _ _ _ _ _ _ _ _ _ _ _ _ _ _ _ _ _ _ _ _ _ _ _ _ _ _ _ _ _ _ _ _ _ _ _ _ _ _ _ _ _ _ _ _ _ _ _ _ _ _ _ _ _ _ _ _ _ _ _ _ _ _ _ _ _ _ _ _ _ _ _ _ _ _ _ _ _ _ _ _ _ _ _ _ _ _ _ _ _ _ _ _ _ _ _ _ _ _ _ _ _ _ _ _ _ _ _ _ _ _ _ _ _ _ _ _ _ _ _ _ _ _ _ _ _ _ _ _ _ _ _ _ _ _ _ _ _ _ _ _ _ _ _ _ _ _ _ _ _ _ _ _ _ _ _ _ _ _ _ _ _ _ _ _ _ _ _ _ _ _ _ _ _ _ _ _ _ w5 ⟨_, _, _, _, _, _, _, _, _, _, _, _, _, HO.out.over (Below.then HB.out H5.out)⟩
end Go.Proofs.YtpkdalpjfcopbaaDoor
namespace Go.Proofs.YtpkdalpjfcopbaaDoor
open Go.RowKit
theorem info_wr2 : (Tryd.prog.info? 94).map (fun i => (i.zero, i.size, i.bytes)) = some (some (.agg #[.int .i64 0, .bool false, .slice none 0 0]), 3, 40) := by kernel_rfl
theorem u_wrs2 : Tryd.prog.underlying 39 = some (.slice 94) := Tryd.underlying39
theorem four_flat (l m x y : Lq) : (([l, m, x, y]).map Lq.B).flatten = l.B ++ (m.B ++ (x.B ++ y.B)) := by simp
set_option maxRecDepth 100000 in
set_option maxHeartbeats 6400000 in
theorem own_30 {Q : Exit → Act → World → Prop} {u1 u2 u6 u8 u11 u12 u15 u20 u21 u22 u23 u24 u25 u26 u27 u28 u29 u30 u31 u32 u33 u34 u35 u36 u37 u38 u39 u40 u41 u42 u43 u44 u45 u46 u47 u48 u49 u50 u51 u52 u53 u54 u55 u56 u57 u58 u59 u60 u61 u62 u63 u64 u65 u66 u67 u68 u69 u70 u71 u72 u73 u74 u75 u76 u77 u78 u79 u80 u81 u82 u83 u84 u85 u86 u87 u88 u89 u90 u91 u92 u93 u94 u95 u96 u97 u98 u99 u100 u101 u102 u103 u104 u105 u106 u107 u108 u109 u110 u111 u112 u113 u114 u115 u116 u117 u118 u119 u120 u121 u122 u123 u124 u125 u126 u127 u128 u129 u130 u131 u132 u133 u134 u135 u136 u137 u138 u139 u140 u141 u142 u143 u144 u145 u146 u147 u148 u149 u150 u151 u152 u153 u154 u155 u156 u157 u158 u159 u160 u161 u162 u163 u164 u165 u166 u167 u168 u169 u170 u171 u172 u173 u174 u175 u176 u177 u178 u179 u180 u181 u182 u183 u184 u185 u186 u187 u188 u189 u190 u191 u192 u193 u194 u195 u196 u197 u198 u199 u200 u201 u202 u203 u204 u205 u206 u207 u208 u209 u210 u211 u212 u213 u214 u215 u216 u217 u218 u219 u220 u221 u222 u223 u224 u225 u226 u227 u228 u229 u230 u231 u232 u233 u234 u235 u236 u237 u238 u239 u240 u241 u242 u243 u244 u245 u246 u247 u248 u249 u250 u251 u252 u253 u254 u255 u256 u257 u258 u259 u260 u261 u262 u263 u264 u265 u266 u267 u268 : Value} {w w0 wr : World} {Av Aa Aq A0 A1 Ka Kb : Option Addr} {n cap tg s k jg c0 c1 ca cq D ka kb b6 hq : Nat} {vb vt vm : Value} {Kq : List Rk} {j : JP} {f : Fls} {file kd : Int} {T M Ew : List Tv} {l m x y : Lq}
    (hend : ∀ (v6 v7 v8 v9 v10 v11 v12 v13 v14 v15 v16 v17 v18 v19 v20 v39 v40 v41 v42 v43 v44 v45 v46 v47 v48 v49 v50 v51 v52 v53 v54 v55 v56 v57 v58 v59 v60 v61 v62 v63 v64 v65 v66 v67 v68 v69 v70 v71 v72 v73 v74 v75 v76 v77 v78 v79 v80 v81 v82 v83 v84 v85 v86 v87 v88 v89 v90 v91 v92 v93 v94 v95 v96 v97 v98 v99 v100 v101 v102 v103 v104 v105 v106 v107 v108 v109 v110 v111 v112 v113 v114 v115 v116 v117 v118 v119 v120 v121 v122 v123 v124 v125 v126 v127 v128 v129 v130 v131 v132 v133 v134 v135 v136 v137 v138 v139 v140 v141 v142 v143 v144 v145 v146 v147 v148 v149 v150 v151 v152 v153 v154 v155 v156 v157 v158 v159 v160 v161 v162 v163 v164 v165 v166 v167 v168 v169 v170 v171 v172 v173 v174 v175 v176 v177 v178 v179 v180 v181 v182 v183 v184 v185 v186 v187 v188 v189 v190 v191 v192 v193 v194 v195 v196 v197 v198 v199 v200 v201 v202 v203 v204 v205 v206 v207 v208 v209 v210 v211 v212 v213 v214 v215 v216 v217 v218 v219 v220 v221 v222 v223 v224 : Value) (wx : World), Ow w tg s (k + 1) wx → Q .normal (Act.mk #[.slice Av n cap, u1, u2, .pointer (some ⟨tg, 0, none⟩), .pointer (some ⟨s, 0, none⟩), .int .i64 (k : Int), v6, v7, v8, v9, v10, v11, v12, v13, v14, v15, v16, v17, v18, v19, v20, u21, u22, u23, u24, u25, u26, u27, u28, u29, u30, u31, u32, u33, u34, u35, u36, u37, u38, v39, v40, v41, v42, v43, v44, v45, v46, v47, v48, v49, v50, v51, v52, v53, v54, v55, v56, v57, v58, v59, v60, v61, v62, v63, v64, v65, v66, v67, v68, v69, v70, v71, v72, v73, v74, v75, v76, v77, v78, v79, v80, v81, v82, v83, v84, v85, v86, v87, v88, v89, v90, v91, v92, v93, v94, v95, v96, v97, v98, v99, v100, v101, v102, v103, v104, v105, v106, v107, v108, v109, v110, v111, v112, v113, v114, v115, v116, v117, v118, v119, v120, v121, v122, v123, v124, v125, v126, v127, v128, v129, v130, v131, v132, v133, v134, v135, v136, v137, v138, v139, v140, v141, v142, v143, v144, v145, v146, v147, v148, v149, v150, v151, v152, v153, v154, v155, v156, v157, v158, v159, v160, v161, v162, v163, v164, v165, v166, v167, v168, v169, v170, v171, v172, v173, v174, v175, v176, v177, v178, v179, v180, v181, v182, v183, v184, v185, v186, v187, v188, v189, v190, v191, v192, v193, v194, v195, v196, v197, v198, v199, v200, v201, v202, v203, v204, v205, v206, v207, v208, v209, v210, v211, v212, v213, v214, v215, v216, v217, v218, v219, v220, v221, v222, v223, v224, u225, u226, u227, u228, u229, u230, u231, u232, u233, u234, u235, u236, u237, u238, u239, u240, u241, u242, u243, u244, u245, u246, u247, u248, u249, u250, u251, u252, u253, u254, u255, u256, u257, u258, u259, u260, u261, u262, u263, u264, u265, u266, u267, u268] []) wx)
    (HR : Hid (Rn w w0 wr tg s k jg A0 c0 A1 c1 vb j f file vt vm T M b6 kd)) (HG : Hid (Good f j))
    (HW : Hid (RowT wr 94 3 2 Aa Ew ∧ (∃ xs, wr.ownsRow 0 94 3 (.slice Aa Ew.length ca) Ew.length xs) ∧ Ew.length ≤ 1))
    (HL : Hid ((RowT wr 34 2 1 l.A l.B ∧ RowT wr 34 2 1 m.A m.B ∧ RowT wr 34 2 1 x.A x.B ∧ RowT wr 34 2 1 y.A y.B) ∧ l.B.length = j.recs.length ∧ m.B.length = j.recs.length ∧ x.B.length = j.recs.length ∧ y.B.length = j.recs.length))
    (HE : Hid (New w0.heap.size wr (Ew ++ (l.B ++ (m.B ++ (x.B ++ y.B)))))) (HDB : Hid (∀ q, DBk A0 f.a.length c0 A1 f.b.length c1 q → ∀ (k : Nat) (e : Tv), (Ew ++ (l.B ++ (m.B ++ (x.B ++ y.B))))[k]? = some e → blkO e.A e.c ≠ some q))
    (HQ : Hid ((RcOwn wr hq (.slice Aq j.recs.length cq) Kq ∧ Kq.map Rk.rc = j.recs) ∧ ∀ (k : Nat) (e : Tv) (g : Nat), (Ew ++ (l.B ++ (m.B ++ (x.B ++ y.B))))[k]? = some e → blkO e.A e.c = some g → g < hq))
    (HK : Hid (Blk wr D 24 #[.slice Ka f.a.length ka, .slice Kb f.b.length kb] ∧ wr.ownsRow hq 5 1 (.slice Ka f.a.length ka) f.a.length (bvs f.a) ∧ wr.ownsRow hq 5 1 (.slice Kb f.b.length kb) f.b.length (bvs f.b)))
    (hk : k < 60) (HT : Hid (Nibs w)) : (((Tryd.f8.body).getD .skip).sub [true, true, true, true, false, true, false, false, true, false, false, true, true, true, true, true, true, true, true, true, true, true, true, true]).wp Tryd.prog Q (Act.mk #[.slice Av n cap, u1, u2, .pointer (some ⟨tg, 0, none⟩), .pointer (some ⟨s, 0, none⟩), .int .i64 (k : Int), u6, .slice Aa Ew.length ca, u8, .slice l.A j.recs.length l.c, .slice none 0 0, u11, u12, .slice m.A j.recs.length m.c, .slice none 0 0, u15, .slice x.A j.recs.length x.c, .slice y.A j.recs.length y.c, .slice Aq j.recs.length cq, .pointer (some ⟨D, 0, none⟩), u20, u21, u22, u23, u24, u25, u26, u27, u28, u29, u30, u31, u32, u33, u34, u35, u36, u37, u38, u39, u40, u41, u42, u43, u44, u45, u46, u47, u48, u49, u50, u51, u52, u53, u54, u55, u56, u57, u58, u59, u60, u61, u62, u63, u64, u65, u66, u67, u68, u69, u70, u71, u72, u73, u74, u75, u76, u77, u78, u79, u80, u81, u82, u83, u84, u85, u86, u87, u88, u89, u90, u91, u92, u93, u94, u95, u96, u97, u98, u99, u100, u101, u102, u103, u104, u105, u106, u107, u108, u109, u110, u111, u112, u113, u114, u115, u116, u117, u118, u119, u120, u121, u122, u123, u124, u125, u126, u127, u128, u129, u130, u131, u132, u133, u134, u135, u136, u137, u138, u139, u140, u141, u142, u143, u144, u145, u146, u147, u148, u149, u150, u151, u152, u153, u154, u155, u156, u157, u158, u159, u160, u161, u162, u163, u164, u165, u166, u167, u168, u169, u170, u171, u172, u173, u174, u175, u176, u177, u178, u179, u180, u181, u182, u183, u184, u185, u186, u187, u188, u189, u190, u191, u192, u193, u194, u195, u196, u197, u198, u199, u200, u201, u202, u203, u204, u205, u206, u207, u208, u209, u210, u211, u212, u213, u214, u215, u216, u217, u218, u219, u220, u221, u222, u223, u224, u225, u226, u227, u228, u229, u230, u231, u232, u233, u234, u235, u236, u237, u238, u239, u240, u241, u242, u243, u244, u245, u246, u247, u248, u249, u250, u251, u252, u253, u254, u255, u256, u257, u258, u259, u260, u261, u262, u263, u264, u265, u266, u267, u268] []) wr := by
  have HEND := Lib.hid hend
  clear hend
  obtain ⟨At, ct, rfl, _, _⟩ := own_shape HR.out.st.so.tx
  obtain ⟨iw, hiw, _⟩ := info_parts info_wr2
  obtain ⟨xs, hxs⟩ := HW.out.2.1
  have HXS := Lib.hid hxs
  have s0 : wr.cell? ⟨s, 0, none⟩ = some (.slice At T.length ct) := HR.out.st.so.blk.cell 0
  obtain ⟨wb, hwb⟩ : ∃ wb, wb = wr.alloc (.cells #[.slice l.A j.recs.length l.c, .slice m.A j.recs.length m.c, .slice x.A j.recs.length x.c, .slice y.A j.recs.length y.c] 25) := ⟨_, rfl⟩
  have hbb : Below wr.heap.size wr wb := by rw [hwb]; exact one_box' _ _
  have hgl : Blk wb wr.heap.size 25 (([l, m, x, y]).map Lq.v).toArray := by
    have h1 := HL.out.2
    rw [hwb]
    show Blk _ _ _ #[.slice l.A l.B.length l.c, .slice m.A m.B.length m.c, .slice x.A x.B.length x.c, .slice y.A y.B.length y.c]
    rw [h1.1, h1.2.1, h1.2.2.1, h1.2.2.2]
    exact Blk.new _ _ _
  have hnw : New w0.heap.size wb (Ew ++ (([l, m, x, y]).map Lq.B).flatten) := by
    rw [four_flat]
    exact ⟨fun k e he => ⟨(HE.out.lo k e he).1.over hbb, (HE.out.lo k e he).2⟩, HE.out.pw⟩
  have hel : (Ew ++ (([l, m, x, y]).map Lq.B).flatten).length ≤ 1000 := by
    rw [four_flat]
    have h1 := HL.out.2
    have h2 := HR.out.rl
    have h3 := HW.out.2.2
    simp only [List.length_append]
    omega
  have HRB := Lib.hid (HR.out.over hbb)
  have no : ∀ {t : Nat} {z d : Nat} {A : Option Addr} {B : List Tv}, RowT wr t z d A B → RowT wb t z d A B := fun h => h.chg (Chg.of_below hbb (fun _ => False)) fun _ _ h => h
  have HPU := Lib.hid (put_any (cw := ca) (LL := [l, m, x, y]) HRB.out.st hnw (no HW.out.1) hgl (fun i q hq => by
    have h1 := HL.out.1
    match i, hq with
    | 0, hq => simp only [List.getElem?_cons_zero, Option.some.injEq] at hq; subst hq; exact no h1.1
    | 1, hq => simp only [List.getElem?_cons_succ, List.getElem?_cons_zero, Option.some.injEq] at hq; subst hq; exact no h1.2.1
    | 2, hq => simp only [List.getElem?_cons_succ, List.getElem?_cons_zero, Option.some.injEq] at hq; subst hq; exact no h1.2.2.1
    | 3, hq => simp only [List.getElem?_cons_succ, List.getElem?_cons_zero, Option.some.injEq] at hq; subst hq; exact no h1.2.2.2
    | i + 4, hq => simp at hq) HRB.out.b0 HRB.out.low (by have := HR.out.few; omega) (by simp))
  rw [four_flat] at HPU hel hnw
  have HNW := Lib.hid hnw
  have HEL := Lib.hid hel
  have HBB := Lib.hid hbb
  have HWB := Lib.hid hwb
  clear hwb hbb hgl hnw hel no hxs
  refine tail_step (a := ((Tryd.f8.body).getD .skip).sub [true, true, true, true, false, true, false, false, true, false, false, true, true, true, true, true, true, true, true, true, true, true, true, true, false]) (b := ((Tryd.f8.body).getD .skip).sub [true, true, true, true, false, true, false, false, true, false, false, true, true, true, true, true, true, true, true, true, true, true, true, true, true]) (by kernel_rfl) (fun KT HKT => ?_); dsimp only [Tryd.f8, Option.getD, Code.sub]
  go_wp2_with fail
  clear s0
  refine tail_step (a := ((Tryd.f8.body).getD .skip).sub [true, true, true, true, false, true, false, false, true, false, false, true, true, true, true, true, true, true, true, true, true, true, true, true, true, false]) (b := ((Tryd.f8.body).getD .skip).sub [true, true, true, true, false, true, false, false, true, false, false, true, true, true, true, true, true, true, true, true, true, true, true, true, true, true]) (by kernel_rfl) (fun KT HKT => ?_); dsimp only [Tryd.f8, Option.getD, Code.sub]
  go_wp2_with (first
    | (at_builtin; refine wpList_append_own_none (by rfl) _ _ 39 (by rfl) 0 94 iw 3 u_wrs2 hiw _ _ _ (by rfl) HXS.out (by rfl) ?_)
    | (go_at_call 40; rw [← HWB.out]; refine HPU.out.mono ?_; rintro _ w5 ⟨rfl, hps, hch⟩; have H5 := Lib.hid (And.intro hps hch); clear hps hch))
  obtain ⟨⟨vt', vm', M', ho⟩, off⟩ := rn_put HRB.out HG.out HNW.out H5.out.1 H5.out.2 HDB.out (by have := HEL.out; exact this)
  have hwas : RcOwn w5 hq (.slice Aq j.recs.length cq) Kq := (HQ.out.1.1.below HBB.out).chgT H5.out.2 fun g hg ht => by
    rcases ht with ht | ht
    · exact off _ g ht (fun q => absurd q (by decide)) (by decide) (by decide)
    · exact off _ g ht (fun _ k e he hb => by have := HQ.out.2 k e g he hb; omega) (by decide) (by decide)
  have hkb : Blk w5 D 24 #[.slice Ka f.a.length ka, .slice Kb f.b.length kb] := (HK.out.1.over HBB.out).chg H5.out.2 (off _ _ (HK.out.1.over HBB.out).isT (fun q => absurd q (by decide)) (by decide) (by decide))
  have hkk : ∀ {A : Option Addr} {c : Nat} {bs : List UInt8}, wr.ownsRow hq 5 1 (.slice A bs.length c) bs.length (bvs bs) → RdB w5 w5.heap.size A bs.length bs := fun ho => by
    have h1 := own_over ho HBB.out
    exact Rd.of_own (own_chg h1 H5.out.2 fun g hg => off _ _ (own_isT h1 hg) (fun _ k e he hb => by
      have h2 := HQ.out.2 k e g he hb
      have h3 := (own_block_lt h1 hg).2.1
      omega) (by decide) (by decide))
  exact own_32 HEND.out (Lib.hid ho) (Lib.hid (hwas.rdN HQ.out.1.2)) (Lib.hid ⟨hkb, hkk HK.out.2.1, hkk HK.out.2.2⟩) (by rw [List.length_append]; omega) HT
end Go.Proofs.YtpkdalpjfcopbaaDoor
