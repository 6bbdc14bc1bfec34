/-
  JournalOwn: behind the loop: what was taken last is given behind what was given.
-/
import Derived.Test.YtpkdalpjfcopbaaDoorNOwn30
namespace Go.Proofs.YtpkdalpjfcopbaaDoor
open Go.RowKit
theorem jo_give {w : World} {f : Fls} {j : JP} {A0 A1 : Option Addr} {c0 c1 : Nat} (hg : Good f j) (h0 : w.ownsRow 0 5 1 (.slice A0 f.a.length c0) f.a.length (bvs f.a)) (h1 : w.ownsRow 0 5 1 (.slice A1 f.b.length c1) f.b.length (bvs f.b)) (ht : Nibs w) :
    Calls Tryd.prog 38 #[.agg #[.slice A0 f.a.length c0, .slice A1 f.b.length c1]] w fun e w' => ∃ Al cl K, e = .returned (.slice Al j.recs.length cl) ∧ K.map Rk.rc = j.recs ∧ RcOwn w' w.heap.size (.slice Al j.recs.length cl) K ∧ Below w.heap.size w w' := by
  have hla := hg.half.la
  refine (given_all (Rd.of_own h0) (Rd.of_own h1) (by omega) (by omega) ht).mono ?_
  rintro e w' ⟨Al, cl, K, rfl, ho, hm, hb⟩
  have hm2 : K.map Rk.rc = j.recs := by rw [hm, good_giveR hg]
  have hl : K.length = j.recs.length := by rw [← hm2, List.length_map]
  rw [hl] at ho ⊢
  exact ⟨Al, cl, K, rfl, hm2, ho, hb⟩
theorem jo_giveN {w : World} {f : Fls} {j : JP} {A0 A1 : Option Addr} {c0 c1 n : Nat} (hn : j.recs.length = n) (hg : Good f j) (h0 : w.ownsRow 0 5 1 (.slice A0 f.a.length c0) f.a.length (bvs f.a)) (h1 : w.ownsRow 0 5 1 (.slice A1 f.b.length c1) f.b.length (bvs f.b)) (ht : Nibs w) :
    Calls Tryd.prog 38 #[.agg #[.slice A0 f.a.length c0, .slice A1 f.b.length c1]] w fun e w' => ∃ Al cl K, e = .returned (.slice Al n cl) ∧ K.map Rk.rc = j.recs ∧ RcOwn w' w.heap.size (.slice Al n cl) K ∧ Below w.heap.size w w' := by
  subst hn
  exact jo_give hg h0 h1 ht
theorem rcrd_n {w : World} {base n c : Nat} {A : Option Addr} {K : List Rk} {recs : List Rc} (h : RcOwn w base (.slice A n c) K) (hm : K.map Rk.rc = recs) (hn : recs.length = n) : RcRd w (fun _ => False) A n recs := by
  subst hn
  exact h.rdN hm
theorem own_seven {w : World} {base : Nat} (hb : base ≤ w.heap.size) : (w.alloc (.cells #[.int .u8 7] 5)).ownsRow base 5 1 (.slice (some ⟨w.heap.size, 0, none⟩) 1 1) 1 (bvs [7]) :=
  ⟨by simp [bvs], .inr ⟨w.heap.size, 1, _, rfl, hb, heap_alloc_new w _, by omega, by simp [maxLen], by simp, by simp [bvs]⟩⟩
theorem rec_end {w1 w2 w3 w4 w5 : World} {Kh Kg : List Rk} {j j2 : JP} {Ah Ag A5 : Option Addr} {ch cg c5 : Nat} (hK : RcOwn w2 w1.heap.size (.slice Ah j.recs.length ch) Kh) (hm : Kh.map Rk.rc = j.recs) (hj2 : j2.recs = j.recs ++ [⟨4, [7]⟩]) (hL2 : j2.recs.length = j.recs.length + 1)
    (h3 : Below w2.heap.size w2 w3) (H4 : Hid (Kg.map Rk.rc = j2.recs ∧ RcOwn w4 w3.heap.size (.slice Ag (j.recs.length + 1) cg) Kg ∧ Below w3.heap.size w3 w4))
    (H5 : Hid (w5.ownsRow w1.heap.size 34 2 (.slice A5 (j.recs.length + 1) c5) (j.recs.length + 1) (rowsK Kh ++ (#[.int .i64 4, .slice (some ⟨w4.heap.size, 0, none⟩) 1 1] : Array Value).toList) ∧ Below w1.heap.size (w4.alloc (.cells #[.int .u8 7] 5)) w5 ∧ (w4.alloc (.cells #[.int .u8 7] 5)).grownBy w5 (Value.slice Ah j.recs.length ch).ownBlock))
    (h12 : w1.heap.size ≤ w2.heap.size) (hl : j2.recs.length ≤ 65536) :
    (Calls Tryd.prog 14 #[.slice Ag (j.recs.length + 1) cg, .slice A5 (j.recs.length + 1) c5] w5 fun e w' => e = .returned (.bool true) ∧ Below w5.heap.size w5 w') ∧ Below w1.heap.size w4 w5 := by
  have hkl : Kh.length = j.recs.length := by rw [← hm, List.length_map]
  have hc := Chg.of_grown H5.out.2.2
  have hb := one_box' w4 (.cells #[.int .u8 7] 5)
  have s23 := h3.size
  have s34 := H4.out.2.2.size
  have hKW := hK.below (Below.then (Below.then h3 H4.out.2.2) hb)
  have hs := RcOwn.snoc (v2 := .slice A5 (j.recs.length + 1) c5) (x := ⟨⟨4, [7]⟩, .slice (some ⟨w4.heap.size, 0, none⟩) 1 1⟩) hKW hc (by rw [hkl]; exact H5.out.1) (own_seven (by omega)) (fun k r g hk hg hx => by
    have h1 := (own_block_lt (hK.bod k r hk) hg).1
    simp [Value.ownBlock] at hx
    omega)
  have hg := (H4.out.2.1.below hb).chg hc (fun g h1 _ e => by
    have h2 := (own_block_lt hK.own e.symm).1
    omega)
  refine ⟨records_yes (rcrd_n hg H4.out.1 hL2) (rcrd_n hs (by rw [List.map_append, hm, hj2]; rfl) hL2) (by omega), (hb.mono (by omega)).trans H5.out.2.1⟩
set_option maxRecDepth 100000 in
set_option maxHeartbeats 6400000 in
theorem own_39 {Q : Exit → Act → World → Prop} {u1 u2 u6 u7 u8 u9 u10 u11 u12 u13 u14 u15 u16 u17 u18 u19 u20 u23 u24 u25 u26 u27 u28 u29 u30 u31 u32 u33 u34 u35 u36 u37 u38 u39 u40 u41 u42 u43 u44 u45 u46 u47 u48 u49 u50 u51 u52 u53 u54 u55 u56 u57 u58 u59 u60 u61 u62 u63 u64 u65 u66 u67 u68 u69 u70 u71 u72 u73 u74 u75 u76 u77 u78 u79 u80 u81 u82 u83 u84 u85 u86 u87 u88 u89 u90 u91 u92 u93 u94 u95 u96 u97 u98 u99 u100 u101 u102 u103 u104 u105 u106 u107 u108 u109 u110 u111 u112 u113 u114 u115 u116 u117 u118 u119 u120 u121 u122 u123 u124 u125 u126 u127 u128 u129 u130 u131 u132 u133 u134 u135 u136 u137 u138 u139 u140 u141 u142 u143 u144 u145 u146 u147 u148 u149 u150 u151 u152 u153 u154 u155 u156 u157 u158 u159 u160 u161 u162 u163 u164 u165 u166 u167 u168 u169 u170 u171 u172 u173 u174 u175 u176 u177 u178 u179 u180 u181 u182 u183 u184 u185 u186 u187 u188 u189 u190 u191 u192 u193 u194 u195 u196 u197 u198 u199 u200 u201 u202 u203 u204 u205 u206 u207 u208 u209 u210 u211 u212 u213 u214 u215 u216 u217 u218 u219 u220 u221 u222 u223 u224 u225 u226 u227 u228 u229 u230 u231 u232 u233 u234 u235 u236 u237 u238 u239 u240 u241 u242 u243 u244 u245 u246 u247 u248 u249 u250 u251 u252 u253 u254 u255 u256 u257 u258 u259 u260 u261 u262 u263 u264 u265 u266 u267 u268 : Value} {w wr : World} {Av Aa A0 A1 : Option Addr} {n cap tg s jg c0 c1 capa hA : Nat} {u5 vb : Value} {j j2 : JP} {f f2 : Fls} {file : Int} {ws : List Wr}
    (hret : ∀ (v1 v5 v6 v7 v8 v9 v10 v11 v12 v13 v14 v15 v16 v17 v18 v19 v20 v21 v22 v23 v24 v25 v26 v27 v28 v29 v30 v31 v32 v33 v34 v35 v36 v37 v38 v39 v40 v41 v42 v43 v44 v45 v46 v47 v48 v49 v50 v51 v52 v53 v54 v55 v56 v57 v58 v59 v60 v61 v62 v63 v64 v65 v66 v67 v68 v69 v70 v71 v72 v73 v74 v75 v76 v77 v78 v79 v80 v81 v82 v83 v84 v85 v86 v87 v88 v89 v90 v91 v92 v93 v94 v95 v96 v97 v98 v99 v100 v101 v102 v103 v104 v105 v106 v107 v108 v109 v110 v111 v112 v113 v114 v115 v116 v117 v118 v119 v120 v121 v122 v123 v124 v125 v126 v127 v128 v129 v130 v131 v132 v133 v134 v135 v136 v137 v138 v139 v140 v141 v142 v143 v144 v145 v146 v147 v148 v149 v150 v151 v152 v153 v154 v155 v156 v157 v158 v159 v160 v161 v162 v163 v164 v165 v166 v167 v168 v169 v170 v171 v172 v173 v174 v175 v176 v177 v178 v179 v180 v181 v182 v183 v184 v185 v186 v187 v188 v189 v190 v191 v192 v193 v194 v195 v196 v197 v198 v199 v200 v201 v202 v203 v204 v205 v206 v207 v208 v209 v210 v211 v212 v213 v214 v215 v216 v217 v218 v219 v220 v221 v222 v223 v224 v225 v226 v227 v228 v229 v230 v231 v232 v233 v234 v235 v236 v237 v238 v239 v240 v241 v242 v243 v244 v245 v246 v247 v248 v249 v250 v251 v252 v253 v254 v255 v256 v257 v258 v259 v260 v261 v262 v263 v264 v265 v266 v267 v268 : Value) (wx : World), Below w.heap.size w wx → Q .ret (Act.mk #[.slice Av n cap, v1, .bool true, .pointer (some ⟨tg, 0, none⟩), .pointer (some ⟨s, 0, none⟩), v5, v6, v7, v8, v9, v10, v11, v12, v13, v14, v15, v16, v17, v18, v19, v20, v21, v22, v23, v24, v25, v26, v27, v28, v29, v30, v31, v32, v33, v34, v35, v36, v37, v38, v39, v40, v41, v42, v43, v44, v45, v46, v47, v48, v49, v50, v51, v52, v53, v54, v55, v56, v57, v58, v59, v60, v61, v62, v63, v64, v65, v66, v67, v68, v69, v70, v71, v72, v73, v74, v75, v76, v77, v78, v79, v80, v81, v82, v83, v84, v85, v86, v87, v88, v89, v90, v91, v92, v93, v94, v95, v96, v97, v98, v99, v100, v101, v102, v103, v104, v105, v106, v107, v108, v109, v110, v111, v112, v113, v114, v115, v116, v117, v118, v119, v120, v121, v122, v123, v124, v125, v126, v127, v128, v129, v130, v131, v132, v133, v134, v135, v136, v137, v138, v139, v140, v141, v142, v143, v144, v145, v146, v147, v148, v149, v150, v151, v152, v153, v154, v155, v156, v157, v158, v159, v160, v161, v162, v163, v164, v165, v166, v167, v168, v169, v170, v171, v172, v173, v174, v175, v176, v177, v178, v179, v180, v181, v182, v183, v184, v185, v186, v187, v188, v189, v190, v191, v192, v193, v194, v195, v196, v197, v198, v199, v200, v201, v202, v203, v204, v205, v206, v207, v208, v209, v210, v211, v212, v213, v214, v215, v216, v217, v218, v219, v220, v221, v222, v223, v224, v225, v226, v227, v228, v229, v230, v231, v232, v233, v234, v235, v236, v237, v238, v239, v240, v241, v242, v243, v244, v245, v246, v247, v248, v249, v250, v251, v252, v253, v254, v255, v256, v257, v258, v259, v260, v261, v262, v263, v264, v265, v266, v267, v268] []) wx)
    (HD : Hid (DAt wr tg jg A0 c0 A1 c1 vb [] j2 f file)) (HB : Hid (Below w.heap.size w wr)) (HG : Hid (Good f j)) (HG2 : Hid (Good f2 j2)) (HF2 : Hid (apD ws (-1) f = f2)) (hj2 : j2.recs = j.recs ++ [⟨4, [7]⟩])
    (HW : Hid (WOut wr hA (.slice Aa ws.length capa) ws ∧ costW ws ≤ 65537)) (HT : Hid (Nibs w)) : (((Tryd.f8.body).getD .skip).sub [true, true, true, true, true, true, true, true]).wp Tryd.prog Q (Act.mk #[.slice Av n cap, u1, u2, .pointer (some ⟨tg, 0, none⟩), .pointer (some ⟨s, 0, none⟩), u5, u6, u7, u8, u9, u10, u11, u12, u13, u14, u15, u16, u17, u18, u19, u20, .slice Aa ws.length capa, .int .i64 0, u23, u24, u25, u26, u27, u28, u29, u30, u31, u32, u33, u34, u35, u36, u37, u38, u39, u40, u41, u42, u43, u44, u45, u46, u47, u48, u49, u50, u51, u52, u53, u54, u55, u56, u57, u58, u59, u60, u61, u62, u63, u64, u65, u66, u67, u68, u69, u70, u71, u72, u73, u74, u75, u76, u77, u78, u79, u80, u81, u82, u83, u84, u85, u86, u87, u88, u89, u90, u91, u92, u93, u94, u95, u96, u97, u98, u99, u100, u101, u102, u103, u104, u105, u106, u107, u108, u109, u110, u111, u112, u113, u114, u115, u116, u117, u118, u119, u120, u121, u122, u123, u124, u125, u126, u127, u128, u129, u130, u131, u132, u133, u134, u135, u136, u137, u138, u139, u140, u141, u142, u143, u144, u145, u146, u147, u148, u149, u150, u151, u152, u153, u154, u155, u156, u157, u158, u159, u160, u161, u162, u163, u164, u165, u166, u167, u168, u169, u170, u171, u172, u173, u174, u175, u176, u177, u178, u179, u180, u181, u182, u183, u184, u185, u186, u187, u188, u189, u190, u191, u192, u193, u194, u195, u196, u197, u198, u199, u200, u201, u202, u203, u204, u205, u206, u207, u208, u209, u210, u211, u212, u213, u214, u215, u216, u217, u218, u219, u220, u221, u222, u223, u224, u225, u226, u227, u228, u229, u230, u231, u232, u233, u234, u235, u236, u237, u238, u239, u240, u241, u242, u243, u244, u245, u246, u247, u248, u249, u250, u251, u252, u253, u254, u255, u256, u257, u258, u259, u260, u261, u262, u263, u264, u265, u266, u267, u268] []) wr := by
  obtain ⟨i1, hi1, hr0, hr1, hr2⟩ := info_parts info_rec
  have HEND := Lib.hid hret
  clear hret
  have HNB : Hid (Nibs wr) := Lib.hid (HT.out.below HB.out)
  have HC : Hid (∀ W, Below wr.heap.size wr W → W.cell? ⟨tg, 1, none⟩ = some (.slice A0 f.a.length c0) ∧ W.cell? ⟨tg, 2, none⟩ = some (.slice A1 f.b.length c1)) := Lib.hid fun W hW => ⟨(HD.out.over hW).blk.cell 1, (HD.out.over hW).blk.cell 2⟩
  have hla := HG.out.half.la
  have hrl := recs_le HG.out
  have hrl2 := recs_le HG2.out
  obtain ⟨t1, t2⟩ := HC.out wr (Below.refl _ _)
  have HP1 := Lib.hid (jo_give HG.out HD.out.o0 HD.out.o1 HNB.out)
  refine tail_step (a := ((Tryd.f8.body).getD .skip).sub [true, true, true, true, true, true, true, true, false]) (b := ((Tryd.f8.body).getD .skip).sub [true, true, true, true, true, true, true, true, true]) (by kernel_rfl) (fun KT HKT => ?_); dsimp only [Tryd.f8, Option.getD, Code.sub]
  go_wp2_with (first
    | (go_at_call 38; refine HP1.out.mono ?_; rintro _ w1 ⟨Al, cl, Kl, rfl, hm1, ho1, hb1⟩; have H1 := Lib.hid (And.intro hm1 (And.intro ho1 hb1)); clear hm1 ho1 hb1 t1 t2; have HP2 := Lib.hid (held_any (c := cl) (H1.out.2.1.rdN H1.out.1) hrl (fun r hr => by obtain ⟨_, _, _, _, hb⟩ := Rc.ok_k (HG.out.fine.ok r hr); omega)); go_simp)
    | (go_at_call 39; refine HP2.out.mono ?_; rintro _ w2 ⟨Ah, ch, Kh, rfl, hoh, hmh, hbh⟩; have H2 := Lib.hid (And.intro hmh (And.intro hoh hbh)); clear hmh hoh hbh; go_simp))
  have HB2 := Lib.hid (Below.then H1.out.2.2 H2.out.2.2)
  obtain ⟨t1, t2⟩ := HC.out w2 HB2.out
  have hap := oapply_r (w := w2) (ca := c0) (cb := c1) (cap := capa) (f := f) (-1) ((HW.out.1.below HB2.out).mono (Nat.zero_le _)) HW.out.2 (Rd.of_own (HD.out.over HB2.out).o0) (Rd.of_own (HD.out.over HB2.out).o1) HG.out.half.la
  rw [HF2.out] at hap
  have HAP := Lib.hid hap
  clear hap
  have hkl : Kh.length = j.recs.length := by rw [← H2.out.1, List.length_map]
  have hL2 : j2.recs.length = j.recs.length + 1 := by rw [hj2]; simp
  have HK : Hid (∀ W, Below w2.heap.size w2 W → W.ownsRow w1.heap.size 34 2 (.slice Ah j.recs.length ch) j.recs.length (rowsK Kh)) := Lib.hid fun W hW => by
    have h := own_over H2.out.2.1.own hW
    rw [hkl] at h
    exact h
  refine tail_step (a := ((Tryd.f8.body).getD .skip).sub [true, true, true, true, true, true, true, true, true, false]) (b := ((Tryd.f8.body).getD .skip).sub [true, true, true, true, true, true, true, true, true, true]) (by kernel_rfl) (fun KT HKT => ?_); dsimp only [Tryd.f8, Option.getD, Code.sub]
  go_wp2_with (first
    | (go_at_call 37; refine HAP.out.mono ?_; rintro _ w3 ⟨B0, e0, B1, e1, rfl, ho0, ho1, _, hb3⟩; have H3 := Lib.hid (And.intro ho0 (And.intro ho1 hb3)); clear ho0 ho1 hb3 t1 t2; have HP3 := Lib.hid (jo_giveN hL2 HG2.out (own_base H3.out.1 (Nat.zero_le _)) (own_base H3.out.2.1 (Nat.zero_le _)) (HNB.out.below (Below.then HB2.out H3.out.2.2))); go_simp)
    | (go_at_call 38; refine HP3.out.mono ?_; rintro _ w4 ⟨Ag, cg, Kg, rfl, hm4, ho4, hb4⟩; have H4 := Lib.hid (And.intro hm4 (And.intro ho4 hb4)); clear hm4 ho4 hb4; go_simp)
    | (at_builtin; go_loud (refine appN2 (w4.alloc (.cells #[.int .u8 7] 5)) (by rfl) _ _ 25 (by rfl) w1.heap.size 34 i1 _ 2 32 u_recs hi1 hr0 hr1 hr2 rfl (by omega) _ j.recs.length (rowsK Kh) (by rfl) ((HK.out w4 (Below.then H3.out.2.2 H4.out.2.2)).alloc _) #[.int .i64 4, .slice (some ⟨w4.heap.size, 0, none⟩) 1 1] rfl (by rw [World.size_alloc]; rfl) (by simp; exact ⟨rfl, rfl⟩) (by simp only [maxLen]; omega) (by omega) (by have := H2.out.2.2.size; have := H3.out.2.2.size; have := H4.out.2.2.size; rw [World.size_alloc]; omega) ?_; intro v5 w5 ho5 hb5 hg5 _; obtain ⟨A5, c5, rfl, _, _⟩ := own_shape ho5; have H5 := Lib.hid (And.intro ho5 (And.intro hb5 hg5)); clear ho5 hb5 hg5; have HRY := Lib.hid (rec_end H2.out.2.1 H2.out.1 hj2 hL2 H3.out.2.2 H4 H5 H2.out.2.2.size hrl2); go_simp))
    | (go_at_call 14; refine HRY.out.1.mono ?_; rintro _ w6 ⟨rfl, hb6⟩; have H6 := Lib.hid hb6; clear hb6; go_simp))
  dsimp only [Tryd.f8, Option.getD, Code.sub]
  go_wp2_with fail
  exact HEND.out _ _ _ _ _ _ _ _ _ _ _ _ _ _ _ _ _ _ _ _ _ _ _ _ _ _ _ _ _ _ _ _ _ _ _ _ _ _ _ _ _ _ _ _ _ _ _ _ _ _ _ _ _ _ _ _ _ _ _ _ _ _ _ _ _ _ _ _ _ _ _ _ _ _ _ _ _ _ _ _ _ _ _ _ _ _ _ _ _ _ _ _ _ _ _ _ _ _ _ _ _ _ _ _ _ _ _ _ _ _ _ _ _ _ _ _ _ _ _ _ _ _ _ _ _ _ _ _ _ _ _ _ _ _ _ _ _ _ _ _ _ _ _ _ _ _ _ _ _ _ _ _ _ _ _ _ _ _ _ _ _ _ _ _ _ _ _ _ _ _ _ _ _ _ _ _ _ _ _ _ _ _ _ _ _ _ _ _ _ _ _ _ _ _ _ _ _ _ _ _ _ _ _ _ _ _ _ _ _ _ _ _ _ _ _ _ _ _ _ _ _ _ _ _ _ _ _ _ _ _ _ _ _ _ _ _ _ _ _ _ _ _ _ _ _ _ _ _ _ _ _ _ _ _ _ _ _ _ _ _ _ _ _ _ _ _ ((HB.out.trans ((Below.then (Below.then HB2.out H3.out.2.2) H4.out.2.2).mono HB.out.size)).trans ((HRY.out.2.mono (Nat.le_trans HB.out.size H1.out.2.2.size)).trans (H6.out.mono (Nat.le_trans (Nat.le_trans HB.out.size (Nat.le_trans H1.out.2.2.size (Nat.le_trans H2.out.2.2.size (Nat.le_trans H3.out.2.2.size H4.out.2.2.size)))) HRY.out.2.size))))
end Go.Proofs.YtpkdalpjfcopbaaDoor
