/-
  JournalOwn's round: the writes are made. And: JournalOwn's round: the disk is opened and gone through, twice each.
-/
import Derived.Test.YtpkdalpjfcopbaaDoorNOwn28
namespace Go.Proofs.YtpkdalpjfcopbaaDoor
open Go.RowKit
/-- What an opening of a good disk hands out. -/
theorem jo_open {w : World} {f : Fls} {j : JP} {A0 A1 : Option Addr} {c0 c1 : Nat} (hg : Good f j) (h0 : w.ownsRow 0 5 1 (.slice A0 f.a.length c0) f.a.length (bvs f.a)) (h1 : w.ownsRow 0 5 1 (.slice A1 f.b.length c1) f.b.length (bvs f.b)) (ht : Nibs w) :
    Calls Tryd.prog 17 #[.agg #[.slice A0 f.a.length c0, .slice A1 f.b.length c1]] w fun e w' => ∃ jg Al cl K, e = .returned (.tuple #[.pointer (some ⟨jg, 0, none⟩), .slice Al j.recs.length cl, .slice none 0 0, .int .i64 0]) ∧ w.heap.size ≤ jg ∧ PJAt w' jg j ∧ K.map Rk.rc = j.recs ∧ RcOwn w' w.heap.size (.slice Al j.recs.length cl) K ∧ Below w.heap.size w w' := by
  obtain ⟨_, _, e0, a0, b0⟩ := own_shape h0
  obtain ⟨_, _, e1, a1, b1⟩ := own_shape h1
  injection e0 with _ _ e0
  injection e1 with _ _ e1
  subst e0 e1
  simp only [maxLen] at b0 b1
  refine (Open_any (Rd.of_own h0) (Rd.of_own h1) a0 a1 b0 b1 ht).mono fun e w' hop => ?_
  rw [good_openR hg] at hop
  obtain ⟨hb, jg, vl, vw, K, he, hj, hp, hm, ho, hw⟩ := hop
  obtain ⟨Al, cl, rfl⟩ := ho.shapeN hm
  rcases hw with ⟨_, rfl⟩ | ⟨x, _, _, _, hx, _⟩
  · exact ⟨jg, Al, cl, K, he, hj, hp, hm, ho, hb⟩
  · cases hx
theorem jo_given {w : World} {f : Fls} {j : JP} {A0 A1 : Option Addr} {c0 c1 : Nat} (hg : Good f j) (h0 : w.ownsRow 0 5 1 (.slice A0 f.a.length c0) f.a.length (bvs f.a)) (h1 : w.ownsRow 0 5 1 (.slice A1 f.b.length c1) f.b.length (bvs f.b)) (ht : Nibs w) :
    Calls Tryd.prog 38 #[.agg #[.slice A0 f.a.length c0, .slice A1 f.b.length c1]] w fun e w' => ∃ Al cl K, e = .returned (.slice Al j.recs.length cl) ∧ K.map Rk.rc = j.recs ∧ RcOwn w' w.heap.size (.slice Al j.recs.length cl) K ∧ Below w.heap.size w w' := by
  have hla := hg.half.la
  refine (given_all (Rd.of_own h0) (Rd.of_own h1) (by omega) (by omega) ht).mono ?_
  rintro e w' ⟨Al, cl, K, rfl, ho, hm, hb⟩
  have hm2 : K.map Rk.rc = j.recs := by rw [hm, good_giveR hg]
  have hl : K.length = j.recs.length := by rw [← hm2, List.length_map]
  rw [hl] at ho ⊢
  exact ⟨Al, cl, K, rfl, hm2, ho, hb⟩
theorem jo_empty {w : World} (ht : Nibs w) : Calls Tryd.prog 38 #[.agg #[.slice none 0 0, .slice none 0 0]] w fun e w' => (∃ v, e = .returned v) ∧ Below w.heap.size w w' := by
  refine (given_all (f := ⟨[], []⟩) (A0 := none) (A1 := none) (c0 := 0) (c1 := 0) ⟨rfl, fun h => absurd h (Nat.lt_irrefl 0)⟩ ⟨rfl, fun h => absurd h (Nat.lt_irrefl 0)⟩ (by simp) (by simp) ht).mono ?_
  rintro e w' ⟨Al, cl, K, rfl, _, _, hb⟩
  exact ⟨⟨_, rfl⟩, hb⟩
theorem rc_seg2 {w : World} {base : Nat} {v : Value} {K : List Rk} {j : JP} {f : Fls} (hg : Good f j) (h : RcOwn w base v K) (hm : K.map Rk.rc = j.recs) : Seg w base w.heap.size (bodTv K) :=
  rc_seg h fun r hr => by
    rw [hm] at hr
    obtain ⟨_, _, _, _, hb⟩ := Rc.ok_k (hg.fine.ok r hr)
    omega
theorem rc_row2 {w : World} {base n c : Nat} {A : Option Addr} {K : List Rk} (h : RcOwn w base (.slice A n c) K) (hm : K.length = n) : RowT w 34 2 1 A (bodTv K) := by
  subst hm
  exact rc_row h
set_option maxRecDepth 100000 in
set_option maxHeartbeats 6400000 in
theorem own_18 {Q : Exit → Act → World → Prop} {u1 u2 u8 u9 u10 u11 u12 u13 u14 u15 u16 u17 u18 u19 u20 u21 u22 u23 u24 u25 u26 u27 u28 u29 u30 u31 u32 u33 u34 u35 u36 u37 u38 u39 u40 u41 u42 u43 u44 u45 u46 u47 u48 u49 u50 u51 u52 u53 u54 u55 u56 u57 u58 u59 u60 u61 u62 u63 u64 u65 u66 u67 u68 u69 u70 u71 u72 u73 u74 u75 u76 u77 u78 u79 u80 u81 u82 u83 u84 u85 u86 u87 u88 u89 u90 u91 u92 u93 u94 u95 u96 u97 u98 u99 u100 u101 u102 u103 u104 u105 u106 u107 u108 u109 u110 u111 u112 u113 u114 u115 u116 u117 u118 u119 u120 u121 u122 u123 u124 u125 u126 u127 u128 u129 u130 u131 u132 u133 u134 u135 u136 u137 u138 u139 u140 u141 u142 u143 u144 u145 u146 u147 u148 u149 u150 u151 u152 u153 u154 u155 u156 u157 u158 u159 u160 u161 u162 u163 u164 u165 u166 u167 u168 u169 u170 u171 u172 u173 u174 u175 u176 u177 u178 u179 u180 u181 u182 u183 u184 u185 u186 u187 u188 u189 u190 u191 u192 u193 u194 u195 u196 u197 u198 u199 u200 u201 u202 u203 u204 u205 u206 u207 u208 u209 u210 u211 u212 u213 u214 u215 u216 u217 u218 u219 u220 u221 u222 u223 u224 u225 u226 u227 u228 u229 u230 u231 u232 u233 u234 u235 u236 u237 u238 u239 u240 u241 u242 u243 u244 u245 u246 u247 u248 u249 u250 u251 u252 u253 u254 u255 u256 u257 u258 u259 u260 u261 u262 u263 u264 u265 u266 u267 u268 : Value} {w w0 wr : World} {Av Aa A0 A1 : Option Addr} {n cap tg s k jg c0 c1 ca b6 hA0 hA1 : Nat} {vb vt vm : Value} {j : JP} {f : Fls} {file kd : Int} {T M Ew : List Tv}
    (hend : ∀ (v6 v7 v8 v9 v10 v11 v12 v13 v14 v15 v16 v17 v18 v19 v20 v39 v40 v41 v42 v43 v44 v45 v46 v47 v48 v49 v50 v51 v52 v53 v54 v55 v56 v57 v58 v59 v60 v61 v62 v63 v64 v65 v66 v67 v68 v69 v70 v71 v72 v73 v74 v75 v76 v77 v78 v79 v80 v81 v82 v83 v84 v85 v86 v87 v88 v89 v90 v91 v92 v93 v94 v95 v96 v97 v98 v99 v100 v101 v102 v103 v104 v105 v106 v107 v108 v109 v110 v111 v112 v113 v114 v115 v116 v117 v118 v119 v120 v121 v122 v123 v124 v125 v126 v127 v128 v129 v130 v131 v132 v133 v134 v135 v136 v137 v138 v139 v140 v141 v142 v143 v144 v145 v146 v147 v148 v149 v150 v151 v152 v153 v154 v155 v156 v157 v158 v159 v160 v161 v162 v163 v164 v165 v166 v167 v168 v169 v170 v171 v172 v173 v174 v175 v176 v177 v178 v179 v180 v181 v182 v183 v184 v185 v186 v187 v188 v189 v190 v191 v192 v193 v194 v195 v196 v197 v198 v199 v200 v201 v202 v203 v204 v205 v206 v207 v208 v209 v210 v211 v212 v213 v214 v215 v216 v217 v218 v219 v220 v221 v222 v223 v224 : Value) (wx : World), Ow w tg s (k + 1) wx → Q .normal (Act.mk #[.slice Av n cap, u1, u2, .pointer (some ⟨tg, 0, none⟩), .pointer (some ⟨s, 0, none⟩), .int .i64 (k : Int), v6, v7, v8, v9, v10, v11, v12, v13, v14, v15, v16, v17, v18, v19, v20, u21, u22, u23, u24, u25, u26, u27, u28, u29, u30, u31, u32, u33, u34, u35, u36, u37, u38, v39, v40, v41, v42, v43, v44, v45, v46, v47, v48, v49, v50, v51, v52, v53, v54, v55, v56, v57, v58, v59, v60, v61, v62, v63, v64, v65, v66, v67, v68, v69, v70, v71, v72, v73, v74, v75, v76, v77, v78, v79, v80, v81, v82, v83, v84, v85, v86, v87, v88, v89, v90, v91, v92, v93, v94, v95, v96, v97, v98, v99, v100, v101, v102, v103, v104, v105, v106, v107, v108, v109, v110, v111, v112, v113, v114, v115, v116, v117, v118, v119, v120, v121, v122, v123, v124, v125, v126, v127, v128, v129, v130, v131, v132, v133, v134, v135, v136, v137, v138, v139, v140, v141, v142, v143, v144, v145, v146, v147, v148, v149, v150, v151, v152, v153, v154, v155, v156, v157, v158, v159, v160, v161, v162, v163, v164, v165, v166, v167, v168, v169, v170, v171, v172, v173, v174, v175, v176, v177, v178, v179, v180, v181, v182, v183, v184, v185, v186, v187, v188, v189, v190, v191, v192, v193, v194, v195, v196, v197, v198, v199, v200, v201, v202, v203, v204, v205, v206, v207, v208, v209, v210, v211, v212, v213, v214, v215, v216, v217, v218, v219, v220, v221, v222, v223, v224, u225, u226, u227, u228, u229, u230, u231, u232, u233, u234, u235, u236, u237, u238, u239, u240, u241, u242, u243, u244, u245, u246, u247, u248, u249, u250, u251, u252, u253, u254, u255, u256, u257, u258, u259, u260, u261, u262, u263, u264, u265, u266, u267, u268] []) wx)
    (HR : Hid (Rn w w0 wr tg s k jg A0 c0 A1 c1 vb j f file vt vm T M b6 kd)) (HG : Hid (Good f j))
    (HW : Hid (Seg wr hA0 hA1 Ew ∧ RowT wr 94 3 2 Aa Ew ∧ (∃ xs, wr.ownsRow 0 94 3 (.slice Aa Ew.length ca) Ew.length xs) ∧ Ew.length ≤ 1))
    (HZ : Hid (w0.heap.size ≤ hA0 ∧ hA0 ≤ hA1 ∧ hA1 ≤ wr.heap.size)) (HDQ : Hid (∀ q, DBk A0 f.a.length c0 A1 f.b.length c1 q → hA1 ≤ q ∧ q < wr.heap.size))
    (hk : k < 60) (HT : Hid (Nibs w)) : (((Tryd.f8.body).getD .skip).sub [true, true, true, true, false, true, false, false, true, false, false, true, true, true, true]).wp Tryd.prog Q (Act.mk #[.slice Av n cap, u1, u2, .pointer (some ⟨tg, 0, none⟩), .pointer (some ⟨s, 0, none⟩), .int .i64 (k : Int), .pointer (some ⟨b6, 0, none⟩), .slice Aa Ew.length ca, u8, u9, u10, u11, u12, u13, u14, u15, u16, u17, u18, u19, u20, u21, u22, u23, u24, u25, u26, u27, u28, u29, u30, u31, u32, u33, u34, u35, u36, u37, u38, u39, u40, u41, u42, u43, u44, u45, u46, u47, u48, u49, u50, u51, u52, u53, u54, u55, u56, u57, u58, u59, u60, u61, u62, u63, u64, u65, u66, u67, u68, u69, u70, u71, u72, u73, u74, u75, u76, u77, u78, u79, u80, u81, u82, u83, u84, u85, u86, u87, u88, u89, u90, u91, u92, u93, u94, u95, u96, u97, u98, u99, u100, u101, u102, u103, u104, u105, u106, u107, u108, u109, u110, u111, u112, u113, u114, u115, u116, u117, u118, u119, u120, u121, u122, u123, u124, u125, u126, u127, u128, u129, u130, u131, u132, u133, u134, u135, u136, u137, u138, u139, u140, u141, u142, u143, u144, u145, u146, u147, u148, u149, u150, u151, u152, u153, u154, u155, u156, u157, u158, u159, u160, u161, u162, u163, u164, u165, u166, u167, u168, u169, u170, u171, u172, u173, u174, u175, u176, u177, u178, u179, u180, u181, u182, u183, u184, u185, u186, u187, u188, u189, u190, u191, u192, u193, u194, u195, u196, u197, u198, u199, u200, u201, u202, u203, u204, u205, u206, u207, u208, u209, u210, u211, u212, u213, u214, u215, u216, u217, u218, u219, u220, u221, u222, u223, u224, u225, u226, u227, u228, u229, u230, u231, u232, u233, u234, u235, u236, u237, u238, u239, u240, u241, u242, u243, u244, u245, u246, u247, u248, u249, u250, u251, u252, u253, u254, u255, u256, u257, u258, u259, u260, u261, u262, u263, u264, u265, u266, u267, u268] []) wr := by
  have HEND := Lib.hid hend
  clear hend
  have HNB : Hid (Nibs wr) := Lib.hid (HT.out.below HR.out.bw)
  have HC : Hid (∀ W, Below wr.heap.size wr W → W.cell? ⟨tg, 1, none⟩ = some (.slice A0 f.a.length c0) ∧ W.cell? ⟨tg, 2, none⟩ = some (.slice A1 f.b.length c1)) := Lib.hid fun W hW => ⟨(HR.out.d.over hW).blk.cell 1, (HR.out.d.over hW).blk.cell 2⟩
  have HO : Hid (∀ W, Below wr.heap.size wr W → W.ownsRow 0 5 1 (.slice A0 f.a.length c0) f.a.length (bvs f.a) ∧ W.ownsRow 0 5 1 (.slice A1 f.b.length c1) f.b.length (bvs f.b)) := Lib.hid fun W hW => ⟨own_over HR.out.d.o0 hW, own_over HR.out.d.o1 hW⟩
  obtain ⟨t1, t2⟩ := HC.out wr (Below.refl _ _)
  have HP1 := Lib.hid (jo_open HG.out HR.out.d.o0 HR.out.d.o1 HNB.out)
  refine tail_step (a := ((Tryd.f8.body).getD .skip).sub [true, true, true, true, false, true, false, false, true, false, false, true, true, true, true, false]) (b := ((Tryd.f8.body).getD .skip).sub [true, true, true, true, false, true, false, false, true, false, false, true, true, true, true, true]) (by kernel_rfl) (fun KT HKT => ?_); dsimp only [Tryd.f8, Option.getD, Code.sub]
  go_wp2_with (go_at_call 17; refine HP1.out.mono ?_; rintro _ w1 ⟨j1, Al, cl, Kl, rfl, hj1, hp1, hm1, ho1, hb1⟩; have H1 := Lib.hid (And.intro hj1 (And.intro hp1 (And.intro hm1 (And.intro ho1 hb1)))); clear hj1 hp1 hm1 ho1 hb1)
  have HB1 := Lib.hid H1.out.2.2.2.2
  have HP2 := Lib.hid (jo_empty (HNB.out.below HB1.out))
  clear t1 t2 HP1
  refine tail_step (a := ((Tryd.f8.body).getD .skip).sub [true, true, true, true, false, true, false, false, true, false, false, true, true, true, true, true, false]) (b := ((Tryd.f8.body).getD .skip).sub [true, true, true, true, false, true, false, false, true, false, false, true, true, true, true, true, true]) (by kernel_rfl) (fun KT HKT => ?_); dsimp only [Tryd.f8, Option.getD, Code.sub]
  go_wp2_with (go_at_call 38; refine HP2.out.mono ?_; rintro _ w2 ⟨⟨v2, rfl⟩, hb2⟩; have H2 := Lib.hid hb2; clear hb2)
  have HB2 := Lib.hid (Below.then HB1.out H2.out)
  obtain ⟨t1, t2⟩ := HC.out w2 HB2.out
  have HP3 := Lib.hid (jo_open HG.out (HO.out w2 HB2.out).1 (HO.out w2 HB2.out).2 (HNB.out.below HB2.out))
  refine tail_step (a := ((Tryd.f8.body).getD .skip).sub [true, true, true, true, false, true, false, false, true, false, false, true, true, true, true, true, true, false]) (b := ((Tryd.f8.body).getD .skip).sub [true, true, true, true, false, true, false, false, true, false, false, true, true, true, true, true, true, true]) (by kernel_rfl) (fun KT HKT => ?_); dsimp only [Tryd.f8, Option.getD, Code.sub]
  go_wp2_with (go_at_call 17; refine HP3.out.mono ?_; rintro _ w3 ⟨j3, Am, cm, Km, rfl, hj3, hp3, hm3, ho3, hb3⟩; have H3 := Lib.hid (And.intro hm3 (And.intro ho3 hb3)); clear hj3 hp3 hm3 ho3 hb3)
  have HB3 := Lib.hid (Below.then HB2.out H3.out.2.2)
  clear t1 t2 HP2 HP3
  obtain ⟨t1, t2⟩ := HC.out w3 HB3.out
  have HP4 := Lib.hid (jo_given HG.out (HO.out w3 HB3.out).1 (HO.out w3 HB3.out).2 (HNB.out.below HB3.out))
  refine tail_step (a := ((Tryd.f8.body).getD .skip).sub [true, true, true, true, false, true, false, false, true, false, false, true, true, true, true, true, true, true, false]) (b := ((Tryd.f8.body).getD .skip).sub [true, true, true, true, false, true, false, false, true, false, false, true, true, true, true, true, true, true, true]) (by kernel_rfl) (fun KT HKT => ?_); dsimp only [Tryd.f8, Option.getD, Code.sub]
  go_wp2_with (go_at_call 38; refine HP4.out.mono ?_; rintro _ w4 ⟨Ax, cx, Kx, rfl, hm4, ho4, hb4⟩; have H4 := Lib.hid (And.intro hm4 (And.intro ho4 hb4)); clear hm4 ho4 hb4)
  have HB4 := Lib.hid (Below.then HB3.out H4.out.2.2)
  clear t1 t2 HP4
  obtain ⟨t1, t2⟩ := HC.out w4 HB4.out
  have HP5 := Lib.hid (jo_given HG.out (HO.out w4 HB4.out).1 (HO.out w4 HB4.out).2 (HNB.out.below HB4.out))
  refine tail_step (a := ((Tryd.f8.body).getD .skip).sub [true, true, true, true, false, true, false, false, true, false, false, true, true, true, true, true, true, true, true, false]) (b := ((Tryd.f8.body).getD .skip).sub [true, true, true, true, false, true, false, false, true, false, false, true, true, true, true, true, true, true, true, true]) (by kernel_rfl) (fun KT HKT => ?_); dsimp only [Tryd.f8, Option.getD, Code.sub]
  go_wp2_with (go_at_call 38; refine HP5.out.mono ?_; rintro _ w5 ⟨Ay, cy, Ky, rfl, hm5, ho5, hb5⟩; have H5 := Lib.hid (And.intro hm5 (And.intro ho5 hb5)); clear hm5 ho5 hb5)
  have HB5 := Lib.hid (Below.then HB4.out H5.out.2.2)
  clear t1 t2 HP5
  have b15 : Below w1.heap.size w1 w5 := Below.then (Below.then (Below.then H2.out H3.out.2.2) H4.out.2.2) H5.out.2.2
  have b35 : Below w3.heap.size w3 w5 := Below.then H4.out.2.2 H5.out.2.2
  have o1 := H1.out.2.2.2.1.below b15
  have o3 := H3.out.2.1.below b35
  have o4 := H4.out.2.1.below H5.out.2.2
  have hrl := recs_le HG.out
  have HRD := Lib.hid (And.intro (o1.rdN H1.out.2.2.1) (And.intro (o3.rdN H3.out.1) (And.intro (o4.rdN H4.out.1) (H5.out.2.1.rdN H5.out.1))))
  have HBX := Lib.hid (And.intro b15 b35)
  have HOO := Lib.hid (And.intro o1 (And.intro o3 o4))
  clear b15 b35 o1 o3 o4
  have HR1 := Lib.hid (records_yes (c1 := cl) (c2 := cm) HRD.out.1 HRD.out.2.1 (by omega))
  refine tail_step (a := ((Tryd.f8.body).getD .skip).sub [true, true, true, true, false, true, false, false, true, false, false, true, true, true, true, true, true, true, true, true, false]) (b := ((Tryd.f8.body).getD .skip).sub [true, true, true, true, false, true, false, false, true, false, false, true, true, true, true, true, true, true, true, true, true]) (by kernel_rfl) (fun KT HKT => ?_); dsimp only [Tryd.f8, Option.getD, Code.sub]
  go_wp2_with (first
    | (go_at_call 14; refine HR1.out.mono ?_; rintro _ w6 ⟨rfl, hb6⟩; have H6 := Lib.hid hb6; have HR2 := Lib.hid (records_yes (c1 := cl) (c2 := cx) (HRD.out.1.below hb6) (HRD.out.2.2.1.below hb6) (by omega)); clear hb6 HR1)
    | (go_at_call 14; refine HR2.out.mono ?_; rintro _ w7 ⟨rfl, hb7⟩; have H7 := Lib.hid (Below.then H6.out hb7); have HR3 := Lib.hid (records_yes (c1 := cl) (c2 := cy) (HRD.out.1.below H7.out) (HRD.out.2.2.2.below H7.out) (by omega)); clear hb7 HR2)
    | (go_at_call 14; refine HR3.out.mono ?_; rintro _ w8 ⟨rfl, hb8⟩; have H8 := Lib.hid (Below.then H7.out hb8); clear hb8 HR3)
    | (go_at_call 21; refine (writes_yes (c1 := 0) (c2 := 0) (wsAt_nil w8 none) (wsAt_nil w8 none) (by omega)).mono ?_; rintro _ w9 ⟨rfl, hb9⟩; have H9 := Lib.hid (Below.then H8.out hb9); clear hb9))
  have b9 := Below.then HB5.out H9.out
  have k1 : Kl.length = j.recs.length := by rw [← H1.out.2.2.1, List.length_map]
  have k3 : Km.length = j.recs.length := by rw [← H3.out.1, List.length_map]
  have k4 : Kx.length = j.recs.length := by rw [← H4.out.1, List.length_map]
  have k5 : Ky.length = j.recs.length := by rw [← H5.out.1, List.length_map]
  have q1 := (HOO.out.1).below H9.out
  have q3 := (HOO.out.2.1).below H9.out
  have q4 := (HOO.out.2.2).below H9.out
  have q5 := (H5.out.2.1).below H9.out
  have s1 := ((rc_seg2 HG.out H1.out.2.2.2.1 H1.out.2.2.1).over HBX.out.1).over H9.out
  have s3 := ((rc_seg2 HG.out H3.out.2.1 H3.out.1).over HBX.out.2).over H9.out
  have s4 := ((rc_seg2 HG.out H4.out.2.1 H4.out.1).over H5.out.2.2).over H9.out
  have s5 := (rc_seg2 HG.out H5.out.2.1 H5.out.1).over H9.out
  have z1 := HB1.out.size
  have z2 := H2.out.size
  have z3 := H3.out.2.2.size
  have z4 := H4.out.2.2.size
  have z5 := H5.out.2.2.size
  have sl := Seg.app s1 (Seg.app (s3.wide z2 (Nat.le_refl _)) (Seg.app s4 s5 z4 z5) (Nat.le_trans z2 z3) (Nat.le_trans z4 z5)) z1 (Nat.le_trans z2 (Nat.le_trans z3 (Nat.le_trans z4 z5)))
  have hz := HZ.out
  have sw := (HW.out.1.over b9).wide hz.1 hz.2.2
  have no : ∀ {t : Nat} {z d : Nat} {A : Option Addr} {B : List Tv}, RowT wr t z d A B → RowT w9 t z d A B := fun h => h.chg (Chg.of_below b9 (fun _ => False)) fun _ _ h => h
  obtain ⟨xs, hxs⟩ := HW.out.2.2.1
  refine own_25 (l := ⟨Al, bodTv Kl, cl⟩) (m := ⟨Am, bodTv Km, cm⟩) (x := ⟨Ax, bodTv Kx, cx⟩) (y := ⟨Ay, bodTv Ky, cy⟩) HEND.out (Lib.hid (HR.out.over b9)) HG (Lib.hid ⟨no HW.out.2.1, ⟨xs, own_over hxs b9⟩, HW.out.2.2.2⟩) (Lib.hid ⟨⟨rc_row2 q1 k1, rc_row2 q3 k3, rc_row2 q4 k4, rc_row2 q5 k5⟩, by rw [bodTv_length, k1], by rw [bodTv_length, k3], by rw [bodTv_length, k4], by rw [bodTv_length, k5]⟩) (Lib.hid (Seg.app sw sl (by omega) (by omega)).new) (Lib.hid fun q hq k e he hb => ?_) (Lib.hid ⟨q1.mono (Nat.zero_le _), H1.out.2.2.1⟩) (Lib.hid ⟨H1.out.2.1.below (Below.then HBX.out.1 H9.out), Nat.le_trans HR.out.b0 H1.out.1⟩) hk HT
  have hdq := HDQ.out q hq
  rcases Nat.lt_or_ge k Ew.length with h1 | h1
  · rw [List.getElem?_append_left h1] at he
    have := HW.out.1.hi k e q he hb
    omega
  · rw [List.getElem?_append_right h1] at he
    have := ((sl.lo _ e he).1.blk hb).1
    omega
end Go.Proofs.YtpkdalpjfcopbaaDoor
namespace Go.Proofs.YtpkdalpjfcopbaaDoor
open Go.RowKit
set_option maxRecDepth 100000 in
set_option maxHeartbeats 6400000 in
theorem own_17 {Q : Exit → Act → World → Prop} {u1 u2 u8 u9 u10 u11 u12 u13 u14 u15 u16 u17 u18 u19 u20 u21 u22 u23 u24 u25 u26 u27 u28 u29 u30 u31 u32 u33 u34 u35 u36 u37 u38 u39 u40 u41 u42 u43 u44 u45 u46 u47 u48 u49 u50 u51 u52 u53 u54 u55 u56 u57 u58 u59 u60 u61 u62 u63 u64 u65 u66 u67 u68 u69 u70 u71 u72 u73 u74 u75 u76 u77 u78 u79 u80 u81 u82 u83 u84 u85 u86 u87 u88 u89 u90 u91 u92 u93 u94 u95 u96 u97 u98 u99 u100 u101 u102 u103 u104 u105 u106 u107 u108 u109 u110 u111 u112 u113 u114 u115 u116 u117 u118 u119 u120 u121 u122 u123 u124 u125 u126 u127 u128 u129 u130 u131 u132 u133 u134 u135 u136 u137 u138 u139 u140 u141 u142 u143 u144 u145 u146 u147 u148 u149 u150 u151 u152 u153 u154 u155 u156 u157 u158 u159 u160 u161 u162 u163 u164 u165 u166 u167 u168 u169 u170 u171 u172 u173 u174 u175 u176 u177 u178 u179 u180 u181 u182 u183 u184 u185 u186 u187 u188 u189 u190 u191 u192 u193 u194 u195 u196 u197 u198 u199 u200 u201 u202 u203 u204 u205 u206 u207 u208 u209 u210 u211 u212 u213 u214 u215 u216 u217 u218 u219 u220 u221 u222 u223 u224 u225 u226 u227 u228 u229 u230 u231 u232 u233 u234 u235 u236 u237 u238 u239 u240 u241 u242 u243 u244 u245 u246 u247 u248 u249 u250 u251 u252 u253 u254 u255 u256 u257 u258 u259 u260 u261 u262 u263 u264 u265 u266 u267 u268 : Value} {w w0 wr : World} {Av Aa A0 A1 : Option Addr} {n cap tg s k jg c0 c1 ca b6 hA0 : Nat} {vb vt vm : Value} {j : JP} {f f2 : Fls} {file kd : Int} {T M : List Tv} {ws : List Wr}
    (hend : ∀ (v6 v7 v8 v9 v10 v11 v12 v13 v14 v15 v16 v17 v18 v19 v20 v39 v40 v41 v42 v43 v44 v45 v46 v47 v48 v49 v50 v51 v52 v53 v54 v55 v56 v57 v58 v59 v60 v61 v62 v63 v64 v65 v66 v67 v68 v69 v70 v71 v72 v73 v74 v75 v76 v77 v78 v79 v80 v81 v82 v83 v84 v85 v86 v87 v88 v89 v90 v91 v92 v93 v94 v95 v96 v97 v98 v99 v100 v101 v102 v103 v104 v105 v106 v107 v108 v109 v110 v111 v112 v113 v114 v115 v116 v117 v118 v119 v120 v121 v122 v123 v124 v125 v126 v127 v128 v129 v130 v131 v132 v133 v134 v135 v136 v137 v138 v139 v140 v141 v142 v143 v144 v145 v146 v147 v148 v149 v150 v151 v152 v153 v154 v155 v156 v157 v158 v159 v160 v161 v162 v163 v164 v165 v166 v167 v168 v169 v170 v171 v172 v173 v174 v175 v176 v177 v178 v179 v180 v181 v182 v183 v184 v185 v186 v187 v188 v189 v190 v191 v192 v193 v194 v195 v196 v197 v198 v199 v200 v201 v202 v203 v204 v205 v206 v207 v208 v209 v210 v211 v212 v213 v214 v215 v216 v217 v218 v219 v220 v221 v222 v223 v224 : Value) (wx : World), Ow w tg s (k + 1) wx → Q .normal (Act.mk #[.slice Av n cap, u1, u2, .pointer (some ⟨tg, 0, none⟩), .pointer (some ⟨s, 0, none⟩), .int .i64 (k : Int), v6, v7, v8, v9, v10, v11, v12, v13, v14, v15, v16, v17, v18, v19, v20, u21, u22, u23, u24, u25, u26, u27, u28, u29, u30, u31, u32, u33, u34, u35, u36, u37, u38, v39, v40, v41, v42, v43, v44, v45, v46, v47, v48, v49, v50, v51, v52, v53, v54, v55, v56, v57, v58, v59, v60, v61, v62, v63, v64, v65, v66, v67, v68, v69, v70, v71, v72, v73, v74, v75, v76, v77, v78, v79, v80, v81, v82, v83, v84, v85, v86, v87, v88, v89, v90, v91, v92, v93, v94, v95, v96, v97, v98, v99, v100, v101, v102, v103, v104, v105, v106, v107, v108, v109, v110, v111, v112, v113, v114, v115, v116, v117, v118, v119, v120, v121, v122, v123, v124, v125, v126, v127, v128, v129, v130, v131, v132, v133, v134, v135, v136, v137, v138, v139, v140, v141, v142, v143, v144, v145, v146, v147, v148, v149, v150, v151, v152, v153, v154, v155, v156, v157, v158, v159, v160, v161, v162, v163, v164, v165, v166, v167, v168, v169, v170, v171, v172, v173, v174, v175, v176, v177, v178, v179, v180, v181, v182, v183, v184, v185, v186, v187, v188, v189, v190, v191, v192, v193, v194, v195, v196, v197, v198, v199, v200, v201, v202, v203, v204, v205, v206, v207, v208, v209, v210, v211, v212, v213, v214, v215, v216, v217, v218, v219, v220, v221, v222, v223, v224, u225, u226, u227, u228, u229, u230, u231, u232, u233, u234, u235, u236, u237, u238, u239, u240, u241, u242, u243, u244, u245, u246, u247, u248, u249, u250, u251, u252, u253, u254, u255, u256, u257, u258, u259, u260, u261, u262, u263, u264, u265, u266, u267, u268] []) wx)
    (HR : Hid (Rn w w0 wr tg s k jg A0 c0 A1 c1 vb j f file vt vm T M b6 kd)) (HG : Hid (Good f2 j ∧ apD ws (-1) f = f2)) (HLA : Hid (f.a.length ≤ 65536 ∧ f.b.length ≤ 65536))
    (HW : Hid (WOut wr hA0 (.slice Aa ws.length ca) ws ∧ costW ws ≤ 65537 ∧ ∀ x ∈ ws, x.bs.length ≤ 65536)) (HZ : Hid (w0.heap.size ≤ hA0 ∧ hA0 ≤ wr.heap.size))
    (hk : k < 60) (HT : Hid (Nibs w)) : (((Tryd.f8.body).getD .skip).sub [true, true, true, true, false, true, false, false, true, false, false, true, true, true]).wp Tryd.prog Q (Act.mk #[.slice Av n cap, u1, u2, .pointer (some ⟨tg, 0, none⟩), .pointer (some ⟨s, 0, none⟩), .int .i64 (k : Int), .pointer (some ⟨b6, 0, none⟩), .slice Aa ws.length ca, u8, u9, u10, u11, u12, u13, u14, u15, u16, u17, u18, u19, u20, u21, u22, u23, u24, u25, u26, u27, u28, u29, u30, u31, u32, u33, u34, u35, u36, u37, u38, u39, u40, u41, u42, u43, u44, u45, u46, u47, u48, u49, u50, u51, u52, u53, u54, u55, u56, u57, u58, u59, u60, u61, u62, u63, u64, u65, u66, u67, u68, u69, u70, u71, u72, u73, u74, u75, u76, u77, u78, u79, u80, u81, u82, u83, u84, u85, u86, u87, u88, u89, u90, u91, u92, u93, u94, u95, u96, u97, u98, u99, u100, u101, u102, u103, u104, u105, u106, u107, u108, u109, u110, u111, u112, u113, u114, u115, u116, u117, u118, u119, u120, u121, u122, u123, u124, u125, u126, u127, u128, u129, u130, u131, u132, u133, u134, u135, u136, u137, u138, u139, u140, u141, u142, u143, u144, u145, u146, u147, u148, u149, u150, u151, u152, u153, u154, u155, u156, u157, u158, u159, u160, u161, u162, u163, u164, u165, u166, u167, u168, u169, u170, u171, u172, u173, u174, u175, u176, u177, u178, u179, u180, u181, u182, u183, u184, u185, u186, u187, u188, u189, u190, u191, u192, u193, u194, u195, u196, u197, u198, u199, u200, u201, u202, u203, u204, u205, u206, u207, u208, u209, u210, u211, u212, u213, u214, u215, u216, u217, u218, u219, u220, u221, u222, u223, u224, u225, u226, u227, u228, u229, u230, u231, u232, u233, u234, u235, u236, u237, u238, u239, u240, u241, u242, u243, u244, u245, u246, u247, u248, u249, u250, u251, u252, u253, u254, u255, u256, u257, u258, u259, u260, u261, u262, u263, u264, u265, u266, u267, u268] []) wr := by
  have HEND := Lib.hid hend
  clear hend
  have t1 : wr.cell? ⟨tg, 1, none⟩ = some (.slice A0 f.a.length c0) := HR.out.d.blk.cell 1
  have t2 : wr.cell? ⟨tg, 2, none⟩ = some (.slice A1 f.b.length c1) := HR.out.d.blk.cell 2
  have hap := oapply_r (ca := c0) (cb := c1) (cap := ca) (-1) (HW.out.1.mono (Nat.zero_le _)) HW.out.2.1 (Rd.of_own HR.out.d.o0) (Rd.of_own HR.out.d.o1) HLA.out
  rw [HG.out.2] at hap
  have HAP := Lib.hid hap
  have HF : Hid (∀ w2, Below wr.heap.size wr w2 → (w2.cell? ⟨tg, 1, none⟩ = some (.slice A0 f.a.length c0) ∧ w2.frozen? ⟨tg, 1, none⟩ = false) ∧ (w2.cell? ⟨tg, 2, none⟩ = some (.slice A1 f.b.length c1) ∧ w2.frozen? ⟨tg, 2, none⟩ = false)) := Lib.hid fun w2 hb => by
    have h1 := HR.out.d.blk.over hb
    exact ⟨⟨h1.cell 1, h1.frozen 1⟩, h1.cell 2, h1.frozen 2⟩
  clear hap
  refine tail_step (a := ((Tryd.f8.body).getD .skip).sub [true, true, true, true, false, true, false, false, true, false, false, true, true, true, false]) (b := ((Tryd.f8.body).getD .skip).sub [true, true, true, true, false, true, false, false, true, false, false, true, true, true, true]) (by kernel_rfl) (fun KT HKT => ?_); dsimp only [Tryd.f8, Option.getD, Code.sub]
  go_wp2_with (go_at_call 37; refine HAP.out.mono ?_; rintro _ w2 ⟨B0, e0, B1, e1, rfl, ho0, ho1, hne, hb2⟩; obtain ⟨⟨y1, y2⟩, y3, y4⟩ := HF.out w2 hb2; have H2 := Lib.hid (And.intro ho0 (And.intro ho1 hb2)); clear ho0 ho1 hne hb2)
  obtain ⟨hd, hc⟩ := HR.out.d.disk H2.out.2.2 H2.out.1 H2.out.2.1
  generalize (w2.setCell ⟨tg, 1, none⟩ (.slice B0 f2.a.length e0)).setCell ⟨tg, 2, none⟩ (.slice B1 f2.b.length e1) = w3 at hd hc ⊢
  obtain ⟨Ew, hEl, hrow, hseg, xs, hxs⟩ := wout_seg HW.out.1 HW.out.2.2
  have hT : ∀ {t g : Nat}, IsT wr t g → t ≠ 63 → ¬ g = tg := fun ht hne e => by
    subst e
    exact hne (ht.eq_ HR.out.d.blk.isT)
  have hfew := HW.out.1.few
  have hs2 := H2.out.2.2.size
  rw [← hEl]
  rw [← hEl] at hxs
  refine own_18 HEND.out (Lib.hid (HR.out.desk hd (hc.mono fun q _ e => .inl e) (.inl rfl) HR.out.gen HR.out.rl)) (Lib.hid HG.out.1) (Lib.hid ⟨hseg.chg hc fun g ht => hT ht (by decide), hrow.chg hc fun g ht => hT ht (by decide), ⟨xs, own_chg hxs hc fun g hg => hT (own_isT hxs hg) (by decide)⟩, by omega⟩) (Lib.hid ⟨HZ.out.1, HZ.out.2, hc.size⟩) (Lib.hid fun q hq => ?_) hk HT
  rcases hq with e | e
  · exact ⟨(own_block_lt H2.out.1 e).2.1, (own_block_lt hd.o0 e).1⟩
  · exact ⟨(own_block_lt H2.out.2.1 e).2.1, (own_block_lt hd.o1 e).1⟩
end Go.Proofs.YtpkdalpjfcopbaaDoor
