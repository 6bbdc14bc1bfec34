/-
  JournalOwn's round: the disk is kept.
-/
import Derived.Test.YtpkdalpjfcopbaaDoorNOwn30
namespace Go.Proofs.YtpkdalpjfcopbaaDoor
open Go.RowKit
theorem keep_fin {wd W : World} {f : Fls} {Ka Kb : Option Addr} {ka kb D tg t : Nat} {cs : Array Value} {u1 u2 : Value} (_hb0 : Below wd.heap.size wd wd) (hb : Below wd.heap.size wd W) (ha : W.ownsRow wd.heap.size 5 1 (.slice Ka f.a.length ka) f.a.length (bvs f.a)) (hc : W.ownsRow wd.heap.size 5 1 (.slice Kb f.b.length kb) f.b.length (bvs f.b)) (hD : Blk W D 24 #[.slice none 0 0, .slice none 0 0]) (hDw : wd.heap.size ≤ D) (hT : Blk wd tg t cs) (h1 : cs[1]? = some u1 := by rfl) (h2 : cs[2]? = some u2 := by rfl) :
    W.cell? ⟨D, 0, none⟩ = some (.slice none 0 0) ∧ W.frozen? ⟨D, 0, none⟩ = false ∧ W.cell? ⟨D, 1, none⟩ = some (.slice none 0 0) ∧ W.frozen? ⟨D, 1, none⟩ = false ∧ Below wd.heap.size wd ((W.setCell ⟨D, 0, none⟩ (.slice Ka f.a.length ka)).setCell ⟨D, 1, none⟩ (.slice Kb f.b.length kb)) ∧ Blk ((W.setCell ⟨D, 0, none⟩ (.slice Ka f.a.length ka)).setCell ⟨D, 1, none⟩ (.slice Kb f.b.length kb)) D 24 #[.slice Ka f.a.length ka, .slice Kb f.b.length kb] ∧
      ((W.setCell ⟨D, 0, none⟩ (.slice Ka f.a.length ka)).setCell ⟨D, 1, none⟩ (.slice Kb f.b.length kb)).ownsRow wd.heap.size 5 1 (.slice Ka f.a.length ka) f.a.length (bvs f.a) ∧ ((W.setCell ⟨D, 0, none⟩ (.slice Ka f.a.length ka)).setCell ⟨D, 1, none⟩ (.slice Kb f.b.length kb)).ownsRow wd.heap.size 5 1 (.slice Kb f.b.length kb) f.b.length (bvs f.b) ∧
      ((W.setCell ⟨D, 0, none⟩ (.slice Ka f.a.length ka)).setCell ⟨D, 1, none⟩ (.slice Kb f.b.length kb)).cell? ⟨tg, 1, none⟩ = some u1 ∧ ((W.setCell ⟨D, 0, none⟩ (.slice Ka f.a.length ka)).setCell ⟨D, 1, none⟩ (.slice Kb f.b.length kb)).cell? ⟨tg, 2, none⟩ = some u2 := by
  have hcs := two_sets' W D (.slice Ka f.a.length ka) (.slice Kb f.b.length kb)
  have hbf := hb.trans (hcs.to_below hb.size fun q e => e ▸ hDw)
  have off : ∀ {A : Option Addr} {n c : Nat} {xs : List Value}, W.ownsRow wd.heap.size 5 1 (.slice A n c) n xs → ∀ g, (Value.slice A n c).ownBlock = some g → ¬ g = D := fun ho g hg e => by
    subst e
    exact absurd ((own_isT ho hg).eq_ hD.isT) (by decide)
  have hTf := hT.over hbf
  exact ⟨hD.cell 0, hD.frozen 0, hD.cell 1, hD.frozen 1, hbf, (hD.set_ 0 _).set_ 1 _, own_chg ha hcs (off ha), own_chg hc hcs (off hc), (hTf.cell 1).trans h1, (hTf.cell 2).trans h2⟩
set_option maxRecDepth 100000 in
set_option maxHeartbeats 6400000 in
theorem own_29 {Q : Exit → Act → World → Prop} {u1 u2 u6 u8 u11 u12 u15 u19 u20 u21 u22 u23 u24 u25 u26 u27 u28 u29 u30 u31 u32 u33 u34 u35 u36 u37 u38 u39 u40 u41 u42 u43 u44 u45 u46 u47 u48 u49 u50 u51 u52 u53 u54 u55 u56 u57 u58 u59 u60 u61 u62 u63 u64 u65 u66 u67 u68 u69 u70 u71 u72 u73 u74 u75 u76 u77 u78 u79 u80 u81 u82 u83 u84 u85 u86 u87 u88 u89 u90 u91 u92 u93 u94 u95 u96 u97 u98 u99 u100 u101 u102 u103 u104 u105 u106 u107 u108 u109 u110 u111 u112 u113 u114 u115 u116 u117 u118 u119 u120 u121 u122 u123 u124 u125 u126 u127 u128 u129 u130 u131 u132 u133 u134 u135 u136 u137 u138 u139 u140 u141 u142 u143 u144 u145 u146 u147 u148 u149 u150 u151 u152 u153 u154 u155 u156 u157 u158 u159 u160 u161 u162 u163 u164 u165 u166 u167 u168 u169 u170 u171 u172 u173 u174 u175 u176 u177 u178 u179 u180 u181 u182 u183 u184 u185 u186 u187 u188 u189 u190 u191 u192 u193 u194 u195 u196 u197 u198 u199 u200 u201 u202 u203 u204 u205 u206 u207 u208 u209 u210 u211 u212 u213 u214 u215 u216 u217 u218 u219 u220 u221 u222 u223 u224 u225 u226 u227 u228 u229 u230 u231 u232 u233 u234 u235 u236 u237 u238 u239 u240 u241 u242 u243 u244 u245 u246 u247 u248 u249 u250 u251 u252 u253 u254 u255 u256 u257 u258 u259 u260 u261 u262 u263 u264 u265 u266 u267 u268 : Value} {w w0 wr : World} {Av Aa Aq A0 A1 : Option Addr} {n cap tg s k jg c0 c1 ca cq b6 hq : Nat} {vb vt vm : Value} {Kq : List Rk} {j : JP} {f : Fls} {file kd : Int} {T M Ew : List Tv} {l m x y : Lq}
    (hend : ∀ (v6 v7 v8 v9 v10 v11 v12 v13 v14 v15 v16 v17 v18 v19 v20 v39 v40 v41 v42 v43 v44 v45 v46 v47 v48 v49 v50 v51 v52 v53 v54 v55 v56 v57 v58 v59 v60 v61 v62 v63 v64 v65 v66 v67 v68 v69 v70 v71 v72 v73 v74 v75 v76 v77 v78 v79 v80 v81 v82 v83 v84 v85 v86 v87 v88 v89 v90 v91 v92 v93 v94 v95 v96 v97 v98 v99 v100 v101 v102 v103 v104 v105 v106 v107 v108 v109 v110 v111 v112 v113 v114 v115 v116 v117 v118 v119 v120 v121 v122 v123 v124 v125 v126 v127 v128 v129 v130 v131 v132 v133 v134 v135 v136 v137 v138 v139 v140 v141 v142 v143 v144 v145 v146 v147 v148 v149 v150 v151 v152 v153 v154 v155 v156 v157 v158 v159 v160 v161 v162 v163 v164 v165 v166 v167 v168 v169 v170 v171 v172 v173 v174 v175 v176 v177 v178 v179 v180 v181 v182 v183 v184 v185 v186 v187 v188 v189 v190 v191 v192 v193 v194 v195 v196 v197 v198 v199 v200 v201 v202 v203 v204 v205 v206 v207 v208 v209 v210 v211 v212 v213 v214 v215 v216 v217 v218 v219 v220 v221 v222 v223 v224 : Value) (wx : World), Ow w tg s (k + 1) wx → Q .normal (Act.mk #[.slice Av n cap, u1, u2, .pointer (some ⟨tg, 0, none⟩), .pointer (some ⟨s, 0, none⟩), .int .i64 (k : Int), v6, v7, v8, v9, v10, v11, v12, v13, v14, v15, v16, v17, v18, v19, v20, u21, u22, u23, u24, u25, u26, u27, u28, u29, u30, u31, u32, u33, u34, u35, u36, u37, u38, v39, v40, v41, v42, v43, v44, v45, v46, v47, v48, v49, v50, v51, v52, v53, v54, v55, v56, v57, v58, v59, v60, v61, v62, v63, v64, v65, v66, v67, v68, v69, v70, v71, v72, v73, v74, v75, v76, v77, v78, v79, v80, v81, v82, v83, v84, v85, v86, v87, v88, v89, v90, v91, v92, v93, v94, v95, v96, v97, v98, v99, v100, v101, v102, v103, v104, v105, v106, v107, v108, v109, v110, v111, v112, v113, v114, v115, v116, v117, v118, v119, v120, v121, v122, v123, v124, v125, v126, v127, v128, v129, v130, v131, v132, v133, v134, v135, v136, v137, v138, v139, v140, v141, v142, v143, v144, v145, v146, v147, v148, v149, v150, v151, v152, v153, v154, v155, v156, v157, v158, v159, v160, v161, v162, v163, v164, v165, v166, v167, v168, v169, v170, v171, v172, v173, v174, v175, v176, v177, v178, v179, v180, v181, v182, v183, v184, v185, v186, v187, v188, v189, v190, v191, v192, v193, v194, v195, v196, v197, v198, v199, v200, v201, v202, v203, v204, v205, v206, v207, v208, v209, v210, v211, v212, v213, v214, v215, v216, v217, v218, v219, v220, v221, v222, v223, v224, u225, u226, u227, u228, u229, u230, u231, u232, u233, u234, u235, u236, u237, u238, u239, u240, u241, u242, u243, u244, u245, u246, u247, u248, u249, u250, u251, u252, u253, u254, u255, u256, u257, u258, u259, u260, u261, u262, u263, u264, u265, u266, u267, u268] []) wx)
    (HR : Hid (Rn w w0 wr tg s k jg A0 c0 A1 c1 vb j f file vt vm T M b6 kd)) (HG : Hid (Good f j))
    (HW : Hid (RowT wr 94 3 2 Aa Ew ∧ (∃ xs, wr.ownsRow 0 94 3 (.slice Aa Ew.length ca) Ew.length xs) ∧ Ew.length ≤ 1))
    (HL : Hid ((RowT wr 34 2 1 l.A l.B ∧ RowT wr 34 2 1 m.A m.B ∧ RowT wr 34 2 1 x.A x.B ∧ RowT wr 34 2 1 y.A y.B) ∧ l.B.length = j.recs.length ∧ m.B.length = j.recs.length ∧ x.B.length = j.recs.length ∧ y.B.length = j.recs.length))
    (HE : Hid (New w0.heap.size wr (Ew ++ (l.B ++ (m.B ++ (x.B ++ y.B)))))) (HDB : Hid (∀ q, DBk A0 f.a.length c0 A1 f.b.length c1 q → ∀ (k : Nat) (e : Tv), (Ew ++ (l.B ++ (m.B ++ (x.B ++ y.B))))[k]? = some e → blkO e.A e.c ≠ some q))
    (HQ : Hid ((RcOwn wr hq (.slice Aq j.recs.length cq) Kq ∧ Kq.map Rk.rc = j.recs) ∧ ∀ (k : Nat) (e : Tv) (g : Nat), (Ew ++ (l.B ++ (m.B ++ (x.B ++ y.B))))[k]? = some e → blkO e.A e.c = some g → g < hq))
    (HQS : Hid (hq ≤ wr.heap.size)) (hk : k < 60) (HT : Hid (Nibs w)) : (((Tryd.f8.body).getD .skip).sub [true, true, true, true, false, true, false, false, true, false, false, true, true, true, true, true, true, true, true, true, true, true, true]).wp Tryd.prog Q (Act.mk #[.slice Av n cap, u1, u2, .pointer (some ⟨tg, 0, none⟩), .pointer (some ⟨s, 0, none⟩), .int .i64 (k : Int), u6, .slice Aa Ew.length ca, u8, .slice l.A j.recs.length l.c, .slice none 0 0, u11, u12, .slice m.A j.recs.length m.c, .slice none 0 0, u15, .slice x.A j.recs.length x.c, .slice y.A j.recs.length y.c, .slice Aq j.recs.length cq, u19, u20, u21, u22, u23, u24, u25, u26, u27, u28, u29, u30, u31, u32, u33, u34, u35, u36, u37, u38, u39, u40, u41, u42, u43, u44, u45, u46, u47, u48, u49, u50, u51, u52, u53, u54, u55, u56, u57, u58, u59, u60, u61, u62, u63, u64, u65, u66, u67, u68, u69, u70, u71, u72, u73, u74, u75, u76, u77, u78, u79, u80, u81, u82, u83, u84, u85, u86, u87, u88, u89, u90, u91, u92, u93, u94, u95, u96, u97, u98, u99, u100, u101, u102, u103, u104, u105, u106, u107, u108, u109, u110, u111, u112, u113, u114, u115, u116, u117, u118, u119, u120, u121, u122, u123, u124, u125, u126, u127, u128, u129, u130, u131, u132, u133, u134, u135, u136, u137, u138, u139, u140, u141, u142, u143, u144, u145, u146, u147, u148, u149, u150, u151, u152, u153, u154, u155, u156, u157, u158, u159, u160, u161, u162, u163, u164, u165, u166, u167, u168, u169, u170, u171, u172, u173, u174, u175, u176, u177, u178, u179, u180, u181, u182, u183, u184, u185, u186, u187, u188, u189, u190, u191, u192, u193, u194, u195, u196, u197, u198, u199, u200, u201, u202, u203, u204, u205, u206, u207, u208, u209, u210, u211, u212, u213, u214, u215, u216, u217, u218, u219, u220, u221, u222, u223, u224, u225, u226, u227, u228, u229, u230, u231, u232, u233, u234, u235, u236, u237, u238, u239, u240, u241, u242, u243, u244, u245, u246, u247, u248, u249, u250, u251, u252, u253, u254, u255, u256, u257, u258, u259, u260, u261, u262, u263, u264, u265, u266, u267, u268] []) wr := by
  have HEND := Lib.hid hend
  clear hend
  obtain ⟨wd, hwd⟩ : ∃ wd, wd = wr.drew := ⟨_, rfl⟩
  have hbd : Below wr.heap.size wr wd := by rw [hwd]; exact below_drewN (Below.refl _ _) 1
  have HBD := Lib.hid hbd
  have HRD := Lib.hid (HR.out.over hbd)
  have hla := HG.out.half.la
  have HSB : Hid (∀ W, Below wd.heap.size wd W → W.cell? ⟨tg, 1, none⟩ = some (.slice A0 f.a.length c0) ∧ W.cell? ⟨tg, 2, none⟩ = some (.slice A1 f.b.length c1)) := Lib.hid fun W hW => ⟨(HRD.out.d.over hW).blk.cell 1, (HRD.out.d.over hW).blk.cell 2⟩
  have HRA : Hid (∀ W, Below wd.heap.size wd W → RdB W W.heap.size A0 f.a.length f.a) := Lib.hid fun W hW => Rd.of_own (HRD.out.d.over hW).o0
  have HRB : Hid (∀ W, Below wd.heap.size wd W → RdB W W.heap.size A1 f.b.length f.b) := Lib.hid fun W hW => Rd.of_own (HRD.out.d.over hW).o1
  obtain ⟨i0, hi0, hz0, hz1, hz2⟩ := info_parts info_u8
  have HWD := Lib.hid hwd
  clear hwd hbd
  have HB0 : Hid (Below wd.heap.size wd wd) := Lib.hid (Below.refl _ _)
  refine tail_step (a := ((Tryd.f8.body).getD .skip).sub [true, true, true, true, false, true, false, false, true, false, false, true, true, true, true, true, true, true, true, true, true, true, true, false]) (b := ((Tryd.f8.body).getD .skip).sub [true, true, true, true, false, true, false, false, true, false, false, true, true, true, true, true, true, true, true, true, true, true, true, true]) (by kernel_rfl) (fun KT HKT => ?_); dsimp only [Tryd.f8, Option.getD, Code.sub]
  refine calm_own ?_
  have FIN : Hid (∀ (v170 v171 v172 v173 v174 v175 v176 v177 v178 v179 v180 v181 v182 v183 v184 : Value) (D : Nat) (Ka : Option Addr) (ka : Nat) (Kb : Option Addr) (kb : Nat) (wf : World), Below wd.heap.size wd wf → Blk wf D 24 #[.slice Ka f.a.length ka, .slice Kb f.b.length kb] → wf.ownsRow wd.heap.size 5 1 (.slice Ka f.a.length ka) f.a.length (bvs f.a) → wf.ownsRow wd.heap.size 5 1 (.slice Kb f.b.length kb) f.b.length (bvs f.b) → (((Tryd.f8.body).getD .skip).sub [true, true, true, true, false, true, false, false, true, false, false, true, true, true, true, true, true, true, true, true, true, true, true, true]).wp Tryd.prog Q (Act.mk #[.slice Av n cap, u1, u2, .pointer (some ⟨tg, 0, none⟩), .pointer (some ⟨s, 0, none⟩), .int .i64 (k : Int), u6, .slice Aa Ew.length ca, u8, .slice l.A j.recs.length l.c, .slice none 0 0, u11, u12, .slice m.A j.recs.length m.c, .slice none 0 0, u15, .slice x.A j.recs.length x.c, .slice y.A j.recs.length y.c, .slice Aq j.recs.length cq, .pointer (some ⟨D, 0, none⟩), u20, u21, u22, u23, u24, u25, u26, u27, u28, u29, u30, u31, u32, u33, u34, u35, u36, u37, u38, u39, u40, u41, u42, u43, u44, u45, u46, u47, u48, u49, u50, u51, u52, u53, u54, u55, u56, u57, u58, u59, u60, u61, u62, u63, u64, u65, u66, u67, u68, u69, u70, u71, u72, u73, u74, u75, u76, u77, u78, u79, u80, u81, u82, u83, u84, u85, u86, u87, u88, u89, u90, u91, u92, u93, u94, u95, u96, u97, u98, u99, u100, u101, u102, u103, u104, u105, u106, u107, u108, u109, u110, u111, u112, u113, u114, u115, u116, u117, u118, u119, u120, u121, u122, u123, u124, u125, u126, u127, u128, u129, u130, u131, u132, u133, u134, u135, u136, u137, u138, u139, u140, u141, u142, u143, u144, u145, u146, u147, u148, u149, u150, u151, u152, u153, u154, u155, u156, u157, u158, u159, u160, u161, u162, u163, u164, u165, u166, u167, u168, u169, v170, v171, v172, v173, v174, v175, v176, v177, v178, v179, v180, v181, v182, v183, v184, u185, u186, u187, u188, u189, u190, u191, u192, u193, u194, u195, u196, u197, u198, u199, u200, u201, u202, u203, u204, u205, u206, u207, u208, u209, u210, u211, u212, u213, u214, u215, u216, u217, u218, u219, u220, u221, u222, u223, u224, u225, u226, u227, u228, u229, u230, u231, u232, u233, u234, u235, u236, u237, u238, u239, u240, u241, u242, u243, u244, u245, u246, u247, u248, u249, u250, u251, u252, u253, u254, u255, u256, u257, u258, u259, u260, u261, u262, u263, u264, u265, u266, u267, u268] []) wf) := by
    refine Lib.hid ?_
    intro v170 v171 v172 v173 v174 v175 v176 v177 v178 v179 v180 v181 v182 v183 v184 D Ka ka Kb kb wf hbf hB ha hb
    have hbf := Below.then HBD.out hbf
    have hq0 : hq ≤ wd.heap.size := Nat.le_trans HQS.out HBD.out.size
    have no : ∀ {t : Nat} {z d : Nat} {A : Option Addr} {B : List Tv}, RowT wr t z d A B → RowT wf t z d A B := fun h => h.chg (Chg.of_below hbf (fun _ => False)) fun _ _ h => h
    obtain ⟨xs, hxs⟩ := HW.out.2.1
    exact own_30 HEND.out (Lib.hid (HR.out.over hbf)) HG (Lib.hid ⟨no HW.out.1, ⟨xs, own_over hxs hbf⟩, HW.out.2.2⟩) (Lib.hid ⟨⟨no HL.out.1.1, no HL.out.1.2.1, no HL.out.1.2.2.1, no HL.out.1.2.2.2⟩, HL.out.2⟩) (Lib.hid ⟨fun k e he => ⟨(HE.out.lo k e he).1.over hbf, (HE.out.lo k e he).2⟩, HE.out.pw⟩) HDB (Lib.hid ⟨⟨HQ.out.1.1.below hbf, HQ.out.1.2⟩, HQ.out.2⟩) (Lib.hid ⟨hB, own_base ha hq0, own_base hb hq0⟩) hk HT
  refine wp_region_held_drew (S := fun W => W.cell? ⟨tg, 1, none⟩ = some (.slice A0 f.a.length c0) ∧ W.cell? ⟨tg, 2, none⟩ = some (.slice A1 f.b.length c1)) (by kernel_rfl) (by rw [← HWD.out]; exact HSB.out _ (Below.refl _ _)) (fun hsw => ?_)
  rw [← HWD.out] at hsw ⊢
  refine wpAnyH_take (i := 1) (oi := ?oi1a) (v := ?v1a) ?hi1a (by kernel_rfl) (by kernel_rfl) (by kernel_rfl) ?hq1a ?hy1a (by assumption) ?rest1a
  case hi1a => (simp only [List.getElem?_toArray, List.getElem?_cons_zero, List.getElem?_cons_succ]; rfl)
  case hy1a => (refine Or.inl ⟨by rfl, ?_⟩; intro w hSw; (try dsimp only at hSw); go_simp; try with_reducible rfl)
  case hq1a => exact fun _ _ _ h => h
  try simp only [Act.put, List.setIfInBounds_toArray, List.set_cons_zero, List.set_cons_succ]
  refine wpAnyH_take (i := 2) (oi := ?oi2a) (v := ?v2a) ?hi2a (by kernel_rfl) (by kernel_rfl) (by kernel_rfl) ?hq2a ?hy2a (by assumption) ?rest2a
  case hi2a => (simp only [List.getElem?_toArray, List.getElem?_cons_zero, List.getElem?_cons_succ]; rfl)
  case hy2a => (refine Or.inl ⟨by rfl, ?_⟩; intro w hSw; (try dsimp only at hSw); go_simp; try with_reducible rfl)
  case hq2a => exact fun _ _ _ h => h
  try simp only [Act.put, List.setIfInBounds_toArray, List.set_cons_zero, List.set_cons_succ]
  refine wpAnyH_take (i := 3) (oi := ?oi3a) (v := ?v3a) ?hi3a (by kernel_rfl) (by kernel_rfl) (by kernel_rfl) ?hq3a ?hy3a (by assumption) ?rest3a
  case hi3a => (simp only [List.getElem?_toArray, List.getElem?_cons_zero, List.getElem?_cons_succ]; rfl)
  case hy3a => (refine Or.inl ⟨by rfl, ?_⟩; intro w hSw; (try dsimp only at hSw); go_simp; try with_reducible rfl)
  case hq3a => exact fun _ _ _ h => h
  try simp only [Act.put, List.setIfInBounds_toArray, List.set_cons_zero, List.set_cons_succ]
  refine wpAnyH_take (i := 4) (oi := ?oi4a) (v := ?v4a) ?hi4a (by kernel_rfl) (by kernel_rfl) (by kernel_rfl) ?hq4a ?hy4a (by assumption) ?rest4a
  case hi4a => (simp only [List.getElem?_toArray, List.getElem?_cons_zero, List.getElem?_cons_succ]; rfl)
  case hy4a => (refine Or.inl ⟨by rfl, ?_⟩; intro w hSw; (try dsimp only at hSw); go_simp; try with_reducible rfl)
  case hq4a => exact fun _ _ _ h => h
  try simp only [Act.put, List.setIfInBounds_toArray, List.set_cons_zero, List.set_cons_succ]
  refine wpAnyH_take (i := 5) (oi := ?oi5a) (v := ?v5a) ?hi5a (by kernel_rfl) (by kernel_rfl) (by kernel_rfl) ?hq5a ?hy5a (by assumption) ?rest5a
  case hi5a => (simp only [List.getElem?_toArray, List.getElem?_cons_zero, List.getElem?_cons_succ]; rfl)
  case hy5a => (refine Or.inl ⟨by rfl, ?_⟩; intro w hSw; (try dsimp only at hSw); go_simp; try with_reducible rfl)
  case hq5a => exact fun _ _ _ h => h
  try simp only [Act.put, List.setIfInBounds_toArray, List.set_cons_zero, List.set_cons_succ]
  refine wpAnyH_take (i := 8) (oi := ?oi8a) (v := ?v8a) ?hi8a (by kernel_rfl) (by kernel_rfl) (by kernel_rfl) ?hq8a ?hy8a (by assumption) ?rest8a
  case hi8a => (simp only [List.getElem?_toArray, List.getElem?_cons_zero, List.getElem?_cons_succ]; rfl)
  case hy8a => (refine Or.inl ⟨by rfl, ?_⟩; intro w hSw; (try dsimp only at hSw); go_simp; try with_reducible rfl)
  case hq8a => exact fun _ _ _ h => h
  try simp only [Act.put, List.setIfInBounds_toArray, List.set_cons_zero, List.set_cons_succ]
  refine wpAnyH_take (i := 9) (oi := ?oi9a) (v := ?v9a) ?hi9a (by kernel_rfl) (by kernel_rfl) (by kernel_rfl) ?hq9a ?hy9a (by assumption) ?rest9a
  case hi9a => (simp only [List.getElem?_toArray, List.getElem?_cons_zero, List.getElem?_cons_succ]; rfl)
  case hy9a => (refine Or.inl ⟨by rfl, ?_⟩; intro w hSw; (try dsimp only at hSw); go_simp; try with_reducible rfl)
  case hq9a => exact fun _ _ _ h => h
  try simp only [Act.put, List.setIfInBounds_toArray, List.set_cons_zero, List.set_cons_succ]
  refine wpAnyH_take (i := 10) (oi := ?oi10a) (v := ?v10a) ?hi10a (by kernel_rfl) (by kernel_rfl) (by kernel_rfl) ?hq10a ?hy10a (by assumption) ?rest10a
  case hi10a => (simp only [List.getElem?_toArray, List.getElem?_cons_zero, List.getElem?_cons_succ]; rfl)
  case hy10a => (refine Or.inl ⟨by rfl, ?_⟩; intro w hSw; (try dsimp only at hSw); go_simp; try with_reducible rfl)
  case hq10a => exact fun _ _ _ h => h
  try simp only [Act.put, List.setIfInBounds_toArray, List.set_cons_zero, List.set_cons_succ]
  refine wpAnyH_take (i := 11) (oi := ?oi11a) (v := ?v11a) ?hi11a (by kernel_rfl) (by kernel_rfl) (by kernel_rfl) ?hq11a ?hy11a (by assumption) ?rest11a
  case hi11a => (simp only [List.getElem?_toArray, List.getElem?_cons_zero, List.getElem?_cons_succ]; rfl)
  case hy11a => (refine Or.inl ⟨by rfl, ?_⟩; intro w hSw; (try dsimp only at hSw); go_simp; try with_reducible rfl)
  case hq11a => exact fun _ _ _ h => h
  try simp only [Act.put, List.setIfInBounds_toArray, List.set_cons_zero, List.set_cons_succ]
  refine wpAnyH_take (i := 12) (oi := ?oi12a) (v := ?v12a) ?hi12a (by kernel_rfl) (by kernel_rfl) (by kernel_rfl) ?hq12a ?hy12a (by assumption) ?rest12a
  case hi12a => (simp only [List.getElem?_toArray, List.getElem?_cons_zero, List.getElem?_cons_succ]; rfl)
  case hy12a => (refine Or.inl ⟨by rfl, ?_⟩; intro w hSw; (try dsimp only at hSw); go_simp; try with_reducible rfl)
  case hq12a => exact fun _ _ _ h => h
  try simp only [Act.put, List.setIfInBounds_toArray, List.set_cons_zero, List.set_cons_succ]
  refine wpAnyH_ready (rs := [0, 7, 15]) (by kernel_rfl) (by simp) ?_
  refine AllReadyH.cons (o := ?o0x1) ?ho0x1 (fun K hK => ?st0x1) ?mo0x1
  case ho0x1 => (simp only [List.getElem?_toArray, List.getElem?_cons_zero]; rfl)
  · obtain ⟨w_1, hw⟩ : ∃ x, x = wd.alloc (.cells #[] 5) := ⟨_, rfl⟩
    have hb : Below wd.heap.size wd w_1 := by rw [hw]; exact one_box' _ _
    have HN_1 := Lib.hid (show w_1.ownsRow wd.heap.size 5 1 (.slice (some ⟨wd.heap.size, 0, none⟩) 0 0) 0 [] by rw [hw]; exact own_base (own_bare _ _ (Nat.le_refl _)) HB0.out.size)
    have HB_1 : Hid (Below wd.heap.size wd w_1) := Lib.hid (Below.then HB0.out hb)
    clear hb
    go_simp
    rw [← hw]
    clear hw
    refine hK.out _ _ (HSB.out _ HB_1.out) (fun _ => ?_)
    clear hK K
    try simp only [Act.put, List.setIfInBounds_toArray, List.set_cons_zero, List.set_cons_succ]
    refine wpAnyH_ready (rs := [6, 7, 15]) (by kernel_rfl) (by simp) ?_
    refine AllReadyH.cons (o := ?o6x2) ?ho6x2 (fun K hK => ?st6x2) ?mo6x2
    case ho6x2 => (simp only [List.getElem?_toArray, List.getElem?_cons_zero, List.getElem?_cons_succ]; rfl)
    · skip
      refine step_append_bare w_1 (by rfl) _ _ 22 (by rfl) i0 _ u_bytes hi0 hz0 hz1 hz2 rfl (by rfl) HN_1.out (by rfl) (HRA.out _ HB_1.out) (by omega) HB_1.out.size ?_
      intro A2 c2 w_2 ho hb
      have HN_2 := Lib.hid ho
      have HB_2 : Hid (Below wd.heap.size wd w_2) := Lib.hid (Below.then HB_1.out hb)
      have HN_1_2 := Lib.hid (own_over HN_1.out hb)
      clear ho hb
      refine hK.out _ _ (HSB.out _ HB_2.out) (fun _ => ?_)
      clear hK K
      try simp only [Act.put, List.setIfInBounds_toArray, List.set_cons_zero, List.set_cons_succ]
      refine wpAnyH_ready (rs := [7, 15]) (by kernel_rfl) (by simp) ?_
      refine AllReadyH.cons (o := ?o7x3) ?ho7x3 (fun K hK => ?st7x3) ?mo7x3
      case ho7x3 => (simp only [List.getElem?_toArray, List.getElem?_cons_zero, List.getElem?_cons_succ]; rfl)
      · obtain ⟨w_3, hw⟩ : ∃ x, x = w_2.alloc (.cells #[] 5) := ⟨_, rfl⟩
        have hb : Below w_2.heap.size w_2 w_3 := by rw [hw]; exact one_box' _ _
        have HN_3 := Lib.hid (show w_3.ownsRow wd.heap.size 5 1 (.slice (some ⟨w_2.heap.size, 0, none⟩) 0 0) 0 [] by rw [hw]; exact own_base (own_bare _ _ (Nat.le_refl _)) HB_2.out.size)
        have HB_3 : Hid (Below wd.heap.size wd w_3) := Lib.hid (Below.then HB_2.out hb)
        have HN_2_3 := Lib.hid (own_over HN_2.out hb)
        clear hb
        go_simp
        rw [← hw]
        clear hw
        refine hK.out _ _ (HSB.out _ HB_3.out) (fun _ => ?_)
        clear hK K
        try simp only [Act.put, List.setIfInBounds_toArray, List.set_cons_zero, List.set_cons_succ]
        refine wpAnyH_ready (rs := [13, 15]) (by kernel_rfl) (by simp) ?_
        refine AllReadyH.cons (o := ?o13x4) ?ho13x4 (fun K hK => ?st13x4) ?mo13x4
        case ho13x4 => (simp only [List.getElem?_toArray, List.getElem?_cons_zero, List.getElem?_cons_succ]; rfl)
        · skip
          refine step_append_bare w_3 (by rfl) _ _ 22 (by rfl) i0 _ u_bytes hi0 hz0 hz1 hz2 rfl (by rfl) HN_3.out (by rfl) (HRB.out _ HB_3.out) (by omega) HB_3.out.size ?_
          intro A4 c4 w_4 ho hb
          have HN_4 := Lib.hid ho
          have HB_4 : Hid (Below wd.heap.size wd w_4) := Lib.hid (Below.then HB_3.out hb)
          have HN_2_3_4 := Lib.hid (own_over HN_2_3.out hb)
          have HN_3_4 := Lib.hid (own_over HN_3.out hb)
          clear ho hb
          refine hK.out _ _ (HSB.out _ HB_4.out) (fun _ => ?_)
          clear hK K
          try simp only [Act.put, List.setIfInBounds_toArray, List.set_cons_zero, List.set_cons_succ]
          refine wpAnyH_take (i := 14) (oi := ?oi14z4) (v := ?v14z4) ?hi14z4 (by kernel_rfl) (by kernel_rfl) (by kernel_rfl) ?hq14z4 ?hy14z4 (by assumption) ?rest14z4
          case hi14z4 => (simp only [List.getElem?_toArray, List.getElem?_cons_zero, List.getElem?_cons_succ]; rfl)
          case hy14z4 => (refine Or.inl ⟨by rfl, ?_⟩; intro w hSw; (try dsimp only at hSw); go_simp; try with_reducible rfl)
          case hq14z4 => exact fun _ _ _ h => h
          try simp only [Act.put, List.setIfInBounds_toArray, List.set_cons_zero, List.set_cons_succ]
          refine wpAnyH_ready (rs := [15]) (by kernel_rfl) (by simp) ?_
          refine AllReadyH.cons (o := ?o15x5) ?ho15x5 (fun K hK => ?st15x5) ?mo15x5
          case ho15x5 => (simp only [List.getElem?_toArray, List.getElem?_cons_zero, List.getElem?_cons_succ]; rfl)
          · obtain ⟨w_5, hw⟩ : ∃ x, x = w_4.alloc (.cells #[.slice none 0 0, .slice none 0 0] 24) := ⟨_, rfl⟩
            have hb : Below w_4.heap.size w_4 w_5 := by rw [hw]; exact one_box' _ _
            have HN_5 := Lib.hid (And.intro (show Blk w_5 w_4.heap.size 24 #[.slice none 0 0, .slice none 0 0] by rw [hw]; exact Blk.new _ _ _) HB_4.out.size)
            have HB_5 : Hid (Below wd.heap.size wd w_5) := Lib.hid (Below.then HB_4.out hb)
            have HN_2_3_4_5 := Lib.hid (own_over HN_2_3_4.out hb)
            have HN_4_5 := Lib.hid (own_over HN_4.out hb)
            clear hb
            go_simp
            rw [← hw]
            clear hw
            refine hK.out _ _ (HSB.out _ HB_5.out) (fun _ => ?_)
            clear hK K
            try simp only [Act.put, List.setIfInBounds_toArray, List.set_cons_zero, List.set_cons_succ]
            refine wpAnyH_ready (rs := [16]) (by kernel_rfl) (by simp) ?_
            refine AllReadyH.cons (o := ?o16y6) ?ho16y6 (fun K hK => ?st16y6) ?mo16y6
            case ho16y6 => (simp only [List.getElem?_toArray, List.getElem?_cons_zero, List.getElem?_cons_succ]; rfl)
            case mo16y6 => exact AllReadyH.nil
            obtain ⟨k0, k1, k2, k3, k4, k5, k6, k7, k8⟩ := keep_fin HB0.out HB_5.out HN_2_3_4_5.out HN_4_5.out HN_5.out.1 HN_5.out.2 HRD.out.d.blk
            have HF6 := Lib.hid (And.intro k4 (And.intro k5 (And.intro k6 k7)))
            clear k4 k5 k6 k7
            go_simp
            refine hK.out _ _ k8 (fun _ => ?_)
            clear hK K k8
            try simp only [Act.put, List.setIfInBounds_toArray, List.set_cons_zero, List.set_cons_succ]
            refine wpAnyH_done (by kernel_rfl) ?_ _
            exact HKT _ _ (FIN.out _ _ _ _ _ _ _ _ _ _ _ _ _ _ _ _ _ _ _ _ _ HF6.out.1 HF6.out.2.1 HF6.out.2.2.1 HF6.out.2.2.2)
          exact AllReadyH.nil
        refine AllReadyH.cons (o := ?o15x7) ?ho15x7 (fun K hK => ?st15x7) ?mo15x7
        case ho15x7 => (simp only [List.getElem?_toArray, List.getElem?_cons_zero, List.getElem?_cons_succ]; rfl)
        · obtain ⟨w_7, hw⟩ : ∃ x, x = w_3.alloc (.cells #[.slice none 0 0, .slice none 0 0] 24) := ⟨_, rfl⟩
          have hb : Below w_3.heap.size w_3 w_7 := by rw [hw]; exact one_box' _ _
          have HN_7 := Lib.hid (And.intro (show Blk w_7 w_3.heap.size 24 #[.slice none 0 0, .slice none 0 0] by rw [hw]; exact Blk.new _ _ _) HB_3.out.size)
          have HB_7 : Hid (Below wd.heap.size wd w_7) := Lib.hid (Below.then HB_3.out hb)
          have HN_2_3_7 := Lib.hid (own_over HN_2_3.out hb)
          have HN_3_7 := Lib.hid (own_over HN_3.out hb)
          clear hb
          go_simp
          rw [← hw]
          clear hw
          refine hK.out _ _ (HSB.out _ HB_7.out) (fun _ => ?_)
          clear hK K
          try simp only [Act.put, List.setIfInBounds_toArray, List.set_cons_zero, List.set_cons_succ]
          refine wpAnyH_ready (rs := [13]) (by kernel_rfl) (by simp) ?_
          refine AllReadyH.cons (o := ?o13x8) ?ho13x8 (fun K hK => ?st13x8) ?mo13x8
          case ho13x8 => (simp only [List.getElem?_toArray, List.getElem?_cons_zero, List.getElem?_cons_succ]; rfl)
          · skip
            refine step_append_bare w_7 (by rfl) _ _ 22 (by rfl) i0 _ u_bytes hi0 hz0 hz1 hz2 rfl (by rfl) HN_3_7.out (by rfl) (HRB.out _ HB_7.out) (by omega) HB_7.out.size ?_
            intro A8 c8 w_8 ho hb
            have HN_8 := Lib.hid ho
            have HB_8 : Hid (Below wd.heap.size wd w_8) := Lib.hid (Below.then HB_7.out hb)
            have HN_2_3_7_8 := Lib.hid (own_over HN_2_3_7.out hb)
            have HN_3_7_8 := Lib.hid (own_over HN_3_7.out hb)
            have HN_7_8 := Lib.hid (And.intro (HN_7.out.1.over hb) HN_7.out.2)
            clear ho hb
            refine hK.out _ _ (HSB.out _ HB_8.out) (fun _ => ?_)
            clear hK K
            try simp only [Act.put, List.setIfInBounds_toArray, List.set_cons_zero, List.set_cons_succ]
            refine wpAnyH_take (i := 14) (oi := ?oi14z8) (v := ?v14z8) ?hi14z8 (by kernel_rfl) (by kernel_rfl) (by kernel_rfl) ?hq14z8 ?hy14z8 (by assumption) ?rest14z8
            case hi14z8 => (simp only [List.getElem?_toArray, List.getElem?_cons_zero, List.getElem?_cons_succ]; rfl)
            case hy14z8 => (refine Or.inl ⟨by rfl, ?_⟩; intro w hSw; (try dsimp only at hSw); go_simp; try with_reducible rfl)
            case hq14z8 => exact fun _ _ _ h => h
            try simp only [Act.put, List.setIfInBounds_toArray, List.set_cons_zero, List.set_cons_succ]
            refine wpAnyH_ready (rs := [16]) (by kernel_rfl) (by simp) ?_
            refine AllReadyH.cons (o := ?o16y9) ?ho16y9 (fun K hK => ?st16y9) ?mo16y9
            case ho16y9 => (simp only [List.getElem?_toArray, List.getElem?_cons_zero, List.getElem?_cons_succ]; rfl)
            case mo16y9 => exact AllReadyH.nil
            obtain ⟨k0, k1, k2, k3, k4, k5, k6, k7, k8⟩ := keep_fin HB0.out HB_8.out HN_2_3_7_8.out HN_8.out HN_7_8.out.1 HN_7_8.out.2 HRD.out.d.blk
            have HF9 := Lib.hid (And.intro k4 (And.intro k5 (And.intro k6 k7)))
            clear k4 k5 k6 k7
            go_simp
            refine hK.out _ _ k8 (fun _ => ?_)
            clear hK K k8
            try simp only [Act.put, List.setIfInBounds_toArray, List.set_cons_zero, List.set_cons_succ]
            refine wpAnyH_done (by kernel_rfl) ?_ _
            exact HKT _ _ (FIN.out _ _ _ _ _ _ _ _ _ _ _ _ _ _ _ _ _ _ _ _ _ HF9.out.1 HF9.out.2.1 HF9.out.2.2.1 HF9.out.2.2.2)
          exact AllReadyH.nil
        exact AllReadyH.nil
      refine AllReadyH.cons (o := ?o15x10) ?ho15x10 (fun K hK => ?st15x10) ?mo15x10
      case ho15x10 => (simp only [List.getElem?_toArray, List.getElem?_cons_zero, List.getElem?_cons_succ]; rfl)
      · obtain ⟨w_10, hw⟩ : ∃ x, x = w_2.alloc (.cells #[.slice none 0 0, .slice none 0 0] 24) := ⟨_, rfl⟩
        have hb : Below w_2.heap.size w_2 w_10 := by rw [hw]; exact one_box' _ _
        have HN_10 := Lib.hid (And.intro (show Blk w_10 w_2.heap.size 24 #[.slice none 0 0, .slice none 0 0] by rw [hw]; exact Blk.new _ _ _) HB_2.out.size)
        have HB_10 : Hid (Below wd.heap.size wd w_10) := Lib.hid (Below.then HB_2.out hb)
        have HN_2_10 := Lib.hid (own_over HN_2.out hb)
        clear hb
        go_simp
        rw [← hw]
        clear hw
        refine hK.out _ _ (HSB.out _ HB_10.out) (fun _ => ?_)
        clear hK K
        try simp only [Act.put, List.setIfInBounds_toArray, List.set_cons_zero, List.set_cons_succ]
        refine wpAnyH_ready (rs := [7]) (by kernel_rfl) (by simp) ?_
        refine AllReadyH.cons (o := ?o7x11) ?ho7x11 (fun K hK => ?st7x11) ?mo7x11
        case ho7x11 => (simp only [List.getElem?_toArray, List.getElem?_cons_zero, List.getElem?_cons_succ]; rfl)
        · obtain ⟨w_11, hw⟩ : ∃ x, x = w_10.alloc (.cells #[] 5) := ⟨_, rfl⟩
          have hb : Below w_10.heap.size w_10 w_11 := by rw [hw]; exact one_box' _ _
          have HN_11 := Lib.hid (show w_11.ownsRow wd.heap.size 5 1 (.slice (some ⟨w_10.heap.size, 0, none⟩) 0 0) 0 [] by rw [hw]; exact own_base (own_bare _ _ (Nat.le_refl _)) HB_10.out.size)
          have HB_11 : Hid (Below wd.heap.size wd w_11) := Lib.hid (Below.then HB_10.out hb)
          have HN_2_10_11 := Lib.hid (own_over HN_2_10.out hb)
          have HN_10_11 := Lib.hid (And.intro (HN_10.out.1.over hb) HN_10.out.2)
          clear hb
          go_simp
          rw [← hw]
          clear hw
          refine hK.out _ _ (HSB.out _ HB_11.out) (fun _ => ?_)
          clear hK K
          try simp only [Act.put, List.setIfInBounds_toArray, List.set_cons_zero, List.set_cons_succ]
          refine wpAnyH_ready (rs := [13]) (by kernel_rfl) (by simp) ?_
          refine AllReadyH.cons (o := ?o13x12) ?ho13x12 (fun K hK => ?st13x12) ?mo13x12
          case ho13x12 => (simp only [List.getElem?_toArray, List.getElem?_cons_zero, List.getElem?_cons_succ]; rfl)
          · skip
            refine step_append_bare w_11 (by rfl) _ _ 22 (by rfl) i0 _ u_bytes hi0 hz0 hz1 hz2 rfl (by rfl) HN_11.out (by rfl) (HRB.out _ HB_11.out) (by omega) HB_11.out.size ?_
            intro A12 c12 w_12 ho hb
            have HN_12 := Lib.hid ho
            have HB_12 : Hid (Below wd.heap.size wd w_12) := Lib.hid (Below.then HB_11.out hb)
            have HN_2_10_11_12 := Lib.hid (own_over HN_2_10_11.out hb)
            have HN_10_11_12 := Lib.hid (And.intro (HN_10_11.out.1.over hb) HN_10_11.out.2)
            have HN_11_12 := Lib.hid (own_over HN_11.out hb)
            clear ho hb
            refine hK.out _ _ (HSB.out _ HB_12.out) (fun _ => ?_)
            clear hK K
            try simp only [Act.put, List.setIfInBounds_toArray, List.set_cons_zero, List.set_cons_succ]
            refine wpAnyH_take (i := 14) (oi := ?oi14z12) (v := ?v14z12) ?hi14z12 (by kernel_rfl) (by kernel_rfl) (by kernel_rfl) ?hq14z12 ?hy14z12 (by assumption) ?rest14z12
            case hi14z12 => (simp only [List.getElem?_toArray, List.getElem?_cons_zero, List.getElem?_cons_succ]; rfl)
            case hy14z12 => (refine Or.inl ⟨by rfl, ?_⟩; intro w hSw; (try dsimp only at hSw); go_simp; try with_reducible rfl)
            case hq14z12 => exact fun _ _ _ h => h
            try simp only [Act.put, List.setIfInBounds_toArray, List.set_cons_zero, List.set_cons_succ]
            refine wpAnyH_ready (rs := [16]) (by kernel_rfl) (by simp) ?_
            refine AllReadyH.cons (o := ?o16y13) ?ho16y13 (fun K hK => ?st16y13) ?mo16y13
            case ho16y13 => (simp only [List.getElem?_toArray, List.getElem?_cons_zero, List.getElem?_cons_succ]; rfl)
            case mo16y13 => exact AllReadyH.nil
            obtain ⟨k0, k1, k2, k3, k4, k5, k6, k7, k8⟩ := keep_fin HB0.out HB_12.out HN_2_10_11_12.out HN_12.out HN_10_11_12.out.1 HN_10_11_12.out.2 HRD.out.d.blk
            have HF13 := Lib.hid (And.intro k4 (And.intro k5 (And.intro k6 k7)))
            clear k4 k5 k6 k7
            go_simp
            refine hK.out _ _ k8 (fun _ => ?_)
            clear hK K k8
            try simp only [Act.put, List.setIfInBounds_toArray, List.set_cons_zero, List.set_cons_succ]
            refine wpAnyH_done (by kernel_rfl) ?_ _
            exact HKT _ _ (FIN.out _ _ _ _ _ _ _ _ _ _ _ _ _ _ _ _ _ _ _ _ _ HF13.out.1 HF13.out.2.1 HF13.out.2.2.1 HF13.out.2.2.2)
          exact AllReadyH.nil
        exact AllReadyH.nil
      exact AllReadyH.nil
    refine AllReadyH.cons (o := ?o7x14) ?ho7x14 (fun K hK => ?st7x14) ?mo7x14
    case ho7x14 => (simp only [List.getElem?_toArray, List.getElem?_cons_zero, List.getElem?_cons_succ]; rfl)
    · obtain ⟨w_14, hw⟩ : ∃ x, x = w_1.alloc (.cells #[] 5) := ⟨_, rfl⟩
      have hb : Below w_1.heap.size w_1 w_14 := by rw [hw]; exact one_box' _ _
      have HN_14 := Lib.hid (show w_14.ownsRow wd.heap.size 5 1 (.slice (some ⟨w_1.heap.size, 0, none⟩) 0 0) 0 [] by rw [hw]; exact own_base (own_bare _ _ (Nat.le_refl _)) HB_1.out.size)
      have HB_14 : Hid (Below wd.heap.size wd w_14) := Lib.hid (Below.then HB_1.out hb)
      have HN_1_14 := Lib.hid (own_over HN_1.out hb)
      clear hb
      go_simp
      rw [← hw]
      clear hw
      refine hK.out _ _ (HSB.out _ HB_14.out) (fun _ => ?_)
      clear hK K
      try simp only [Act.put, List.setIfInBounds_toArray, List.set_cons_zero, List.set_cons_succ]
      refine wpAnyH_ready (rs := [6, 15]) (by kernel_rfl) (by simp) ?_
      refine AllReadyH.cons (o := ?o6x15) ?ho6x15 (fun K hK => ?st6x15) ?mo6x15
      case ho6x15 => (simp only [List.getElem?_toArray, List.getElem?_cons_zero, List.getElem?_cons_succ]; rfl)
      · skip
        refine step_append_bare w_14 (by rfl) _ _ 22 (by rfl) i0 _ u_bytes hi0 hz0 hz1 hz2 rfl (by rfl) HN_1_14.out (by rfl) (HRA.out _ HB_14.out) (by omega) HB_14.out.size ?_
        intro A15 c15 w_15 ho hb
        have HN_15 := Lib.hid ho
        have HB_15 : Hid (Below wd.heap.size wd w_15) := Lib.hid (Below.then HB_14.out hb)
        have HN_1_14_15 := Lib.hid (own_over HN_1_14.out hb)
        have HN_14_15 := Lib.hid (own_over HN_14.out hb)
        clear ho hb
        refine hK.out _ _ (HSB.out _ HB_15.out) (fun _ => ?_)
        clear hK K
        try simp only [Act.put, List.setIfInBounds_toArray, List.set_cons_zero, List.set_cons_succ]
        refine wpAnyH_ready (rs := [13, 15]) (by kernel_rfl) (by simp) ?_
        refine AllReadyH.cons (o := ?o13x16) ?ho13x16 (fun K hK => ?st13x16) ?mo13x16
        case ho13x16 => (simp only [List.getElem?_toArray, List.getElem?_cons_zero, List.getElem?_cons_succ]; rfl)
        · skip
          refine step_append_bare w_15 (by rfl) _ _ 22 (by rfl) i0 _ u_bytes hi0 hz0 hz1 hz2 rfl (by rfl) HN_14_15.out (by rfl) (HRB.out _ HB_15.out) (by omega) HB_15.out.size ?_
          intro A16 c16 w_16 ho hb
          have HN_16 := Lib.hid ho
          have HB_16 : Hid (Below wd.heap.size wd w_16) := Lib.hid (Below.then HB_15.out hb)
          have HN_14_15_16 := Lib.hid (own_over HN_14_15.out hb)
          have HN_15_16 := Lib.hid (own_over HN_15.out hb)
          clear ho hb
          refine hK.out _ _ (HSB.out _ HB_16.out) (fun _ => ?_)
          clear hK K
          try simp only [Act.put, List.setIfInBounds_toArray, List.set_cons_zero, List.set_cons_succ]
          refine wpAnyH_take (i := 14) (oi := ?oi14z16) (v := ?v14z16) ?hi14z16 (by kernel_rfl) (by kernel_rfl) (by kernel_rfl) ?hq14z16 ?hy14z16 (by assumption) ?rest14z16
          case hi14z16 => (simp only [List.getElem?_toArray, List.getElem?_cons_zero, List.getElem?_cons_succ]; rfl)
          case hy14z16 => (refine Or.inl ⟨by rfl, ?_⟩; intro w hSw; (try dsimp only at hSw); go_simp; try with_reducible rfl)
          case hq14z16 => exact fun _ _ _ h => h
          try simp only [Act.put, List.setIfInBounds_toArray, List.set_cons_zero, List.set_cons_succ]
          refine wpAnyH_ready (rs := [15]) (by kernel_rfl) (by simp) ?_
          refine AllReadyH.cons (o := ?o15x17) ?ho15x17 (fun K hK => ?st15x17) ?mo15x17
          case ho15x17 => (simp only [List.getElem?_toArray, List.getElem?_cons_zero, List.getElem?_cons_succ]; rfl)
          · obtain ⟨w_17, hw⟩ : ∃ x, x = w_16.alloc (.cells #[.slice none 0 0, .slice none 0 0] 24) := ⟨_, rfl⟩
            have hb : Below w_16.heap.size w_16 w_17 := by rw [hw]; exact one_box' _ _
            have HN_17 := Lib.hid (And.intro (show Blk w_17 w_16.heap.size 24 #[.slice none 0 0, .slice none 0 0] by rw [hw]; exact Blk.new _ _ _) HB_16.out.size)
            have HB_17 : Hid (Below wd.heap.size wd w_17) := Lib.hid (Below.then HB_16.out hb)
            have HN_15_16_17 := Lib.hid (own_over HN_15_16.out hb)
            have HN_16_17 := Lib.hid (own_over HN_16.out hb)
            clear hb
            go_simp
            rw [← hw]
            clear hw
            refine hK.out _ _ (HSB.out _ HB_17.out) (fun _ => ?_)
            clear hK K
            try simp only [Act.put, List.setIfInBounds_toArray, List.set_cons_zero, List.set_cons_succ]
            refine wpAnyH_ready (rs := [16]) (by kernel_rfl) (by simp) ?_
            refine AllReadyH.cons (o := ?o16y18) ?ho16y18 (fun K hK => ?st16y18) ?mo16y18
            case ho16y18 => (simp only [List.getElem?_toArray, List.getElem?_cons_zero, List.getElem?_cons_succ]; rfl)
            case mo16y18 => exact AllReadyH.nil
            obtain ⟨k0, k1, k2, k3, k4, k5, k6, k7, k8⟩ := keep_fin HB0.out HB_17.out HN_15_16_17.out HN_16_17.out HN_17.out.1 HN_17.out.2 HRD.out.d.blk
            have HF18 := Lib.hid (And.intro k4 (And.intro k5 (And.intro k6 k7)))
            clear k4 k5 k6 k7
            go_simp
            refine hK.out _ _ k8 (fun _ => ?_)
            clear hK K k8
            try simp only [Act.put, List.setIfInBounds_toArray, List.set_cons_zero, List.set_cons_succ]
            refine wpAnyH_done (by kernel_rfl) ?_ _
            exact HKT _ _ (FIN.out _ _ _ _ _ _ _ _ _ _ _ _ _ _ _ _ _ _ _ _ _ HF18.out.1 HF18.out.2.1 HF18.out.2.2.1 HF18.out.2.2.2)
          exact AllReadyH.nil
        refine AllReadyH.cons (o := ?o15x19) ?ho15x19 (fun K hK => ?st15x19) ?mo15x19
        case ho15x19 => (simp only [List.getElem?_toArray, List.getElem?_cons_zero, List.getElem?_cons_succ]; rfl)
        · obtain ⟨w_19, hw⟩ : ∃ x, x = w_15.alloc (.cells #[.slice none 0 0, .slice none 0 0] 24) := ⟨_, rfl⟩
          have hb : Below w_15.heap.size w_15 w_19 := by rw [hw]; exact one_box' _ _
          have HN_19 := Lib.hid (And.intro (show Blk w_19 w_15.heap.size 24 #[.slice none 0 0, .slice none 0 0] by rw [hw]; exact Blk.new _ _ _) HB_15.out.size)
          have HB_19 : Hid (Below wd.heap.size wd w_19) := Lib.hid (Below.then HB_15.out hb)
          have HN_14_15_19 := Lib.hid (own_over HN_14_15.out hb)
          have HN_15_19 := Lib.hid (own_over HN_15.out hb)
          clear hb
          go_simp
          rw [← hw]
          clear hw
          refine hK.out _ _ (HSB.out _ HB_19.out) (fun _ => ?_)
          clear hK K
          try simp only [Act.put, List.setIfInBounds_toArray, List.set_cons_zero, List.set_cons_succ]
          refine wpAnyH_ready (rs := [13]) (by kernel_rfl) (by simp) ?_
          refine AllReadyH.cons (o := ?o13x20) ?ho13x20 (fun K hK => ?st13x20) ?mo13x20
          case ho13x20 => (simp only [List.getElem?_toArray, List.getElem?_cons_zero, List.getElem?_cons_succ]; rfl)
          · skip
            refine step_append_bare w_19 (by rfl) _ _ 22 (by rfl) i0 _ u_bytes hi0 hz0 hz1 hz2 rfl (by rfl) HN_14_15_19.out (by rfl) (HRB.out _ HB_19.out) (by omega) HB_19.out.size ?_
            intro A20 c20 w_20 ho hb
            have HN_20 := Lib.hid ho
            have HB_20 : Hid (Below wd.heap.size wd w_20) := Lib.hid (Below.then HB_19.out hb)
            have HN_14_15_19_20 := Lib.hid (own_over HN_14_15_19.out hb)
            have HN_15_19_20 := Lib.hid (own_over HN_15_19.out hb)
            have HN_19_20 := Lib.hid (And.intro (HN_19.out.1.over hb) HN_19.out.2)
            clear ho hb
            refine hK.out _ _ (HSB.out _ HB_20.out) (fun _ => ?_)
            clear hK K
            try simp only [Act.put, List.setIfInBounds_toArray, List.set_cons_zero, List.set_cons_succ]
            refine wpAnyH_take (i := 14) (oi := ?oi14z20) (v := ?v14z20) ?hi14z20 (by kernel_rfl) (by kernel_rfl) (by kernel_rfl) ?hq14z20 ?hy14z20 (by assumption) ?rest14z20
            case hi14z20 => (simp only [List.getElem?_toArray, List.getElem?_cons_zero, List.getElem?_cons_succ]; rfl)
            case hy14z20 => (refine Or.inl ⟨by rfl, ?_⟩; intro w hSw; (try dsimp only at hSw); go_simp; try with_reducible rfl)
            case hq14z20 => exact fun _ _ _ h => h
            try simp only [Act.put, List.setIfInBounds_toArray, List.set_cons_zero, List.set_cons_succ]
            refine wpAnyH_ready (rs := [16]) (by kernel_rfl) (by simp) ?_
            refine AllReadyH.cons (o := ?o16y21) ?ho16y21 (fun K hK => ?st16y21) ?mo16y21
            case ho16y21 => (simp only [List.getElem?_toArray, List.getElem?_cons_zero, List.getElem?_cons_succ]; rfl)
            case mo16y21 => exact AllReadyH.nil
            obtain ⟨k0, k1, k2, k3, k4, k5, k6, k7, k8⟩ := keep_fin HB0.out HB_20.out HN_15_19_20.out HN_20.out HN_19_20.out.1 HN_19_20.out.2 HRD.out.d.blk
            have HF21 := Lib.hid (And.intro k4 (And.intro k5 (And.intro k6 k7)))
            clear k4 k5 k6 k7
            go_simp
            refine hK.out _ _ k8 (fun _ => ?_)
            clear hK K k8
            try simp only [Act.put, List.setIfInBounds_toArray, List.set_cons_zero, List.set_cons_succ]
            refine wpAnyH_done (by kernel_rfl) ?_ _
            exact HKT _ _ (FIN.out _ _ _ _ _ _ _ _ _ _ _ _ _ _ _ _ _ _ _ _ _ HF21.out.1 HF21.out.2.1 HF21.out.2.2.1 HF21.out.2.2.2)
          exact AllReadyH.nil
        exact AllReadyH.nil
      refine AllReadyH.cons (o := ?o15x22) ?ho15x22 (fun K hK => ?st15x22) ?mo15x22
      case ho15x22 => (simp only [List.getElem?_toArray, List.getElem?_cons_zero, List.getElem?_cons_succ]; rfl)
      · obtain ⟨w_22, hw⟩ : ∃ x, x = w_14.alloc (.cells #[.slice none 0 0, .slice none 0 0] 24) := ⟨_, rfl⟩
        have hb : Below w_14.heap.size w_14 w_22 := by rw [hw]; exact one_box' _ _
        have HN_22 := Lib.hid (And.intro (show Blk w_22 w_14.heap.size 24 #[.slice none 0 0, .slice none 0 0] by rw [hw]; exact Blk.new _ _ _) HB_14.out.size)
        have HB_22 : Hid (Below wd.heap.size wd w_22) := Lib.hid (Below.then HB_14.out hb)
        have HN_1_14_22 := Lib.hid (own_over HN_1_14.out hb)
        have HN_14_22 := Lib.hid (own_over HN_14.out hb)
        clear hb
        go_simp
        rw [← hw]
        clear hw
        refine hK.out _ _ (HSB.out _ HB_22.out) (fun _ => ?_)
        clear hK K
        try simp only [Act.put, List.setIfInBounds_toArray, List.set_cons_zero, List.set_cons_succ]
        refine wpAnyH_ready (rs := [6]) (by kernel_rfl) (by simp) ?_
        refine AllReadyH.cons (o := ?o6x23) ?ho6x23 (fun K hK => ?st6x23) ?mo6x23
        case ho6x23 => (simp only [List.getElem?_toArray, List.getElem?_cons_zero, List.getElem?_cons_succ]; rfl)
        · skip
          refine step_append_bare w_22 (by rfl) _ _ 22 (by rfl) i0 _ u_bytes hi0 hz0 hz1 hz2 rfl (by rfl) HN_1_14_22.out (by rfl) (HRA.out _ HB_22.out) (by omega) HB_22.out.size ?_
          intro A23 c23 w_23 ho hb
          have HN_23 := Lib.hid ho
          have HB_23 : Hid (Below wd.heap.size wd w_23) := Lib.hid (Below.then HB_22.out hb)
          have HN_1_14_22_23 := Lib.hid (own_over HN_1_14_22.out hb)
          have HN_14_22_23 := Lib.hid (own_over HN_14_22.out hb)
          have HN_22_23 := Lib.hid (And.intro (HN_22.out.1.over hb) HN_22.out.2)
          clear ho hb
          refine hK.out _ _ (HSB.out _ HB_23.out) (fun _ => ?_)
          clear hK K
          try simp only [Act.put, List.setIfInBounds_toArray, List.set_cons_zero, List.set_cons_succ]
          refine wpAnyH_ready (rs := [13]) (by kernel_rfl) (by simp) ?_
          refine AllReadyH.cons (o := ?o13x24) ?ho13x24 (fun K hK => ?st13x24) ?mo13x24
          case ho13x24 => (simp only [List.getElem?_toArray, List.getElem?_cons_zero, List.getElem?_cons_succ]; rfl)
          · skip
            refine step_append_bare w_23 (by rfl) _ _ 22 (by rfl) i0 _ u_bytes hi0 hz0 hz1 hz2 rfl (by rfl) HN_14_22_23.out (by rfl) (HRB.out _ HB_23.out) (by omega) HB_23.out.size ?_
            intro A24 c24 w_24 ho hb
            have HN_24 := Lib.hid ho
            have HB_24 : Hid (Below wd.heap.size wd w_24) := Lib.hid (Below.then HB_23.out hb)
            have HN_14_22_23_24 := Lib.hid (own_over HN_14_22_23.out hb)
            have HN_22_23_24 := Lib.hid (And.intro (HN_22_23.out.1.over hb) HN_22_23.out.2)
            have HN_23_24 := Lib.hid (own_over HN_23.out hb)
            clear ho hb
            refine hK.out _ _ (HSB.out _ HB_24.out) (fun _ => ?_)
            clear hK K
            try simp only [Act.put, List.setIfInBounds_toArray, List.set_cons_zero, List.set_cons_succ]
            refine wpAnyH_take (i := 14) (oi := ?oi14z24) (v := ?v14z24) ?hi14z24 (by kernel_rfl) (by kernel_rfl) (by kernel_rfl) ?hq14z24 ?hy14z24 (by assumption) ?rest14z24
            case hi14z24 => (simp only [List.getElem?_toArray, List.getElem?_cons_zero, List.getElem?_cons_succ]; rfl)
            case hy14z24 => (refine Or.inl ⟨by rfl, ?_⟩; intro w hSw; (try dsimp only at hSw); go_simp; try with_reducible rfl)
            case hq14z24 => exact fun _ _ _ h => h
            try simp only [Act.put, List.setIfInBounds_toArray, List.set_cons_zero, List.set_cons_succ]
            refine wpAnyH_ready (rs := [16]) (by kernel_rfl) (by simp) ?_
            refine AllReadyH.cons (o := ?o16y25) ?ho16y25 (fun K hK => ?st16y25) ?mo16y25
            case ho16y25 => (simp only [List.getElem?_toArray, List.getElem?_cons_zero, List.getElem?_cons_succ]; rfl)
            case mo16y25 => exact AllReadyH.nil
            obtain ⟨k0, k1, k2, k3, k4, k5, k6, k7, k8⟩ := keep_fin HB0.out HB_24.out HN_23_24.out HN_24.out HN_22_23_24.out.1 HN_22_23_24.out.2 HRD.out.d.blk
            have HF25 := Lib.hid (And.intro k4 (And.intro k5 (And.intro k6 k7)))
            clear k4 k5 k6 k7
            go_simp
            refine hK.out _ _ k8 (fun _ => ?_)
            clear hK K k8
            try simp only [Act.put, List.setIfInBounds_toArray, List.set_cons_zero, List.set_cons_succ]
            refine wpAnyH_done (by kernel_rfl) ?_ _
            exact HKT _ _ (FIN.out _ _ _ _ _ _ _ _ _ _ _ _ _ _ _ _ _ _ _ _ _ HF25.out.1 HF25.out.2.1 HF25.out.2.2.1 HF25.out.2.2.2)
          exact AllReadyH.nil
        exact AllReadyH.nil
      exact AllReadyH.nil
    refine AllReadyH.cons (o := ?o15x26) ?ho15x26 (fun K hK => ?st15x26) ?mo15x26
    case ho15x26 => (simp only [List.getElem?_toArray, List.getElem?_cons_zero, List.getElem?_cons_succ]; rfl)
    · obtain ⟨w_26, hw⟩ : ∃ x, x = w_1.alloc (.cells #[.slice none 0 0, .slice none 0 0] 24) := ⟨_, rfl⟩
      have hb : Below w_1.heap.size w_1 w_26 := by rw [hw]; exact one_box' _ _
      have HN_26 := Lib.hid (And.intro (show Blk w_26 w_1.heap.size 24 #[.slice none 0 0, .slice none 0 0] by rw [hw]; exact Blk.new _ _ _) HB_1.out.size)
      have HB_26 : Hid (Below wd.heap.size wd w_26) := Lib.hid (Below.then HB_1.out hb)
      have HN_1_26 := Lib.hid (own_over HN_1.out hb)
      clear hb
      go_simp
      rw [← hw]
      clear hw
      refine hK.out _ _ (HSB.out _ HB_26.out) (fun _ => ?_)
      clear hK K
      try simp only [Act.put, List.setIfInBounds_toArray, List.set_cons_zero, List.set_cons_succ]
      refine wpAnyH_ready (rs := [6, 7]) (by kernel_rfl) (by simp) ?_
      refine AllReadyH.cons (o := ?o6x27) ?ho6x27 (fun K hK => ?st6x27) ?mo6x27
      case ho6x27 => (simp only [List.getElem?_toArray, List.getElem?_cons_zero, List.getElem?_cons_succ]; rfl)
      · skip
        refine step_append_bare w_26 (by rfl) _ _ 22 (by rfl) i0 _ u_bytes hi0 hz0 hz1 hz2 rfl (by rfl) HN_1_26.out (by rfl) (HRA.out _ HB_26.out) (by omega) HB_26.out.size ?_
        intro A27 c27 w_27 ho hb
        have HN_27 := Lib.hid ho
        have HB_27 : Hid (Below wd.heap.size wd w_27) := Lib.hid (Below.then HB_26.out hb)
        have HN_1_26_27 := Lib.hid (own_over HN_1_26.out hb)
        have HN_26_27 := Lib.hid (And.intro (HN_26.out.1.over hb) HN_26.out.2)
        clear ho hb
        refine hK.out _ _ (HSB.out _ HB_27.out) (fun _ => ?_)
        clear hK K
        try simp only [Act.put, List.setIfInBounds_toArray, List.set_cons_zero, List.set_cons_succ]
        refine wpAnyH_ready (rs := [7]) (by kernel_rfl) (by simp) ?_
        refine AllReadyH.cons (o := ?o7x28) ?ho7x28 (fun K hK => ?st7x28) ?mo7x28
        case ho7x28 => (simp only [List.getElem?_toArray, List.getElem?_cons_zero, List.getElem?_cons_succ]; rfl)
        · obtain ⟨w_28, hw⟩ : ∃ x, x = w_27.alloc (.cells #[] 5) := ⟨_, rfl⟩
          have hb : Below w_27.heap.size w_27 w_28 := by rw [hw]; exact one_box' _ _
          have HN_28 := Lib.hid (show w_28.ownsRow wd.heap.size 5 1 (.slice (some ⟨w_27.heap.size, 0, none⟩) 0 0) 0 [] by rw [hw]; exact own_base (own_bare _ _ (Nat.le_refl _)) HB_27.out.size)
          have HB_28 : Hid (Below wd.heap.size wd w_28) := Lib.hid (Below.then HB_27.out hb)
          have HN_26_27_28 := Lib.hid (And.intro (HN_26_27.out.1.over hb) HN_26_27.out.2)
          have HN_27_28 := Lib.hid (own_over HN_27.out hb)
          clear hb
          go_simp
          rw [← hw]
          clear hw
          refine hK.out _ _ (HSB.out _ HB_28.out) (fun _ => ?_)
          clear hK K
          try simp only [Act.put, List.setIfInBounds_toArray, List.set_cons_zero, List.set_cons_succ]
          refine wpAnyH_ready (rs := [13]) (by kernel_rfl) (by simp) ?_
          refine AllReadyH.cons (o := ?o13x29) ?ho13x29 (fun K hK => ?st13x29) ?mo13x29
          case ho13x29 => (simp only [List.getElem?_toArray, List.getElem?_cons_zero, List.getElem?_cons_succ]; rfl)
          · skip
            refine step_append_bare w_28 (by rfl) _ _ 22 (by rfl) i0 _ u_bytes hi0 hz0 hz1 hz2 rfl (by rfl) HN_28.out (by rfl) (HRB.out _ HB_28.out) (by omega) HB_28.out.size ?_
            intro A29 c29 w_29 ho hb
            have HN_29 := Lib.hid ho
            have HB_29 : Hid (Below wd.heap.size wd w_29) := Lib.hid (Below.then HB_28.out hb)
            have HN_26_27_28_29 := Lib.hid (And.intro (HN_26_27_28.out.1.over hb) HN_26_27_28.out.2)
            have HN_27_28_29 := Lib.hid (own_over HN_27_28.out hb)
            have HN_28_29 := Lib.hid (own_over HN_28.out hb)
            clear ho hb
            refine hK.out _ _ (HSB.out _ HB_29.out) (fun _ => ?_)
            clear hK K
            try simp only [Act.put, List.setIfInBounds_toArray, List.set_cons_zero, List.set_cons_succ]
            refine wpAnyH_take (i := 14) (oi := ?oi14z29) (v := ?v14z29) ?hi14z29 (by kernel_rfl) (by kernel_rfl) (by kernel_rfl) ?hq14z29 ?hy14z29 (by assumption) ?rest14z29
            case hi14z29 => (simp only [List.getElem?_toArray, List.getElem?_cons_zero, List.getElem?_cons_succ]; rfl)
            case hy14z29 => (refine Or.inl ⟨by rfl, ?_⟩; intro w hSw; (try dsimp only at hSw); go_simp; try with_reducible rfl)
            case hq14z29 => exact fun _ _ _ h => h
            try simp only [Act.put, List.setIfInBounds_toArray, List.set_cons_zero, List.set_cons_succ]
            refine wpAnyH_ready (rs := [16]) (by kernel_rfl) (by simp) ?_
            refine AllReadyH.cons (o := ?o16y30) ?ho16y30 (fun K hK => ?st16y30) ?mo16y30
            case ho16y30 => (simp only [List.getElem?_toArray, List.getElem?_cons_zero, List.getElem?_cons_succ]; rfl)
            case mo16y30 => exact AllReadyH.nil
            obtain ⟨k0, k1, k2, k3, k4, k5, k6, k7, k8⟩ := keep_fin HB0.out HB_29.out HN_27_28_29.out HN_29.out HN_26_27_28_29.out.1 HN_26_27_28_29.out.2 HRD.out.d.blk
            have HF30 := Lib.hid (And.intro k4 (And.intro k5 (And.intro k6 k7)))
            clear k4 k5 k6 k7
            go_simp
            refine hK.out _ _ k8 (fun _ => ?_)
            clear hK K k8
            try simp only [Act.put, List.setIfInBounds_toArray, List.set_cons_zero, List.set_cons_succ]
            refine wpAnyH_done (by kernel_rfl) ?_ _
            exact HKT _ _ (FIN.out _ _ _ _ _ _ _ _ _ _ _ _ _ _ _ _ _ _ _ _ _ HF30.out.1 HF30.out.2.1 HF30.out.2.2.1 HF30.out.2.2.2)
          exact AllReadyH.nil
        exact AllReadyH.nil
      refine AllReadyH.cons (o := ?o7x31) ?ho7x31 (fun K hK => ?st7x31) ?mo7x31
      case ho7x31 => (simp only [List.getElem?_toArray, List.getElem?_cons_zero, List.getElem?_cons_succ]; rfl)
      · obtain ⟨w_31, hw⟩ : ∃ x, x = w_26.alloc (.cells #[] 5) := ⟨_, rfl⟩
        have hb : Below w_26.heap.size w_26 w_31 := by rw [hw]; exact one_box' _ _
        have HN_31 := Lib.hid (show w_31.ownsRow wd.heap.size 5 1 (.slice (some ⟨w_26.heap.size, 0, none⟩) 0 0) 0 [] by rw [hw]; exact own_base (own_bare _ _ (Nat.le_refl _)) HB_26.out.size)
        have HB_31 : Hid (Below wd.heap.size wd w_31) := Lib.hid (Below.then HB_26.out hb)
        have HN_1_26_31 := Lib.hid (own_over HN_1_26.out hb)
        have HN_26_31 := Lib.hid (And.intro (HN_26.out.1.over hb) HN_26.out.2)
        clear hb
        go_simp
        rw [← hw]
        clear hw
        refine hK.out _ _ (HSB.out _ HB_31.out) (fun _ => ?_)
        clear hK K
        try simp only [Act.put, List.setIfInBounds_toArray, List.set_cons_zero, List.set_cons_succ]
        refine wpAnyH_ready (rs := [6]) (by kernel_rfl) (by simp) ?_
        refine AllReadyH.cons (o := ?o6x32) ?ho6x32 (fun K hK => ?st6x32) ?mo6x32
        case ho6x32 => (simp only [List.getElem?_toArray, List.getElem?_cons_zero, List.getElem?_cons_succ]; rfl)
        · skip
          refine step_append_bare w_31 (by rfl) _ _ 22 (by rfl) i0 _ u_bytes hi0 hz0 hz1 hz2 rfl (by rfl) HN_1_26_31.out (by rfl) (HRA.out _ HB_31.out) (by omega) HB_31.out.size ?_
          intro A32 c32 w_32 ho hb
          have HN_32 := Lib.hid ho
          have HB_32 : Hid (Below wd.heap.size wd w_32) := Lib.hid (Below.then HB_31.out hb)
          have HN_1_26_31_32 := Lib.hid (own_over HN_1_26_31.out hb)
          have HN_26_31_32 := Lib.hid (And.intro (HN_26_31.out.1.over hb) HN_26_31.out.2)
          have HN_31_32 := Lib.hid (own_over HN_31.out hb)
          clear ho hb
          refine hK.out _ _ (HSB.out _ HB_32.out) (fun _ => ?_)
          clear hK K
          try simp only [Act.put, List.setIfInBounds_toArray, List.set_cons_zero, List.set_cons_succ]
          refine wpAnyH_ready (rs := [13]) (by kernel_rfl) (by simp) ?_
          refine AllReadyH.cons (o := ?o13x33) ?ho13x33 (fun K hK => ?st13x33) ?mo13x33
          case ho13x33 => (simp only [List.getElem?_toArray, List.getElem?_cons_zero, List.getElem?_cons_succ]; rfl)
          · skip
            refine step_append_bare w_32 (by rfl) _ _ 22 (by rfl) i0 _ u_bytes hi0 hz0 hz1 hz2 rfl (by rfl) HN_31_32.out (by rfl) (HRB.out _ HB_32.out) (by omega) HB_32.out.size ?_
            intro A33 c33 w_33 ho hb
            have HN_33 := Lib.hid ho
            have HB_33 : Hid (Below wd.heap.size wd w_33) := Lib.hid (Below.then HB_32.out hb)
            have HN_26_31_32_33 := Lib.hid (And.intro (HN_26_31_32.out.1.over hb) HN_26_31_32.out.2)
            have HN_31_32_33 := Lib.hid (own_over HN_31_32.out hb)
            have HN_32_33 := Lib.hid (own_over HN_32.out hb)
            clear ho hb
            refine hK.out _ _ (HSB.out _ HB_33.out) (fun _ => ?_)
            clear hK K
            try simp only [Act.put, List.setIfInBounds_toArray, List.set_cons_zero, List.set_cons_succ]
            refine wpAnyH_take (i := 14) (oi := ?oi14z33) (v := ?v14z33) ?hi14z33 (by kernel_rfl) (by kernel_rfl) (by kernel_rfl) ?hq14z33 ?hy14z33 (by assumption) ?rest14z33
            case hi14z33 => (simp only [List.getElem?_toArray, List.getElem?_cons_zero, List.getElem?_cons_succ]; rfl)
            case hy14z33 => (refine Or.inl ⟨by rfl, ?_⟩; intro w hSw; (try dsimp only at hSw); go_simp; try with_reducible rfl)
            case hq14z33 => exact fun _ _ _ h => h
            try simp only [Act.put, List.setIfInBounds_toArray, List.set_cons_zero, List.set_cons_succ]
            refine wpAnyH_ready (rs := [16]) (by kernel_rfl) (by simp) ?_
            refine AllReadyH.cons (o := ?o16y34) ?ho16y34 (fun K hK => ?st16y34) ?mo16y34
            case ho16y34 => (simp only [List.getElem?_toArray, List.getElem?_cons_zero, List.getElem?_cons_succ]; rfl)
            case mo16y34 => exact AllReadyH.nil
            obtain ⟨k0, k1, k2, k3, k4, k5, k6, k7, k8⟩ := keep_fin HB0.out HB_33.out HN_32_33.out HN_33.out HN_26_31_32_33.out.1 HN_26_31_32_33.out.2 HRD.out.d.blk
            have HF34 := Lib.hid (And.intro k4 (And.intro k5 (And.intro k6 k7)))
            clear k4 k5 k6 k7
            go_simp
            refine hK.out _ _ k8 (fun _ => ?_)
            clear hK K k8
            try simp only [Act.put, List.setIfInBounds_toArray, List.set_cons_zero, List.set_cons_succ]
            refine wpAnyH_done (by kernel_rfl) ?_ _
            exact HKT _ _ (FIN.out _ _ _ _ _ _ _ _ _ _ _ _ _ _ _ _ _ _ _ _ _ HF34.out.1 HF34.out.2.1 HF34.out.2.2.1 HF34.out.2.2.2)
          exact AllReadyH.nil
        exact AllReadyH.nil
      exact AllReadyH.nil
    exact AllReadyH.nil
  refine AllReadyH.cons (o := ?o7x35) ?ho7x35 (fun K hK => ?st7x35) ?mo7x35
  case ho7x35 => (simp only [List.getElem?_toArray, List.getElem?_cons_zero, List.getElem?_cons_succ]; rfl)
  · obtain ⟨w_35, hw⟩ : ∃ x, x = wd.alloc (.cells #[] 5) := ⟨_, rfl⟩
    have hb : Below wd.heap.size wd w_35 := by rw [hw]; exact one_box' _ _
    have HN_35 := Lib.hid (show w_35.ownsRow wd.heap.size 5 1 (.slice (some ⟨wd.heap.size, 0, none⟩) 0 0) 0 [] by rw [hw]; exact own_base (own_bare _ _ (Nat.le_refl _)) HB0.out.size)
    have HB_35 : Hid (Below wd.heap.size wd w_35) := Lib.hid (Below.then HB0.out hb)
    clear hb
    go_simp
    rw [← hw]
    clear hw
    refine hK.out _ _ (HSB.out _ HB_35.out) (fun _ => ?_)
    clear hK K
    try simp only [Act.put, List.setIfInBounds_toArray, List.set_cons_zero, List.set_cons_succ]
    refine wpAnyH_ready (rs := [0, 15]) (by kernel_rfl) (by simp) ?_
    refine AllReadyH.cons (o := ?o0x36) ?ho0x36 (fun K hK => ?st0x36) ?mo0x36
    case ho0x36 => (simp only [List.getElem?_toArray, List.getElem?_cons_zero]; rfl)
    · obtain ⟨w_36, hw⟩ : ∃ x, x = w_35.alloc (.cells #[] 5) := ⟨_, rfl⟩
      have hb : Below w_35.heap.size w_35 w_36 := by rw [hw]; exact one_box' _ _
      have HN_36 := Lib.hid (show w_36.ownsRow wd.heap.size 5 1 (.slice (some ⟨w_35.heap.size, 0, none⟩) 0 0) 0 [] by rw [hw]; exact own_base (own_bare _ _ (Nat.le_refl _)) HB_35.out.size)
      have HB_36 : Hid (Below wd.heap.size wd w_36) := Lib.hid (Below.then HB_35.out hb)
      have HN_35_36 := Lib.hid (own_over HN_35.out hb)
      clear hb
      go_simp
      rw [← hw]
      clear hw
      refine hK.out _ _ (HSB.out _ HB_36.out) (fun _ => ?_)
      clear hK K
      try simp only [Act.put, List.setIfInBounds_toArray, List.set_cons_zero, List.set_cons_succ]
      refine wpAnyH_ready (rs := [6, 15]) (by kernel_rfl) (by simp) ?_
      refine AllReadyH.cons (o := ?o6x37) ?ho6x37 (fun K hK => ?st6x37) ?mo6x37
      case ho6x37 => (simp only [List.getElem?_toArray, List.getElem?_cons_zero, List.getElem?_cons_succ]; rfl)
      · skip
        refine step_append_bare w_36 (by rfl) _ _ 22 (by rfl) i0 _ u_bytes hi0 hz0 hz1 hz2 rfl (by rfl) HN_36.out (by rfl) (HRA.out _ HB_36.out) (by omega) HB_36.out.size ?_
        intro A37 c37 w_37 ho hb
        have HN_37 := Lib.hid ho
        have HB_37 : Hid (Below wd.heap.size wd w_37) := Lib.hid (Below.then HB_36.out hb)
        have HN_35_36_37 := Lib.hid (own_over HN_35_36.out hb)
        have HN_36_37 := Lib.hid (own_over HN_36.out hb)
        clear ho hb
        refine hK.out _ _ (HSB.out _ HB_37.out) (fun _ => ?_)
        clear hK K
        try simp only [Act.put, List.setIfInBounds_toArray, List.set_cons_zero, List.set_cons_succ]
        refine wpAnyH_ready (rs := [13, 15]) (by kernel_rfl) (by simp) ?_
        refine AllReadyH.cons (o := ?o13x38) ?ho13x38 (fun K hK => ?st13x38) ?mo13x38
        case ho13x38 => (simp only [List.getElem?_toArray, List.getElem?_cons_zero, List.getElem?_cons_succ]; rfl)
        · skip
          refine step_append_bare w_37 (by rfl) _ _ 22 (by rfl) i0 _ u_bytes hi0 hz0 hz1 hz2 rfl (by rfl) HN_35_36_37.out (by rfl) (HRB.out _ HB_37.out) (by omega) HB_37.out.size ?_
          intro A38 c38 w_38 ho hb
          have HN_38 := Lib.hid ho
          have HB_38 : Hid (Below wd.heap.size wd w_38) := Lib.hid (Below.then HB_37.out hb)
          have HN_35_36_37_38 := Lib.hid (own_over HN_35_36_37.out hb)
          have HN_37_38 := Lib.hid (own_over HN_37.out hb)
          clear ho hb
          refine hK.out _ _ (HSB.out _ HB_38.out) (fun _ => ?_)
          clear hK K
          try simp only [Act.put, List.setIfInBounds_toArray, List.set_cons_zero, List.set_cons_succ]
          refine wpAnyH_take (i := 14) (oi := ?oi14z38) (v := ?v14z38) ?hi14z38 (by kernel_rfl) (by kernel_rfl) (by kernel_rfl) ?hq14z38 ?hy14z38 (by assumption) ?rest14z38
          case hi14z38 => (simp only [List.getElem?_toArray, List.getElem?_cons_zero, List.getElem?_cons_succ]; rfl)
          case hy14z38 => (refine Or.inl ⟨by rfl, ?_⟩; intro w hSw; (try dsimp only at hSw); go_simp; try with_reducible rfl)
          case hq14z38 => exact fun _ _ _ h => h
          try simp only [Act.put, List.setIfInBounds_toArray, List.set_cons_zero, List.set_cons_succ]
          refine wpAnyH_ready (rs := [15]) (by kernel_rfl) (by simp) ?_
          refine AllReadyH.cons (o := ?o15x39) ?ho15x39 (fun K hK => ?st15x39) ?mo15x39
          case ho15x39 => (simp only [List.getElem?_toArray, List.getElem?_cons_zero, List.getElem?_cons_succ]; rfl)
          · obtain ⟨w_39, hw⟩ : ∃ x, x = w_38.alloc (.cells #[.slice none 0 0, .slice none 0 0] 24) := ⟨_, rfl⟩
            have hb : Below w_38.heap.size w_38 w_39 := by rw [hw]; exact one_box' _ _
            have HN_39 := Lib.hid (And.intro (show Blk w_39 w_38.heap.size 24 #[.slice none 0 0, .slice none 0 0] by rw [hw]; exact Blk.new _ _ _) HB_38.out.size)
            have HB_39 : Hid (Below wd.heap.size wd w_39) := Lib.hid (Below.then HB_38.out hb)
            have HN_37_38_39 := Lib.hid (own_over HN_37_38.out hb)
            have HN_38_39 := Lib.hid (own_over HN_38.out hb)
            clear hb
            go_simp
            rw [← hw]
            clear hw
            refine hK.out _ _ (HSB.out _ HB_39.out) (fun _ => ?_)
            clear hK K
            try simp only [Act.put, List.setIfInBounds_toArray, List.set_cons_zero, List.set_cons_succ]
            refine wpAnyH_ready (rs := [16]) (by kernel_rfl) (by simp) ?_
            refine AllReadyH.cons (o := ?o16y40) ?ho16y40 (fun K hK => ?st16y40) ?mo16y40
            case ho16y40 => (simp only [List.getElem?_toArray, List.getElem?_cons_zero, List.getElem?_cons_succ]; rfl)
            case mo16y40 => exact AllReadyH.nil
            obtain ⟨k0, k1, k2, k3, k4, k5, k6, k7, k8⟩ := keep_fin HB0.out HB_39.out HN_37_38_39.out HN_38_39.out HN_39.out.1 HN_39.out.2 HRD.out.d.blk
            have HF40 := Lib.hid (And.intro k4 (And.intro k5 (And.intro k6 k7)))
            clear k4 k5 k6 k7
            go_simp
            refine hK.out _ _ k8 (fun _ => ?_)
            clear hK K k8
            try simp only [Act.put, List.setIfInBounds_toArray, List.set_cons_zero, List.set_cons_succ]
            refine wpAnyH_done (by kernel_rfl) ?_ _
            exact HKT _ _ (FIN.out _ _ _ _ _ _ _ _ _ _ _ _ _ _ _ _ _ _ _ _ _ HF40.out.1 HF40.out.2.1 HF40.out.2.2.1 HF40.out.2.2.2)
          exact AllReadyH.nil
        refine AllReadyH.cons (o := ?o15x41) ?ho15x41 (fun K hK => ?st15x41) ?mo15x41
        case ho15x41 => (simp only [List.getElem?_toArray, List.getElem?_cons_zero, List.getElem?_cons_succ]; rfl)
        · obtain ⟨w_41, hw⟩ : ∃ x, x = w_37.alloc (.cells #[.slice none 0 0, .slice none 0 0] 24) := ⟨_, rfl⟩
          have hb : Below w_37.heap.size w_37 w_41 := by rw [hw]; exact one_box' _ _
          have HN_41 := Lib.hid (And.intro (show Blk w_41 w_37.heap.size 24 #[.slice none 0 0, .slice none 0 0] by rw [hw]; exact Blk.new _ _ _) HB_37.out.size)
          have HB_41 : Hid (Below wd.heap.size wd w_41) := Lib.hid (Below.then HB_37.out hb)
          have HN_35_36_37_41 := Lib.hid (own_over HN_35_36_37.out hb)
          have HN_37_41 := Lib.hid (own_over HN_37.out hb)
          clear hb
          go_simp
          rw [← hw]
          clear hw
          refine hK.out _ _ (HSB.out _ HB_41.out) (fun _ => ?_)
          clear hK K
          try simp only [Act.put, List.setIfInBounds_toArray, List.set_cons_zero, List.set_cons_succ]
          refine wpAnyH_ready (rs := [13]) (by kernel_rfl) (by simp) ?_
          refine AllReadyH.cons (o := ?o13x42) ?ho13x42 (fun K hK => ?st13x42) ?mo13x42
          case ho13x42 => (simp only [List.getElem?_toArray, List.getElem?_cons_zero, List.getElem?_cons_succ]; rfl)
          · skip
            refine step_append_bare w_41 (by rfl) _ _ 22 (by rfl) i0 _ u_bytes hi0 hz0 hz1 hz2 rfl (by rfl) HN_35_36_37_41.out (by rfl) (HRB.out _ HB_41.out) (by omega) HB_41.out.size ?_
            intro A42 c42 w_42 ho hb
            have HN_42 := Lib.hid ho
            have HB_42 : Hid (Below wd.heap.size wd w_42) := Lib.hid (Below.then HB_41.out hb)
            have HN_35_36_37_41_42 := Lib.hid (own_over HN_35_36_37_41.out hb)
            have HN_37_41_42 := Lib.hid (own_over HN_37_41.out hb)
            have HN_41_42 := Lib.hid (And.intro (HN_41.out.1.over hb) HN_41.out.2)
            clear ho hb
            refine hK.out _ _ (HSB.out _ HB_42.out) (fun _ => ?_)
            clear hK K
            try simp only [Act.put, List.setIfInBounds_toArray, List.set_cons_zero, List.set_cons_succ]
            refine wpAnyH_take (i := 14) (oi := ?oi14z42) (v := ?v14z42) ?hi14z42 (by kernel_rfl) (by kernel_rfl) (by kernel_rfl) ?hq14z42 ?hy14z42 (by assumption) ?rest14z42
            case hi14z42 => (simp only [List.getElem?_toArray, List.getElem?_cons_zero, List.getElem?_cons_succ]; rfl)
            case hy14z42 => (refine Or.inl ⟨by rfl, ?_⟩; intro w hSw; (try dsimp only at hSw); go_simp; try with_reducible rfl)
            case hq14z42 => exact fun _ _ _ h => h
            try simp only [Act.put, List.setIfInBounds_toArray, List.set_cons_zero, List.set_cons_succ]
            refine wpAnyH_ready (rs := [16]) (by kernel_rfl) (by simp) ?_
            refine AllReadyH.cons (o := ?o16y43) ?ho16y43 (fun K hK => ?st16y43) ?mo16y43
            case ho16y43 => (simp only [List.getElem?_toArray, List.getElem?_cons_zero, List.getElem?_cons_succ]; rfl)
            case mo16y43 => exact AllReadyH.nil
            obtain ⟨k0, k1, k2, k3, k4, k5, k6, k7, k8⟩ := keep_fin HB0.out HB_42.out HN_37_41_42.out HN_42.out HN_41_42.out.1 HN_41_42.out.2 HRD.out.d.blk
            have HF43 := Lib.hid (And.intro k4 (And.intro k5 (And.intro k6 k7)))
            clear k4 k5 k6 k7
            go_simp
            refine hK.out _ _ k8 (fun _ => ?_)
            clear hK K k8
            try simp only [Act.put, List.setIfInBounds_toArray, List.set_cons_zero, List.set_cons_succ]
            refine wpAnyH_done (by kernel_rfl) ?_ _
            exact HKT _ _ (FIN.out _ _ _ _ _ _ _ _ _ _ _ _ _ _ _ _ _ _ _ _ _ HF43.out.1 HF43.out.2.1 HF43.out.2.2.1 HF43.out.2.2.2)
          exact AllReadyH.nil
        exact AllReadyH.nil
      refine AllReadyH.cons (o := ?o15x44) ?ho15x44 (fun K hK => ?st15x44) ?mo15x44
      case ho15x44 => (simp only [List.getElem?_toArray, List.getElem?_cons_zero, List.getElem?_cons_succ]; rfl)
      · obtain ⟨w_44, hw⟩ : ∃ x, x = w_36.alloc (.cells #[.slice none 0 0, .slice none 0 0] 24) := ⟨_, rfl⟩
        have hb : Below w_36.heap.size w_36 w_44 := by rw [hw]; exact one_box' _ _
        have HN_44 := Lib.hid (And.intro (show Blk w_44 w_36.heap.size 24 #[.slice none 0 0, .slice none 0 0] by rw [hw]; exact Blk.new _ _ _) HB_36.out.size)
        have HB_44 : Hid (Below wd.heap.size wd w_44) := Lib.hid (Below.then HB_36.out hb)
        have HN_35_36_44 := Lib.hid (own_over HN_35_36.out hb)
        have HN_36_44 := Lib.hid (own_over HN_36.out hb)
        clear hb
        go_simp
        rw [← hw]
        clear hw
        refine hK.out _ _ (HSB.out _ HB_44.out) (fun _ => ?_)
        clear hK K
        try simp only [Act.put, List.setIfInBounds_toArray, List.set_cons_zero, List.set_cons_succ]
        refine wpAnyH_ready (rs := [6]) (by kernel_rfl) (by simp) ?_
        refine AllReadyH.cons (o := ?o6x45) ?ho6x45 (fun K hK => ?st6x45) ?mo6x45
        case ho6x45 => (simp only [List.getElem?_toArray, List.getElem?_cons_zero, List.getElem?_cons_succ]; rfl)
        · skip
          refine step_append_bare w_44 (by rfl) _ _ 22 (by rfl) i0 _ u_bytes hi0 hz0 hz1 hz2 rfl (by rfl) HN_36_44.out (by rfl) (HRA.out _ HB_44.out) (by omega) HB_44.out.size ?_
          intro A45 c45 w_45 ho hb
          have HN_45 := Lib.hid ho
          have HB_45 : Hid (Below wd.heap.size wd w_45) := Lib.hid (Below.then HB_44.out hb)
          have HN_35_36_44_45 := Lib.hid (own_over HN_35_36_44.out hb)
          have HN_36_44_45 := Lib.hid (own_over HN_36_44.out hb)
          have HN_44_45 := Lib.hid (And.intro (HN_44.out.1.over hb) HN_44.out.2)
          clear ho hb
          refine hK.out _ _ (HSB.out _ HB_45.out) (fun _ => ?_)
          clear hK K
          try simp only [Act.put, List.setIfInBounds_toArray, List.set_cons_zero, List.set_cons_succ]
          refine wpAnyH_ready (rs := [13]) (by kernel_rfl) (by simp) ?_
          refine AllReadyH.cons (o := ?o13x46) ?ho13x46 (fun K hK => ?st13x46) ?mo13x46
          case ho13x46 => (simp only [List.getElem?_toArray, List.getElem?_cons_zero, List.getElem?_cons_succ]; rfl)
          · skip
            refine step_append_bare w_45 (by rfl) _ _ 22 (by rfl) i0 _ u_bytes hi0 hz0 hz1 hz2 rfl (by rfl) HN_35_36_44_45.out (by rfl) (HRB.out _ HB_45.out) (by omega) HB_45.out.size ?_
            intro A46 c46 w_46 ho hb
            have HN_46 := Lib.hid ho
            have HB_46 : Hid (Below wd.heap.size wd w_46) := Lib.hid (Below.then HB_45.out hb)
            have HN_35_36_44_45_46 := Lib.hid (own_over HN_35_36_44_45.out hb)
            have HN_44_45_46 := Lib.hid (And.intro (HN_44_45.out.1.over hb) HN_44_45.out.2)
            have HN_45_46 := Lib.hid (own_over HN_45.out hb)
            clear ho hb
            refine hK.out _ _ (HSB.out _ HB_46.out) (fun _ => ?_)
            clear hK K
            try simp only [Act.put, List.setIfInBounds_toArray, List.set_cons_zero, List.set_cons_succ]
            refine wpAnyH_take (i := 14) (oi := ?oi14z46) (v := ?v14z46) ?hi14z46 (by kernel_rfl) (by kernel_rfl) (by kernel_rfl) ?hq14z46 ?hy14z46 (by assumption) ?rest14z46
            case hi14z46 => (simp only [List.getElem?_toArray, List.getElem?_cons_zero, List.getElem?_cons_succ]; rfl)
            case hy14z46 => (refine Or.inl ⟨by rfl, ?_⟩; intro w hSw; (try dsimp only at hSw); go_simp; try with_reducible rfl)
            case hq14z46 => exact fun _ _ _ h => h
            try simp only [Act.put, List.setIfInBounds_toArray, List.set_cons_zero, List.set_cons_succ]
            refine wpAnyH_ready (rs := [16]) (by kernel_rfl) (by simp) ?_
            refine AllReadyH.cons (o := ?o16y47) ?ho16y47 (fun K hK => ?st16y47) ?mo16y47
            case ho16y47 => (simp only [List.getElem?_toArray, List.getElem?_cons_zero, List.getElem?_cons_succ]; rfl)
            case mo16y47 => exact AllReadyH.nil
            obtain ⟨k0, k1, k2, k3, k4, k5, k6, k7, k8⟩ := keep_fin HB0.out HB_46.out HN_45_46.out HN_46.out HN_44_45_46.out.1 HN_44_45_46.out.2 HRD.out.d.blk
            have HF47 := Lib.hid (And.intro k4 (And.intro k5 (And.intro k6 k7)))
            clear k4 k5 k6 k7
            go_simp
            refine hK.out _ _ k8 (fun _ => ?_)
            clear hK K k8
            try simp only [Act.put, List.setIfInBounds_toArray, List.set_cons_zero, List.set_cons_succ]
            refine wpAnyH_done (by kernel_rfl) ?_ _
            exact HKT _ _ (FIN.out _ _ _ _ _ _ _ _ _ _ _ _ _ _ _ _ _ _ _ _ _ HF47.out.1 HF47.out.2.1 HF47.out.2.2.1 HF47.out.2.2.2)
          exact AllReadyH.nil
        exact AllReadyH.nil
      exact AllReadyH.nil
    refine AllReadyH.cons (o := ?o15x48) ?ho15x48 (fun K hK => ?st15x48) ?mo15x48
    case ho15x48 => (simp only [List.getElem?_toArray, List.getElem?_cons_zero, List.getElem?_cons_succ]; rfl)
    · obtain ⟨w_48, hw⟩ : ∃ x, x = w_35.alloc (.cells #[.slice none 0 0, .slice none 0 0] 24) := ⟨_, rfl⟩
      have hb : Below w_35.heap.size w_35 w_48 := by rw [hw]; exact one_box' _ _
      have HN_48 := Lib.hid (And.intro (show Blk w_48 w_35.heap.size 24 #[.slice none 0 0, .slice none 0 0] by rw [hw]; exact Blk.new _ _ _) HB_35.out.size)
      have HB_48 : Hid (Below wd.heap.size wd w_48) := Lib.hid (Below.then HB_35.out hb)
      have HN_35_48 := Lib.hid (own_over HN_35.out hb)
      clear hb
      go_simp
      rw [← hw]
      clear hw
      refine hK.out _ _ (HSB.out _ HB_48.out) (fun _ => ?_)
      clear hK K
      try simp only [Act.put, List.setIfInBounds_toArray, List.set_cons_zero, List.set_cons_succ]
      refine wpAnyH_ready (rs := [0]) (by kernel_rfl) (by simp) ?_
      refine AllReadyH.cons (o := ?o0x49) ?ho0x49 (fun K hK => ?st0x49) ?mo0x49
      case ho0x49 => (simp only [List.getElem?_toArray, List.getElem?_cons_zero]; rfl)
      · obtain ⟨w_49, hw⟩ : ∃ x, x = w_48.alloc (.cells #[] 5) := ⟨_, rfl⟩
        have hb : Below w_48.heap.size w_48 w_49 := by rw [hw]; exact one_box' _ _
        have HN_49 := Lib.hid (show w_49.ownsRow wd.heap.size 5 1 (.slice (some ⟨w_48.heap.size, 0, none⟩) 0 0) 0 [] by rw [hw]; exact own_base (own_bare _ _ (Nat.le_refl _)) HB_48.out.size)
        have HB_49 : Hid (Below wd.heap.size wd w_49) := Lib.hid (Below.then HB_48.out hb)
        have HN_35_48_49 := Lib.hid (own_over HN_35_48.out hb)
        have HN_48_49 := Lib.hid (And.intro (HN_48.out.1.over hb) HN_48.out.2)
        clear hb
        go_simp
        rw [← hw]
        clear hw
        refine hK.out _ _ (HSB.out _ HB_49.out) (fun _ => ?_)
        clear hK K
        try simp only [Act.put, List.setIfInBounds_toArray, List.set_cons_zero, List.set_cons_succ]
        refine wpAnyH_ready (rs := [6]) (by kernel_rfl) (by simp) ?_
        refine AllReadyH.cons (o := ?o6x50) ?ho6x50 (fun K hK => ?st6x50) ?mo6x50
        case ho6x50 => (simp only [List.getElem?_toArray, List.getElem?_cons_zero, List.getElem?_cons_succ]; rfl)
        · skip
          refine step_append_bare w_49 (by rfl) _ _ 22 (by rfl) i0 _ u_bytes hi0 hz0 hz1 hz2 rfl (by rfl) HN_49.out (by rfl) (HRA.out _ HB_49.out) (by omega) HB_49.out.size ?_
          intro A50 c50 w_50 ho hb
          have HN_50 := Lib.hid ho
          have HB_50 : Hid (Below wd.heap.size wd w_50) := Lib.hid (Below.then HB_49.out hb)
          have HN_35_48_49_50 := Lib.hid (own_over HN_35_48_49.out hb)
          have HN_48_49_50 := Lib.hid (And.intro (HN_48_49.out.1.over hb) HN_48_49.out.2)
          have HN_49_50 := Lib.hid (own_over HN_49.out hb)
          clear ho hb
          refine hK.out _ _ (HSB.out _ HB_50.out) (fun _ => ?_)
          clear hK K
          try simp only [Act.put, List.setIfInBounds_toArray, List.set_cons_zero, List.set_cons_succ]
          refine wpAnyH_ready (rs := [13]) (by kernel_rfl) (by simp) ?_
          refine AllReadyH.cons (o := ?o13x51) ?ho13x51 (fun K hK => ?st13x51) ?mo13x51
          case ho13x51 => (simp only [List.getElem?_toArray, List.getElem?_cons_zero, List.getElem?_cons_succ]; rfl)
          · skip
            refine step_append_bare w_50 (by rfl) _ _ 22 (by rfl) i0 _ u_bytes hi0 hz0 hz1 hz2 rfl (by rfl) HN_35_48_49_50.out (by rfl) (HRB.out _ HB_50.out) (by omega) HB_50.out.size ?_
            intro A51 c51 w_51 ho hb
            have HN_51 := Lib.hid ho
            have HB_51 : Hid (Below wd.heap.size wd w_51) := Lib.hid (Below.then HB_50.out hb)
            have HN_35_48_49_50_51 := Lib.hid (own_over HN_35_48_49_50.out hb)
            have HN_48_49_50_51 := Lib.hid (And.intro (HN_48_49_50.out.1.over hb) HN_48_49_50.out.2)
            have HN_50_51 := Lib.hid (own_over HN_50.out hb)
            clear ho hb
            refine hK.out _ _ (HSB.out _ HB_51.out) (fun _ => ?_)
            clear hK K
            try simp only [Act.put, List.setIfInBounds_toArray, List.set_cons_zero, List.set_cons_succ]
            refine wpAnyH_take (i := 14) (oi := ?oi14z51) (v := ?v14z51) ?hi14z51 (by kernel_rfl) (by kernel_rfl) (by kernel_rfl) ?hq14z51 ?hy14z51 (by assumption) ?rest14z51
            case hi14z51 => (simp only [List.getElem?_toArray, List.getElem?_cons_zero, List.getElem?_cons_succ]; rfl)
            case hy14z51 => (refine Or.inl ⟨by rfl, ?_⟩; intro w hSw; (try dsimp only at hSw); go_simp; try with_reducible rfl)
            case hq14z51 => exact fun _ _ _ h => h
            try simp only [Act.put, List.setIfInBounds_toArray, List.set_cons_zero, List.set_cons_succ]
            refine wpAnyH_ready (rs := [16]) (by kernel_rfl) (by simp) ?_
            refine AllReadyH.cons (o := ?o16y52) ?ho16y52 (fun K hK => ?st16y52) ?mo16y52
            case ho16y52 => (simp only [List.getElem?_toArray, List.getElem?_cons_zero, List.getElem?_cons_succ]; rfl)
            case mo16y52 => exact AllReadyH.nil
            obtain ⟨k0, k1, k2, k3, k4, k5, k6, k7, k8⟩ := keep_fin HB0.out HB_51.out HN_50_51.out HN_51.out HN_48_49_50_51.out.1 HN_48_49_50_51.out.2 HRD.out.d.blk
            have HF52 := Lib.hid (And.intro k4 (And.intro k5 (And.intro k6 k7)))
            clear k4 k5 k6 k7
            go_simp
            refine hK.out _ _ k8 (fun _ => ?_)
            clear hK K k8
            try simp only [Act.put, List.setIfInBounds_toArray, List.set_cons_zero, List.set_cons_succ]
            refine wpAnyH_done (by kernel_rfl) ?_ _
            exact HKT _ _ (FIN.out _ _ _ _ _ _ _ _ _ _ _ _ _ _ _ _ _ _ _ _ _ HF52.out.1 HF52.out.2.1 HF52.out.2.2.1 HF52.out.2.2.2)
          exact AllReadyH.nil
        exact AllReadyH.nil
      exact AllReadyH.nil
    exact AllReadyH.nil
  refine AllReadyH.cons (o := ?o15x53) ?ho15x53 (fun K hK => ?st15x53) ?mo15x53
  case ho15x53 => (simp only [List.getElem?_toArray, List.getElem?_cons_zero, List.getElem?_cons_succ]; rfl)
  · obtain ⟨w_53, hw⟩ : ∃ x, x = wd.alloc (.cells #[.slice none 0 0, .slice none 0 0] 24) := ⟨_, rfl⟩
    have hb : Below wd.heap.size wd w_53 := by rw [hw]; exact one_box' _ _
    have HN_53 := Lib.hid (And.intro (show Blk w_53 wd.heap.size 24 #[.slice none 0 0, .slice none 0 0] by rw [hw]; exact Blk.new _ _ _) HB0.out.size)
    have HB_53 : Hid (Below wd.heap.size wd w_53) := Lib.hid (Below.then HB0.out hb)
    clear hb
    go_simp
    rw [← hw]
    clear hw
    refine hK.out _ _ (HSB.out _ HB_53.out) (fun _ => ?_)
    clear hK K
    try simp only [Act.put, List.setIfInBounds_toArray, List.set_cons_zero, List.set_cons_succ]
    refine wpAnyH_ready (rs := [0, 7]) (by kernel_rfl) (by simp) ?_
    refine AllReadyH.cons (o := ?o0x54) ?ho0x54 (fun K hK => ?st0x54) ?mo0x54
    case ho0x54 => (simp only [List.getElem?_toArray, List.getElem?_cons_zero]; rfl)
    · obtain ⟨w_54, hw⟩ : ∃ x, x = w_53.alloc (.cells #[] 5) := ⟨_, rfl⟩
      have hb : Below w_53.heap.size w_53 w_54 := by rw [hw]; exact one_box' _ _
      have HN_54 := Lib.hid (show w_54.ownsRow wd.heap.size 5 1 (.slice (some ⟨w_53.heap.size, 0, none⟩) 0 0) 0 [] by rw [hw]; exact own_base (own_bare _ _ (Nat.le_refl _)) HB_53.out.size)
      have HB_54 : Hid (Below wd.heap.size wd w_54) := Lib.hid (Below.then HB_53.out hb)
      have HN_53_54 := Lib.hid (And.intro (HN_53.out.1.over hb) HN_53.out.2)
      clear hb
      go_simp
      rw [← hw]
      clear hw
      refine hK.out _ _ (HSB.out _ HB_54.out) (fun _ => ?_)
      clear hK K
      try simp only [Act.put, List.setIfInBounds_toArray, List.set_cons_zero, List.set_cons_succ]
      refine wpAnyH_ready (rs := [6, 7]) (by kernel_rfl) (by simp) ?_
      refine AllReadyH.cons (o := ?o6x55) ?ho6x55 (fun K hK => ?st6x55) ?mo6x55
      case ho6x55 => (simp only [List.getElem?_toArray, List.getElem?_cons_zero, List.getElem?_cons_succ]; rfl)
      · skip
        refine step_append_bare w_54 (by rfl) _ _ 22 (by rfl) i0 _ u_bytes hi0 hz0 hz1 hz2 rfl (by rfl) HN_54.out (by rfl) (HRA.out _ HB_54.out) (by omega) HB_54.out.size ?_
        intro A55 c55 w_55 ho hb
        have HN_55 := Lib.hid ho
        have HB_55 : Hid (Below wd.heap.size wd w_55) := Lib.hid (Below.then HB_54.out hb)
        have HN_53_54_55 := Lib.hid (And.intro (HN_53_54.out.1.over hb) HN_53_54.out.2)
        have HN_54_55 := Lib.hid (own_over HN_54.out hb)
        clear ho hb
        refine hK.out _ _ (HSB.out _ HB_55.out) (fun _ => ?_)
        clear hK K
        try simp only [Act.put, List.setIfInBounds_toArray, List.set_cons_zero, List.set_cons_succ]
        refine wpAnyH_ready (rs := [7]) (by kernel_rfl) (by simp) ?_
        refine AllReadyH.cons (o := ?o7x56) ?ho7x56 (fun K hK => ?st7x56) ?mo7x56
        case ho7x56 => (simp only [List.getElem?_toArray, List.getElem?_cons_zero, List.getElem?_cons_succ]; rfl)
        · obtain ⟨w_56, hw⟩ : ∃ x, x = w_55.alloc (.cells #[] 5) := ⟨_, rfl⟩
          have hb : Below w_55.heap.size w_55 w_56 := by rw [hw]; exact one_box' _ _
          have HN_56 := Lib.hid (show w_56.ownsRow wd.heap.size 5 1 (.slice (some ⟨w_55.heap.size, 0, none⟩) 0 0) 0 [] by rw [hw]; exact own_base (own_bare _ _ (Nat.le_refl _)) HB_55.out.size)
          have HB_56 : Hid (Below wd.heap.size wd w_56) := Lib.hid (Below.then HB_55.out hb)
          have HN_53_54_55_56 := Lib.hid (And.intro (HN_53_54_55.out.1.over hb) HN_53_54_55.out.2)
          have HN_55_56 := Lib.hid (own_over HN_55.out hb)
          clear hb
          go_simp
          rw [← hw]
          clear hw
          refine hK.out _ _ (HSB.out _ HB_56.out) (fun _ => ?_)
          clear hK K
          try simp only [Act.put, List.setIfInBounds_toArray, List.set_cons_zero, List.set_cons_succ]
          refine wpAnyH_ready (rs := [13]) (by kernel_rfl) (by simp) ?_
          refine AllReadyH.cons (o := ?o13x57) ?ho13x57 (fun K hK => ?st13x57) ?mo13x57
          case ho13x57 => (simp only [List.getElem?_toArray, List.getElem?_cons_zero, List.getElem?_cons_succ]; rfl)
          · skip
            refine step_append_bare w_56 (by rfl) _ _ 22 (by rfl) i0 _ u_bytes hi0 hz0 hz1 hz2 rfl (by rfl) HN_56.out (by rfl) (HRB.out _ HB_56.out) (by omega) HB_56.out.size ?_
            intro A57 c57 w_57 ho hb
            have HN_57 := Lib.hid ho
            have HB_57 : Hid (Below wd.heap.size wd w_57) := Lib.hid (Below.then HB_56.out hb)
            have HN_53_54_55_56_57 := Lib.hid (And.intro (HN_53_54_55_56.out.1.over hb) HN_53_54_55_56.out.2)
            have HN_55_56_57 := Lib.hid (own_over HN_55_56.out hb)
            have HN_56_57 := Lib.hid (own_over HN_56.out hb)
            clear ho hb
            refine hK.out _ _ (HSB.out _ HB_57.out) (fun _ => ?_)
            clear hK K
            try simp only [Act.put, List.setIfInBounds_toArray, List.set_cons_zero, List.set_cons_succ]
            refine wpAnyH_take (i := 14) (oi := ?oi14z57) (v := ?v14z57) ?hi14z57 (by kernel_rfl) (by kernel_rfl) (by kernel_rfl) ?hq14z57 ?hy14z57 (by assumption) ?rest14z57
            case hi14z57 => (simp only [List.getElem?_toArray, List.getElem?_cons_zero, List.getElem?_cons_succ]; rfl)
            case hy14z57 => (refine Or.inl ⟨by rfl, ?_⟩; intro w hSw; (try dsimp only at hSw); go_simp; try with_reducible rfl)
            case hq14z57 => exact fun _ _ _ h => h
            try simp only [Act.put, List.setIfInBounds_toArray, List.set_cons_zero, List.set_cons_succ]
            refine wpAnyH_ready (rs := [16]) (by kernel_rfl) (by simp) ?_
            refine AllReadyH.cons (o := ?o16y58) ?ho16y58 (fun K hK => ?st16y58) ?mo16y58
            case ho16y58 => (simp only [List.getElem?_toArray, List.getElem?_cons_zero, List.getElem?_cons_succ]; rfl)
            case mo16y58 => exact AllReadyH.nil
            obtain ⟨k0, k1, k2, k3, k4, k5, k6, k7, k8⟩ := keep_fin HB0.out HB_57.out HN_55_56_57.out HN_57.out HN_53_54_55_56_57.out.1 HN_53_54_55_56_57.out.2 HRD.out.d.blk
            have HF58 := Lib.hid (And.intro k4 (And.intro k5 (And.intro k6 k7)))
            clear k4 k5 k6 k7
            go_simp
            refine hK.out _ _ k8 (fun _ => ?_)
            clear hK K k8
            try simp only [Act.put, List.setIfInBounds_toArray, List.set_cons_zero, List.set_cons_succ]
            refine wpAnyH_done (by kernel_rfl) ?_ _
            exact HKT _ _ (FIN.out _ _ _ _ _ _ _ _ _ _ _ _ _ _ _ _ _ _ _ _ _ HF58.out.1 HF58.out.2.1 HF58.out.2.2.1 HF58.out.2.2.2)
          exact AllReadyH.nil
        exact AllReadyH.nil
      refine AllReadyH.cons (o := ?o7x59) ?ho7x59 (fun K hK => ?st7x59) ?mo7x59
      case ho7x59 => (simp only [List.getElem?_toArray, List.getElem?_cons_zero, List.getElem?_cons_succ]; rfl)
      · obtain ⟨w_59, hw⟩ : ∃ x, x = w_54.alloc (.cells #[] 5) := ⟨_, rfl⟩
        have hb : Below w_54.heap.size w_54 w_59 := by rw [hw]; exact one_box' _ _
        have HN_59 := Lib.hid (show w_59.ownsRow wd.heap.size 5 1 (.slice (some ⟨w_54.heap.size, 0, none⟩) 0 0) 0 [] by rw [hw]; exact own_base (own_bare _ _ (Nat.le_refl _)) HB_54.out.size)
        have HB_59 : Hid (Below wd.heap.size wd w_59) := Lib.hid (Below.then HB_54.out hb)
        have HN_53_54_59 := Lib.hid (And.intro (HN_53_54.out.1.over hb) HN_53_54.out.2)
        have HN_54_59 := Lib.hid (own_over HN_54.out hb)
        clear hb
        go_simp
        rw [← hw]
        clear hw
        refine hK.out _ _ (HSB.out _ HB_59.out) (fun _ => ?_)
        clear hK K
        try simp only [Act.put, List.setIfInBounds_toArray, List.set_cons_zero, List.set_cons_succ]
        refine wpAnyH_ready (rs := [6]) (by kernel_rfl) (by simp) ?_
        refine AllReadyH.cons (o := ?o6x60) ?ho6x60 (fun K hK => ?st6x60) ?mo6x60
        case ho6x60 => (simp only [List.getElem?_toArray, List.getElem?_cons_zero, List.getElem?_cons_succ]; rfl)
        · skip
          refine step_append_bare w_59 (by rfl) _ _ 22 (by rfl) i0 _ u_bytes hi0 hz0 hz1 hz2 rfl (by rfl) HN_54_59.out (by rfl) (HRA.out _ HB_59.out) (by omega) HB_59.out.size ?_
          intro A60 c60 w_60 ho hb
          have HN_60 := Lib.hid ho
          have HB_60 : Hid (Below wd.heap.size wd w_60) := Lib.hid (Below.then HB_59.out hb)
          have HN_53_54_59_60 := Lib.hid (And.intro (HN_53_54_59.out.1.over hb) HN_53_54_59.out.2)
          have HN_54_59_60 := Lib.hid (own_over HN_54_59.out hb)
          have HN_59_60 := Lib.hid (own_over HN_59.out hb)
          clear ho hb
          refine hK.out _ _ (HSB.out _ HB_60.out) (fun _ => ?_)
          clear hK K
          try simp only [Act.put, List.setIfInBounds_toArray, List.set_cons_zero, List.set_cons_succ]
          refine wpAnyH_ready (rs := [13]) (by kernel_rfl) (by simp) ?_
          refine AllReadyH.cons (o := ?o13x61) ?ho13x61 (fun K hK => ?st13x61) ?mo13x61
          case ho13x61 => (simp only [List.getElem?_toArray, List.getElem?_cons_zero, List.getElem?_cons_succ]; rfl)
          · skip
            refine step_append_bare w_60 (by rfl) _ _ 22 (by rfl) i0 _ u_bytes hi0 hz0 hz1 hz2 rfl (by rfl) HN_59_60.out (by rfl) (HRB.out _ HB_60.out) (by omega) HB_60.out.size ?_
            intro A61 c61 w_61 ho hb
            have HN_61 := Lib.hid ho
            have HB_61 : Hid (Below wd.heap.size wd w_61) := Lib.hid (Below.then HB_60.out hb)
            have HN_53_54_59_60_61 := Lib.hid (And.intro (HN_53_54_59_60.out.1.over hb) HN_53_54_59_60.out.2)
            have HN_59_60_61 := Lib.hid (own_over HN_59_60.out hb)
            have HN_60_61 := Lib.hid (own_over HN_60.out hb)
            clear ho hb
            refine hK.out _ _ (HSB.out _ HB_61.out) (fun _ => ?_)
            clear hK K
            try simp only [Act.put, List.setIfInBounds_toArray, List.set_cons_zero, List.set_cons_succ]
            refine wpAnyH_take (i := 14) (oi := ?oi14z61) (v := ?v14z61) ?hi14z61 (by kernel_rfl) (by kernel_rfl) (by kernel_rfl) ?hq14z61 ?hy14z61 (by assumption) ?rest14z61
            case hi14z61 => (simp only [List.getElem?_toArray, List.getElem?_cons_zero, List.getElem?_cons_succ]; rfl)
            case hy14z61 => (refine Or.inl ⟨by rfl, ?_⟩; intro w hSw; (try dsimp only at hSw); go_simp; try with_reducible rfl)
            case hq14z61 => exact fun _ _ _ h => h
            try simp only [Act.put, List.setIfInBounds_toArray, List.set_cons_zero, List.set_cons_succ]
            refine wpAnyH_ready (rs := [16]) (by kernel_rfl) (by simp) ?_
            refine AllReadyH.cons (o := ?o16y62) ?ho16y62 (fun K hK => ?st16y62) ?mo16y62
            case ho16y62 => (simp only [List.getElem?_toArray, List.getElem?_cons_zero, List.getElem?_cons_succ]; rfl)
            case mo16y62 => exact AllReadyH.nil
            obtain ⟨k0, k1, k2, k3, k4, k5, k6, k7, k8⟩ := keep_fin HB0.out HB_61.out HN_60_61.out HN_61.out HN_53_54_59_60_61.out.1 HN_53_54_59_60_61.out.2 HRD.out.d.blk
            have HF62 := Lib.hid (And.intro k4 (And.intro k5 (And.intro k6 k7)))
            clear k4 k5 k6 k7
            go_simp
            refine hK.out _ _ k8 (fun _ => ?_)
            clear hK K k8
            try simp only [Act.put, List.setIfInBounds_toArray, List.set_cons_zero, List.set_cons_succ]
            refine wpAnyH_done (by kernel_rfl) ?_ _
            exact HKT _ _ (FIN.out _ _ _ _ _ _ _ _ _ _ _ _ _ _ _ _ _ _ _ _ _ HF62.out.1 HF62.out.2.1 HF62.out.2.2.1 HF62.out.2.2.2)
          exact AllReadyH.nil
        exact AllReadyH.nil
      exact AllReadyH.nil
    refine AllReadyH.cons (o := ?o7x63) ?ho7x63 (fun K hK => ?st7x63) ?mo7x63
    case ho7x63 => (simp only [List.getElem?_toArray, List.getElem?_cons_zero, List.getElem?_cons_succ]; rfl)
    · obtain ⟨w_63, hw⟩ : ∃ x, x = w_53.alloc (.cells #[] 5) := ⟨_, rfl⟩
      have hb : Below w_53.heap.size w_53 w_63 := by rw [hw]; exact one_box' _ _
      have HN_63 := Lib.hid (show w_63.ownsRow wd.heap.size 5 1 (.slice (some ⟨w_53.heap.size, 0, none⟩) 0 0) 0 [] by rw [hw]; exact own_base (own_bare _ _ (Nat.le_refl _)) HB_53.out.size)
      have HB_63 : Hid (Below wd.heap.size wd w_63) := Lib.hid (Below.then HB_53.out hb)
      have HN_53_63 := Lib.hid (And.intro (HN_53.out.1.over hb) HN_53.out.2)
      clear hb
      go_simp
      rw [← hw]
      clear hw
      refine hK.out _ _ (HSB.out _ HB_63.out) (fun _ => ?_)
      clear hK K
      try simp only [Act.put, List.setIfInBounds_toArray, List.set_cons_zero, List.set_cons_succ]
      refine wpAnyH_ready (rs := [0]) (by kernel_rfl) (by simp) ?_
      refine AllReadyH.cons (o := ?o0x64) ?ho0x64 (fun K hK => ?st0x64) ?mo0x64
      case ho0x64 => (simp only [List.getElem?_toArray, List.getElem?_cons_zero]; rfl)
      · obtain ⟨w_64, hw⟩ : ∃ x, x = w_63.alloc (.cells #[] 5) := ⟨_, rfl⟩
        have hb : Below w_63.heap.size w_63 w_64 := by rw [hw]; exact one_box' _ _
        have HN_64 := Lib.hid (show w_64.ownsRow wd.heap.size 5 1 (.slice (some ⟨w_63.heap.size, 0, none⟩) 0 0) 0 [] by rw [hw]; exact own_base (own_bare _ _ (Nat.le_refl _)) HB_63.out.size)
        have HB_64 : Hid (Below wd.heap.size wd w_64) := Lib.hid (Below.then HB_63.out hb)
        have HN_53_63_64 := Lib.hid (And.intro (HN_53_63.out.1.over hb) HN_53_63.out.2)
        have HN_63_64 := Lib.hid (own_over HN_63.out hb)
        clear hb
        go_simp
        rw [← hw]
        clear hw
        refine hK.out _ _ (HSB.out _ HB_64.out) (fun _ => ?_)
        clear hK K
        try simp only [Act.put, List.setIfInBounds_toArray, List.set_cons_zero, List.set_cons_succ]
        refine wpAnyH_ready (rs := [6]) (by kernel_rfl) (by simp) ?_
        refine AllReadyH.cons (o := ?o6x65) ?ho6x65 (fun K hK => ?st6x65) ?mo6x65
        case ho6x65 => (simp only [List.getElem?_toArray, List.getElem?_cons_zero, List.getElem?_cons_succ]; rfl)
        · skip
          refine step_append_bare w_64 (by rfl) _ _ 22 (by rfl) i0 _ u_bytes hi0 hz0 hz1 hz2 rfl (by rfl) HN_64.out (by rfl) (HRA.out _ HB_64.out) (by omega) HB_64.out.size ?_
          intro A65 c65 w_65 ho hb
          have HN_65 := Lib.hid ho
          have HB_65 : Hid (Below wd.heap.size wd w_65) := Lib.hid (Below.then HB_64.out hb)
          have HN_53_63_64_65 := Lib.hid (And.intro (HN_53_63_64.out.1.over hb) HN_53_63_64.out.2)
          have HN_63_64_65 := Lib.hid (own_over HN_63_64.out hb)
          have HN_64_65 := Lib.hid (own_over HN_64.out hb)
          clear ho hb
          refine hK.out _ _ (HSB.out _ HB_65.out) (fun _ => ?_)
          clear hK K
          try simp only [Act.put, List.setIfInBounds_toArray, List.set_cons_zero, List.set_cons_succ]
          refine wpAnyH_ready (rs := [13]) (by kernel_rfl) (by simp) ?_
          refine AllReadyH.cons (o := ?o13x66) ?ho13x66 (fun K hK => ?st13x66) ?mo13x66
          case ho13x66 => (simp only [List.getElem?_toArray, List.getElem?_cons_zero, List.getElem?_cons_succ]; rfl)
          · skip
            refine step_append_bare w_65 (by rfl) _ _ 22 (by rfl) i0 _ u_bytes hi0 hz0 hz1 hz2 rfl (by rfl) HN_63_64_65.out (by rfl) (HRB.out _ HB_65.out) (by omega) HB_65.out.size ?_
            intro A66 c66 w_66 ho hb
            have HN_66 := Lib.hid ho
            have HB_66 : Hid (Below wd.heap.size wd w_66) := Lib.hid (Below.then HB_65.out hb)
            have HN_53_63_64_65_66 := Lib.hid (And.intro (HN_53_63_64_65.out.1.over hb) HN_53_63_64_65.out.2)
            have HN_63_64_65_66 := Lib.hid (own_over HN_63_64_65.out hb)
            have HN_65_66 := Lib.hid (own_over HN_65.out hb)
            clear ho hb
            refine hK.out _ _ (HSB.out _ HB_66.out) (fun _ => ?_)
            clear hK K
            try simp only [Act.put, List.setIfInBounds_toArray, List.set_cons_zero, List.set_cons_succ]
            refine wpAnyH_take (i := 14) (oi := ?oi14z66) (v := ?v14z66) ?hi14z66 (by kernel_rfl) (by kernel_rfl) (by kernel_rfl) ?hq14z66 ?hy14z66 (by assumption) ?rest14z66
            case hi14z66 => (simp only [List.getElem?_toArray, List.getElem?_cons_zero, List.getElem?_cons_succ]; rfl)
            case hy14z66 => (refine Or.inl ⟨by rfl, ?_⟩; intro w hSw; (try dsimp only at hSw); go_simp; try with_reducible rfl)
            case hq14z66 => exact fun _ _ _ h => h
            try simp only [Act.put, List.setIfInBounds_toArray, List.set_cons_zero, List.set_cons_succ]
            refine wpAnyH_ready (rs := [16]) (by kernel_rfl) (by simp) ?_
            refine AllReadyH.cons (o := ?o16y67) ?ho16y67 (fun K hK => ?st16y67) ?mo16y67
            case ho16y67 => (simp only [List.getElem?_toArray, List.getElem?_cons_zero, List.getElem?_cons_succ]; rfl)
            case mo16y67 => exact AllReadyH.nil
            obtain ⟨k0, k1, k2, k3, k4, k5, k6, k7, k8⟩ := keep_fin HB0.out HB_66.out HN_65_66.out HN_66.out HN_53_63_64_65_66.out.1 HN_53_63_64_65_66.out.2 HRD.out.d.blk
            have HF67 := Lib.hid (And.intro k4 (And.intro k5 (And.intro k6 k7)))
            clear k4 k5 k6 k7
            go_simp
            refine hK.out _ _ k8 (fun _ => ?_)
            clear hK K k8
            try simp only [Act.put, List.setIfInBounds_toArray, List.set_cons_zero, List.set_cons_succ]
            refine wpAnyH_done (by kernel_rfl) ?_ _
            exact HKT _ _ (FIN.out _ _ _ _ _ _ _ _ _ _ _ _ _ _ _ _ _ _ _ _ _ HF67.out.1 HF67.out.2.1 HF67.out.2.2.1 HF67.out.2.2.2)
          exact AllReadyH.nil
        exact AllReadyH.nil
      exact AllReadyH.nil
    exact AllReadyH.nil
  exact AllReadyH.nil
end Go.Proofs.YtpkdalpjfcopbaaDoor
