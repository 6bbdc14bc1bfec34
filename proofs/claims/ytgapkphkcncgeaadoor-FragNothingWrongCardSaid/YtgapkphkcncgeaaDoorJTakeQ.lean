/-
  The program's Take of a chunk that goes on.
-/
import Derived.Test.YtgapkphkcncgeaaDoorJTakeP
namespace Go.Proofs.YtgapkphkcncgeaaDoor
open Go.RowKit
set_option maxRecDepth 100000 in
set_option maxHeartbeats 3200000 in
theorem PTake_go1 (A : Option Addr) (n cap J N s : Nat) (F : Nat → Prop) (st : JSt) (bs : List UInt8) (w : World) (h : PJx w F N J st) (hN : N ≤ 16) (hs : s < N) (hok : Part (st s)) (hr : RdB w w.heap.size A n bs) (hn : n ≤ cap) (hm : cap ≤ 9223372036854775807) (hA : ∀ b o s, A = some ⟨b, o, s⟩ → ¬ F b) (ht : Nibs w) (hnb : ¬ F 0) (hf : Form bs) (hz : ¬ cAt bs = 0) :
    Calls Tryd.prog 21 #[.pointer (some ⟨J, 0, none⟩), .int .i64 s, .slice A n cap] w (TakesP w F N J st s bs) := by
  obtain ⟨i0, hi0, hz0, hz1, hz2⟩ := info_parts info_u8
  have h0 := h
  obtain ⟨hF, O, pg, cs, hj⟩ := h
  have hc0 : w.cell? ⟨J, 0, none⟩ = some (.slice (some ⟨O, 0, none⟩) N N) := by rw [hj.blk.cell]; rfl
  have hcs : w.cell? ⟨O, s, none⟩ = some (openV st pg s) := by rw [hj.list.cell]; exact hj.at_ s hs
  have h8 : 8 ≤ n := by have := hf.1; have := hr.lenB; omega
  have h256 : n ≤ 256 := by have := hf.2.2.2.2; have := hr.lenB; omega
  have hs1 : (s : Int) < (N : Int) := by omega
  have hs2 : ¬ (s : Int) < 0 := by omega
  have HR := Lib.hid ((read_any A n cap bs w hr hn hm h8).mono fun _ _ h => h.yes hf)
  have hJl := hj.blk.lt
  have hOl := hj.list.lt
  generalize hX : (if cap = 8 then A else A.map (·.add (8 * 1))) = X at HR
  have hrt := hr.tail8 h8 hn
  rw [hX] at hrt
  have HXb : Hid (∀ b o s', X = some ⟨b, o, s'⟩ → ¬ F b ∧ b < w.heap.size) := by
    intro b o s' hXe
    obtain ⟨ba, oa, rfl, hba, _⟩ := hr.at_ (by omega)
    have e : b = ba := by
      rw [← hX] at hXe
      split at hXe
      · injection hXe with e; injection e with e; exact e.symm
      · rw [Option.map_some, addr_add] at hXe; injection hXe with e; injection e with e; exact e.symm
    subst e
    exact ⟨hA _ _ _ rfl, hba⟩
  have HF := Lib.hid hf
  clear hf hX
  go_enter Tryd.func21, Tryd.ntmps21
  go_wp2_with fail
  refine HR.out.mono ?_
  rintro _ w1 ⟨rfl, hb1⟩
  have hcb := (bcell hb1).1
  replace hc0 := (hcb J 0 hJl).trans hc0
  replace hcs := (hcb O s hOl).trans hcs
  have hsz1 := hb1.size
  have hj1 : PJ w1 F N J O st pg cs := hj.chg (Chg.of_below hb1 fun _ => False) fun _ _ h => h
  have hcz := cSize_lt bs
  have hsO : (openV st pg s).cells.size = 1 := by unfold openV; split <;> rfl
  have hJl1 : J < w1.heap.size := by omega
  have hOl1 : O < w1.heap.size := by omega
  clear hcb
  have hz' : ((cAt bs : Int) == 0) = false := by simpa using hz
  have HZ := Lib.hid hz
  clear hz
  by_cases hne : st s = []
  · have hop : openV st pg s = .pointer none := by unfold openV; rw [if_pos hne]
    have HTT := Lib.hid (takeS_bad (st := st) hs HF.out (fun h => h.elim HZ.out (fun h => h.1 hne)))
    rw [hop] at hcs
    clear hop hne
    go_wp2_with fail
    obtain ⟨w2, hw2⟩ : ∃ w2, w2 = w1.alloc (Obj.cells #[Value.int .i64 (cSize bs : Int), Value.int .i64 (cSum bs : Int), Value.slice X (n - 8) (cap - 8)] 66) := ⟨_, rfl⟩
    have hb2 : Below w.heap.size w w2 := by rw [hw2]; exact hb1.alloc hb1.size _
    rw [← hw2]
    clear hw2
    go_quiet (fail)
    have hbq := below_drewN (Below.refl w2.heap.size w2) nq
    go_wp2
    go_ret3
    exact ⟨_, _, _, _, _, _, HTT.out.symm, rfl, .inl ⟨rfl, rfl, rfl⟩, (h0.below hb2).below hbq, (Moved.of_below _ hb2).trans (Moved.of_below _ hbq)⟩
  · obtain ⟨P, hP⟩ : ∃ P, P = (pg s).1 := ⟨_, rfl⟩
    obtain ⟨G, hG⟩ : ∃ G, G = (pg s).2 := ⟨_, rfl⟩
    obtain ⟨K0, hK⟩ : ∃ K0, K0 = 248 * (st s).length := ⟨_, rfl⟩
    obtain ⟨C, hCe⟩ : ∃ C, C = w1.heap.size := ⟨_, rfl⟩
    have hop : openV st pg s = .pointer (some ⟨P, 0, none⟩) := by unfold openV; rw [if_neg hne, hP]
    rw [hop] at hcs
    have hPB1 := hj1.part s hs hne
    rw [← hP, ← hG, ← hK] at hPB1
    have HKE := Lib.hid hK
    have HPE := Lib.hid hP
    have HGE := Lib.hid hG
    clear hop hK hP hG
    have HCE := Lib.hid hCe
    clear hCe
    go_wp2_with fail
    obtain ⟨w2, hw2⟩ : ∃ w2, w2 = w1.alloc (Obj.cells #[Value.int .i64 (cSize bs : Int), Value.int .i64 (cSum bs : Int), Value.slice X (n - 8) (cap - 8)] 66) := ⟨_, rfl⟩
    have hb2 : Below w.heap.size w w2 := by rw [hw2]; exact hb1.alloc hb1.size _
    have hPB2 : Blk w2 P 66 #[.int .i64 (cSize ((st s).headD []) : Int), .int .i64 (cSum ((st s).headD []) : Int), .slice (some ⟨G, 0, none⟩) K0 (cSize ((st s).headD []))] := by rw [hw2]; exact hPB1.alloc _
    have hCB2 : Blk w2 C 66 #[.int .i64 (cSize bs : Int), .int .i64 (cSum bs : Int), .slice X (n - 8) (cap - 8)] := by rw [hw2, HCE.out]; exact Blk.new _ _ _
    rw [← hw2, ← HCE.out]
    clear hw2 hPB1
    generalize hS0 : cSize ((st s).headD []) = S0 at hPB2
    generalize hU0 : cSum ((st s).headD []) = U0 at hPB2
    have HS0 := Lib.hid hS0
    have HU0 := Lib.hid hU0
    clear hS0 hU0
    have p0 : w2.cell? ⟨P, 0, none⟩ = some (.int .i64 (S0 : Int)) := hPB2.cell 0
    have p1 : w2.cell? ⟨P, 1, none⟩ = some (.int .i64 (U0 : Int)) := hPB2.cell 1
    have p2 : w2.cell? ⟨P, 2, none⟩ = some (.slice (some ⟨G, 0, none⟩) K0 S0) := hPB2.cell 2
    have c0 : w2.cell? ⟨C, 0, none⟩ = some (.int .i64 (cSize bs : Int)) := hCB2.cell 0
    have c1 : w2.cell? ⟨C, 1, none⟩ = some (.int .i64 (cSum bs : Int)) := hCB2.cell 1
    have c2 : w2.cell? ⟨C, 2, none⟩ = some (.slice X (n - 8) (cap - 8)) := hCB2.cell 2
    by_cases e1 : S0 = cSize bs
    · have d1 : ((S0 : Int) != (cSize bs : Int)) = false := by simp; omega
      have E1 := Lib.hid e1
      clear e1
      by_cases e2 : U0 = cSum bs
      · have d2 : ((U0 : Int) != (cSum bs : Int)) = false := by simp; omega
        have E2 := Lib.hid e2
        clear e2
        by_cases e3 : K0 = cAt bs
        · have d3 : ((K0 : Int) != (cAt bs : Int)) = false := by simp; omega
          have HFits := Lib.hid (show Fits (st s) bs from .inr ⟨hne, by rw [HS0.out]; exact E1.out, by rw [HU0.out]; exact E2.out, by have := HKE.out; omega⟩)
          clear e3
          go_quiet (fail)
          go_wp2_with fail
          obtain ⟨w5, hw5⟩ : ∃ w5, w5 = w2.drewN nq := ⟨_, rfl⟩
          rw [← hw5]
          have hb5 : Below w.heap.size w w5 := by rw [hw5]; exact below_drewN hb2 nq
          have hP := HPE.out
          have hG := HGE.out
          have hCe := HCE.out
          have hw25 : Below w2.heap.size w2 w5 := by rw [hw5]; exact below_drewN (Below.refl _ _) nq
          obtain ⟨cur0, hcB, hcs0, hct⟩ := hj.bytes s hs hne
          obtain ⟨l0, hl0⟩ : ∃ l0 : List (List UInt8), l0 = st s := ⟨_, rfl⟩
          obtain ⟨q, hq⟩ : ∃ q, q = n - 8 := ⟨_, rfl⟩
          have hPB : Blk w5 P 66 #[.int .i64 (cSize bs : Int), .int .i64 (cSum bs : Int), .slice (some ⟨G, 0, none⟩) K0 (cSize bs)] := by
            have := hPB2.over hw25
            rw [E1.out, E2.out] at this
            exact this
          have hGB : Blk w5 G 5 cur0 := by rw [hG]; exact hcB.below hb5 hcB.lt
          have hCB : Blk w5 C 66 #[.int .i64 (cSize bs : Int), .int .i64 (cSum bs : Int), .slice X q (cap - 8)] := by rw [hq]; exact hCB2.over hw25
          have HJN := Lib.hid (show joined (st s) bs = l0 ++ [bs] by rw [hl0]; exact joined_more HZ.out)
          have HK0 := Lib.hid (show K0 = 248 * l0.length ∧ (blobS l0).length = K0 by rw [HKE.out, hl0]; exact ⟨rfl, hok.len⟩)
          have HCur := Lib.hid (show cur0.size = cSize bs ∧ cur0.toList.take K0 = bvs (blobS l0) by rw [HKE.out, hl0, ← E1.out, ← HS0.out]; exact ⟨hcs0, hct⟩)
          have HPG := Lib.hid (show ((st s ≠ [] ∧ P = (pg s).1) ∨ w.heap.size ≤ P) ∧ ((st s ≠ [] ∧ G = (pg s).2) ∨ w.heap.size ≤ G) from ⟨.inl ⟨hne, hP⟩, .inl ⟨hne, hG⟩⟩)
          have hPlt := hPB.lt
          have hGlt := hGB.lt
          have hOB := hj.list.below hb5 hj.list.lt
          have hJB := hj.blk.below hb5 hj.blk.lt
          have hrt5 : RdB w5 w.heap.size X q (bs.drop 8) := by rw [hq]; exact hrt.below hb5
          have hq248 : q ≤ 248 := by omega
          have hKq : K0 + q ≤ cSize bs := by
            have h1 := joined_len hok HF.out HFits.out
            have h2 := joined_le hok HF.out HFits.out
            rw [HJN.out, blobS_snoc, List.length_append, HK0.out.2, List.length_drop, hr.lenB, ← hq] at h2
            exact h2
          have hPold : P < w.heap.size := by rw [hP]; exact (hj.part s hs hne).lt
          have hPC : C ≠ P := by omega
          have HXP : Hid (∀ b o s', X = some ⟨b, o, s'⟩ → b ≠ P ∧ b ≠ G ∧ b ≠ O) := fun b o s' e => by
            obtain ⟨h1, h2⟩ := HXb.out b o s' e
            exact ⟨fun e => h1 (by rw [e, hP]; exact (hj.fp s hs hne).1), fun e => h1 (by rw [e, hG]; exact (hj.fp s hs hne).2), fun e => h1 (by rw [e]; exact hj.fj.2)⟩
          have HQ := Lib.hid hq
          clear hw5 hP hG hl0 hj1 hne hCe hcs0 hct hcB hPB2 hCB2 p0 p1 p2 c0 c1 c2 d1 d2 d3
          rw [← hq]
          clear hq
          generalize hS : cSize bs = S at *
          generalize hU : cSum bs = U at *
          have HS := Lib.hid hS
          have HU := Lib.hid hU
          clear hS hU
          have c0 : w5.cell? ⟨P, 0, none⟩ = some (.int .i64 (S : Int)) := hPB.cell 0
          have c1 : w5.cell? ⟨P, 1, none⟩ = some (.int .i64 (U : Int)) := hPB.cell 1
          have c2 : w5.cell? ⟨P, 2, none⟩ = some (.slice (some ⟨G, 0, none⟩) K0 S) := hPB.cell 2
          have d2 : w5.cell? ⟨C, 2, none⟩ = some (.slice X q (cap - 8)) := hCB.cell 2
          have f2 := hPB.frozen 2
          have e1 : (K0 : Int) + (q : Int) ≤ (S : Int) := by omega
          have e2 : ((K0 : Int) + (q : Int)).toNat = K0 + q := by omega
          have e3 : (0 : Int) ≤ (K0 : Int) + (q : Int) := by omega
          go_region
          go_wp2_with fail
          obtain ⟨w6, hw6⟩ : ∃ w6, w6 = (w5.setCell ⟨P, 2, none⟩ (Value.slice (some ⟨G, 0, none⟩) (K0 + q) S)).drew := ⟨_, rfl⟩
          rw [← hw6]
          have hGP := hGB.ne_ hPB (by decide)
          have hOP := hOB.ne_ hPB (by decide)
          have hJP := hJB.ne_ hPB (by decide)
          have hPB6 : Blk w6 P 66 #[.int .i64 (S : Int), .int .i64 (U : Int), .slice (some ⟨G, 0, none⟩) (K0 + q) S] := by
            rw [hw6]
            have := hPB.set_ 2 (.slice (some ⟨G, 0, none⟩) (K0 + q) S)
            simp only [List.setIfInBounds_toArray, List.set_cons_zero, List.set_cons_succ] at this
            exact this.drew
          have hGB6 : Blk w6 G 5 cur0 := by rw [hw6]; exact (hGB.far (p := ⟨P, 2, none⟩) hGP _).drew
          have hCB6 := show Blk w6 C 66 _ by rw [hw6]; exact (hCB.far (p := ⟨P, 2, none⟩) hPC _).drew
          have hOB6 : Blk w6 O 69 cs := by rw [hw6]; exact (hOB.far (p := ⟨P, 2, none⟩) hOP _).drew
          have hJB6 := show Blk w6 J 61 _ by rw [hw6]; exact (hJB.far (p := ⟨P, 2, none⟩) hJP _).drew
          have hc56 : Chg (fun k => k = P) w5 w6 := by rw [hw6]; exact ((Chg.refl (fun k => k = P) w5).setCell (p := ⟨P, 2, none⟩) (.inl rfl) _).drew
          have hrt6 := hrt5.chgN hc56 hb5.size (fun b o s' e h => (HXP.out b o s' e).1 h)
          clear hw6 c0 c1 c2 d2 f2
          have c2 : w6.cell? ⟨P, 2, none⟩ = some (.slice (some ⟨G, 0, none⟩) (K0 + q) S) := hPB6.cell 2
          have d2 : w6.cell? ⟨C, 2, none⟩ = some (.slice X q (cap - 8)) := hCB6.cell 2
          obtain ⟨D, hD⟩ : ∃ D : Option Addr, D = (if S = K0 then some ⟨G, 0, none⟩ else (some (⟨G, 0, none⟩ : Addr)).map (·.add (K0 * 1))) := ⟨_, rfl⟩
          have hD2 : 0 < q → D = some ⟨G, K0, none⟩ := fun h => by rw [hD, if_neg (by omega), Option.map_some, addr_add]; simp
          have hsl : ∀ W, Sem.run Tryd.prog (Instr.slice 22 (.slice (some ⟨G, 0, none⟩) (K0 + q) S) (some (.int .i64 (K0 : Int))) none none) W = .ok (.slice D q (S - K0)) W := by
            intro W
            rw [run_slice_l (P := Tryd.prog) W 22 (some ⟨G, 0, none⟩) (K0 + q) S Tryd.underlying22 .i64 (K0 : Int) (by omega) (by omega), hD]
            show Result.ok (Value.slice _ (K0 + q - K0) _) W = _
            rw [Nat.add_sub_cancel_left]
            rfl
          clear hD
          refine region_tail 8 (by kernel_rfl) (by kernel_rfl) ?_
          simp only [List.take_succ_cons, List.take_zero, List.drop_succ_cons, List.drop_zero]
          repeat still_step
          refine wpStill_nil ?_
          refine copyC (by rfl) _ _ _ _ (by rfl) 5 u_bytes (by rw [hi0]; simp [hz1]) D q _ X q _ (by rfl) (by rfl) G K0 cur0 5 hGB6.drew w.heap.size (bvs (bs.drop 8)) (hrt6.dn 1) (Nat.le_refl _) hD2 (by rw [HCur.out.1]; exact hKq) (bvs_one _) ?_
          intro w7 hG7 hc7
          have hPB7 := hPB6.drew.chg hc7 (fun e => hGP e.symm)
          have hOG := hOB.ne_ hGB (by decide)
          have hJG := hJB.ne_ hGB (by decide)
          have hJO := hJB.ne_ hOB (by decide)
          have hOB7 := hOB6.drew.chg hc7 hOG
          have hJB7 := hJB6.drew.chg hc7 hJG
          have hc57 : Chg (fun k => k = P ∨ k = G) w5 w7 := (hc56.drew.mono (fun k _ e => .inl e)).trans (hc7.mono (fun k _ e => .inr e))
          have hOs : ∃ v, w7.cell? ⟨O, s, none⟩ = some v := by rw [hOB7.cell]; exact ⟨_, hj.at_ s hs⟩
          obtain ⟨vO, hOs⟩ := hOs
          have hOf := hOB7.frozen s
          have hJ0 : w7.cell? ⟨J, 0, none⟩ = some (.slice (some ⟨O, 0, none⟩) N N) := hJB7.cell 0
          clear c2 d2
          have p0 : w7.cell? ⟨P, 0, none⟩ = some (.int .i64 (S : Int)) := hPB7.cell 0
          have p1 : w7.cell? ⟨P, 1, none⟩ = some (.int .i64 (U : Int)) := hPB7.cell 1
          have p2 : w7.cell? ⟨P, 2, none⟩ = some (.slice (some ⟨G, 0, none⟩) (K0 + q) S) := hPB7.cell 2
          have hbl : (blobS (l0 ++ [bs])).length = K0 + q := by rw [blobS_snoc, List.length_append, HK0.out.2, List.length_drop, hr.lenB, HQ.out]
          have HBL := Lib.hid hbl
          have HT1 := Lib.hid (fun hl => takeS_hold (st := st) hs HF.out HFits.out hl)
          have HT2 := Lib.hid (fun hl hc => takeS_good (st := st) hs HF.out HFits.out hl hc)
          have HT3 := Lib.hid (fun hl hc => takeS_wrong (st := st) hs HF.out HFits.out hl hc)
          rw [HJN.out] at HT1 HT2 HT3
          have HC7 := Lib.hid (show Chg (TurnP O st pg s) w w7 from (Chg.of_below hb5 _).thenS hc57 (fun k hk e => by
            obtain ⟨g1, g2⟩ := HPG.out
            rcases e with e | e
            · rcases g1 with ⟨a, g1⟩ | g1
              · exact .inr ⟨a, .inl (e.trans g1)⟩
              · omega
            · rcases g2 with ⟨a, g2⟩ | g2
              · exact .inr ⟨a, .inr (e.trans g2)⟩
              · omega))
          have HSP := Lib.hid (show ((splice cur0.toList K0 (bvs (bs.drop 8))).toArray).size = S ∧ (splice cur0.toList K0 (bvs (bs.drop 8))).take (K0 + q) = bvs (blobS (l0 ++ [bs])) by
            have hq' : (bvs (bs.drop 8)).length = q := by rw [bvs_length, List.length_drop, hr.lenB, HQ.out]
            have hcs' := HCur.out.1
            refine ⟨?_, ?_⟩
            · unfold splice
              simp only [List.size_toArray, List.length_append, List.length_take, List.length_drop, Array.length_toList, hq', hcs']
              omega
            · unfold splice
              rw [HCur.out.2, blobS_snoc, bvs_append, ← List.append_assoc, List.take_left' (by rw [List.length_append, hq', bvs_length, HK0.out.2])])
          have hG7' := hG7
          clear hG7 hbl hc57 hc7 hc56
          go_wp2_with fail
          obtain ⟨w8, hw8e⟩ : ∃ w8, w8 = w7.setCell ⟨O, s, none⟩ (.pointer (some ⟨P, 0, none⟩)) := ⟨_, rfl⟩
          rw [← hw8e]
          have hw8 : Chg (fun k => k = O) w7 w8 := by rw [hw8e]; exact (Chg.refl (fun k => k = O) w7).setCell (p := ⟨O, s, none⟩) (.inl rfl) _
          have hOB8 : Blk w8 O 69 (cs.setIfInBounds s (.pointer (some ⟨P, 0, none⟩))) := by rw [hw8e]; exact hOB7.set_ s _
          have hPB8 := hPB7.chg hw8 (fun e => hOP e.symm)
          have hGB8 := hG7'.chg hw8 (fun e => hOG e.symm)
          have hJB8 := hJB7.chg hw8 hJO
          have HC8 := Lib.hid (HC7.out.thenS hw8 (fun k _ e => .inl e))
          clear hw8e hOs hOf hJ0 p0 p1 p2
          have hJ0 : w8.cell? ⟨J, 0, none⟩ = some (.slice (some ⟨O, 0, none⟩) N N) := hJB8.cell 0
          have hOs : ∃ v, w8.cell? ⟨O, s, none⟩ = some v := by rw [hOB8.cell]; exact ⟨_, Array.getElem?_setIfInBounds_self_of_lt (by rw [hj.size]; exact hs)⟩
          obtain ⟨vO8, hOs⟩ := hOs
          have hOf := hOB8.frozen s
          have p0 : w8.cell? ⟨P, 0, none⟩ = some (.int .i64 (S : Int)) := hPB8.cell 0
          have p1 : w8.cell? ⟨P, 1, none⟩ = some (.int .i64 (U : Int)) := hPB8.cell 1
          have p2 : w8.cell? ⟨P, 2, none⟩ = some (.slice (some ⟨G, 0, none⟩) (K0 + q) S) := hPB8.cell 2
          by_cases hlt : K0 + q < S
          · have HTT := Lib.hid (HT1.out (by rw [HBL.out, HS.out]; exact hlt))
            have hp : Part (l0 ++ [bs]) := by
              have := joined_part hok HF.out HFits.out (by rw [HJN.out, HBL.out, HS.out]; exact hlt)
              rwa [HJN.out] at this
            have hhd := joined_head HFits.out
            rw [HJN.out, HS.out, HU.out] at hhd
            have h248 : 248 * (l0 ++ [bs]).length = K0 + q := by rw [← hp.len, HBL.out]
            have hne : l0 ++ [bs] ≠ [] := by simp
            have hPut := hj.put hF hs (w3 := w8) (l := l0 ++ [bs]) (P := P) (G := G) (g := w8.heap.size)
              HC8.out (by rw [if_neg hne]; exact hOB8) (fun _ => by rw [hhd.1, hhd.2, h248]; exact hPB8) (fun _ => ⟨_, hGB8, by rw [hhd.1]; exact HSP.out.1, by rw [h248]; exact HSP.out.2⟩) (fun _ => HPG.out) (.inl rfl)
            have HPut := Lib.hid hPut
            have hltI : (K0 : Int) + (q : Int) < (S : Int) := by omega
            clear HT1 HT2 HT3 hp hhd hPut hw8 hok
            go_quiet (fail)
            have hbq := below_drewN (Below.refl w8.heap.size w8) nq
            go_wp2
            go_ret3
            exact ⟨_, _, _, _, _, _, HTT.out.symm, rfl, .inl ⟨rfl, rfl, rfl⟩, HPut.out.1.below hbq, HPut.out.2.trans (Moved.of_below _ hbq)⟩
          · have hltI : ¬ (K0 : Int) + (q : Int) < (S : Int) := by omega
            have HSe := Lib.hid (show S = K0 + q by omega)
            go_quiet (fail)
            go_wp2_with fail
            obtain ⟨w9, hw9e⟩ : ∃ w9, w9 = (w8.drewN nq).setCell ⟨O, s, none⟩ (.pointer none) := ⟨_, rfl⟩
            rw [← hw9e]
            have hw9 : Chg (fun k => k = O) w8 w9 := by rw [hw9e]; exact ((Chg.refl (fun k => k = O) w8).drewN nq).setCell (p := ⟨O, s, none⟩) (.inl rfl) _
            have hOB9 : Blk w9 O 69 (cs.setIfInBounds s (.pointer none)) := by
              have := (hOB8.drewN nq).set_ s (.pointer none)
              rw [← hw9e, Array.setIfInBounds_setIfInBounds] at this
              exact this
            have hPB9 := hPB8.chg hw9 (fun e => hOP e.symm)
            have hGB9 := hGB8.chg hw9 (fun e => hOG e.symm)
            have HC9 := Lib.hid (HC8.out.thenS hw9 (fun k _ e => .inl e))
            have hPut := hj.put hF hs (w3 := w9) (l := []) (P := 0) (G := 0) (g := G) HC9.out hOB9 (fun h => absurd rfl h) (fun h => absurd rfl h) (fun h => absurd rfl h) (.inr ⟨rfl, hGB9.isT, HPG.out.2⟩)
            have HPut := Lib.hid hPut
            have HFG := Lib.hid (show ¬ FOut F w w9 G G ∧ (F G ∨ w.heap.size ≤ G) from ⟨fun h => h.2 rfl, by
              rcases HPG.out.2 with ⟨a, e⟩ | h
              · exact .inl (by rw [e]; exact (hj.fp s hs a).2)
              · exact .inr h⟩)
            have hnb9 : Nibs w9 := ht.chg HC9.out (fun h => by
              rcases h with h | ⟨a, h | h⟩
              · exact hnb (by rw [h]; exact hj.fj.2)
              · exact hnb (by rw [h]; exact (hj.fp s hs a).1)
              · exact hnb (by rw [h]; exact (hj.fp s hs a).2))
            have hrb : RdB w9 w9.heap.size (some ⟨G, 0, none⟩) (K0 + q) (blobS (l0 ++ [bs])) := ⟨by rw [bvs_length, HBL.out]; omega, fun _ => ⟨G, 0, rfl, hGB9.lt, fun j u hu => by
              rw [Nat.zero_add, hGB9.cell, ← HSP.out.2] at *
              rw [List.getElem?_take] at hu
              split at hu
              · simpa using hu
              · cases hu⟩⟩
            have HCU := Lib.hid (show ((splice cur0.toList K0 (bvs (bs.drop 8))).toArray).toList = bvs (blobS (l0 ++ [bs])) by
              rw [← HSP.out.2, List.take_of_length_le]
              have := HSP.out.1
              rw [List.size_toArray] at this
              omega)
            clear hw9e p0 p1 p2 hJ0 hOs hOf hPut hw9 hw8
            have p1 : w9.cell? ⟨P, 1, none⟩ = some (.int .i64 (U : Int)) := hPB9.cell 1
            have p2 : w9.cell? ⟨P, 2, none⟩ = some (.slice (some ⟨G, 0, none⟩) (K0 + q) S) := hPB9.cell 2
            by_cases hcc : Crc.crc (blobS (l0 ++ [bs])) = U
            · have HTT := Lib.hid (HT2.out (by rw [HBL.out, HS.out]; omega) (by rw [hcc, HU.out]))
              have hne : ((Crc.crc (blobS (l0 ++ [bs])) : Int) != (U : Int)) = false := by simp; omega
              clear HT1 HT2 HT3 hcc
              go_quiet ((go_at_call 23; exact Calls.quiet_of_same (Sum_c _ _ _ _ _ _ (hrb.dn _) (by omega) (hnb9.dn _))))
              have hbq := below_drewN (Below.refl w9.heap.size w9) nq
              go_wp2
              go_ret3
              refine ⟨_, _, _, _, _, _, HTT.out.symm, rfl, .inr ⟨rfl, G, _, ?_, hGB9.drewN _, HCU.out, HFG.out⟩, HPut.out.1.below hbq, HPut.out.2.trans (Moved.of_below _ hbq)⟩
              rw [HBL.out]
              show Value.slice (some ⟨G, 0, none⟩) (K0 + q) S = _
              rw [HSe.out]
            · have HTT := Lib.hid (HT3.out (by rw [HBL.out, HS.out]; omega) (by rw [HU.out]; exact hcc))
              have hne : ((Crc.crc (blobS (l0 ++ [bs])) : Int) != (U : Int)) = true := by simp; omega
              clear HT1 HT2 HT3 hcc
              go_quiet ((go_at_call 23; exact Calls.quiet_of_same (Sum_c _ _ _ _ _ _ (hrb.dn _) (by omega) (hnb9.dn _))))
              have hbq := below_drewN (Below.refl w9.heap.size w9) nq
              go_wp2
              go_ret3
              exact ⟨_, _, _, _, _, _, HTT.out.symm, rfl, .inl ⟨rfl, rfl, rfl⟩, HPut.out.1.below hbq, HPut.out.2.trans (Moved.of_below _ hbq)⟩
        · have d3 : ((K0 : Int) != (cAt bs : Int)) = true := by simp; omega
          have HTT := Lib.hid (takeS_bad (st := st) hs HF.out (fun h => h.elim HZ.out (fun h => e3 (by have := HKE.out; have := h.2.2.2; omega))))
          clear e3
          go_quiet (fail)
          have hbq := below_drewN (Below.refl w2.heap.size w2) nq
          go_wp2
          go_ret3
          exact ⟨_, _, _, _, _, _, HTT.out.symm, rfl, .inl ⟨rfl, rfl, rfl⟩, (h0.below hb2).below hbq, (Moved.of_below _ hb2).trans (Moved.of_below _ hbq)⟩
      · have d2 : ((U0 : Int) != (cSum bs : Int)) = true := by simp; omega
        have HTT := Lib.hid (takeS_bad (st := st) hs HF.out (fun h => h.elim HZ.out (fun h => e2 (by rw [← HU0.out]; exact h.2.2.1))))
        clear e2
        go_quiet (fail)
        have hbq := below_drewN (Below.refl w2.heap.size w2) nq
        go_wp2
        go_ret3
        exact ⟨_, _, _, _, _, _, HTT.out.symm, rfl, .inl ⟨rfl, rfl, rfl⟩, (h0.below hb2).below hbq, (Moved.of_below _ hb2).trans (Moved.of_below _ hbq)⟩
    · have d1 : ((S0 : Int) != (cSize bs : Int)) = true := by simp; omega
      have HTT := Lib.hid (takeS_bad (st := st) hs HF.out (fun h => h.elim HZ.out (fun h => e1 (by rw [← HS0.out]; exact h.2.1))))
      clear e1
      go_quiet (fail)
      have hbq := below_drewN (Below.refl w2.heap.size w2) nq
      go_wp2
      go_ret3
      exact ⟨_, _, _, _, _, _, HTT.out.symm, rfl, .inl ⟨rfl, rfl, rfl⟩, (h0.below hb2).below hbq, (Moved.of_below _ hb2).trans (Moved.of_below _ hbq)⟩

theorem PTake_any (A : Option Addr) (n cap J N : Nat) (F : Nat → Prop) (st : JSt) (bs : List UInt8) (s : Int) (w : World) (h : PJx w F N J st) (hN : N ≤ 16) (hok : PartsOk N st) (hr : RdB w w.heap.size A n bs) (hn : n ≤ cap) (hm : cap ≤ 9223372036854775807) (hA : 0 < n → ∀ b o s, A = some ⟨b, o, s⟩ → ¬ F b) (ht : Nibs w) (hnb : ¬ F 0) :
    Calls Tryd.prog 21 #[.pointer (some ⟨J, 0, none⟩), .int .i64 s, .slice A n cap] w (TakesP w F N J st s bs) := by
  by_cases hs : s < 0 ∨ (N : Int) ≤ s
  · exact PTake_arg A n cap J N F st bs s w h hN hs
  · obtain ⟨k, rfl⟩ := Int.eq_ofNat_of_zero_le (show 0 ≤ s by omega)
    by_cases hf : Form bs
    · by_cases hz : cAt bs = 0
      · exact PTake_go0 A n cap J N k F st bs w h hN (by omega) (hok k (by omega)) hr hn hm (hA (by have := hr.lenB; have := hf.1; omega)) ht hnb hf hz
      · exact PTake_go1 A n cap J N k F st bs w h hN (by omega) (hok k (by omega)) hr hn hm (hA (by have := hr.lenB; have := hf.1; omega)) ht hnb hf hz
    · exact PTake_form A n cap J N k F st bs w h hN (by omega) hr hn hm hf
end Go.Proofs.YtgapkphkcncgeaaDoor
