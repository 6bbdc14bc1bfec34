/-
  The program's Take.
-/
import Derived.Test.YtgapkphkcncgeaaDoorJPutP
import Derived.Test.YtgapkphkcncgeaaDoorJRead
import Derived.Outline
namespace Go.Proofs.YtgapkphkcncgeaaDoor
open Go.RowKit

/-- What the program's Take answers: a whole blob lies in a block that the joiner has let go. -/
def RetP (w w' : World) (F F' : Nat → Prop) (u : Value) (b : List UInt8) (ok : Bool) : Prop :=
  (ok = false ∧ u = .slice none 0 0 ∧ b = []) ∨ (ok = true ∧ ∃ (g : Nat) (cur : Array Value), u = .slice (some ⟨g, 0, none⟩) b.length b.length ∧ Blk w' g 5 cur ∧ cur.toList = bvs b ∧ ¬ F' g ∧ (F g ∨ w.heap.size ≤ g))
theorem Sum_c (A : Option Addr) (n cap B : Nat) (bs : List UInt8) (w : World) (hr : RdB w B A n bs) (hn : n ≤ 9223372036854775807) (ht : Nibs w) :
    Calls Tryd.prog 23 #[.slice A n cap] w fun e w' => e = .returned (.int .i64 (Crc.crc bs : Int)) ∧ w' = w := (Sum_any A n cap B bs w hr hn ht).mono fun _ _ ⟨h, h2⟩ => ⟨h, h2.symm⟩
theorem Nibs.dn {w : World} (h : Nibs w) (d : Nat) : Nibs (w.drewN d) := fun k hk => h k hk
def TakesP (w : World) (F : Nat → Prop) (N J : Nat) (st : JSt) (s : Int) (bs : List UInt8) (e : Ending) (w' : World) : Prop :=
  ∃ u b ok er st' F', ((b, ok, er), st') = takeS N st s bs ∧ e = .returned (.tuple #[u, .bool ok, .int .i64 ((er : Nat) : Int)]) ∧ RetP w w' F F' u b ok ∧ PJx w' F' N J st' ∧ Moved w w' F F'

theorem Nibs.chg {w w' : World} {S : Nat → Prop} (h : Nibs w) (hc : Chg S w w') (hS : ¬ S 0) : Nibs w' := fun k hk => by
  have hlt : 0 < w.heap.size := by
    rcases Nat.lt_or_ge 0 w.heap.size with h1 | h1
    · exact h1
    · have h0 := h k hk
      unfold World.cell? at h0
      rw [Array.getElem?_eq_none h1] at h0
      cases h0
  exact (World.cell?_of_block (hc.block 0 hlt hS)).trans (h k hk)
set_option maxRecDepth 100000 in
set_option maxHeartbeats 3200000 in
theorem PTake_arg (A : Option Addr) (n cap J N : Nat) (F : Nat → Prop) (st : JSt) (bs : List UInt8) (s : Int) (w : World) (h : PJx w F N J st) (hN : N ≤ 16) (hs : s < 0 ∨ (N : Int) ≤ s) :
    Calls Tryd.prog 21 #[.pointer (some ⟨J, 0, none⟩), .int .i64 s, .slice A n cap] w (TakesP w F N J st s bs) := by
  have HT := Lib.hid (takeS_arg (st := st) (c := bs) hs)
  have h0 := h
  obtain ⟨hF, O, pg, cs, hj⟩ := h
  have hc0 : w.cell? ⟨J, 0, none⟩ = some (.slice (some ⟨O, 0, none⟩) N N) := by rw [hj.blk.cell]; rfl
  clear hj hF
  rcases hs with hs | hs
  · go_enter Tryd.func21, Tryd.ntmps21
    go_wp2
    go_ret3
    exact ⟨_, _, _, _, _, _, HT.out.symm, rfl, .inl ⟨rfl, rfl, rfl⟩, h0, Moved.refl _ _⟩
  · have hs' : ¬ s < 0 := by omega
    go_enter Tryd.func21, Tryd.ntmps21
    go_wp2
    go_ret3
    exact ⟨_, _, _, _, _, _, HT.out.symm, rfl, .inl ⟨rfl, rfl, rfl⟩, h0, Moved.refl _ _⟩
set_option maxRecDepth 100000 in
set_option maxHeartbeats 3200000 in
theorem PTake_form (A : Option Addr) (n cap J N s : Nat) (F : Nat → Prop) (st : JSt) (bs : List UInt8) (w : World) (h : PJx w F N J st) (hN : N ≤ 16) (hs : s < N) (hr : RdB w w.heap.size A n bs) (hn : n ≤ cap) (hm : cap ≤ 9223372036854775807) (hf : ¬ Form bs) :
    Calls Tryd.prog 21 #[.pointer (some ⟨J, 0, none⟩), .int .i64 s, .slice A n cap] w (TakesP w F N J st s bs) := by
  have HT := Lib.hid (takeS_form (st := st) hs hf)
  have h0 := h
  obtain ⟨hF, O, pg, cs, hj⟩ := h
  have hc0 : w.cell? ⟨J, 0, none⟩ = some (.slice (some ⟨O, 0, none⟩) N N) := by rw [hj.blk.cell]; rfl
  clear hj hF
  have HFN := Lib.hid hf
  have hs1 : (s : Int) < (N : Int) := by omega
  have hs2 : ¬ (s : Int) < 0 := by omega
  have HR : Hid (Calls Tryd.prog 34 #[.slice A n cap] w (ReadsNo w)) := by
    by_cases h8 : n < 8
    · exact read_short A n cap w h8
    · exact (read_any A n cap bs w hr hn hm (by omega)).mono fun _ _ h => h.no hf
  clear hf
  go_enter Tryd.func21, Tryd.ntmps21
  go_wp2_with fail
  refine HR.out.mono ?_
  rintro _ w1 ⟨x, y, z, X, k, c, rfl, hb1⟩
  go_wp2
  go_ret3
  exact ⟨_, _, _, _, _, _, HT.out.symm, rfl, .inl ⟨rfl, rfl, rfl⟩, h0.below (hb1.alloc hb1.size _), Moved.of_below _ (hb1.alloc hb1.size _)⟩
set_option maxRecDepth 100000 in
set_option maxHeartbeats 3200000 in
theorem PTake_go0 (A : Option Addr) (n cap J N s : Nat) (F : Nat → Prop) (st : JSt) (bs : List UInt8) (w : World) (h : PJx w F N J st) (hN : N ≤ 16) (hs : s < N) (hok : Part (st s)) (hr : RdB w w.heap.size A n bs) (hn : n ≤ cap) (hm : cap ≤ 9223372036854775807) (hA : ∀ b o s, A = some ⟨b, o, s⟩ → ¬ F b) (ht : Nibs w) (hnb : ¬ F 0) (hf : Form bs) (hz : cAt bs = 0) :
    Calls Tryd.prog 21 #[.pointer (some ⟨J, 0, none⟩), .int .i64 s, .slice A n cap] w (TakesP w F N J st s bs) := by
  obtain ⟨i0, hi0, hz0, hz1, hz2⟩ := info_parts info_u8
  have h0 := h
  obtain ⟨hF, O, pg, cs, hj⟩ := h
  have hc0 : w.cell? ⟨J, 0, none⟩ = some (.slice (some ⟨O, 0, none⟩) N N) := by rw [hj.blk.cell]; rfl
  have hcs : w.cell? ⟨O, s, none⟩ = some (openV st pg s) := by rw [hj.list.cell]; exact hj.at_ s hs
  have h8 : 8 ≤ n := by have := hf.1; have := hr.lenB; omega
  have h256 : n ≤ 256 := by have := hf.2.2.2.2; have := hr.lenB; omega
  have hs1 : (s : Int) < (N : Int) := by omega
  have hs2 : ¬ (s : Int) < 0 := by omega
  have HR := Lib.hid ((read_any A n cap bs w hr hn hm h8).mono fun _ _ h => h.yes hf)
  have hJl := hj.blk.lt
  have hOl := hj.list.lt
  generalize hX : (if cap = 8 then A else A.map (·.add (8 * 1))) = X at HR
  have hrt := hr.tail8 h8 hn
  rw [hX] at hrt
  have HXb : Hid (∀ b o s', X = some ⟨b, o, s'⟩ → ¬ F b ∧ b < w.heap.size) := by
    intro b o s' hXe
    obtain ⟨ba, oa, rfl, hba, _⟩ := hr.at_ (by omega)
    have e : b = ba := by
      rw [← hX] at hXe
      split at hXe
      · injection hXe with e; injection e with e; exact e.symm
      · rw [Option.map_some, addr_add] at hXe; injection hXe with e; injection e with e; exact e.symm
    subst e
    exact ⟨hA _ _ _ rfl, hba⟩
  have HF := Lib.hid hf
  clear hf hX
  go_enter Tryd.func21, Tryd.ntmps21
  go_wp2_with fail
  refine HR.out.mono ?_
  rintro _ w1 ⟨rfl, hb1⟩
  have hcb := (bcell hb1).1
  replace hc0 := (hcb J 0 hJl).trans hc0
  replace hcs := (hcb O s hOl).trans hcs
  have hsz1 := hb1.size
  have hj1 : PJ w1 F N J O st pg cs := hj.chg (Chg.of_below hb1 fun _ => False) fun _ _ h => h
  have hcz := cSize_lt bs
  have hsO : (openV st pg s).cells.size = 1 := by unfold openV; split <;> rfl
  have hJl1 : J < w1.heap.size := by omega
  have hOl1 : O < w1.heap.size := by omega
  clear hcb
  rw [hz]
  have hmk := run_make_rowN (P := Tryd.prog) 22 5 i0 (.int .u8 0) u_bytes hi0 hz0 .i64 .i64 0 (cSize bs) (by omega) (by rw [hz2]; omega) (by omega)
  rw [hz1] at hmk
  simp only [Nat.mul_one] at hmk
  replace hmk : ∀ W, Sem.run Tryd.prog (Instr.makeSlice 22 (.int .i64 0) (.int .i64 (cSize bs : Int))) W = .ok (.slice (some ⟨W.heap.size, 0, none⟩) 0 (cSize bs)) (W.alloc (.cells (madeCells #[.int .u8 0] (cSize bs)) 5)) := hmk
  go_wp2_with fail
  go_region
  go_wp2_with fail
  obtain ⟨w5, hw5⟩ : ∃ w5, w5 = (((w1.alloc (Obj.cells #[Value.int .i64 (cSize bs : Int), Value.int .i64 (cSum bs : Int), Value.slice X (n - 8) (cap - 8)] 66)).alloc (Obj.cells (madeCells #[Value.int .u8 0] (cSize bs)) 5)).alloc (Obj.cells #[Value.int .i64 (cSize bs : Int), Value.int .i64 (cSum bs : Int), Value.slice (some ⟨w1.heap.size + 1, 0, none⟩) 0 (cSize bs)] 66)).drew := ⟨_, rfl⟩
  obtain ⟨P, hP⟩ : ∃ P, P = w1.heap.size + 1 + 1 := ⟨_, rfl⟩
  obtain ⟨G, hG⟩ : ∃ G, G = w1.heap.size + 1 := ⟨_, rfl⟩
  obtain ⟨C, hCe⟩ : ∃ C, C = w1.heap.size := ⟨_, rfl⟩
  obtain ⟨q, hq⟩ : ∃ q, q = n - 8 := ⟨_, rfl⟩
  obtain ⟨K0, hK⟩ : ∃ K0 : Nat, K0 = 0 := ⟨_, rfl⟩
  obtain ⟨cur0, hcur⟩ : ∃ cur0 : Array Value, cur0 = madeCells #[Value.int .u8 0] (cSize bs) := ⟨_, rfl⟩
  obtain ⟨l0, hl0⟩ : ∃ l0 : List (List UInt8), l0 = [] := ⟨_, rfl⟩
  have hz0 : Value.int .i64 0 = Value.int .i64 ((K0 : Nat) : Int) := by rw [hK]; rfl
  rw [← hw5, ← hP, ← hCe, hz0]
  clear hz0
  have hb5 : Below w.heap.size w w5 := by
    rw [hw5]
    have := ((hb1.alloc hb1.size (Obj.cells #[Value.int .i64 (cSize bs : Int), Value.int .i64 (cSum bs : Int), Value.slice X (n - 8) (cap - 8)] 66)).alloc (by simp; omega) (Obj.cells (madeCells #[Value.int .u8 0] (cSize bs)) 5)).alloc (by simp; omega) (Obj.cells #[Value.int .i64 (cSize bs : Int), Value.int .i64 (cSum bs : Int), Value.slice (some ⟨w1.heap.size + 1, 0, none⟩) 0 (cSize bs)] 66)
    exact below_drewN this 1
  have hPB : Blk w5 P 66 #[.int .i64 (cSize bs : Int), .int .i64 (cSum bs : Int), .slice (some ⟨G, 0, none⟩) K0 (cSize bs)] := by
    rw [hw5, hP, hG, hK]
    have := Blk.new ((w1.alloc (Obj.cells #[Value.int .i64 (cSize bs : Int), Value.int .i64 (cSum bs : Int), Value.slice X (n - 8) (cap - 8)] 66)).alloc (Obj.cells (madeCells #[Value.int .u8 0] (cSize bs)) 5)) 66 #[Value.int .i64 (cSize bs : Int), Value.int .i64 (cSum bs : Int), Value.slice (some ⟨w1.heap.size + 1, 0, none⟩) 0 (cSize bs)]
    simp only [World.size_alloc] at this
    exact this.drew
  have hGB : Blk w5 G 5 cur0 := by
    rw [hw5, hG, hcur]
    have := ((Blk.new (w1.alloc (Obj.cells #[Value.int .i64 (cSize bs : Int), Value.int .i64 (cSum bs : Int), Value.slice X (n - 8) (cap - 8)] 66)) 5 (madeCells #[Value.int .u8 0] (cSize bs))).alloc (Obj.cells #[Value.int .i64 (cSize bs : Int), Value.int .i64 (cSum bs : Int), Value.slice (some ⟨w1.heap.size + 1, 0, none⟩) 0 (cSize bs)] 66))
    simp only [World.size_alloc] at this
    exact this.drew
  have hCB : Blk w5 C 66 #[.int .i64 (cSize bs : Int), .int .i64 (cSum bs : Int), .slice X q (cap - 8)] := by
    rw [hw5, hCe, hq]
    exact (((Blk.new w1 66 #[Value.int .i64 (cSize bs : Int), Value.int .i64 (cSum bs : Int), Value.slice X (n - 8) (cap - 8)]).alloc _).alloc _).drew
  have HJN := Lib.hid (show joined (st s) bs = l0 ++ [bs] by rw [joined_zero hz, hl0]; rfl)
  have HFits := Lib.hid (show Fits (st s) bs from .inl hz)
  have HK0 := Lib.hid (show K0 = 248 * l0.length ∧ (blobS l0).length = K0 by rw [hK, hl0]; exact ⟨rfl, rfl⟩)
  have HCur := Lib.hid (show cur0.size = cSize bs ∧ cur0.toList.take K0 = bvs (blobS l0) by
    rw [hcur, hK, hl0]
    exact ⟨by simp [size_madeCells], by simp [blobS, bvs]⟩)
  have HPG := Lib.hid (show ((st s ≠ [] ∧ P = (pg s).1) ∨ w.heap.size ≤ P) ∧ ((st s ≠ [] ∧ G = (pg s).2) ∨ w.heap.size ≤ G) from ⟨.inr (by omega), .inr (by omega)⟩)
  have hPlt := hPB.lt
  have hGlt := hGB.lt
  have hOB := hj.list.below hb5 hj.list.lt
  have hJB := hj.blk.below hb5 hj.blk.lt
  have hrt5 : RdB w5 w.heap.size X q (bs.drop 8) := by rw [hq]; exact hrt.below hb5
  have hq248 : q ≤ 248 := by omega
  have hKq : K0 + q ≤ cSize bs := by
    have h1 := joined_len hok HF.out HFits.out
    have h2 := joined_le hok HF.out HFits.out
    rw [HJN.out, blobS_snoc, List.length_append, HK0.out.2, List.length_drop, hr.lenB, ← hq] at h2
    exact h2
  have hPC : C ≠ P := by omega
  have HXP : Hid (∀ b o s', X = some ⟨b, o, s'⟩ → b ≠ P ∧ b ≠ G ∧ b ≠ O) := fun b o s' e => by
    obtain ⟨h1, h2⟩ := HXb.out b o s' e
    exact ⟨by omega, by omega, fun e => h1 (by rw [e]; exact hj.fj.2)⟩
  have HQ := Lib.hid hq
  clear hw5 hP hG hK hcur hl0 hmk hj1 hz hCe
  rw [← hq]
  clear hq
  generalize hS : cSize bs = S at *
  generalize hU : cSum bs = U at *
  have HS := Lib.hid hS
  have HU := Lib.hid hU
  clear hS hU
  have c0 : w5.cell? ⟨P, 0, none⟩ = some (.int .i64 (S : Int)) := hPB.cell 0
  have c1 : w5.cell? ⟨P, 1, none⟩ = some (.int .i64 (U : Int)) := hPB.cell 1
  have c2 : w5.cell? ⟨P, 2, none⟩ = some (.slice (some ⟨G, 0, none⟩) K0 S) := hPB.cell 2
  have d2 : w5.cell? ⟨C, 2, none⟩ = some (.slice X q (cap - 8)) := hCB.cell 2
  have f2 := hPB.frozen 2
  have e1 : (K0 : Int) + (q : Int) ≤ (S : Int) := by omega
  have e2 : ((K0 : Int) + (q : Int)).toNat = K0 + q := by omega
  have e3 : (0 : Int) ≤ (K0 : Int) + (q : Int) := by omega
  go_region
  go_wp2_with fail
  obtain ⟨w6, hw6⟩ : ∃ w6, w6 = (w5.setCell ⟨P, 2, none⟩ (Value.slice (some ⟨G, 0, none⟩) (K0 + q) S)).drew := ⟨_, rfl⟩
  rw [← hw6]
  have hGP := hGB.ne_ hPB (by decide)
  have hOP := hOB.ne_ hPB (by decide)
  have hJP := hJB.ne_ hPB (by decide)
  have hPB6 : Blk w6 P 66 #[.int .i64 (S : Int), .int .i64 (U : Int), .slice (some ⟨G, 0, none⟩) (K0 + q) S] := by
    rw [hw6]
    have := hPB.set_ 2 (.slice (some ⟨G, 0, none⟩) (K0 + q) S)
    simp only [List.setIfInBounds_toArray, List.set_cons_zero, List.set_cons_succ] at this
    exact this.drew
  have hGB6 : Blk w6 G 5 cur0 := by rw [hw6]; exact (hGB.far (p := ⟨P, 2, none⟩) hGP _).drew
  have hCB6 := show Blk w6 C 66 _ by rw [hw6]; exact (hCB.far (p := ⟨P, 2, none⟩) hPC _).drew
  have hOB6 : Blk w6 O 69 cs := by rw [hw6]; exact (hOB.far (p := ⟨P, 2, none⟩) hOP _).drew
  have hJB6 := show Blk w6 J 61 _ by rw [hw6]; exact (hJB.far (p := ⟨P, 2, none⟩) hJP _).drew
  have hc56 : Chg (fun k => k = P) w5 w6 := by rw [hw6]; exact ((Chg.refl (fun k => k = P) w5).setCell (p := ⟨P, 2, none⟩) (.inl rfl) _).drew
  have hrt6 := hrt5.chgN hc56 hb5.size (fun b o s' e h => (HXP.out b o s' e).1 h)
  clear hw6 c0 c1 c2 d2 f2
  have c2 : w6.cell? ⟨P, 2, none⟩ = some (.slice (some ⟨G, 0, none⟩) (K0 + q) S) := hPB6.cell 2
  have d2 : w6.cell? ⟨C, 2, none⟩ = some (.slice X q (cap - 8)) := hCB6.cell 2
  obtain ⟨D, hD⟩ : ∃ D : Option Addr, D = (if S = K0 then some ⟨G, 0, none⟩ else (some (⟨G, 0, none⟩ : Addr)).map (·.add (K0 * 1))) := ⟨_, rfl⟩
  have hD2 : 0 < q → D = some ⟨G, K0, none⟩ := fun h => by rw [hD, if_neg (by omega), Option.map_some, addr_add]; simp
  have hsl : ∀ W, Sem.run Tryd.prog (Instr.slice 22 (.slice (some ⟨G, 0, none⟩) (K0 + q) S) (some (.int .i64 (K0 : Int))) none none) W = .ok (.slice D q (S - K0)) W := by
    intro W
    rw [run_slice_l (P := Tryd.prog) W 22 (some ⟨G, 0, none⟩) (K0 + q) S Tryd.underlying22 .i64 (K0 : Int) (by omega) (by omega), hD]
    show Result.ok (Value.slice _ (K0 + q - K0) _) W = _
    rw [Nat.add_sub_cancel_left]
    rfl
  clear hD
  refine region_tail 8 (by kernel_rfl) (by kernel_rfl) ?_
  simp only [List.take_succ_cons, List.take_zero, List.drop_succ_cons, List.drop_zero]
  repeat still_step
  refine wpStill_nil ?_
  refine copyC (by rfl) _ _ _ _ (by rfl) 5 u_bytes (by rw [hi0]; simp [hz1]) D q _ X q _ (by rfl) (by rfl) G K0 cur0 5 hGB6.drew w.heap.size (bvs (bs.drop 8)) (hrt6.dn 1) (Nat.le_refl _) hD2 (by rw [HCur.out.1]; exact hKq) (bvs_one _) ?_
  intro w7 hG7 hc7
  have hPB7 := hPB6.drew.chg hc7 (fun e => hGP e.symm)
  have hOG := hOB.ne_ hGB (by decide)
  have hJG := hJB.ne_ hGB (by decide)
  have hJO := hJB.ne_ hOB (by decide)
  have hOB7 := hOB6.drew.chg hc7 hOG
  have hJB7 := hJB6.drew.chg hc7 hJG
  have hc57 : Chg (fun k => k = P ∨ k = G) w5 w7 := (hc56.drew.mono (fun k _ e => .inl e)).trans (hc7.mono (fun k _ e => .inr e))
  have hOs : ∃ v, w7.cell? ⟨O, s, none⟩ = some v := by rw [hOB7.cell]; exact ⟨_, hj.at_ s hs⟩
  obtain ⟨vO, hOs⟩ := hOs
  have hOf := hOB7.frozen s
  have hJ0 : w7.cell? ⟨J, 0, none⟩ = some (.slice (some ⟨O, 0, none⟩) N N) := hJB7.cell 0
  clear c2 d2
  have p0 : w7.cell? ⟨P, 0, none⟩ = some (.int .i64 (S : Int)) := hPB7.cell 0
  have p1 : w7.cell? ⟨P, 1, none⟩ = some (.int .i64 (U : Int)) := hPB7.cell 1
  have p2 : w7.cell? ⟨P, 2, none⟩ = some (.slice (some ⟨G, 0, none⟩) (K0 + q) S) := hPB7.cell 2
  have hbl : (blobS (l0 ++ [bs])).length = K0 + q := by rw [blobS_snoc, List.length_append, HK0.out.2, List.length_drop, hr.lenB, HQ.out]
  have HBL := Lib.hid hbl
  have HT1 := Lib.hid (fun hl => takeS_hold (st := st) hs HF.out HFits.out hl)
  have HT2 := Lib.hid (fun hl hc => takeS_good (st := st) hs HF.out HFits.out hl hc)
  have HT3 := Lib.hid (fun hl hc => takeS_wrong (st := st) hs HF.out HFits.out hl hc)
  rw [HJN.out] at HT1 HT2 HT3
  have HC7 := Lib.hid (show Chg (TurnP O st pg s) w w7 from (Chg.of_below hb5 _).thenS hc57 (fun k hk e => by
    obtain ⟨g1, g2⟩ := HPG.out
    rcases e with e | e
    · rcases g1 with ⟨a, g1⟩ | g1
      · exact .inr ⟨a, .inl (e.trans g1)⟩
      · omega
    · rcases g2 with ⟨a, g2⟩ | g2
      · exact .inr ⟨a, .inr (e.trans g2)⟩
      · omega))
  have HSP := Lib.hid (show ((splice cur0.toList K0 (bvs (bs.drop 8))).toArray).size = S ∧ (splice cur0.toList K0 (bvs (bs.drop 8))).take (K0 + q) = bvs (blobS (l0 ++ [bs])) by
    have hq' : (bvs (bs.drop 8)).length = q := by rw [bvs_length, List.length_drop, hr.lenB, HQ.out]
    have hcs' := HCur.out.1
    refine ⟨?_, ?_⟩
    · unfold splice
      simp only [List.size_toArray, List.length_append, List.length_take, List.length_drop, Array.length_toList, hq', hcs']
      omega
    · unfold splice
      rw [HCur.out.2, blobS_snoc, bvs_append, ← List.append_assoc, List.take_left' (by rw [List.length_append, hq', bvs_length, HK0.out.2])])
  have hG7' := hG7
  clear hG7 hbl hc57 hc7 hc56
  go_wp2_with fail
  obtain ⟨w8, hw8e⟩ : ∃ w8, w8 = w7.setCell ⟨O, s, none⟩ (.pointer (some ⟨P, 0, none⟩)) := ⟨_, rfl⟩
  rw [← hw8e]
  have hw8 : Chg (fun k => k = O) w7 w8 := by rw [hw8e]; exact (Chg.refl (fun k => k = O) w7).setCell (p := ⟨O, s, none⟩) (.inl rfl) _
  have hOB8 : Blk w8 O 69 (cs.setIfInBounds s (.pointer (some ⟨P, 0, none⟩))) := by rw [hw8e]; exact hOB7.set_ s _
  have hPB8 := hPB7.chg hw8 (fun e => hOP e.symm)
  have hGB8 := hG7'.chg hw8 (fun e => hOG e.symm)
  have hJB8 := hJB7.chg hw8 hJO
  have HC8 := Lib.hid (HC7.out.thenS hw8 (fun k _ e => .inl e))
  clear hw8e hOs hOf hJ0 p0 p1 p2
  have hJ0 : w8.cell? ⟨J, 0, none⟩ = some (.slice (some ⟨O, 0, none⟩) N N) := hJB8.cell 0
  have hOs : ∃ v, w8.cell? ⟨O, s, none⟩ = some v := by rw [hOB8.cell]; exact ⟨_, Array.getElem?_setIfInBounds_self_of_lt (by rw [hj.size]; exact hs)⟩
  obtain ⟨vO8, hOs⟩ := hOs
  have hOf := hOB8.frozen s
  have p0 : w8.cell? ⟨P, 0, none⟩ = some (.int .i64 (S : Int)) := hPB8.cell 0
  have p1 : w8.cell? ⟨P, 1, none⟩ = some (.int .i64 (U : Int)) := hPB8.cell 1
  have p2 : w8.cell? ⟨P, 2, none⟩ = some (.slice (some ⟨G, 0, none⟩) (K0 + q) S) := hPB8.cell 2
  by_cases hlt : K0 + q < S
  · have HTT := Lib.hid (HT1.out (by rw [HBL.out, HS.out]; exact hlt))
    have hp : Part (l0 ++ [bs]) := by
      have := joined_part hok HF.out HFits.out (by rw [HJN.out, HBL.out, HS.out]; exact hlt)
      rwa [HJN.out] at this
    have hhd := joined_head HFits.out
    rw [HJN.out, HS.out, HU.out] at hhd
    have h248 : 248 * (l0 ++ [bs]).length = K0 + q := by rw [← hp.len, HBL.out]
    have hne : l0 ++ [bs] ≠ [] := by simp
    have hPut := hj.put hF hs (w3 := w8) (l := l0 ++ [bs]) (P := P) (G := G) (g := w8.heap.size)
      HC8.out (by rw [if_neg hne]; exact hOB8) (fun _ => by rw [hhd.1, hhd.2, h248]; exact hPB8) (fun _ => ⟨_, hGB8, by rw [hhd.1]; exact HSP.out.1, by rw [h248]; exact HSP.out.2⟩) (fun _ => HPG.out) (.inl rfl)
    have HPut := Lib.hid hPut
    have hltI : (K0 : Int) + (q : Int) < (S : Int) := by omega
    clear HT1 HT2 HT3 hp hhd hPut hw8 hok
    go_quiet (fail)
    have hbq := below_drewN (Below.refl w8.heap.size w8) nq
    go_wp2
    go_ret3
    exact ⟨_, _, _, _, _, _, HTT.out.symm, rfl, .inl ⟨rfl, rfl, rfl⟩, HPut.out.1.below hbq, HPut.out.2.trans (Moved.of_below _ hbq)⟩
  · have hltI : ¬ (K0 : Int) + (q : Int) < (S : Int) := by omega
    have HSe := Lib.hid (show S = K0 + q by omega)
    go_quiet (fail)
    go_wp2_with fail
    obtain ⟨w9, hw9e⟩ : ∃ w9, w9 = (w8.drewN nq).setCell ⟨O, s, none⟩ (.pointer none) := ⟨_, rfl⟩
    rw [← hw9e]
    have hw9 : Chg (fun k => k = O) w8 w9 := by rw [hw9e]; exact ((Chg.refl (fun k => k = O) w8).drewN nq).setCell (p := ⟨O, s, none⟩) (.inl rfl) _
    have hOB9 : Blk w9 O 69 (cs.setIfInBounds s (.pointer none)) := by
      have := (hOB8.drewN nq).set_ s (.pointer none)
      rw [← hw9e, Array.setIfInBounds_setIfInBounds] at this
      exact this
    have hPB9 := hPB8.chg hw9 (fun e => hOP e.symm)
    have hGB9 := hGB8.chg hw9 (fun e => hOG e.symm)
    have HC9 := Lib.hid (HC8.out.thenS hw9 (fun k _ e => .inl e))
    have hPut := hj.put hF hs (w3 := w9) (l := []) (P := 0) (G := 0) (g := G) HC9.out hOB9 (fun h => absurd rfl h) (fun h => absurd rfl h) (fun h => absurd rfl h) (.inr ⟨rfl, hGB9.isT, HPG.out.2⟩)
    have HPut := Lib.hid hPut
    have HFG := Lib.hid (show ¬ FOut F w w9 G G ∧ (F G ∨ w.heap.size ≤ G) from ⟨fun h => h.2 rfl, by
      rcases HPG.out.2 with ⟨a, e⟩ | h
      · exact .inl (by rw [e]; exact (hj.fp s hs a).2)
      · exact .inr h⟩)
    have hnb9 : Nibs w9 := ht.chg HC9.out (fun h => by
      rcases h with h | ⟨a, h | h⟩
      · exact hnb (by rw [h]; exact hj.fj.2)
      · exact hnb (by rw [h]; exact (hj.fp s hs a).1)
      · exact hnb (by rw [h]; exact (hj.fp s hs a).2))
    have hrb : RdB w9 w9.heap.size (some ⟨G, 0, none⟩) (K0 + q) (blobS (l0 ++ [bs])) := ⟨by rw [bvs_length, HBL.out]; omega, fun _ => ⟨G, 0, rfl, hGB9.lt, fun j u hu => by
      rw [Nat.zero_add, hGB9.cell, ← HSP.out.2] at *
      rw [List.getElem?_take] at hu
      split at hu
      · simpa using hu
      · cases hu⟩⟩
    have HCU := Lib.hid (show ((splice cur0.toList K0 (bvs (bs.drop 8))).toArray).toList = bvs (blobS (l0 ++ [bs])) by
      rw [← HSP.out.2, List.take_of_length_le]
      have := HSP.out.1
      rw [List.size_toArray] at this
      omega)
    clear hw9e p0 p1 p2 hJ0 hOs hOf hPut hw9 hw8
    have p1 : w9.cell? ⟨P, 1, none⟩ = some (.int .i64 (U : Int)) := hPB9.cell 1
    have p2 : w9.cell? ⟨P, 2, none⟩ = some (.slice (some ⟨G, 0, none⟩) (K0 + q) S) := hPB9.cell 2
    by_cases hcc : Crc.crc (blobS (l0 ++ [bs])) = U
    · have HTT := Lib.hid (HT2.out (by rw [HBL.out, HS.out]; omega) (by rw [hcc, HU.out]))
      have hne : ((Crc.crc (blobS (l0 ++ [bs])) : Int) != (U : Int)) = false := by simp; omega
      clear HT1 HT2 HT3 hcc
      go_quiet ((go_at_call 23; exact Calls.quiet_of_same (Sum_c _ _ _ _ _ _ (hrb.dn _) (by omega) (hnb9.dn _))))
      have hbq := below_drewN (Below.refl w9.heap.size w9) nq
      go_wp2
      go_ret3
      refine ⟨_, _, _, _, _, _, HTT.out.symm, rfl, .inr ⟨rfl, G, _, ?_, hGB9.drewN _, HCU.out, HFG.out⟩, HPut.out.1.below hbq, HPut.out.2.trans (Moved.of_below _ hbq)⟩
      rw [HBL.out]
      show Value.slice (some ⟨G, 0, none⟩) (K0 + q) S = _
      rw [HSe.out]
    · have HTT := Lib.hid (HT3.out (by rw [HBL.out, HS.out]; omega) (by rw [HU.out]; exact hcc))
      have hne : ((Crc.crc (blobS (l0 ++ [bs])) : Int) != (U : Int)) = true := by simp; omega
      clear HT1 HT2 HT3 hcc
      go_quiet ((go_at_call 23; exact Calls.quiet_of_same (Sum_c _ _ _ _ _ _ (hrb.dn _) (by omega) (hnb9.dn _))))
      have hbq := below_drewN (Below.refl w9.heap.size w9) nq
      go_wp2
      go_ret3
      exact ⟨_, _, _, _, _, _, HTT.out.symm, rfl, .inl ⟨rfl, rfl, rfl⟩, HPut.out.1.below hbq, HPut.out.2.trans (Moved.of_below _ hbq)⟩
end Go.Proofs.YtgapkphkcncgeaaDoor
