/-
  The program's Encode.
-/
import Derived.Test.YtffcepaegcllmaaDoorWrL
import Derived.Test.YtffcepaegcllmaaDoorPackG
import Derived.Test.YtffcepaegcllmaaDoorSum
namespace Go.Proofs.YtffcepaegcllmaaDoor
open Go.RowKit
theorem nibs_below {w w' : World} (h : Nibs w) (hb : Below w.heap.size w w') : Nibs w' := fun k hk => by
  have h1 := h k hk
  exact (hb.cell (p := ⟨0, k, none⟩) (World.block_lt_of_cell? w _ h1)).trans h1
/-- The text ahead of its sum. -/
def bodyB (p : Pk) (D : PkD) : List UInt8 := [0x51, 0x56, 1, UInt8.ofNat p.k.toNat] ++ pack [p.s, p.si, p.d, p.di] ++ partB p D
/-- Four bytes, the least ahead. -/
def le4 (n : Nat) : List UInt8 := [UInt8.ofNat (n % 256), UInt8.ofNat (n / 256 % 256), UInt8.ofNat (n / 65536 % 256), UInt8.ofNat (n / 16777216 % 256)]
theorem le4_bvs (n : Nat) : bvs (le4 n) = [.int .u8 ((n : Int) % 256), .int .u8 ((n : Int) / 256 % 256), .int .u8 ((n : Int) / 65536 % 256), .int .u8 ((n : Int) / 16777216 % 256)] := by
  simp [bvs, le4]
/-- A valid packet's text. -/
def encB (p : Pk) (D : PkD) : List UInt8 := bodyB p D ++ le4 (Crc.crc (bodyB p D))
theorem body_le {w : World} {B : Nat} {p : Pk} {D : PkD} (h : kindB p D = true) (hin : PkIn w B p D) : (bodyB p D).length ≤ 100000 := by
  have hL : ∀ l : List Int, (packL l).length ≤ 9 * l.length + 9 := fun l => by have h := packL_len (bs := []) (n := 0) (k := l.length) (is := l) (by simp) (Nat.le_refl _); simpa using h
  have hI : ∀ e l i c : Int, (packI e l i c).length ≤ 36 := fun e l i c => by have h := packI_len (bs := []) (n := 0) (e := e) (l := l) (i := i) (c := c) (by simp); simpa using h
  have h0 := pack_le [p.s, p.si, p.d, p.di]
  suffices hp : (partB p D).length ≤ 60000 by
    unfold bodyB
    rw [List.length_append, List.length_append]
    simp only [List.length_cons, List.length_nil] at h0 ⊢
    omega
  rcases kindB_k h with hk | hk | hk | hk | hk | hk | hk
  · have e : partB p D = pack [p.tk] ++ packL D.hears := by simp [partB, hk]
    have h2 : beatB p.tk D.hears = true := by simpa [kindB, hk] using h
    simp only [beatB, countsB, Bool.and_eq_true, decide_eq_true_eq] at h2
    have h3 := pack_le [p.tk]
    have h4 := hL D.hears
    rw [e, List.length_append]
    simp only [List.length_cons, List.length_nil] at h3
    omega
  · have e : partB p D = packL D.set ++ pack [p.cid, p.rev, p.top] ++ packI p.p1 p.p2 p.p3 p.p4 ++ packL D.vec := by simp [partB, hk]
    have h2 : propB D.set p.cid p.rev p.top p.p1 p.p2 p.p3 p.p4 D.vec = true := by simpa [kindB, hk] using h
    simp only [propB, countsB, Bool.and_eq_true, decide_eq_true_eq] at h2
    have h3 := pack_le [p.cid, p.rev, p.top]
    have h4 := hL D.set
    have h5 := hL D.vec
    have h6 := hI p.p1 p.p2 p.p3 p.p4
    rw [e, List.length_append, List.length_append, List.length_append]
    simp only [List.length_cons, List.length_nil] at h3
    omega
  · have e : partB p D = packI p.f1 p.f2 p.f3 p.f4 ++ pack [p.base, (p.sn : Int)] ++ packS D.slots ++ packL D.got := by simp [partB, hk]
    have h2 : flushB p.f1 p.f2 p.f3 p.f4 p.base D.slots D.got = true := by simpa [kindB, hk] using h
    simp only [flushB, countsB, Bool.and_eq_true, decide_eq_true_eq] at h2
    have h3 := pack_le [p.base, (p.sn : Int)]
    have h4 := packS_le D.slots
    have h5 := hL D.got
    have h6 := hI p.f1 p.f2 p.f3 p.f4
    rw [e, List.length_append, List.length_append, List.length_append]
    simp only [List.length_cons, List.length_nil] at h3
    omega
  · have e : partB p D = packI p.w1 p.w2 p.w3 p.w4 ++ pack [p.done, p.pfx] := by simp [partB, hk]
    have h3 := pack_le [p.done, p.pfx]
    have h6 := hI p.w1 p.w2 p.w3 p.w4
    rw [e, List.length_append]
    simp only [List.length_cons, List.length_nil] at h3
    omega
  · have e : partB p D = packI p.t1 p.t2 p.t3 p.t4 ++ pack [p.seq] ++ packB D.body := by simp [partB, hk]
    have h2 : frameB p.t1 p.t2 p.t3 p.t4 p.seq p.bn = true := by simpa [kindB, hk] using h
    simp only [frameB, Bool.and_eq_true, decide_eq_true_eq] at h2
    have h3 := pack_le [p.seq]
    have h4 := packB_le D.body
    have h5 := hin.rb.lenB
    have h6 := hI p.t1 p.t2 p.t3 p.t4
    rw [e, List.length_append, List.length_append]
    simp only [List.length_cons, List.length_nil] at h3
    omega
  · have e : partB p D = packI p.a1 p.a2 p.a3 p.a4 ++ pack [p.upto] := by simp [partB, hk]
    have h3 := pack_le [p.upto]
    have h6 := hI p.a1 p.a2 p.a3 p.a4
    rw [e, List.length_append]
    simp only [List.length_cons, List.length_nil] at h3
    omega
  · have e : partB p D = packI p.g1 p.g2 p.g3 p.g4 ++ pack [(p.mn : Int)] ++ packM D.msgs := by simp [partB, hk]
    have h2 : forwardB p.g1 p.g2 p.g3 p.g4 D.msgs = true := by simpa [kindB, hk] using h
    simp only [forwardB, Bool.and_eq_true, decide_eq_true_eq] at h2
    have h3 := pack_le [(p.mn : Int)]
    have h4 := packM_le D.msgs fun m hm => by
      have a1 := (hin.rm.2.1 m hm).rd.lenB
      have a2 := (msgB_bd (rises_all h2.1.1.1 m hm)).2.2.2
      omega
    have h6 := hI p.g1 p.g2 p.g3 p.g4
    rw [e, List.length_append, List.length_append]
    simp only [List.length_cons, List.length_nil] at h3
    omega
theorem head_bd {k s si d di : Int} (h : headB k s si d di = true) : (1 ≤ k ∧ k ≤ 7) ∧ (0 ≤ s ∧ s < 16) ∧ (0 ≤ d ∧ d < 16) ∧ (1 ≤ si ∧ si ≤ 4611686018427387904) ∧ 0 ≤ di ∧ di ≤ 4611686018427387904 := by
  simp only [headB, cntB, Bool.and_eq_true, decide_eq_true_eq] at h
  split at h <;> omega
set_option maxRecDepth 100000 in
set_option maxHeartbeats 6400000 in
theorem Encode_p (p : Pk) (D : PkD) (w : World) (hin : PkIn w w.heap.size p D) (hle : PkLe p) (ht : Nibs w) (hv : validB p D = true) :
    Calls Tryd.prog 11 #[.agg p.cells] w fun e w' => ∃ v, e = .returned (.tuple #[v, .int .i64 0]) ∧ w'.ownsRow w.heap.size 5 1 v (encB p D).length (bvs (encB p D)) ∧ Below w.heap.size w w' := by
  obtain ⟨i0, hi0, hz0, hz1, hz2⟩ := info_parts info_u8
  have HV0 : Hid (headB p.k p.s p.si p.d p.di = true ∧ kindB p D = true) := Lib.hid (by
    unfold validB at hv
    simp only [Bool.and_eq_true] at hv
    exact ⟨hv.1.1, hv.2⟩)
  have HIN : Hid (∀ W, Below w.heap.size w W → PkIn W w.heap.size p D) := Lib.hid fun W hW => hin.below hW
  have HT := Lib.hid ht
  obtain ⟨w0, hw0⟩ : ∃ x, x = w.alloc (.cells p.cells 45) := ⟨_, rfl⟩
  have HB : Hid (Blk w0 w.heap.size 45 p.cells) := Lib.hid (by rw [hw0]; exact Blk.new _ _ _)
  have HBW : Hid (Below w.heap.size w w0) := Lib.hid (by rw [hw0]; exact one_box _ _)
  have HVA := valid_any p D w0 (hin.over HBW.out) hle
  rw [hv] at HVA
  have HV := Lib.hid HVA
  clear HVA hin ht hv
  have HW0 := Lib.hid hw0
  clear hw0
  go_enter Tryd.func11, Tryd.ntmps11
  go_upto_region 1 with fail
  rw [← HW0.out]
  go_cut [8] from 6 to 55 (fun t wc => t = .bool false ∧ Hid (Below w0.heap.size w0 wc))
  case first =>
    as_aux_lemma =>
      go_wp2_with (first | (refine wpList_load_on (by rfl) 45 _ (by rfl) w.heap.size (by rfl) 45 p.cells (0, 0) _ HB.out Tryd.underlying45 rfl (by kernel_rfl) ?_; simp only [Act.put, List.setIfInBounds_toArray, List.set_cons_zero, List.set_cons_succ]) | (go_at_call 38; refine HV.out.mono ?_; rintro _ w1 ⟨rfl, hb1⟩; have H1 := Lib.hid hb1; clear hb1; go_simp))
      go_meet
      exact ⟨rfl, H1⟩
  case rest =>
    obtain ⟨rfl, HC⟩ := hcut
    apply_assumption
    rename World => wc
    have HBc := Lib.hid (HB.out.over HC.out)
    have HWc := Lib.hid (Below.then HBW.out HC.out)
    have HD := Lib.hid (head_bd HV0.out.1)
    have hkw : IntKind.u8.wrap p.k = p.k := by have := HD.out.1; rw [IntKind.wrap_u8]; omega
    have c0 : wc.cell? ⟨w.heap.size, 0, none⟩ = some (.int .i64 p.k) := HBc.out.cell 0
    go_upto_region 4 with fail
    obtain ⟨wl, hwl⟩ : ∃ x, x = wc.alloc (.cells #[.int .u8 81, .int .u8 86, .int .u8 1, .int .u8 p.k] 5) := ⟨_, rfl⟩
    rw [← hwl]
    obtain ⟨wb, hwb⟩ : ∃ x, x = wl.alloc (.cells #[.slice (some ⟨wc.heap.size, 0, none⟩) 4 4] 85) := ⟨_, rfl⟩
    rw [← hwb]
    have hsl : wl.heap.size = wc.heap.size + 1 := by rw [hwl]; simp
    have hbs : bvs [0x51, 0x56, 1, UInt8.ofNat p.k.toNat] = [.int .u8 81, .int .u8 86, .int .u8 1, .int .u8 p.k] := by
      have h := HD.out.1
      simp [bvs]
      omega
    have HS0 : Hid (Wt wb wc.heap.size (wc.heap.size + 1) [0x51, 0x56, 1, UInt8.ofNat p.k.toNat] ∧ Below wc.heap.size wc wb ∧ wc.heap.size ≤ wb.heap.size ∧ Blk wb w.heap.size 45 p.cells) := Lib.hid ⟨⟨_, by rw [hwb, ← hsl]; exact Blk.new _ _ _, by
      have ho : wl.ownsRow wc.heap.size 5 1 (.slice (some ⟨wc.heap.size, 0, none⟩) 4 4) 4 (bvs [0x51, 0x56, 1, UInt8.ofNat p.k.toNat]) := by
        rw [hbs, hwl]
        exact ⟨by simp, .inr ⟨wc.heap.size, 4, _, rfl, Nat.le_refl _, heap_alloc_new wc _, by omega, by simp [maxLen], by simp, by simp⟩⟩
      rw [hwb]
      exact own_over ho (one_box _ _)⟩, by rw [hwb, hwl]; exact (one_box _ _).trans ((one_box _ _).mono (by simp)), by rw [hwb]; simp; omega, by rw [hwb, hwl]; exact (HBc.out.alloc _).alloc _⟩
    clear c0 hkw hwl hwb hsl hbs
    have HIA : Hid (∀ W, ChT wrTs wc.heap.size wb W → PkIn W w.heap.size p D ∧ Blk W w.heap.size 45 p.cells) := Lib.hid fun W hW => ⟨HIN.out W ((HWc.out.trans (HS0.out.2.1.mono HWc.out.size)).trans ((hW.below HS0.out.2.2.1).mono HWc.out.size)), HS0.out.2.2.2.cht hW (.inl (by decide))⟩
    have c1 : wb.cell? ⟨w.heap.size, 1, none⟩ = some (.int .i64 p.s) := HS0.out.2.2.2.cell 1
    have c2 : wb.cell? ⟨w.heap.size, 2, none⟩ = some (.int .i64 p.si) := HS0.out.2.2.2.cell 2
    have c3 : wb.cell? ⟨w.heap.size, 3, none⟩ = some (.int .i64 p.d) := HS0.out.2.2.2.cell 3
    have c4 : wb.cell? ⟨w.heap.size, 4, none⟩ = some (.int .i64 p.di) := HS0.out.2.2.2.cell 4
    have HCL := Lib.hid (counts_l (m := 4) (is := [p.s, p.si, p.d, p.di]) (cs := #[.int .i64 p.s, .int .i64 p.si, .int .i64 p.d, .int .i64 p.di]) HS0.out.1 (by omega) HS0.out.2.2.1 rfl rfl (by simp) (by have := HD.out; simp; omega))
    go_upto_region 5 with (go_at_call 39; refine HCL.out.mono ?_; rintro _ y1 ⟨rfl, hw1, hc1⟩; have H1 := Lib.hid (And.intro hw1 hc1); clear hw1 hc1; go_simp)
    clear c1 c2 c3 c4 HCL
    have HB5 := Lib.hid (HIA.out y1 H1.out.2).2
    have HPA := Lib.hid (part_any (B := w.heap.size) HV0.out.2 H1.out.1 (by omega) (Nat.le_trans HS0.out.2.2.1 (ChT.size H1.out.2)) (fun w1 hc => (HIA.out w1 (H1.out.2.trans hc)).1) (Nat.le_trans HWc.out.size (Nat.le_trans HS0.out.2.2.1 (ChT.size H1.out.2))) (by have h := pack_le [p.s, p.si, p.d, p.di]; simp only [List.length_append, List.length_cons, List.length_nil] at h ⊢; omega))
    go_cut [] from 6 to 55 (fun wd => Hid (Wt wd wc.heap.size (wc.heap.size + 1) (bodyB p D) ∧ ChT wrTs wc.heap.size wb wd))
    case first =>
      as_aux_lemma =>
        go_wp2_with (first | (refine wpList_load_on (by rfl) 45 _ (by rfl) w.heap.size (by rfl) 45 p.cells (0, 0) _ HB5.out Tryd.underlying45 rfl (by kernel_rfl) ?_; simp only [Act.put, List.setIfInBounds_toArray, List.set_cons_zero, List.set_cons_succ]) | (go_at_call 40; refine HPA.out.mono ?_; rintro _ y2 ⟨rfl, hw2, hc2⟩; have H2 := Lib.hid (And.intro hw2 (H1.out.2.trans hc2)); clear hw2 hc2; go_simp))
        go_meet
        exact H2
    case rest =>
      have H2 := hcut
      clear hcut HPA HB5
      apply_assumption
      rename World => y2
      obtain ⟨bv, hbw, hbo⟩ := H2.out.1
      obtain ⟨Ab, cb, rfl, hcb, hcm⟩ := own_shape hbo
      have HBW2 := Lib.hid (And.intro hbw hbo)
      have c0 : y2.cell? ⟨wc.heap.size + 1, 0, none⟩ = some (.slice Ab (bodyB p D).length cb) := hbw.cell 0
      clear hbw hbo
      have HY2 : Hid (Below w.heap.size w y2) := Lib.hid ((HWc.out.trans (HS0.out.2.1.mono HWc.out.size)).trans ((H2.out.2.below HS0.out.2.2.1).mono HWc.out.size))
      have HSM := Lib.hid (Sum_any Ab (bodyB p D).length cb y2.heap.size (bodyB p D) y2 (Rd.of_own HBW2.out.2) (by simp only [maxLen] at hcm; omega) (nibs_below HT.out HY2.out))
      obtain ⟨sm, hsm⟩ : ∃ sm, sm = Crc.crc (bodyB p D) := ⟨_, rfl⟩
      have HSV := Lib.hid hsm
      rw [← hsm] at HSM
      clear hsm
      go_upto_region 7 with (go_at_call 41; refine HSM.out.mono ?_; rintro _ _ ⟨rfl, rfl⟩; go_simp)
      have hlen : (bodyB p D).length ≤ 100000 := body_le HV0.out.2 (HIN.out w (Below.refl _ _))
      have hrd : RdB (y2.alloc (.cells #[.int .u8 ((sm : Int) % 256), .int .u8 ((sm : Int) / 256 % 256), .int .u8 ((sm : Int) / 65536 % 256), .int .u8 ((sm : Int) / 16777216 % 256)] 5)) (y2.heap.size + 1) (some ⟨y2.heap.size, 0, none⟩) 4 (le4 sm) :=
        ⟨by simp [bvs, le4], fun _ => ⟨y2.heap.size, 0, rfl, by omega, fun j u hu => by
          rw [le4_bvs] at hu
          rw [Nat.zero_add, (Blk.new y2 5 _).cell j, ← Array.getElem?_toList]
          exact hu⟩⟩
      have HRD := Lib.hid hrd
      clear hrd
      go_wp2_with (at_builtin; refine wpList_append_any _ rfl _ _ _ (by rfl) wc.heap.size 5 i0 _ 1 1 u_bytes hi0 hz0 hz1 hz2 rfl (by omega) _ (bodyB p D).length (bvs (bodyB p D)) (by rfl) (own_over HBW2.out.2 (one_box _ _)) (y2.heap.size + 1) (some ⟨y2.heap.size, 0, none⟩) 4 4 (bvs (le4 sm)) (by rfl) HRD.out (bvs_one _) (by simp only [maxLen]; omega) (by omega) (Nat.le_trans (Nat.le_trans HS0.out.2.2.1 (ChT.size H2.out.2)) (one_box y2 _).size) ?_; intro v3 w3 ho3 hg3 _; have H3 := Lib.hid (And.intro ho3 hg3); clear ho3 hg3; go_simp)
      go_ret2
      have hbl := below_app (own_over HBW2.out.2 (one_box y2 _)) H3.out.2 (Nat.le_trans (Nat.le_trans HS0.out.2.2.1 (ChT.size H2.out.2)) (one_box y2 _).size)
      refine ⟨v3, rfl, ?_, (HY2.out.trans ((one_box y2 _).mono HY2.out.size)).trans (hbl.mono HWc.out.size)⟩
      have h := own_base H3.out.1 HWc.out.size
      rw [← bvs_append, HSV.out] at h
      unfold encB
      rw [List.length_append]
      exact h
set_option maxRecDepth 100000 in
set_option maxHeartbeats 3200000 in
theorem Encode_no (p : Pk) (D : PkD) (w : World) (hin : PkIn w w.heap.size p D) (hle : PkLe p) (hv : validB p D = false) :
    Calls Tryd.prog 11 #[.agg p.cells] w fun e w' => e = .returned (.tuple #[.slice none 0 0, .int .i64 16]) ∧ Below w.heap.size w w' := by
  obtain ⟨w0, hw0⟩ : ∃ x, x = w.alloc (.cells p.cells 45) := ⟨_, rfl⟩
  have HB : Hid (Blk w0 w.heap.size 45 p.cells) := Lib.hid (by rw [hw0]; exact Blk.new _ _ _)
  have HBW : Hid (Below w.heap.size w w0) := Lib.hid (by rw [hw0]; exact one_box _ _)
  have HVA := valid_any p D w0 (hin.over HBW.out) hle
  rw [hv] at HVA
  have HV := Lib.hid HVA
  clear HVA hin hv
  have HW0 := Lib.hid hw0
  clear hw0
  go_enter Tryd.func11, Tryd.ntmps11
  go_upto_region 1 with fail
  rw [← HW0.out]
  go_wp2_with (first | (refine wpList_load_on (by rfl) 45 _ (by rfl) w.heap.size (by rfl) 45 p.cells (0, 0) _ HB.out Tryd.underlying45 rfl (by kernel_rfl) ?_; simp only [Act.put, List.setIfInBounds_toArray, List.set_cons_zero, List.set_cons_succ]) | (go_at_call 38; refine HV.out.mono ?_; rintro _ w1 ⟨rfl, hb1⟩; have H1 := Lib.hid hb1; clear hb1; go_simp))
  go_ret2
  exact ⟨rfl, Below.then HBW.out H1.out⟩
end Go.Proofs.YtffcepaegcllmaaDoor
