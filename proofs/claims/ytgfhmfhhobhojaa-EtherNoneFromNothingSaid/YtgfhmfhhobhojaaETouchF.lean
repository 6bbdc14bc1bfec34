/-
  The program's network: touch, a bit turned.
-/
import Derived.Test.YtgfhmfhhobhojaaETouchW
namespace Go.Proofs.Ytgfhmfhhobhojaa
open Go.ChangeShapes Go.WideShapes Go.ChangeAt Go.RowKit
variable {w : World} {F : Nat → Prop} {c : ECfg} {D : Nat} {p : PV} {m : Nat}
set_option maxRecDepth 100000 in
set_option maxHeartbeats 3200000 in
theorem touch_16neg (h : PNx w F c D p m) {k : Nat} {f : Flt} (hk : p.way[k]? = some f) (hlen : p.way.length ≤ 1099511627776) (a b n : Int) (BA SA : Option Addr) (bn bc sn sc : Nat) (hno : n < 0) : Calls Try.prog 44 #[.pointer (some ⟨D, 0, none⟩), .int .i64 (k : Int), .agg #[.int .i64 16, .int .i64 a, .int .i64 b, .int .i64 n, .slice BA bn bc, .int .i64 0, .int .i64 0, .int .i64 0, .int .i64 0, .string ByteArray.empty, .string ByteArray.empty, .string ByteArray.empty, .slice SA sn sc]] w (StepP w F c D m (.int .i64 1) (p)) := by
  have hb0 := one_box' w (.cells #[.int .i64 16, .int .i64 a, .int .i64 b, .int .i64 n, .slice BA bn bc, .int .i64 0, .int .i64 0, .int .i64 0, .int .i64 0, .string ByteArray.empty, .string ByteArray.empty, .string ByteArray.empty, .slice SA sn sc] 41)
  have hE := Blk.new w 41 #[.int .i64 16, .int .i64 a, .int .i64 b, .int .i64 n, .slice BA bn bc, .int .i64 0, .int .i64 0, .int .i64 0, .int .i64 0, .string ByteArray.empty, .string ByteArray.empty, .string ByteArray.empty, .slice SA sn sc]
  obtain ⟨w0, hw0⟩ : ∃ w0, w0 = w.alloc (.cells #[.int .i64 16, .int .i64 a, .int .i64 b, .int .i64 n, .slice BA bn bc, .int .i64 0, .int .i64 0, .int .i64 0, .int .i64 0, .string ByteArray.empty, .string ByteArray.empty, .string ByteArray.empty, .slice SA sn sc] 41) := ⟨_, rfl⟩
  rw [← hw0] at hb0 hE
  have hp0 := h.below hb0
  obtain ⟨P, S, L, g, cap, X, y, hP, hkX, hXl, hXc, hx, hxw⟩ := hp0.flt0 hk hlen
  obtain ⟨m0, m1, m2, m3, m4⟩ := hP.fcell hx
  have HF0 := Lib.hid hp0.1
  have HFw := Lib.hid h.1
  have HX := Lib.hid h
  have HW := Lib.hid hw0
  have HB := Lib.hid hb0
  have HP := Lib.hid hP
  have HXk := Lib.hid hx
  have HXW := Lib.hid hxw
  have HE := Lib.hid hE
  have g6 : w0.cell? ⟨D, 6, none⟩ = some (.slice (some ⟨g, 0, none⟩) X.length cap) := hP.blk.cell 6
  have k0 : w0.cell? ⟨w.heap.size, 0, none⟩ = some (.int .i64 16) := hE.cell 0
  have k3 : w0.cell? ⟨w.heap.size, 3, none⟩ = some (.int .i64 n) := hE.cell 3
  have hkI : (k : Int) < (X.length : Int) := by omega
  have HS : Hid (∀ d, StepP w F c D m (.int .i64 1) p (.returned (.int .i64 1)) (w0.drewN d)) := Lib.hid fun d => StepP.same HX.out (below_drewN hb0 d)
  have e1 : decide (n < 0) = true := by simpa using hno
  have j3 : ∀ d, (w0.drewN d).cell? ⟨w.heap.size, 3, none⟩ = some (.int .i64 n) := fun d => k3
  have J3 := Lib.hid j3
  clear hw0 hb0 hE hp0 h hP hx hxw m0 m1 m2 m3 m4 j3
  go_enter Try.func44, Try.ntmps44
  go_upto_region 1 with fail
  rw [← HW.out]
  go_upto_region 14 with fail
  go_quiet (fail)
  have HS2 := Lib.hid (HS.out nq)
  go_wp2
  go_ret
  exact HS2.out
def flipF (f : Flt) (r : Nat) : Flt := { f with bs := f.bs.set (r / 8) (flipV (f.bs.getD (r / 8) 0) (r % 8)) }
theorem shl1 (r : Nat) (W : World) : Sem.run Try.prog (Op.shift BinOp.shl IntKind.u8 1 IntKind.i64 ((r : Int).tmod 8)) W = .ok (.int .u8 ((2 : Int) ^ (r % 8))) W := by
  have e : (r : Int).tmod 8 = ((r % 8 : Nat) : Int) := by rw [Int.tmod_eq_emod_of_nonneg (by omega)]; omega
  rw [e]
  have h : r % 8 < 8 := by omega
  generalize r % 8 = q at h
  match q, h with
  | 0, _ => rfl
  | 1, _ => rfl
  | 2, _ => rfl
  | 3, _ => rfl
  | 4, _ => rfl
  | 5, _ => rfl
  | 6, _ => rfl
  | 7, _ => rfl
theorem xor_all : ((List.range 256).all fun n => (List.range 8).all fun q => decide (Go.bits .xor .u8 (n : Int) ((2 : Int) ^ q) = ((flipV (UInt8.ofNat n) q).toNat : Int))) = true := by kernel_rfl
theorem xor1 (x : UInt8) (r : Nat) : Go.bits .xor .u8 (x.toNat : Int) ((2 : Int) ^ (r % 8)) = ((flipV x (r % 8)).toNat : Int) := by
  have h := xor_all
  simp only [List.all_eq_true, List.mem_range] at h
  have h2 := of_decide_eq_true (h x.toNat (UInt8.toNat_lt x) (r % 8) (by omega))
  rwa [UInt8.ofNat_toNat] at h2
theorem div8 (r : Nat) : (r : Int) / 8 = ((r / 8 : Nat) : Int) := by omega
set_option maxRecDepth 100000 in
set_option maxHeartbeats 3200000 in
theorem touch_16big (h : PNx w F c D p m) {k : Nat} {f : Flt} (hk : p.way[k]? = some f) (hlen : p.way.length ≤ 1099511627776) (a b n : Int) (BA SA : Option Addr) (bn bc sn sc : Nat) (r : Nat) (hr : n = (r : Int)) (hr2 : r ≤ 9223372036854775807) (hno : f.bs.length ≤ r / 8) : Calls Try.prog 44 #[.pointer (some ⟨D, 0, none⟩), .int .i64 (k : Int), .agg #[.int .i64 16, .int .i64 a, .int .i64 b, .int .i64 n, .slice BA bn bc, .int .i64 0, .int .i64 0, .int .i64 0, .int .i64 0, .string ByteArray.empty, .string ByteArray.empty, .string ByteArray.empty, .slice SA sn sc]] w (StepP w F c D m (.int .i64 1) (p)) := by
  have hb0 := one_box' w (.cells #[.int .i64 16, .int .i64 a, .int .i64 b, .int .i64 n, .slice BA bn bc, .int .i64 0, .int .i64 0, .int .i64 0, .int .i64 0, .string ByteArray.empty, .string ByteArray.empty, .string ByteArray.empty, .slice SA sn sc] 41)
  have hE := Blk.new w 41 #[.int .i64 16, .int .i64 a, .int .i64 b, .int .i64 n, .slice BA bn bc, .int .i64 0, .int .i64 0, .int .i64 0, .int .i64 0, .string ByteArray.empty, .string ByteArray.empty, .string ByteArray.empty, .slice SA sn sc]
  obtain ⟨w0, hw0⟩ : ∃ w0, w0 = w.alloc (.cells #[.int .i64 16, .int .i64 a, .int .i64 b, .int .i64 n, .slice BA bn bc, .int .i64 0, .int .i64 0, .int .i64 0, .int .i64 0, .string ByteArray.empty, .string ByteArray.empty, .string ByteArray.empty, .slice SA sn sc] 41) := ⟨_, rfl⟩
  rw [← hw0] at hb0 hE
  have hp0 := h.below hb0
  obtain ⟨P, S, L, g, cap, X, y, hP, hkX, hXl, hXc, hx, hxw⟩ := hp0.flt0 hk hlen
  obtain ⟨m0, m1, m2, m3, m4⟩ := hP.fcell hx
  have HF0 := Lib.hid hp0.1
  have HFw := Lib.hid h.1
  have HX := Lib.hid h
  have HW := Lib.hid hw0
  have HB := Lib.hid hb0
  have HP := Lib.hid hP
  have HXk := Lib.hid hx
  have HXW := Lib.hid hxw
  have HE := Lib.hid hE
  have g6 : w0.cell? ⟨D, 6, none⟩ = some (.slice (some ⟨g, 0, none⟩) X.length cap) := hP.blk.cell 6
  have k0 : w0.cell? ⟨w.heap.size, 0, none⟩ = some (.int .i64 16) := hE.cell 0
  have k3 : w0.cell? ⟨w.heap.size, 3, none⟩ = some (.int .i64 n) := hE.cell 3
  have hkI : (k : Int) < (X.length : Int) := by omega
  have HS : Hid (∀ d, StepP w F c D m (.int .i64 1) p (.returned (.int .i64 1)) (w0.drewN d)) := Lib.hid fun d => StepP.same HX.out (below_drewN hb0 d)
  obtain rfl := hr
  have e1 : decide ((r : Int) < 0) = false := by simp
  have e3 : (r : Int) / 8 = ((r / 8 : Nat) : Int) := div8 r
  have e4 : (f.bs.length : Int) ≤ ((r / 8 : Nat) : Int) := by omega
  have e4b : decide (((r / 8 : Nat) : Int) ≥ (f.bs.length : Int)) = true := by simp; omega
  generalize r / 8 = r8 at *
  clear hw0 hb0 hE hp0 h hP hx hxw m0 m1 m2 m3
  go_enter Try.func44, Try.ntmps44
  go_upto_region 1 with fail
  rw [← HW.out]
  go_upto_region 14 with fail
  go_quiet (fail)
  have HS2 := Lib.hid (HS.out nq)
  go_wp2
  go_ret
  exact HS2.out
set_option maxRecDepth 100000 in
set_option maxHeartbeats 3200000 in
theorem touch_16yes (h : PNx w F c D p m) {k : Nat} {f : Flt} (hk : p.way[k]? = some f) (hlen : p.way.length ≤ 1099511627776) (a b n : Int) (BA SA : Option Addr) (bn bc sn sc : Nat) (r : Nat) (hr : n = (r : Int)) (hr2 : r ≤ 9223372036854775807) (hno : r / 8 < f.bs.length) : Calls Try.prog 44 #[.pointer (some ⟨D, 0, none⟩), .int .i64 (k : Int), .agg #[.int .i64 16, .int .i64 a, .int .i64 b, .int .i64 n, .slice BA bn bc, .int .i64 0, .int .i64 0, .int .i64 0, .int .i64 0, .string ByteArray.empty, .string ByteArray.empty, .string ByteArray.empty, .slice SA sn sc]] w (StepP w F c D m (.int .i64 0) ({ p with way := p.way.set k (flipF f r) })) := by
  have hb0 := one_box' w (.cells #[.int .i64 16, .int .i64 a, .int .i64 b, .int .i64 n, .slice BA bn bc, .int .i64 0, .int .i64 0, .int .i64 0, .int .i64 0, .string ByteArray.empty, .string ByteArray.empty, .string ByteArray.empty, .slice SA sn sc] 41)
  have hE := Blk.new w 41 #[.int .i64 16, .int .i64 a, .int .i64 b, .int .i64 n, .slice BA bn bc, .int .i64 0, .int .i64 0, .int .i64 0, .int .i64 0, .string ByteArray.empty, .string ByteArray.empty, .string ByteArray.empty, .slice SA sn sc]
  obtain ⟨w0, hw0⟩ : ∃ w0, w0 = w.alloc (.cells #[.int .i64 16, .int .i64 a, .int .i64 b, .int .i64 n, .slice BA bn bc, .int .i64 0, .int .i64 0, .int .i64 0, .int .i64 0, .string ByteArray.empty, .string ByteArray.empty, .string ByteArray.empty, .slice SA sn sc] 41) := ⟨_, rfl⟩
  rw [← hw0] at hb0 hE
  have hp0 := h.below hb0
  obtain ⟨P, S, L, g, cap, X, y, hP, hkX, hXl, hXc, hx, hxw⟩ := hp0.flt0 hk hlen
  obtain ⟨m0, m1, m2, m3, m4⟩ := hP.fcell hx
  have HF0 := Lib.hid hp0.1
  have HFw := Lib.hid h.1
  have HX := Lib.hid h
  have HW := Lib.hid hw0
  have HB := Lib.hid hb0
  have HP := Lib.hid hP
  have HXk := Lib.hid hx
  have HXW := Lib.hid hxw
  have HE := Lib.hid hE
  have g6 : w0.cell? ⟨D, 6, none⟩ = some (.slice (some ⟨g, 0, none⟩) X.length cap) := hP.blk.cell 6
  have k0 : w0.cell? ⟨w.heap.size, 0, none⟩ = some (.int .i64 16) := hE.cell 0
  have k3 : w0.cell? ⟨w.heap.size, 3, none⟩ = some (.int .i64 n) := hE.cell 3
  have hkI : (k : Int) < (X.length : Int) := by omega
  obtain rfl := hr
  have e1 : decide ((r : Int) < 0) = false := by simp
  have e3 : (r : Int) / 8 = ((r / 8 : Nat) : Int) := div8 r
  have e4 : ¬ (f.bs.length : Int) ≤ ((r / 8 : Nat) : Int) := by omega
  have e4b : decide (((r / 8 : Nat) : Int) ≥ (f.bs.length : Int)) = false := by simp; omega
  have e5 : ((r / 8 : Nat) : Int) < (f.bs.length : Int) := by omega
  have e7 : IntKind.i64.wrap ((r / 8 : Nat) : Int) = ((r / 8 : Nat) : Int) := IntWalk.i64_in _ (by omega)
  have e8 := shl1 r
  have hxm := List.mem_of_getElem? hx
  have hy := hP.bytes _ hxm
  obtain ⟨cb, hcb⟩ : ∃ cb, cb = f.bs.getD (r / 8) 0 := ⟨_, rfl⟩
  have b0 : w0.cell? ⟨y, r / 8, none⟩ = some (.int .u8 (cb.toNat : Int)) := by
    rw [hy.cell, List.getElem?_toArray]
    exact bvs_at (by rw [hcb, List.getD_eq_getElem?_getD, List.getElem?_eq_getElem hno]; rfl)
  have HCB := Lib.hid hcb
  have e9 := xor1 cb r
  clear hcb
  generalize hr8 : r / 8 = r8 at *
  have HR8 := Lib.hid hr8
  clear hr8
  clear hw0 hb0 hE hp0 h hP hx hxw m0 m1 m2 m3
  go_enter Try.func44, Try.ntmps44
  go_upto_region 1 with fail
  rw [← HW.out]
  go_upto_region 14 with fail
  go_quiet (fail)
  obtain ⟨w1, hw1⟩ : ∃ w1, w1 = (w0.drewN nq).drew := ⟨_, rfl⟩
  have k3' : w1.cell? ⟨w.heap.size, 3, none⟩ = some (.int .i64 (r : Int)) := by rw [hw1]; exact k3
  have b0' : w1.cell? ⟨y, r8, none⟩ = some (.int .u8 (cb.toNat : Int)) := by rw [hw1]; exact b0
  have m4' : w1.cell? ⟨g, k * 5 + 4, none⟩ = some (.slice (some ⟨y, 0, none⟩) f.bs.length f.bs.length) := by rw [hw1]; exact m4
  have HW1 := Lib.hid hw1
  have hP1 : PN w1 F c D p m P S L (.slice (some ⟨g, 0, none⟩) X.length cap) X := by rw [hw1]; exact HP.out.below HF0.out (below_drewN (below_drewN (Below.refl _ _) nq) 1)
  have qf : w1.frozen? ⟨y, r8, none⟩ = false := (hP1.bytes _ (List.mem_of_getElem? HXk.out)).frozen _
  obtain ⟨w2, hw2⟩ : ∃ w2, w2 = w1.setCell ⟨y, r8, none⟩ (.int .u8 ((flipV cb (r % 8)).toNat : Int)) := ⟨_, rfl⟩
  have HS : Hid (StepP w F c D m (.int .i64 0) { p with way := p.way.set k (flipF f r) } (.returned (.int .i64 0)) w2) := by
    have hc : Chg F w w2 := by
      rw [hw2, hw1]
      exact (((Chg.of_below HB.out F).drewN nq).drewN 1).setCell (.inl (HP.out.fx _ (List.mem_of_getElem? HXk.out))) _
    have hs := hP1.setY (q := r8) (b := flipV cb (r % 8)) HXk.out
    have hfl : ({ f with bs := f.bs.set r8 (flipV cb (r % 8)) } : Flt) = flipF f r := by unfold flipF; rw [HR8.out, ← HCB.out]
    rw [← hw2, hfl] at hs
    exact Lib.hid ⟨rfl, F, ⟨fun q hq => Nat.lt_of_lt_of_le (HFw.out q hq) hc.size, P, S, L, _, _, hs⟩, fun _ h => .inl h, hc⟩
  have HW2 := Lib.hid hw2
  clear hw1 hw2 hP1
  go_upto_region 16 with fail
  refine region_tail 15 (by kernel_rfl) (by kernel_rfl) ?_
  simp only [List.take_succ_cons, List.take_zero, List.drop_succ_cons, List.drop_zero]
  rw [← HW1.out]
  repeat still_step
  refine wpStill_nil ?_
  change wpList _ _ _ _ _ w1
  go_upto_region 17 with fail
  rw [← HW2.out]
  go_wp2
  go_ret
  exact HS.out
end Go.Proofs.Ytgfhmfhhobhojaa
