/-
  The document's network: Do.
-/
import Derived.Test.YtgfhmfhhobhojaaERefY
namespace Go.Proofs.Ytgfhmfhhobhojaa
open Go.ChangeShapes Go.WideShapes Go.ChangeAt Go.RowKit
variable {w : World} {F : Nat → Prop} {c : ECfg} {D : Nat} {r : RV}
def pathD (r : RV) (i j : Nat) (kd n : Int) : Int × RV :=
  if kd = 8 then (0, { r with shut := updS r.shut i j true })
  else if kd = 9 then (0, { r with shut := updS r.shut i j false })
  else (if 1 ≤ n ∧ n ≤ 16 then (0, { r with slow := upd2 r.slow i j n.toNat }) else (1, r))
def pktD (c : ECfg) (r : RV) (i : Nat) (f : Flt) (kd n : Int) : Int × RV :=
  if kd = 12 then (0, { r with all := r.all.set i (f, true) })
  else if kd = 13 then (if c.room ≤ (wayOf r.all).length then (31, r) else (0, putR r f.src f.dst f.due f.bs))
  else if kd = 15 then (if 1 ≤ n ∧ n ≤ 16 then (0, { r with all := r.all.set i ({ f with due := f.due + n.toNat }, false) }) else (1, r))
  else (if 0 ≤ n ∧ n.toNat / 8 < f.bs.length then (0, { r with all := r.all.set i (flipF f n.toNat, false) }) else (1, r))
def atD (c : ECfg) (r : RV) (a kd n : Int) : Int × RV :=
  match (idxOf r.all)[a.toNat]? with
  | none => (34, r)
  | some i => match r.all[i]? with
    | none => (34, r)
    | some x => pktD c r i x.1 kd n
def rdoD (c : ECfg) (r : RV) (e : Evt) : Int × RV :=
  if e.kd = 8 ∨ e.kd = 9 ∨ e.kd = 10 then (if joinB c e.a e.b = true then pathD r e.a.toNat e.b.toNat e.kd e.n else (1, r))
  else if e.kd = 11 then (if splitB c e.sides = true then (0, splitRP c r e.sides) else (1, r))
  else if e.kd = 12 ∨ e.kd = 13 ∨ e.kd = 15 ∨ e.kd = 16 then (if 0 ≤ e.a then atD c r e.a e.kd e.n else (34, r))
  else if e.kd = 17 then (postRE c r e.a e.b e.bs.length false, postRP c r e.a e.b e.bs false)
  else (1, r)
theorem doPath_any (hc : c.Ok) (h : RNx w F c D r) (kd a b n : Int) (BA SA : Option Addr) (bn bc sn sc : Nat) (hk : kd = 8 ∨ kd = 9 ∨ kd = 10) : Calls Try.prog 83 #[.pointer (some ⟨D, 0, none⟩), .agg #[.int .i64 kd, .int .i64 a, .int .i64 b, .int .i64 n, .slice BA bn bc, .int .i64 0, .int .i64 0, .int .i64 0, .int .i64 0, .string ByteArray.empty, .string ByteArray.empty, .string ByteArray.empty, .slice SA sn sc]] w (StepR w F c D (.int .i64 (if joinB c a b = true then pathD r a.toNat b.toNat kd n else (1, r)).1) (if joinB c a b = true then pathD r a.toNat b.toNat kd n else (1, r)).2) := by
  rcases joinB_cases c a b with ⟨i, j, rfl, rfl, hi, hj, hij, hJ⟩ | hJ
  · rw [if_pos hJ]
    simp only [Int.toNat_natCast]
    rcases hk with rfl | rfl | rfl
    · exact doPath_8 hc h _ _ n BA SA bn bc sn sc hi hj hJ rfl rfl
    · exact doPath_9 hc h _ _ n BA SA bn bc sn sc hi hj hJ rfl rfl
    · simp only [pathD, Int.reduceEq, if_false]
      by_cases hn : 1 ≤ n ∧ n ≤ 16
      · rw [if_pos hn]
        exact doPath_10yes hc h _ _ n BA SA bn bc sn sc hi hj hJ rfl rfl n.toNat (by omega) (by omega) (by omega)
      · rw [if_neg hn]
        exact doPath_10no hc h _ _ n BA SA bn bc sn sc hi hj hJ rfl rfl (by omega)
  · rw [if_neg (by simp [hJ])]
    exact doPath_none hc h a b n BA SA bn bc sn sc kd hJ
theorem doPkt_any (hc : c.Ok) (h : RNx w F c D r) (hf : RFine r) {i : Nat} {f : Flt} (hfi : r.all[i]? = some (f, false)) (kd a b n : Int) (BA SA : Option Addr) (bn bc sn sc : Nat) (hk : kd = 12 ∨ kd = 13 ∨ kd = 15 ∨ kd = 16) (hn : n ≤ 9223372036854775807) : Calls Try.prog 85 #[.pointer (some ⟨D, 0, none⟩), .agg #[.int .i64 kd, .int .i64 a, .int .i64 b, .int .i64 n, .slice BA bn bc, .int .i64 0, .int .i64 0, .int .i64 0, .int .i64 0, .string ByteArray.empty, .string ByteArray.empty, .string ByteArray.empty, .slice SA sn sc], .int .i64 (i : Int)] w (StepR w F c D (.int .i64 (pktD c r i f kd n).1) (pktD c r i f kd n).2) := by
  rcases hk with rfl | rfl | rfl | rfl
  · exact doPkt_12 hc h hf hfi a b n BA SA bn bc sn sc
  · simp only [pktD, Int.reduceEq, if_false, if_true]
    by_cases hr : c.room ≤ (wayOf r.all).length
    · rw [if_pos hr]; exact doPkt_13no hc h hf hfi a b n BA SA bn bc sn sc hr
    · rw [if_neg hr]; exact doPkt_13yes hc h hf hfi a b n BA SA bn bc sn sc hr
  · simp only [pktD, Int.reduceEq, if_false, if_true]
    by_cases hr : 1 ≤ n ∧ n ≤ 16
    · rw [if_pos hr]; exact doPkt_15yes hc h hf hfi a b n BA SA bn bc sn sc n.toNat (by omega) (by omega) (by omega)
    · rw [if_neg hr]; exact doPkt_15no hc h hf hfi a b n BA SA bn bc sn sc (by omega)
  · simp only [pktD, Int.reduceEq, if_false]
    by_cases hr : 0 ≤ n ∧ n.toNat / 8 < f.bs.length
    · rw [if_pos hr]; exact doPkt_16yes hc h hf hfi a b n BA SA bn bc sn sc n.toNat (by omega) (by omega) hr.2
    · rw [if_neg hr]
      by_cases h0 : n < 0
      · exact doPkt_16neg hc h hf hfi a b n BA SA bn bc sn sc h0
      · exact doPkt_16big hc h hf hfi a b n BA SA bn bc sn sc n.toNat (by omega) (by omega) (by omega)
set_option maxRecDepth 100000 in
set_option maxHeartbeats 3200000 in
theorem RDo_path (hc : c.Ok) (h : RNx w F c D r) (hf : RFine r) (a b n : Int) (BA SA : Option Addr) (bc sn sc : Nat) (bs : List UInt8) (_sides : List Int) (kd : Int) (hk : kd = 8 ∨ kd = 9 ∨ kd = 10) : Calls Try.prog 76 #[.pointer (some ⟨D, 0, none⟩), .agg #[.int .i64 kd, .int .i64 a, .int .i64 b, .int .i64 n, .slice BA bs.length bc, .int .i64 0, .int .i64 0, .int .i64 0, .int .i64 0, .string ByteArray.empty, .string ByteArray.empty, .string ByteArray.empty, .slice SA sn sc]] w (StepR w F c D (.int .i64 (if joinB c a b = true then pathD r a.toNat b.toNat kd n else (1, r)).1) ((if joinB c a b = true then pathD r a.toNat b.toNat kd n else (1, r)).2)) := by
  have hb0 := one_box' w (.cells #[.int .i64 kd, .int .i64 a, .int .i64 b, .int .i64 n, .slice BA bs.length bc, .int .i64 0, .int .i64 0, .int .i64 0, .int .i64 0, .string ByteArray.empty, .string ByteArray.empty, .string ByteArray.empty, .slice SA sn sc] 41)
  have hE := Blk.new w 41 #[.int .i64 kd, .int .i64 a, .int .i64 b, .int .i64 n, .slice BA bs.length bc, .int .i64 0, .int .i64 0, .int .i64 0, .int .i64 0, .string ByteArray.empty, .string ByteArray.empty, .string ByteArray.empty, .slice SA sn sc]
  obtain ⟨w0, hw0⟩ : ∃ w0, w0 = w.alloc (.cells #[.int .i64 kd, .int .i64 a, .int .i64 b, .int .i64 n, .slice BA bs.length bc, .int .i64 0, .int .i64 0, .int .i64 0, .int .i64 0, .string ByteArray.empty, .string ByteArray.empty, .string ByteArray.empty, .slice SA sn sc] 41) := ⟨_, rfl⟩
  rw [← hw0] at hb0 hE
  have hp0 := h.below hb0
  have HW0 := Lib.hid hw0
  have HB0 := Lib.hid hb0
  have HH := Lib.hid h
  have HFN := Lib.hid hf
  have hs0 := hb0.size
  have x0 : w0.cell? ⟨w.heap.size, 0, none⟩ = some (.int .i64 kd) := hE.cell 0
  have x1 : w0.cell? ⟨w.heap.size, 1, none⟩ = some (.int .i64 a) := hE.cell 1
  have x2 : w0.cell? ⟨w.heap.size, 2, none⟩ = some (.int .i64 b) := hE.cell 2
  have x3 : w0.cell? ⟨w.heap.size, 3, none⟩ = some (.int .i64 n) := hE.cell 3
  have x4 : w0.cell? ⟨w.heap.size, 4, none⟩ = some (.slice BA bs.length bc) := hE.cell 4
  have x5 : w0.cell? ⟨w.heap.size, 5, none⟩ = some (.int .i64 0) := hE.cell 5
  have x6 : w0.cell? ⟨w.heap.size, 6, none⟩ = some (.int .i64 0) := hE.cell 6
  have x7 : w0.cell? ⟨w.heap.size, 7, none⟩ = some (.int .i64 0) := hE.cell 7
  have x8 : w0.cell? ⟨w.heap.size, 8, none⟩ = some (.int .i64 0) := hE.cell 8
  have x9 : w0.cell? ⟨w.heap.size, 9, none⟩ = some (.string ByteArray.empty) := hE.cell 9
  have x10 : w0.cell? ⟨w.heap.size, 10, none⟩ = some (.string ByteArray.empty) := hE.cell 10
  have x11 : w0.cell? ⟨w.heap.size, 11, none⟩ = some (.string ByteArray.empty) := hE.cell 11
  have x12 : w0.cell? ⟨w.heap.size, 12, none⟩ = some (.slice SA sn sc) := hE.cell 12
  have HC := Lib.hid (doPath_any hc hp0 kd a b n BA SA bs.length bc sn sc hk)
  generalize (if joinB c a b = true then pathD r a.toNat b.toNat kd n else (1, r)) = y at *
  clear hw0 hb0 hE hp0 h hf hc
  rcases hk with rfl | rfl | rfl
  · go_enter Try.func76, Try.ntmps76
    go_upto_region 1 with fail
    rw [← HW0.out]
    go_wp2_with (go_at_call 83; refine HC.out.mono ?_; rintro _ w3 hst; have hv := hst.1; subst hv; have HST := Lib.hid hst; clear hst)
    go_ret
    exact StepR.behind HB0.out HST.out
  · go_enter Try.func76, Try.ntmps76
    go_upto_region 1 with fail
    rw [← HW0.out]
    go_wp2_with (go_at_call 83; refine HC.out.mono ?_; rintro _ w3 hst; have hv := hst.1; subst hv; have HST := Lib.hid hst; clear hst)
    go_ret
    exact StepR.behind HB0.out HST.out
  · go_enter Try.func76, Try.ntmps76
    go_upto_region 1 with fail
    rw [← HW0.out]
    go_wp2_with (go_at_call 83; refine HC.out.mono ?_; rintro _ w3 hst; have hv := hst.1; subst hv; have HST := Lib.hid hst; clear hst)
    go_ret
    exact StepR.behind HB0.out HST.out
set_option maxRecDepth 100000 in
set_option maxHeartbeats 3200000 in
theorem RDo_split_yes (hc : c.Ok) (h : RNx w F c D r) (hf : RFine r) (a b n : Int) (BA SA : Option Addr) (bc sn sc : Nat) (bs : List UInt8) (sides : List Int) (hok : splitB c sides = true) (hr : RdI w w.heap.size SA sn sides) (hsn : sn ≤ 140737488351232) (hSA : 0 < sn → ∀ b o s, SA = some ⟨b, o, s⟩ → ¬ F b) : Calls Try.prog 76 #[.pointer (some ⟨D, 0, none⟩), .agg #[.int .i64 11, .int .i64 a, .int .i64 b, .int .i64 n, .slice BA bs.length bc, .int .i64 0, .int .i64 0, .int .i64 0, .int .i64 0, .string ByteArray.empty, .string ByteArray.empty, .string ByteArray.empty, .slice SA sn sc]] w (StepR w F c D (.int .i64 0) (splitRP c r sides)) := by
  have hb0 := one_box' w (.cells #[.int .i64 11, .int .i64 a, .int .i64 b, .int .i64 n, .slice BA bs.length bc, .int .i64 0, .int .i64 0, .int .i64 0, .int .i64 0, .string ByteArray.empty, .string ByteArray.empty, .string ByteArray.empty, .slice SA sn sc] 41)
  have hE := Blk.new w 41 #[.int .i64 11, .int .i64 a, .int .i64 b, .int .i64 n, .slice BA bs.length bc, .int .i64 0, .int .i64 0, .int .i64 0, .int .i64 0, .string ByteArray.empty, .string ByteArray.empty, .string ByteArray.empty, .slice SA sn sc]
  obtain ⟨w0, hw0⟩ : ∃ w0, w0 = w.alloc (.cells #[.int .i64 11, .int .i64 a, .int .i64 b, .int .i64 n, .slice BA bs.length bc, .int .i64 0, .int .i64 0, .int .i64 0, .int .i64 0, .string ByteArray.empty, .string ByteArray.empty, .string ByteArray.empty, .slice SA sn sc] 41) := ⟨_, rfl⟩
  rw [← hw0] at hb0 hE
  have hp0 := h.below hb0
  have HW0 := Lib.hid hw0
  have HB0 := Lib.hid hb0
  have HH := Lib.hid h
  have HFN := Lib.hid hf
  have hs0 := hb0.size
  have x0 : w0.cell? ⟨w.heap.size, 0, none⟩ = some (.int .i64 11) := hE.cell 0
  have x1 : w0.cell? ⟨w.heap.size, 1, none⟩ = some (.int .i64 a) := hE.cell 1
  have x2 : w0.cell? ⟨w.heap.size, 2, none⟩ = some (.int .i64 b) := hE.cell 2
  have x3 : w0.cell? ⟨w.heap.size, 3, none⟩ = some (.int .i64 n) := hE.cell 3
  have x4 : w0.cell? ⟨w.heap.size, 4, none⟩ = some (.slice BA bs.length bc) := hE.cell 4
  have x5 : w0.cell? ⟨w.heap.size, 5, none⟩ = some (.int .i64 0) := hE.cell 5
  have x6 : w0.cell? ⟨w.heap.size, 6, none⟩ = some (.int .i64 0) := hE.cell 6
  have x7 : w0.cell? ⟨w.heap.size, 7, none⟩ = some (.int .i64 0) := hE.cell 7
  have x8 : w0.cell? ⟨w.heap.size, 8, none⟩ = some (.int .i64 0) := hE.cell 8
  have x9 : w0.cell? ⟨w.heap.size, 9, none⟩ = some (.string ByteArray.empty) := hE.cell 9
  have x10 : w0.cell? ⟨w.heap.size, 10, none⟩ = some (.string ByteArray.empty) := hE.cell 10
  have x11 : w0.cell? ⟨w.heap.size, 11, none⟩ = some (.string ByteArray.empty) := hE.cell 11
  have x12 : w0.cell? ⟨w.heap.size, 12, none⟩ = some (.slice SA sn sc) := hE.cell 12
  have HC : Hid (Calls Try.prog 84 #[.pointer (some ⟨D, 0, none⟩), .slice SA sn sc] w0 (StepR w0 F c D (.int .i64 0) (splitRP c r sides))) := Lib.hid ((rsplit_any hc hp0 SA sn sc sides ((hr.below hb0).more hs0) hsn hSA).mono fun e w' hst => by
    obtain ⟨_, hst⟩ | ⟨hno, _⟩ := hst
    · exact hst
    · rw [hok] at hno; cases hno)
  clear hw0 hb0 hE hp0 h hf hc hr hok hSA
  go_enter Try.func76, Try.ntmps76
  go_upto_region 1 with fail
  rw [← HW0.out]
  go_wp2_with (go_at_call 84; refine HC.out.mono ?_; rintro _ w3 hst; have hv := hst.1; subst hv; have HST := Lib.hid hst; clear hst)
  go_ret
  exact StepR.behind HB0.out HST.out
set_option maxRecDepth 100000 in
set_option maxHeartbeats 3200000 in
theorem RDo_split_no (hc : c.Ok) (h : RNx w F c D r) (hf : RFine r) (a b n : Int) (BA SA : Option Addr) (bc sn sc : Nat) (bs : List UInt8) (sides : List Int) (hok : splitB c sides = false) (hr : RdI w w.heap.size SA sn sides) (hsn : sn ≤ 140737488351232) (hSA : 0 < sn → ∀ b o s, SA = some ⟨b, o, s⟩ → ¬ F b) : Calls Try.prog 76 #[.pointer (some ⟨D, 0, none⟩), .agg #[.int .i64 11, .int .i64 a, .int .i64 b, .int .i64 n, .slice BA bs.length bc, .int .i64 0, .int .i64 0, .int .i64 0, .int .i64 0, .string ByteArray.empty, .string ByteArray.empty, .string ByteArray.empty, .slice SA sn sc]] w (StepR w F c D (.int .i64 1) (r)) := by
  have hb0 := one_box' w (.cells #[.int .i64 11, .int .i64 a, .int .i64 b, .int .i64 n, .slice BA bs.length bc, .int .i64 0, .int .i64 0, .int .i64 0, .int .i64 0, .string ByteArray.empty, .string ByteArray.empty, .string ByteArray.empty, .slice SA sn sc] 41)
  have hE := Blk.new w 41 #[.int .i64 11, .int .i64 a, .int .i64 b, .int .i64 n, .slice BA bs.length bc, .int .i64 0, .int .i64 0, .int .i64 0, .int .i64 0, .string ByteArray.empty, .string ByteArray.empty, .string ByteArray.empty, .slice SA sn sc]
  obtain ⟨w0, hw0⟩ : ∃ w0, w0 = w.alloc (.cells #[.int .i64 11, .int .i64 a, .int .i64 b, .int .i64 n, .slice BA bs.length bc, .int .i64 0, .int .i64 0, .int .i64 0, .int .i64 0, .string ByteArray.empty, .string ByteArray.empty, .string ByteArray.empty, .slice SA sn sc] 41) := ⟨_, rfl⟩
  rw [← hw0] at hb0 hE
  have hp0 := h.below hb0
  have HW0 := Lib.hid hw0
  have HB0 := Lib.hid hb0
  have HH := Lib.hid h
  have HFN := Lib.hid hf
  have hs0 := hb0.size
  have x0 : w0.cell? ⟨w.heap.size, 0, none⟩ = some (.int .i64 11) := hE.cell 0
  have x1 : w0.cell? ⟨w.heap.size, 1, none⟩ = some (.int .i64 a) := hE.cell 1
  have x2 : w0.cell? ⟨w.heap.size, 2, none⟩ = some (.int .i64 b) := hE.cell 2
  have x3 : w0.cell? ⟨w.heap.size, 3, none⟩ = some (.int .i64 n) := hE.cell 3
  have x4 : w0.cell? ⟨w.heap.size, 4, none⟩ = some (.slice BA bs.length bc) := hE.cell 4
  have x5 : w0.cell? ⟨w.heap.size, 5, none⟩ = some (.int .i64 0) := hE.cell 5
  have x6 : w0.cell? ⟨w.heap.size, 6, none⟩ = some (.int .i64 0) := hE.cell 6
  have x7 : w0.cell? ⟨w.heap.size, 7, none⟩ = some (.int .i64 0) := hE.cell 7
  have x8 : w0.cell? ⟨w.heap.size, 8, none⟩ = some (.int .i64 0) := hE.cell 8
  have x9 : w0.cell? ⟨w.heap.size, 9, none⟩ = some (.string ByteArray.empty) := hE.cell 9
  have x10 : w0.cell? ⟨w.heap.size, 10, none⟩ = some (.string ByteArray.empty) := hE.cell 10
  have x11 : w0.cell? ⟨w.heap.size, 11, none⟩ = some (.string ByteArray.empty) := hE.cell 11
  have x12 : w0.cell? ⟨w.heap.size, 12, none⟩ = some (.slice SA sn sc) := hE.cell 12
  have HC : Hid (Calls Try.prog 84 #[.pointer (some ⟨D, 0, none⟩), .slice SA sn sc] w0 (StepR w0 F c D (.int .i64 1) (r))) := Lib.hid ((rsplit_any hc hp0 SA sn sc sides ((hr.below hb0).more hs0) hsn hSA).mono fun e w' hst => by
    obtain ⟨hno, _⟩ | ⟨_, hst⟩ := hst
    · rw [hok] at hno; cases hno
    · exact hst)
  clear hw0 hb0 hE hp0 h hf hc hr hok hSA
  go_enter Try.func76, Try.ntmps76
  go_upto_region 1 with fail
  rw [← HW0.out]
  go_wp2_with (go_at_call 84; refine HC.out.mono ?_; rintro _ w3 hst; have hv := hst.1; subst hv; have HST := Lib.hid hst; clear hst)
  go_ret
  exact StepR.behind HB0.out HST.out
set_option maxRecDepth 100000 in
set_option maxHeartbeats 3200000 in
theorem RDo_none (_hc : c.Ok) (h : RNx w F c D r) (hf : RFine r) (a b n : Int) (BA SA : Option Addr) (bc sn sc : Nat) (bs : List UInt8) (_sides : List Int) (kd : Int) (hk : kd = 12 ∨ kd = 13 ∨ kd = 15 ∨ kd = 16) (hno : a < 0 ∨ ((wayOf r.all).length : Int) ≤ a) : Calls Try.prog 76 #[.pointer (some ⟨D, 0, none⟩), .agg #[.int .i64 kd, .int .i64 a, .int .i64 b, .int .i64 n, .slice BA bs.length bc, .int .i64 0, .int .i64 0, .int .i64 0, .int .i64 0, .string ByteArray.empty, .string ByteArray.empty, .string ByteArray.empty, .slice SA sn sc]] w (StepR w F c D (.int .i64 34) (r)) := by
  have hb0 := one_box' w (.cells #[.int .i64 kd, .int .i64 a, .int .i64 b, .int .i64 n, .slice BA bs.length bc, .int .i64 0, .int .i64 0, .int .i64 0, .int .i64 0, .string ByteArray.empty, .string ByteArray.empty, .string ByteArray.empty, .slice SA sn sc] 41)
  have hE := Blk.new w 41 #[.int .i64 kd, .int .i64 a, .int .i64 b, .int .i64 n, .slice BA bs.length bc, .int .i64 0, .int .i64 0, .int .i64 0, .int .i64 0, .string ByteArray.empty, .string ByteArray.empty, .string ByteArray.empty, .slice SA sn sc]
  obtain ⟨w0, hw0⟩ : ∃ w0, w0 = w.alloc (.cells #[.int .i64 kd, .int .i64 a, .int .i64 b, .int .i64 n, .slice BA bs.length bc, .int .i64 0, .int .i64 0, .int .i64 0, .int .i64 0, .string ByteArray.empty, .string ByteArray.empty, .string ByteArray.empty, .slice SA sn sc] 41) := ⟨_, rfl⟩
  rw [← hw0] at hb0 hE
  have hp0 := h.below hb0
  have HW0 := Lib.hid hw0
  have HB0 := Lib.hid hb0
  have HH := Lib.hid h
  have HFN := Lib.hid hf
  have hs0 := hb0.size
  have x0 : w0.cell? ⟨w.heap.size, 0, none⟩ = some (.int .i64 kd) := hE.cell 0
  have x1 : w0.cell? ⟨w.heap.size, 1, none⟩ = some (.int .i64 a) := hE.cell 1
  have x2 : w0.cell? ⟨w.heap.size, 2, none⟩ = some (.int .i64 b) := hE.cell 2
  have x3 : w0.cell? ⟨w.heap.size, 3, none⟩ = some (.int .i64 n) := hE.cell 3
  have x4 : w0.cell? ⟨w.heap.size, 4, none⟩ = some (.slice BA bs.length bc) := hE.cell 4
  have x5 : w0.cell? ⟨w.heap.size, 5, none⟩ = some (.int .i64 0) := hE.cell 5
  have x6 : w0.cell? ⟨w.heap.size, 6, none⟩ = some (.int .i64 0) := hE.cell 6
  have x7 : w0.cell? ⟨w.heap.size, 7, none⟩ = some (.int .i64 0) := hE.cell 7
  have x8 : w0.cell? ⟨w.heap.size, 8, none⟩ = some (.int .i64 0) := hE.cell 8
  have x9 : w0.cell? ⟨w.heap.size, 9, none⟩ = some (.string ByteArray.empty) := hE.cell 9
  have x10 : w0.cell? ⟨w.heap.size, 10, none⟩ = some (.string ByteArray.empty) := hE.cell 10
  have x11 : w0.cell? ⟨w.heap.size, 11, none⟩ = some (.string ByteArray.empty) := hE.cell 11
  have x12 : w0.cell? ⟨w.heap.size, 12, none⟩ = some (.slice SA sn sc) := hE.cell 12
  have HAT := Lib.hid (at_no hp0 hf.all a hno)
  clear hw0 hb0 hE hp0 h hf _hc hno
  rcases hk with rfl | rfl | rfl | rfl
  · go_enter Try.func76, Try.ntmps76
    go_upto_region 1 with fail
    rw [← HW0.out]
    go_wp2_with (go_at_call 81; refine HAT.out.mono ?_; rintro _ w1 ⟨rfl, hb1⟩; have HB1 := Lib.hid hb1; clear hb1)
    go_ret
    exact StepR.same HH.out (HB0.out.trans (HB1.out.mono hs0))
  · go_enter Try.func76, Try.ntmps76
    go_upto_region 1 with fail
    rw [← HW0.out]
    go_wp2_with (go_at_call 81; refine HAT.out.mono ?_; rintro _ w1 ⟨rfl, hb1⟩; have HB1 := Lib.hid hb1; clear hb1)
    go_ret
    exact StepR.same HH.out (HB0.out.trans (HB1.out.mono hs0))
  · go_enter Try.func76, Try.ntmps76
    go_upto_region 1 with fail
    rw [← HW0.out]
    go_wp2_with (go_at_call 81; refine HAT.out.mono ?_; rintro _ w1 ⟨rfl, hb1⟩; have HB1 := Lib.hid hb1; clear hb1)
    go_ret
    exact StepR.same HH.out (HB0.out.trans (HB1.out.mono hs0))
  · go_enter Try.func76, Try.ntmps76
    go_upto_region 1 with fail
    rw [← HW0.out]
    go_wp2_with (go_at_call 81; refine HAT.out.mono ?_; rintro _ w1 ⟨rfl, hb1⟩; have HB1 := Lib.hid hb1; clear hb1)
    go_ret
    exact StepR.same HH.out (HB0.out.trans (HB1.out.mono hs0))
set_option maxRecDepth 100000 in
set_option maxHeartbeats 3200000 in
theorem RDo_pkt (hc : c.Ok) (h : RNx w F c D r) (hf : RFine r) (a b n : Int) (BA SA : Option Addr) (bc sn sc : Nat) (bs : List UInt8) (_sides : List Int) (kd : Int) (hk : kd = 12 ∨ kd = 13 ∨ kd = 15 ∨ kd = 16) (hn : n ≤ 9223372036854775807) {k i : Nat} {f : Flt} (hki : (idxOf r.all)[k]? = some i) (hfi : r.all[i]? = some (f, false)) (ha : a = (k : Int)) : Calls Try.prog 76 #[.pointer (some ⟨D, 0, none⟩), .agg #[.int .i64 kd, .int .i64 a, .int .i64 b, .int .i64 n, .slice BA bs.length bc, .int .i64 0, .int .i64 0, .int .i64 0, .int .i64 0, .string ByteArray.empty, .string ByteArray.empty, .string ByteArray.empty, .slice SA sn sc]] w (StepR w F c D (.int .i64 (pktD c r i f kd n).1) ((pktD c r i f kd n).2)) := by
  have hb0 := one_box' w (.cells #[.int .i64 kd, .int .i64 a, .int .i64 b, .int .i64 n, .slice BA bs.length bc, .int .i64 0, .int .i64 0, .int .i64 0, .int .i64 0, .string ByteArray.empty, .string ByteArray.empty, .string ByteArray.empty, .slice SA sn sc] 41)
  have hE := Blk.new w 41 #[.int .i64 kd, .int .i64 a, .int .i64 b, .int .i64 n, .slice BA bs.length bc, .int .i64 0, .int .i64 0, .int .i64 0, .int .i64 0, .string ByteArray.empty, .string ByteArray.empty, .string ByteArray.empty, .slice SA sn sc]
  obtain ⟨w0, hw0⟩ : ∃ w0, w0 = w.alloc (.cells #[.int .i64 kd, .int .i64 a, .int .i64 b, .int .i64 n, .slice BA bs.length bc, .int .i64 0, .int .i64 0, .int .i64 0, .int .i64 0, .string ByteArray.empty, .string ByteArray.empty, .string ByteArray.empty, .slice SA sn sc] 41) := ⟨_, rfl⟩
  rw [← hw0] at hb0 hE
  have hp0 := h.below hb0
  have HW0 := Lib.hid hw0
  have HB0 := Lib.hid hb0
  have HH := Lib.hid h
  have HFN := Lib.hid hf
  have hs0 := hb0.size
  have x0 : w0.cell? ⟨w.heap.size, 0, none⟩ = some (.int .i64 kd) := hE.cell 0
  have x1 : w0.cell? ⟨w.heap.size, 1, none⟩ = some (.int .i64 a) := hE.cell 1
  have x2 : w0.cell? ⟨w.heap.size, 2, none⟩ = some (.int .i64 b) := hE.cell 2
  have x3 : w0.cell? ⟨w.heap.size, 3, none⟩ = some (.int .i64 n) := hE.cell 3
  have x4 : w0.cell? ⟨w.heap.size, 4, none⟩ = some (.slice BA bs.length bc) := hE.cell 4
  have x5 : w0.cell? ⟨w.heap.size, 5, none⟩ = some (.int .i64 0) := hE.cell 5
  have x6 : w0.cell? ⟨w.heap.size, 6, none⟩ = some (.int .i64 0) := hE.cell 6
  have x7 : w0.cell? ⟨w.heap.size, 7, none⟩ = some (.int .i64 0) := hE.cell 7
  have x8 : w0.cell? ⟨w.heap.size, 8, none⟩ = some (.int .i64 0) := hE.cell 8
  have x9 : w0.cell? ⟨w.heap.size, 9, none⟩ = some (.string ByteArray.empty) := hE.cell 9
  have x10 : w0.cell? ⟨w.heap.size, 10, none⟩ = some (.string ByteArray.empty) := hE.cell 10
  have x11 : w0.cell? ⟨w.heap.size, 11, none⟩ = some (.string ByteArray.empty) := hE.cell 11
  have x12 : w0.cell? ⟨w.heap.size, 12, none⟩ = some (.slice SA sn sc) := hE.cell 12
  obtain rfl := ha
  have HAT := Lib.hid (at_yes hp0 hf.all k i hki)
  have HC : Hid (∀ W, Below w0.heap.size w0 W → Calls Try.prog 85 #[.pointer (some ⟨D, 0, none⟩), .agg #[.int .i64 kd, .int .i64 (k : Int), .int .i64 b, .int .i64 n, .slice BA bs.length bc, .int .i64 0, .int .i64 0, .int .i64 0, .int .i64 0, .string ByteArray.empty, .string ByteArray.empty, .string ByteArray.empty, .slice SA sn sc], .int .i64 (i : Int)] W (StepR W F c D (.int .i64 (pktD c r i f kd n).1) (pktD c r i f kd n).2)) := Lib.hid fun W hW => doPkt_any hc (hp0.below hW) hf hfi kd _ b n BA SA bs.length bc sn sc hk hn
  generalize pktD c r i f kd n = y at *
  have HE := Lib.hid hE
  have hiN : ¬ (i : Int) < 0 := by omega
  clear hw0 hb0 hE hp0 h hf hc hki hfi
  rcases hk with rfl | rfl | rfl | rfl
  · go_enter Try.func76, Try.ntmps76
    go_upto_region 1 with fail
    rw [← HW0.out]
    go_wp2_with (first
      | (go_at_call 81; refine HAT.out.mono ?_; rintro _ w1 ⟨rfl, hb1⟩; have HB1 := Lib.hid hb1; have hE1 := HE.out.over hb1; have y0 : w1.cell? ⟨w.heap.size, 0, none⟩ = some (.int .i64 12) := hE1.cell 0; have y1 : w1.cell? ⟨w.heap.size, 1, none⟩ = some (.int .i64 (k : Int)) := hE1.cell 1; have y2 : w1.cell? ⟨w.heap.size, 2, none⟩ = some (.int .i64 b) := hE1.cell 2; have y3 : w1.cell? ⟨w.heap.size, 3, none⟩ = some (.int .i64 n) := hE1.cell 3; have y4 : w1.cell? ⟨w.heap.size, 4, none⟩ = some (.slice BA bs.length bc) := hE1.cell 4; have y5 : w1.cell? ⟨w.heap.size, 5, none⟩ = some (.int .i64 0) := hE1.cell 5; have y6 : w1.cell? ⟨w.heap.size, 6, none⟩ = some (.int .i64 0) := hE1.cell 6; have y7 : w1.cell? ⟨w.heap.size, 7, none⟩ = some (.int .i64 0) := hE1.cell 7; have y8 : w1.cell? ⟨w.heap.size, 8, none⟩ = some (.int .i64 0) := hE1.cell 8; have y9 : w1.cell? ⟨w.heap.size, 9, none⟩ = some (.string ByteArray.empty) := hE1.cell 9; have y10 : w1.cell? ⟨w.heap.size, 10, none⟩ = some (.string ByteArray.empty) := hE1.cell 10; have y11 : w1.cell? ⟨w.heap.size, 11, none⟩ = some (.string ByteArray.empty) := hE1.cell 11; have y12 : w1.cell? ⟨w.heap.size, 12, none⟩ = some (.slice SA sn sc) := hE1.cell 12; have HC1 := Lib.hid (HC.out w1 hb1); clear hb1 hE1 x0 x1 x2 x3 x4 x5 x6 x7 x8 x9 x10 x11 x12)
      | (go_at_call 85; refine HC1.out.mono ?_; rintro _ w3 hst; have hv := hst.1; subst hv; have HST := Lib.hid hst; clear hst))
    go_ret
    exact StepR.behind (HB0.out.trans (HB1.out.mono hs0)) HST.out
  · go_enter Try.func76, Try.ntmps76
    go_upto_region 1 with fail
    rw [← HW0.out]
    go_wp2_with (first
      | (go_at_call 81; refine HAT.out.mono ?_; rintro _ w1 ⟨rfl, hb1⟩; have HB1 := Lib.hid hb1; have hE1 := HE.out.over hb1; have y0 : w1.cell? ⟨w.heap.size, 0, none⟩ = some (.int .i64 13) := hE1.cell 0; have y1 : w1.cell? ⟨w.heap.size, 1, none⟩ = some (.int .i64 (k : Int)) := hE1.cell 1; have y2 : w1.cell? ⟨w.heap.size, 2, none⟩ = some (.int .i64 b) := hE1.cell 2; have y3 : w1.cell? ⟨w.heap.size, 3, none⟩ = some (.int .i64 n) := hE1.cell 3; have y4 : w1.cell? ⟨w.heap.size, 4, none⟩ = some (.slice BA bs.length bc) := hE1.cell 4; have y5 : w1.cell? ⟨w.heap.size, 5, none⟩ = some (.int .i64 0) := hE1.cell 5; have y6 : w1.cell? ⟨w.heap.size, 6, none⟩ = some (.int .i64 0) := hE1.cell 6; have y7 : w1.cell? ⟨w.heap.size, 7, none⟩ = some (.int .i64 0) := hE1.cell 7; have y8 : w1.cell? ⟨w.heap.size, 8, none⟩ = some (.int .i64 0) := hE1.cell 8; have y9 : w1.cell? ⟨w.heap.size, 9, none⟩ = some (.string ByteArray.empty) := hE1.cell 9; have y10 : w1.cell? ⟨w.heap.size, 10, none⟩ = some (.string ByteArray.empty) := hE1.cell 10; have y11 : w1.cell? ⟨w.heap.size, 11, none⟩ = some (.string ByteArray.empty) := hE1.cell 11; have y12 : w1.cell? ⟨w.heap.size, 12, none⟩ = some (.slice SA sn sc) := hE1.cell 12; have HC1 := Lib.hid (HC.out w1 hb1); clear hb1 hE1 x0 x1 x2 x3 x4 x5 x6 x7 x8 x9 x10 x11 x12)
      | (go_at_call 85; refine HC1.out.mono ?_; rintro _ w3 hst; have hv := hst.1; subst hv; have HST := Lib.hid hst; clear hst))
    go_ret
    exact StepR.behind (HB0.out.trans (HB1.out.mono hs0)) HST.out
  · go_enter Try.func76, Try.ntmps76
    go_upto_region 1 with fail
    rw [← HW0.out]
    go_wp2_with (first
      | (go_at_call 81; refine HAT.out.mono ?_; rintro _ w1 ⟨rfl, hb1⟩; have HB1 := Lib.hid hb1; have hE1 := HE.out.over hb1; have y0 : w1.cell? ⟨w.heap.size, 0, none⟩ = some (.int .i64 15) := hE1.cell 0; have y1 : w1.cell? ⟨w.heap.size, 1, none⟩ = some (.int .i64 (k : Int)) := hE1.cell 1; have y2 : w1.cell? ⟨w.heap.size, 2, none⟩ = some (.int .i64 b) := hE1.cell 2; have y3 : w1.cell? ⟨w.heap.size, 3, none⟩ = some (.int .i64 n) := hE1.cell 3; have y4 : w1.cell? ⟨w.heap.size, 4, none⟩ = some (.slice BA bs.length bc) := hE1.cell 4; have y5 : w1.cell? ⟨w.heap.size, 5, none⟩ = some (.int .i64 0) := hE1.cell 5; have y6 : w1.cell? ⟨w.heap.size, 6, none⟩ = some (.int .i64 0) := hE1.cell 6; have y7 : w1.cell? ⟨w.heap.size, 7, none⟩ = some (.int .i64 0) := hE1.cell 7; have y8 : w1.cell? ⟨w.heap.size, 8, none⟩ = some (.int .i64 0) := hE1.cell 8; have y9 : w1.cell? ⟨w.heap.size, 9, none⟩ = some (.string ByteArray.empty) := hE1.cell 9; have y10 : w1.cell? ⟨w.heap.size, 10, none⟩ = some (.string ByteArray.empty) := hE1.cell 10; have y11 : w1.cell? ⟨w.heap.size, 11, none⟩ = some (.string ByteArray.empty) := hE1.cell 11; have y12 : w1.cell? ⟨w.heap.size, 12, none⟩ = some (.slice SA sn sc) := hE1.cell 12; have HC1 := Lib.hid (HC.out w1 hb1); clear hb1 hE1 x0 x1 x2 x3 x4 x5 x6 x7 x8 x9 x10 x11 x12)
      | (go_at_call 85; refine HC1.out.mono ?_; rintro _ w3 hst; have hv := hst.1; subst hv; have HST := Lib.hid hst; clear hst))
    go_ret
    exact StepR.behind (HB0.out.trans (HB1.out.mono hs0)) HST.out
  · go_enter Try.func76, Try.ntmps76
    go_upto_region 1 with fail
    rw [← HW0.out]
    go_wp2_with (first
      | (go_at_call 81; refine HAT.out.mono ?_; rintro _ w1 ⟨rfl, hb1⟩; have HB1 := Lib.hid hb1; have hE1 := HE.out.over hb1; have y0 : w1.cell? ⟨w.heap.size, 0, none⟩ = some (.int .i64 16) := hE1.cell 0; have y1 : w1.cell? ⟨w.heap.size, 1, none⟩ = some (.int .i64 (k : Int)) := hE1.cell 1; have y2 : w1.cell? ⟨w.heap.size, 2, none⟩ = some (.int .i64 b) := hE1.cell 2; have y3 : w1.cell? ⟨w.heap.size, 3, none⟩ = some (.int .i64 n) := hE1.cell 3; have y4 : w1.cell? ⟨w.heap.size, 4, none⟩ = some (.slice BA bs.length bc) := hE1.cell 4; have y5 : w1.cell? ⟨w.heap.size, 5, none⟩ = some (.int .i64 0) := hE1.cell 5; have y6 : w1.cell? ⟨w.heap.size, 6, none⟩ = some (.int .i64 0) := hE1.cell 6; have y7 : w1.cell? ⟨w.heap.size, 7, none⟩ = some (.int .i64 0) := hE1.cell 7; have y8 : w1.cell? ⟨w.heap.size, 8, none⟩ = some (.int .i64 0) := hE1.cell 8; have y9 : w1.cell? ⟨w.heap.size, 9, none⟩ = some (.string ByteArray.empty) := hE1.cell 9; have y10 : w1.cell? ⟨w.heap.size, 10, none⟩ = some (.string ByteArray.empty) := hE1.cell 10; have y11 : w1.cell? ⟨w.heap.size, 11, none⟩ = some (.string ByteArray.empty) := hE1.cell 11; have y12 : w1.cell? ⟨w.heap.size, 12, none⟩ = some (.slice SA sn sc) := hE1.cell 12; have HC1 := Lib.hid (HC.out w1 hb1); clear hb1 hE1 x0 x1 x2 x3 x4 x5 x6 x7 x8 x9 x10 x11 x12)
      | (go_at_call 85; refine HC1.out.mono ?_; rintro _ w3 hst; have hv := hst.1; subst hv; have HST := Lib.hid hst; clear hst))
    go_ret
    exact StepR.behind (HB0.out.trans (HB1.out.mono hs0)) HST.out
set_option maxRecDepth 100000 in
set_option maxHeartbeats 3200000 in
theorem RDo_inj (hc : c.Ok) (h : RNx w F c D r) (hf : RFine r) (a b n : Int) (BA SA : Option Addr) (bc sn sc : Nat) (bs : List UInt8) (_sides : List Int) (hr : RdB w w.heap.size BA bs.length bs) (hbn : bs.length ≤ 140737488351232) : Calls Try.prog 76 #[.pointer (some ⟨D, 0, none⟩), .agg #[.int .i64 17, .int .i64 a, .int .i64 b, .int .i64 n, .slice BA bs.length bc, .int .i64 0, .int .i64 0, .int .i64 0, .int .i64 0, .string ByteArray.empty, .string ByteArray.empty, .string ByteArray.empty, .slice SA sn sc]] w (StepR w F c D (.int .i64 (postRE c r a b bs.length false)) (postRP c r a b bs false)) := by
  have hb0 := one_box' w (.cells #[.int .i64 17, .int .i64 a, .int .i64 b, .int .i64 n, .slice BA bs.length bc, .int .i64 0, .int .i64 0, .int .i64 0, .int .i64 0, .string ByteArray.empty, .string ByteArray.empty, .string ByteArray.empty, .slice SA sn sc] 41)
  have hE := Blk.new w 41 #[.int .i64 17, .int .i64 a, .int .i64 b, .int .i64 n, .slice BA bs.length bc, .int .i64 0, .int .i64 0, .int .i64 0, .int .i64 0, .string ByteArray.empty, .string ByteArray.empty, .string ByteArray.empty, .slice SA sn sc]
  obtain ⟨w0, hw0⟩ : ∃ w0, w0 = w.alloc (.cells #[.int .i64 17, .int .i64 a, .int .i64 b, .int .i64 n, .slice BA bs.length bc, .int .i64 0, .int .i64 0, .int .i64 0, .int .i64 0, .string ByteArray.empty, .string ByteArray.empty, .string ByteArray.empty, .slice SA sn sc] 41) := ⟨_, rfl⟩
  rw [← hw0] at hb0 hE
  have hp0 := h.below hb0
  have HW0 := Lib.hid hw0
  have HB0 := Lib.hid hb0
  have HH := Lib.hid h
  have HFN := Lib.hid hf
  have hs0 := hb0.size
  have x0 : w0.cell? ⟨w.heap.size, 0, none⟩ = some (.int .i64 17) := hE.cell 0
  have x1 : w0.cell? ⟨w.heap.size, 1, none⟩ = some (.int .i64 a) := hE.cell 1
  have x2 : w0.cell? ⟨w.heap.size, 2, none⟩ = some (.int .i64 b) := hE.cell 2
  have x3 : w0.cell? ⟨w.heap.size, 3, none⟩ = some (.int .i64 n) := hE.cell 3
  have x4 : w0.cell? ⟨w.heap.size, 4, none⟩ = some (.slice BA bs.length bc) := hE.cell 4
  have x5 : w0.cell? ⟨w.heap.size, 5, none⟩ = some (.int .i64 0) := hE.cell 5
  have x6 : w0.cell? ⟨w.heap.size, 6, none⟩ = some (.int .i64 0) := hE.cell 6
  have x7 : w0.cell? ⟨w.heap.size, 7, none⟩ = some (.int .i64 0) := hE.cell 7
  have x8 : w0.cell? ⟨w.heap.size, 8, none⟩ = some (.int .i64 0) := hE.cell 8
  have x9 : w0.cell? ⟨w.heap.size, 9, none⟩ = some (.string ByteArray.empty) := hE.cell 9
  have x10 : w0.cell? ⟨w.heap.size, 10, none⟩ = some (.string ByteArray.empty) := hE.cell 10
  have x11 : w0.cell? ⟨w.heap.size, 11, none⟩ = some (.string ByteArray.empty) := hE.cell 11
  have x12 : w0.cell? ⟨w.heap.size, 12, none⟩ = some (.slice SA sn sc) := hE.cell 12
  have HC := Lib.hid (rpost_any hc hp0 a b BA bc bs ((hr.below hb0).more hs0) hbn false hf.all hf.now hf.slow)
  clear hw0 hb0 hE hp0 h hf hc hr
  go_enter Try.func76, Try.ntmps76
  go_upto_region 1 with fail
  rw [← HW0.out]
  go_wp2_with (go_at_call 79; refine HC.out.mono ?_; rintro _ w3 hst; have hv := hst.1; subst hv; have HST := Lib.hid hst; clear hst)
  go_ret
  exact StepR.behind HB0.out HST.out
set_option maxRecDepth 100000 in
set_option maxHeartbeats 3200000 in
theorem RDo_else (_hc : c.Ok) (h : RNx w F c D r) (hf : RFine r) (a b n : Int) (BA SA : Option Addr) (bc sn sc : Nat) (bs : List UInt8) (_sides : List Int) (kd : Int) (hk : kd < 8 ∨ kd = 14 ∨ 17 < kd) : Calls Try.prog 76 #[.pointer (some ⟨D, 0, none⟩), .agg #[.int .i64 kd, .int .i64 a, .int .i64 b, .int .i64 n, .slice BA bs.length bc, .int .i64 0, .int .i64 0, .int .i64 0, .int .i64 0, .string ByteArray.empty, .string ByteArray.empty, .string ByteArray.empty, .slice SA sn sc]] w (StepR w F c D (.int .i64 1) (r)) := by
  have hb0 := one_box' w (.cells #[.int .i64 kd, .int .i64 a, .int .i64 b, .int .i64 n, .slice BA bs.length bc, .int .i64 0, .int .i64 0, .int .i64 0, .int .i64 0, .string ByteArray.empty, .string ByteArray.empty, .string ByteArray.empty, .slice SA sn sc] 41)
  have hE := Blk.new w 41 #[.int .i64 kd, .int .i64 a, .int .i64 b, .int .i64 n, .slice BA bs.length bc, .int .i64 0, .int .i64 0, .int .i64 0, .int .i64 0, .string ByteArray.empty, .string ByteArray.empty, .string ByteArray.empty, .slice SA sn sc]
  obtain ⟨w0, hw0⟩ : ∃ w0, w0 = w.alloc (.cells #[.int .i64 kd, .int .i64 a, .int .i64 b, .int .i64 n, .slice BA bs.length bc, .int .i64 0, .int .i64 0, .int .i64 0, .int .i64 0, .string ByteArray.empty, .string ByteArray.empty, .string ByteArray.empty, .slice SA sn sc] 41) := ⟨_, rfl⟩
  rw [← hw0] at hb0 hE
  have hp0 := h.below hb0
  have HW0 := Lib.hid hw0
  have HB0 := Lib.hid hb0
  have HH := Lib.hid h
  have HFN := Lib.hid hf
  have hs0 := hb0.size
  have x0 : w0.cell? ⟨w.heap.size, 0, none⟩ = some (.int .i64 kd) := hE.cell 0
  have x1 : w0.cell? ⟨w.heap.size, 1, none⟩ = some (.int .i64 a) := hE.cell 1
  have x2 : w0.cell? ⟨w.heap.size, 2, none⟩ = some (.int .i64 b) := hE.cell 2
  have x3 : w0.cell? ⟨w.heap.size, 3, none⟩ = some (.int .i64 n) := hE.cell 3
  have x4 : w0.cell? ⟨w.heap.size, 4, none⟩ = some (.slice BA bs.length bc) := hE.cell 4
  have x5 : w0.cell? ⟨w.heap.size, 5, none⟩ = some (.int .i64 0) := hE.cell 5
  have x6 : w0.cell? ⟨w.heap.size, 6, none⟩ = some (.int .i64 0) := hE.cell 6
  have x7 : w0.cell? ⟨w.heap.size, 7, none⟩ = some (.int .i64 0) := hE.cell 7
  have x8 : w0.cell? ⟨w.heap.size, 8, none⟩ = some (.int .i64 0) := hE.cell 8
  have x9 : w0.cell? ⟨w.heap.size, 9, none⟩ = some (.string ByteArray.empty) := hE.cell 9
  have x10 : w0.cell? ⟨w.heap.size, 10, none⟩ = some (.string ByteArray.empty) := hE.cell 10
  have x11 : w0.cell? ⟨w.heap.size, 11, none⟩ = some (.string ByteArray.empty) := hE.cell 11
  have x12 : w0.cell? ⟨w.heap.size, 12, none⟩ = some (.slice SA sn sc) := hE.cell 12
  have h8 : ¬ kd = 8 := by omega
  have h9 : ¬ kd = 9 := by omega
  have h10 : ¬ kd = 10 := by omega
  have h11 : ¬ kd = 11 := by omega
  have h12 : ¬ kd = 12 := by omega
  have h13 : ¬ kd = 13 := by omega
  have h15 : ¬ kd = 15 := by omega
  have h16 : ¬ kd = 16 := by omega
  have h17 : ¬ kd = 17 := by omega
  clear hw0 hb0 hE hp0 h hf _hc hk
  go_enter Try.func76, Try.ntmps76
  go_upto_region 1 with fail
  rw [← HW0.out]
  go_wp2
  go_ret
  exact StepR.same HH.out HB0.out
end Go.Proofs.Ytgfhmfhhobhojaa
