/-
  EncodeItem of the program and of the reference.
-/
import Derived.Test.YtffcepaegcllmaaEnc
import Derived.Test.YtffcepaegcllmaaItemV
namespace Go.Proofs.Ytffcepaegcllmaa
open Go.RowKit

def encItem (k s q t : Int) (bs : List UInt8) (p st a c : Int) : List UInt8 × Int :=
  if itemB k s q t bs.length p st a c = true then (UInt8.ofNat k.toNat :: (if k = 1 then packD s q t bs else pack [p, st, a, c]), 0) else ([], 16)
theorem own_lit (w : World) (base : Nat) (e : TypeId) (cs : Array Value) (n : Nat) (hn : cs.size = n) (hm : n ≤ maxLen) (hb : base ≤ w.heap.size) : (w.alloc (.cells cs e)).ownsRow base e 1 (.slice (some ⟨w.heap.size, 0, none⟩) n n) n cs.toList :=
  ⟨by simp [hn], .inr ⟨w.heap.size, n, cs, rfl, hb, heap_alloc_new w _, by omega, hm, by simp [hn], by rw [List.take_of_length_le]; simp [hn]⟩⟩
theorem cntB_true {v lo : Int} (h : cntB v lo = true) : lo ≤ v ∧ v ≤ 4611686018427387904 := by simpa [cntB] using h
theorem slotB_true {s q : Int} (h : slotB s q = true) : 0 ≤ s ∧ s < 16 ∧ 1 ≤ q ∧ q ≤ 4611686018427387904 := by
  simp only [slotB, Bool.and_eq_true, decide_eq_true_eq] at h
  have := cntB_true h.2
  omega
theorem datB_true {s q t : Int} {n : Nat} (h : datB s q t n = true) : (0 ≤ s ∧ s < 16 ∧ 1 ≤ q ∧ q ≤ 4611686018427387904) ∧ (0 ≤ t ∧ t ≤ 4611686018427387904) ∧ n ≤ 256 := by
  simp only [datB, Bool.and_eq_true, decide_eq_true_eq] at h
  exact ⟨slotB_true h.1.1, cntB_true h.1.2, h.2⟩
theorem itemB_k {k s q t : Int} {n : Nat} {p st a c : Int} (h : itemB k s q t n p st a c = true) : k = 1 ∨ k = 2 := by
  unfold itemB at h
  split at h
  · omega
  · split at h
    · omega
    · cases h
theorem itemB_1 {s q t : Int} {n : Nat} {p st a c : Int} (h : itemB 1 s q t n p st a c = true) : datB s q t n = true ∧ p = 0 ∧ st = 0 ∧ a = 0 ∧ c = 0 := by
  simpa [itemB, and_assoc] using h
theorem itemB_2 {s q t : Int} {n : Nat} {p st a c : Int} (h : itemB 2 s q t n p st a c = true) : (s = 0 ∧ q = 0 ∧ t = 0 ∧ n = 0) ∧ (1 ≤ p ∧ p ≤ 4611686018427387904) ∧ 0 ≤ st ∧ st < p ∧ (0 ≤ a ∧ a < 16 ∧ 1 ≤ c ∧ c ≤ 4611686018427387904) := by
  simp only [itemB, show ¬ (2 : Int) = 1 by omega, if_false, if_true, Bool.and_eq_true, decide_eq_true_eq, zdatB] at h
  obtain ⟨⟨⟨⟨h1, h2⟩, h3⟩, h4⟩, h5⟩ := h
  exact ⟨by omega, cntB_true h2, h3, h4, slotB_true h5⟩
/-- What both EncodeItems answer. -/
def EncAns (w : World) (r : List UInt8 × Int) (e : Ending) (w' : World) : Prop := ∃ v, e = .returned (.tuple #[v, .int .i64 r.2]) ∧ w'.ownsRow w.heap.size 5 1 v r.1.length (bvs r.1) ∧ Below w.heap.size w w'

theorem EncAns.mk_ {w w' : World} {r : List UInt8 × Int} {ps : List UInt8} {er : Int} {v : Value} {n : Nat} (hE : r = (ps, er)) (ho : w'.ownsRow w.heap.size 5 1 v n (bvs ps)) (hb : Below w.heap.size w w') : EncAns w r (.returned (.tuple #[v, .int .i64 er])) w' := by
  subst hE
  have hn : n = ps.length := by have := ho.1; rw [bvs_length] at this; omega
  subst hn
  exact ⟨v, rfl, ho, hb⟩

set_option maxRecDepth 100000 in
set_option maxHeartbeats 1600000 in
theorem EncodeItem_no (k s q t : Int) (A : Option Addr) (m cap : Nat) (bs : List UInt8) (p st a c : Int) (w : World) (hl : bs.length = m) (hv : itemB k s q t m p st a c = false) :
    Calls Try.prog 7 #[itemV k s q t A m cap p st a c] w (EncAns w (encItem k s q t bs p st a c)) := by
  have HE : Hid (encItem k s q t bs p st a c = ([], 16)) := by show _ = _; unfold encItem; rw [hl, hv]; rfl
  clear hl
  generalize encItem k s q t bs p st a c = r at *
  go_enter Try.func7, Try.ntmps7
  go_wp2_with (go_at_call 24; refine (validItem_any _ _ _ _ _ _ _ _ _ _ _ _).mono ?_; rintro e w1 ⟨rfl, hb1⟩)
  go_ret2
  exact EncAns.mk_ HE.out ⟨rfl, .inl ⟨rfl, rfl⟩⟩ (box_below hb1)

set_option maxRecDepth 100000 in
set_option maxHeartbeats 1600000 in
theorem EncodeItem_1 (s q t : Int) (A : Option Addr) (m cap : Nat) (bs : List UInt8) (p st a c : Int) (w : World) (hr : RdB w w.heap.size A m bs) (hv : itemB 1 s q t m p st a c = true) :
    Calls Try.prog 7 #[itemV 1 s q t A m cap p st a c] w (EncAns w (encItem 1 s q t bs p st a c)) := by
  have hl := hr.lenB
  have HE : Hid (encItem 1 s q t bs p st a c = (UInt8.ofNat 1 :: packD s q t bs, 0)) := by show _ = _; unfold encItem; rw [hl, if_pos hv]; rfl
  have HL := Lib.hid hl
  clear hl
  generalize encItem 1 s q t bs p st a c = r at *
  obtain ⟨⟨hs0, hs1, hq0, hq1⟩, ⟨ht0, ht1⟩, hm⟩ := datB_true (itemB_1 hv).1
  go_enter Try.func7, Try.ntmps7
  go_wp2_with fail
  have hbx := one_box w (.cells #[.int .i64 1, .int .i64 s, .int .i64 q, .int .i64 t, .slice A m cap, .int .i64 p, .int .i64 st, .int .i64 a, .int .i64 c] 28)
  have hD := Blk.new w 28 #[.int .i64 1, .int .i64 s, .int .i64 q, .int .i64 t, .slice A m cap, .int .i64 p, .int .i64 st, .int .i64 a, .int .i64 c]
  refine (validItem_any _ _ _ _ _ _ _ _ _ _ _ _).mono ?_
  rintro _ w1 ⟨rfl, hb1⟩
  have hD1 := hD.over hb1
  have hb01 := box_below hb1
  have d0 : w1.cell? ⟨w.heap.size, 0, none⟩ = some (.int .i64 1) := by rw [hD1.cell]; rfl
  have d1 : w1.cell? ⟨w.heap.size, 1, none⟩ = some (.int .i64 s) := by rw [hD1.cell]; rfl
  have d2 : w1.cell? ⟨w.heap.size, 2, none⟩ = some (.int .i64 q) := by rw [hD1.cell]; rfl
  have d3 : w1.cell? ⟨w.heap.size, 3, none⟩ = some (.int .i64 t) := by rw [hD1.cell]; rfl
  have d4 : w1.cell? ⟨w.heap.size, 4, none⟩ = some (.slice A m cap) := by rw [hD1.cell]; rfl
  have hs01 : w.heap.size < w1.heap.size := hD1.lt
  clear hD hbx hb1
  go_wp2_with fail
  obtain ⟨w2, hw2⟩ : ∃ w2, w2 = w1.alloc (.cells #[.int .u8 1] 5) := ⟨_, rfl⟩
  have hb12 : Below w1.heap.size w1 w2 := by rw [hw2]; exact one_box _ _
  have ho2 : w2.ownsRow w.heap.size 5 1 (.slice (some ⟨w1.heap.size, 0, none⟩) 1 1) 1 [.int .u8 1] := by rw [hw2]; exact own_lit w1 _ _ #[.int .u8 1] 1 rfl (by simp [maxLen]) (by omega)
  have hz2 : Hid (w2.heap.size = w1.heap.size + 1) := by show _ = _; rw [hw2]; simp
  rw [← hw2]
  clear hw2
  have hb23 : Below w2.heap.size w2 (w2.alloc (.cells #[.slice (some ⟨w1.heap.size, 0, none⟩) 1 1] 78)) := one_box _ _
  have hW := Blk.new w2 78 #[.slice (some ⟨w1.heap.size, 0, none⟩) 1 1]
  have hs2 := hb12.size
  rw [hz2.out] at hW
  have hb03 : Below w.heap.size w (w2.alloc (.cells #[.slice (some ⟨w1.heap.size, 0, none⟩) 1 1] 78)) := Below.then (Below.then hb01 hb12) hb23
  refine (data_any w.heap.size (w1.heap.size + 1) _ 1 [.int .u8 1] s q t A m cap w.heap.size bs _ hW (by omega) (own_over ho2 hb23) (by simp; omega) (fun w4 hc => (hr.below hb03).cht hc (Nat.le_refl _) hb03.size) (by omega) ⟨hs0, by omega⟩ ⟨by omega, hq1⟩ ⟨ht0, ht1⟩).mono ?_
  rintro _ w4 ⟨rfl, bv4, hW4, ho4, hc4⟩
  have c4 : w4.cell? ⟨w1.heap.size + 1, 0, none⟩ = some bv4 := by rw [hW4.cell]; rfl
  obtain ⟨A4, cap4, rfl, _, _⟩ := own_shape ho4
  have hb34 := ChT.below hc4 (by simp; omega)
  go_wp2_with fail
  go_ret2
  exact EncAns.mk_ HE.out (by simpa [bvs] using ho4) (hb03.trans hb34)
set_option maxRecDepth 100000 in
set_option maxHeartbeats 1600000 in
theorem EncodeItem_2 (s q t : Int) (A : Option Addr) (m cap : Nat) (bs : List UInt8) (p st a c : Int) (w : World) (hr : RdB w w.heap.size A m bs) (hv : itemB 2 s q t m p st a c = true) :
    Calls Try.prog 7 #[itemV 2 s q t A m cap p st a c] w (EncAns w (encItem 2 s q t bs p st a c)) := by
  have hl := hr.lenB
  have HE : Hid (encItem 2 s q t bs p st a c = (UInt8.ofNat 2 :: pack [p, st, a, c], 0)) := by show _ = _; unfold encItem; rw [hl, if_pos hv]; rfl
  have HL := Lib.hid hl
  clear hl
  generalize encItem 2 s q t bs p st a c = r at *
  obtain ⟨-, ⟨hp0, hp1⟩, hst0, hst1, ha0, ha1, hc0, hc1⟩ := itemB_2 hv
  go_enter Try.func7, Try.ntmps7
  go_wp2_with fail
  have hbx := one_box w (.cells #[.int .i64 2, .int .i64 s, .int .i64 q, .int .i64 t, .slice A m cap, .int .i64 p, .int .i64 st, .int .i64 a, .int .i64 c] 28)
  have hD := Blk.new w 28 #[.int .i64 2, .int .i64 s, .int .i64 q, .int .i64 t, .slice A m cap, .int .i64 p, .int .i64 st, .int .i64 a, .int .i64 c]
  refine (validItem_any _ _ _ _ _ _ _ _ _ _ _ _).mono ?_
  rintro _ w1 ⟨rfl, hb1⟩
  have hD1 := hD.over hb1
  have hb01 := box_below hb1
  have d0 : w1.cell? ⟨w.heap.size, 0, none⟩ = some (.int .i64 2) := by rw [hD1.cell]; rfl
  have d1 : w1.cell? ⟨w.heap.size, 5, none⟩ = some (.int .i64 p) := by rw [hD1.cell]; rfl
  have d2 : w1.cell? ⟨w.heap.size, 6, none⟩ = some (.int .i64 st) := by rw [hD1.cell]; rfl
  have d3 : w1.cell? ⟨w.heap.size, 7, none⟩ = some (.int .i64 a) := by rw [hD1.cell]; rfl
  have d4 : w1.cell? ⟨w.heap.size, 8, none⟩ = some (.int .i64 c) := by rw [hD1.cell]; rfl
  have hs01 : w.heap.size < w1.heap.size := hD1.lt
  clear hD hbx hb1
  go_wp2_with fail
  obtain ⟨w2, hw2⟩ : ∃ w2, w2 = w1.alloc (.cells #[.int .u8 2] 5) := ⟨_, rfl⟩
  have hb12 : Below w1.heap.size w1 w2 := by rw [hw2]; exact one_box _ _
  have ho2 : w2.ownsRow w.heap.size 5 1 (.slice (some ⟨w1.heap.size, 0, none⟩) 1 1) 1 [.int .u8 2] := by rw [hw2]; exact own_lit w1 _ _ #[.int .u8 2] 1 rfl (by simp [maxLen]) (by omega)
  have hz2 : Hid (w2.heap.size = w1.heap.size + 1) := by show _ = _; rw [hw2]; simp
  rw [← hw2]
  clear hw2
  have hb23 : Below w2.heap.size w2 (w2.alloc (.cells #[.slice (some ⟨w1.heap.size, 0, none⟩) 1 1] 78)) := one_box _ _
  have hW := Blk.new w2 78 #[.slice (some ⟨w1.heap.size, 0, none⟩) 1 1]
  have hs2 := hb12.size
  rw [hz2.out] at hW
  have hb03 : Below w.heap.size w (w2.alloc (.cells #[.slice (some ⟨w1.heap.size, 0, none⟩) 1 1] 78)) := Below.then (Below.then hb01 hb12) hb23
  obtain ⟨w3, hw3⟩ : ∃ w3, w3 = w2.alloc (.cells #[.slice (some ⟨w1.heap.size, 0, none⟩) 1 1] 78) := ⟨_, rfl⟩
  rw [← hw3] at hb03 hb23 hW ⊢
  have hz3 : Hid (w3.heap.size = w1.heap.size + 1 + 1) := by show _ = _; rw [hw3]; simp [hz2.out]
  clear hw3
  have hb34 : Below w3.heap.size w3 (w3.alloc (.cells #[.int .i64 p, .int .i64 st, .int .i64 a, .int .i64 c] 3)) := one_box _ _
  have hs3 := hb03.size
  refine (counts_any w.heap.size (w1.heap.size + 1) _ 1 [.int .u8 2] _ 4 4 (w1.heap.size + 1 + 1 + 1) [p, st, a, c] (w3.alloc (.cells #[.int .i64 p, .int .i64 st, .int .i64 a, .int .i64 c] 3)) (hW.over hb34) (by omega) (own_over (own_over ho2 hb23) hb34) (by simp; omega) (fun w4 hc => built_rd (is := [p, st, a, c]) hc rfl rfl hz3.out) (by omega) (by simp; omega)).mono ?_
  rintro _ w4 ⟨rfl, bv4, hW4, ho4, hc4⟩
  have c4 : w4.cell? ⟨w1.heap.size + 1, 0, none⟩ = some bv4 := by rw [hW4.cell]; rfl
  obtain ⟨A4, cap4, rfl, _, _⟩ := own_shape ho4
  have hb45 := ChT.below hc4 (by simp; omega)
  go_wp2_with fail
  go_ret2
  exact EncAns.mk_ HE.out (by simpa [bvs] using ho4) ((Below.then hb03 hb34).trans hb45)

theorem EncodeItem_any (k s q t : Int) (A : Option Addr) (m cap : Nat) (bs : List UInt8) (p st a c : Int) (w : World) (hr : RdB w w.heap.size A m bs) :
    Calls Try.prog 7 #[itemV k s q t A m cap p st a c] w (EncAns w (encItem k s q t bs p st a c)) := by
  cases hv : itemB k s q t m p st a c with
  | false => exact EncodeItem_no k s q t A m cap bs p st a c w hr.lenB hv
  | true =>
    rcases itemB_k hv with rfl | rfl
    · exact EncodeItem_1 s q t A m cap bs p st a c w hr hv
    · exact EncodeItem_2 s q t A m cap bs p st a c w hr hv

theorem encItem_le (k s q t : Int) (bs : List UInt8) (p st a c : Int) : (encItem k s q t bs p st a c).1.length ≤ bs.length + 64 ∧ 0 ≤ (encItem k s q t bs p st a c).2 ∧ (encItem k s q t bs p st a c).2 ≤ 16 := by
  unfold encItem
  split
  · refine ⟨?_, by simp, by simp⟩
    have h1 := pack_le [s, q, t]
    have h2 := packB_le bs
    have h3 := pack_le [p, st, a, c]
    simp only [List.length_cons, List.length_nil] at h1 h3
    simp only [List.length_cons]
    split
    · unfold packD; rw [List.length_append]; omega
    · omega
  · exact ⟨by simp, by simp, by simp⟩
theorem EncodeItem_r (k s q t : Int) (A : Option Addr) (m cap : Nat) (bs : List UInt8) (p st a c : Int) (w : World) (hr : RdB w w.heap.size A m bs) (ps : List UInt8) (er : Int) (hE : encItem k s q t bs p st a c = (ps, er)) :
    Calls Try.prog 7 #[.agg #[.int .i64 k, .int .i64 s, .int .i64 q, .int .i64 t, .slice A m cap, .int .i64 p, .int .i64 st, .int .i64 a, .int .i64 c]] w fun e w' => ∃ v, e = .returned (.tuple #[v, .int .i64 er]) ∧ w'.ownsRow w.heap.size 5 1 v ps.length (bvs ps) ∧ Below w.heap.size w w' :=
  (EncodeItem_any k s q t A m cap bs p st a c w hr).mono fun _ _ h => by unfold EncAns at h; rw [hE] at h; exact h

/-! The reference's. -/
set_option maxRecDepth 100000 in
set_option maxHeartbeats 1600000 in
theorem REncodeItem_no (k s q t : Int) (A : Option Addr) (m cap : Nat) (bs : List UInt8) (p st a c : Int) (w : World) (hl : bs.length = m) (hv : itemB k s q t m p st a c = false) (hp0 : -9223372036854775808 ≤ p) (hp1 : p ≤ 9223372036854775807) :
    Calls Try.prog 5 #[itemV k s q t A m cap p st a c] w (EncAns w (encItem k s q t bs p st a c)) := by
  have HE : Hid (encItem k s q t bs p st a c = ([], 16)) := by show _ = _; unfold encItem; rw [hl, hv]; rfl
  clear hl
  generalize encItem k s q t bs p st a c = r at *
  go_enter Try.func5, Try.ntmps5
  go_wp2_with (go_at_call 20; refine (GoodItem_any _ _ _ _ _ _ _ _ _ _ _ _ (by omega) (by omega)).mono ?_; rintro e w1 ⟨rfl, hb1⟩)
  go_ret2
  exact EncAns.mk_ HE.out ⟨rfl, .inl ⟨rfl, rfl⟩⟩ (box_below hb1)

set_option maxRecDepth 100000 in
set_option maxHeartbeats 1600000 in
theorem REncodeItem_1 (s q t : Int) (A : Option Addr) (m cap : Nat) (bs : List UInt8) (p st a c : Int) (w : World) (hr : RdB w w.heap.size A m bs) (hv : itemB 1 s q t m p st a c = true) (hp0 : -9223372036854775808 ≤ p) (hp1 : p ≤ 9223372036854775807) :
    Calls Try.prog 5 #[itemV 1 s q t A m cap p st a c] w (EncAns w (encItem 1 s q t bs p st a c)) := by
  have hl := hr.lenB
  have HE : Hid (encItem 1 s q t bs p st a c = (UInt8.ofNat 1 :: packD s q t bs, 0)) := by show _ = _; unfold encItem; rw [hl, if_pos hv]; rfl
  have HL := Lib.hid hl
  clear hl
  generalize encItem 1 s q t bs p st a c = r at *
  obtain ⟨⟨hs0, hs1, hq0, hq1⟩, ⟨ht0, ht1⟩, hm⟩ := datB_true (itemB_1 hv).1
  obtain ⟨s, rfl⟩ := Int.eq_ofNat_of_zero_le hs0
  obtain ⟨q, rfl⟩ := Int.eq_ofNat_of_zero_le (show 0 ≤ q by omega)
  obtain ⟨t, rfl⟩ := Int.eq_ofNat_of_zero_le ht0
  go_enter Try.func5, Try.ntmps5
  go_wp2_with fail
  have hD := Blk.new w 28 #[.int .i64 1, .int .i64 s, .int .i64 q, .int .i64 t, .slice A m cap, .int .i64 p, .int .i64 st, .int .i64 a, .int .i64 c]
  refine (GoodItem_any _ _ _ _ _ _ _ _ _ _ _ _ hp0 hp1).mono ?_
  rintro _ w1 ⟨rfl, hb1⟩
  have hD1 := hD.over hb1
  have hb01 := box_below hb1
  have d0 : w1.cell? ⟨w.heap.size, 0, none⟩ = some (.int .i64 1) := by rw [hD1.cell]; rfl
  have d1 : w1.cell? ⟨w.heap.size, 1, none⟩ = some (.int .i64 s) := by rw [hD1.cell]; rfl
  have d2 : w1.cell? ⟨w.heap.size, 2, none⟩ = some (.int .i64 q) := by rw [hD1.cell]; rfl
  have d3 : w1.cell? ⟨w.heap.size, 3, none⟩ = some (.int .i64 t) := by rw [hD1.cell]; rfl
  have d4 : w1.cell? ⟨w.heap.size, 4, none⟩ = some (.slice A m cap) := by rw [hD1.cell]; rfl
  have hs01 : w.heap.size < w1.heap.size := hD1.lt
  clear hD hb1
  go_wp2_with fail
  have hb12 : Below w1.heap.size w1 (w1.alloc (.cells #[.int .u8 1] 5)) := one_box _ _
  have hb02 := Below.then hb01 hb12
  refine (putData_any w.heap.size _ 1 [.int .u8 1] s q t A m cap w.heap.size bs _ (own_lit w1 _ _ #[.int .u8 1] 1 rfl (by simp [maxLen]) (by omega)) (by simp; omega) (fun w4 hc => (hr.below hb02).cht hc (Nat.le_refl _) hb02.size) (by omega) (by omega) (by omega) (by omega)).mono ?_
  rintro _ w4 ⟨v4, rfl, ho4, hc4⟩
  have hb24 := ChT.below hc4 (by simp; omega)
  go_wp2_with fail
  go_ret2
  exact EncAns.mk_ HE.out (by simpa [bvs] using ho4) (hb02.trans hb24)

set_option maxRecDepth 100000 in
set_option maxHeartbeats 1600000 in
theorem REncodeItem_2 (s q t : Int) (A : Option Addr) (m cap : Nat) (bs : List UInt8) (p st a c : Int) (w : World) (hr : RdB w w.heap.size A m bs) (hv : itemB 2 s q t m p st a c = true) (hp0 : -9223372036854775808 ≤ p) (hp1 : p ≤ 9223372036854775807) :
    Calls Try.prog 5 #[itemV 2 s q t A m cap p st a c] w (EncAns w (encItem 2 s q t bs p st a c)) := by
  have hl := hr.lenB
  have HE : Hid (encItem 2 s q t bs p st a c = (UInt8.ofNat 2 :: pack [p, st, a, c], 0)) := by show _ = _; unfold encItem; rw [hl, if_pos hv]; rfl
  have HL := Lib.hid hl
  clear hl
  generalize encItem 2 s q t bs p st a c = r at *
  obtain ⟨-, ⟨hp2, hp3⟩, hst0, hst1, ha0, ha1, hc0, hc1⟩ := itemB_2 hv
  obtain ⟨p, rfl⟩ := Int.eq_ofNat_of_zero_le (show 0 ≤ p by omega)
  obtain ⟨st, rfl⟩ := Int.eq_ofNat_of_zero_le hst0
  obtain ⟨a, rfl⟩ := Int.eq_ofNat_of_zero_le ha0
  obtain ⟨c, rfl⟩ := Int.eq_ofNat_of_zero_le (show 0 ≤ c by omega)
  go_enter Try.func5, Try.ntmps5
  go_wp2_with fail
  have hD := Blk.new w 28 #[.int .i64 2, .int .i64 s, .int .i64 q, .int .i64 t, .slice A m cap, .int .i64 p, .int .i64 st, .int .i64 a, .int .i64 c]
  refine (GoodItem_any _ _ _ _ _ _ _ _ _ _ _ _ hp0 hp1).mono ?_
  rintro _ w1 ⟨rfl, hb1⟩
  have hD1 := hD.over hb1
  have hb01 := box_below hb1
  have d0 : w1.cell? ⟨w.heap.size, 0, none⟩ = some (.int .i64 2) := by rw [hD1.cell]; rfl
  have d5 : (w1.alloc (.cells #[.int .u8 2] 5)).cell? ⟨w.heap.size, 5, none⟩ = some (.int .i64 p) := by rw [(hD1.alloc _).cell]; rfl
  have hs01 : w.heap.size < w1.heap.size := hD1.lt
  clear hD hb1
  go_wp2_with fail
  have hb12 : Below w1.heap.size w1 (w1.alloc (.cells #[.int .u8 2] 5)) := one_box _ _
  have hb02 := Below.then hb01 hb12
  have l1 := (putB_length p).2
  have l2 := (putB_length st).2
  have l3 := (putB_length a).2
  have l4 := (putB_length c).2
  refine (Rput_cht w.heap.size _ 1 [.int .u8 2] p _ (own_lit w1 _ _ #[.int .u8 2] 1 rfl (by simp [maxLen]) (by omega)) (by simp; omega) (by omega) (by omega)).mono ?_
  rintro _ w3 ⟨v3, rfl, ho3, hc3⟩
  have hD3 := (hD1.alloc (.cells #[.int .u8 2] 5)).cht hc3 (.inl (by decide))
  have d6 : w3.cell? ⟨w.heap.size, 6, none⟩ = some (.int .i64 st) := by rw [hD3.cell]; rfl
  have hs3 := ChT.size hc3
  simp only [World.size_alloc] at hs3
  clear d0 d5
  go_wp2_with fail
  refine (Rput_cht w.heap.size _ _ _ st w3 ho3 (by omega) (by omega) (by omega)).mono ?_
  rintro _ w4 ⟨v4, rfl, ho4, hc4⟩
  have hD4 := hD3.cht hc4 (.inl (by decide))
  have d7 : w4.cell? ⟨w.heap.size, 7, none⟩ = some (.int .i64 a) := by rw [hD4.cell]; rfl
  have hs4 := ChT.size hc4
  clear d6
  go_wp2_with fail
  refine (Rput_cht w.heap.size _ _ _ a w4 ho4 (by omega) (by omega) (by omega)).mono ?_
  rintro _ w5 ⟨v5, rfl, ho5, hc5⟩
  have hD5 := hD4.cht hc5 (.inl (by decide))
  have d8 : w5.cell? ⟨w.heap.size, 8, none⟩ = some (.int .i64 c) := by rw [hD5.cell]; rfl
  have hs5 := ChT.size hc5
  clear d7
  go_wp2_with fail
  refine (Rput_cht w.heap.size _ _ _ c w5 ho5 (by omega) (by omega) (by omega)).mono ?_
  rintro _ w6 ⟨v6, rfl, ho6, hc6⟩
  have hb26 := ChT.below (((hc3.trans hc4).trans hc5).trans hc6) (by simp; omega)
  go_wp2_with fail
  go_ret2
  refine EncAns.mk_ HE.out (n := 1 + (putB p).length + (putB st).length + (putB a).length + (putB c).length) ?_ (hb02.trans hb26)
  have e : UInt8.ofNat 2 :: pack [(p : Int), st, a, c] = UInt8.ofNat 2 :: (putB p ++ putB st ++ putB a ++ putB c) := by simp [pack]
  rw [e]
  simp only [bvs_append, bvs_cons] at ho6 ⊢
  simpa using ho6
theorem REncodeItem_any (k s q t : Int) (A : Option Addr) (m cap : Nat) (bs : List UInt8) (p st a c : Int) (w : World) (hr : RdB w w.heap.size A m bs) (hp0 : -9223372036854775808 ≤ p) (hp1 : p ≤ 9223372036854775807) :
    Calls Try.prog 5 #[itemV k s q t A m cap p st a c] w (EncAns w (encItem k s q t bs p st a c)) := by
  cases hv : itemB k s q t m p st a c with
  | false => exact REncodeItem_no k s q t A m cap bs p st a c w hr.lenB hv hp0 hp1
  | true =>
    rcases itemB_k hv with rfl | rfl
    · exact REncodeItem_1 s q t A m cap bs p st a c w hr hv hp0 hp1
    · exact REncodeItem_2 s q t A m cap bs p st a c w hr hv hp0 hp1
theorem REncodeItem_r (k s q t : Int) (A : Option Addr) (m cap : Nat) (bs : List UInt8) (p st a c : Int) (w : World) (hr : RdB w w.heap.size A m bs) (hp0 : -9223372036854775808 ≤ p) (hp1 : p ≤ 9223372036854775807) (ps : List UInt8) (er : Int) (hE : encItem k s q t bs p st a c = (ps, er)) :
    Calls Try.prog 5 #[.agg #[.int .i64 k, .int .i64 s, .int .i64 q, .int .i64 t, .slice A m cap, .int .i64 p, .int .i64 st, .int .i64 a, .int .i64 c]] w fun e w' => ∃ v, e = .returned (.tuple #[v, .int .i64 er]) ∧ w'.ownsRow w.heap.size 5 1 v ps.length (bvs ps) ∧ Below w.heap.size w w' :=
  (REncodeItem_any k s q t A m cap bs p st a c w hr hp0 hp1).mono fun _ _ h => by unfold EncAns at h; rw [hE] at h; exact h
end Go.Proofs.Ytffcepaegcllmaa
