/-
  EtherNoneFromNothing: the law. And: EtherNoneFromNothing: run, walked: a round. And: EtherNoneFromNothing: run, walked: take, and an event. And: EtherNoneFromNothing: run, walked, but for the round.
-/
import Derived.Test.YtgfhmfhhobhojaaEBk7
namespace Go.Proofs.Ytgfhmfhhobhojaa
open Go.ChangeShapes Go.WideShapes Go.ChangeAt Go.RowKit
def RunR (w : World) (B : Nat) (c : ECfg) (D m bb : Nat) (e : Ending) (w' : World) : Prop := e = .returned (.bool true) ∧ BkX w' B c D (m + 1) bb ∧ Below B w w'
section
variable {w w' : World} {B : Nat} {c : ECfg} {D m bb : Nat} {p p' : PV} {F FB : Nat → Prop} {es : List Ent}
theorem FlO.weak {Z Z' : Nat → Prop} {A : Option Addr} {n : Nat} {l : List Flt} (h : FlO w Z A n l) (hZ : ∀ k, Z' k → Z k) : FlO w Z' A n l := by
  refine ⟨h.len, fun k f hk => ?_⟩
  obtain ⟨g, bA, bc, e, hz, hg, c0, c1, c2, c3, c4, hr, hq⟩ := h.at_ k f hk
  exact ⟨g, bA, bc, e, fun h => hz (hZ _ h), hg, c0, c1, c2, c3, c4, hr, fun hn q o s e h => hq hn q o s e (hZ _ h)⟩
theorem BkN.flights (h : BkN w B c D m p F bb FB es) (hc : c.Ok) (hm : m ≤ 4398046511104) : Calls Try.prog 23 #[.pointer (some ⟨D, 0, none⟩)] w fun e w' => ∃ A cap, e = .returned (.slice A p.way.length cap) ∧ FlO w' (fun k => FB k ∨ F k) A p.way.length p.way ∧ Below w.heap.size w w' := by
  refine (Flights_any h.live.pn (h.live.inv.fine hc hm)).mono ?_
  rintro e w' ⟨v, h1, h2, H, h3, h4, h5, h6⟩
  have hl : p.way.length = H.length := by rw [← h3, List.length_map]
  obtain ⟨A, cap, rfl, _⟩ := own_shape h4
  refine ⟨A, cap, by rw [hl]; exact h1, ?_, h2⟩
  rw [hl]
  have hn : ∀ k, w.heap.size ≤ k → ¬ (FB k ∨ F k) := fun k hk hf => hf.elim (fun hf => by have := h.lt k hf; omega) (fun hf => by have := h.live.pn.1 k hf; omega)
  have h7 := FlO.of_p (Z := fun k => FB k ∨ F k) h4 h5 hn (fun x hx => hn _ (h6 x hx))
  rw [h3] at h7
  exact h7
theorem BkN.round (h : BkN w B c D m p F bb FB es) (hc : c.Ok) (hm : m ≤ 4398046511104) : Calls Try.prog 21 #[.pointer (some ⟨D, 0, none⟩)] w fun e w' => ∃ A cap, e = .returned (.slice A (roundL c p).length cap) ∧ FlO w' FB A (roundL c p).length (roundL c p) ∧ LiveC w F B c D m (roundP p) w' := by
  refine (Round_any hc h.live.pn (h.live.inv.fine hc hm)).mono ?_
  rintro e w' ⟨v, G, h1, ⟨H, h3, h4, h5, h6⟩, h7, h8, h9⟩
  have hl : (roundL c p).length = H.length := by rw [← h3, List.length_map]
  obtain ⟨A, cap, rfl, _⟩ := own_shape h4
  refine ⟨A, cap, by rw [hl]; exact h1, ?_, G, ⟨h7.mono (Nat.le_succ m), h.live.inv.round, fun k hk => (h8 k hk).elim (h.live.ab k) (Nat.le_trans h.hB)⟩, h8, h9⟩
  rw [hl]
  have h7 := FlO.of_p (Z := FB) h4 h5 (fun k hk hf => by have := h.lt k hf; omega) (fun x hx hf => h.ap _ hf (h6 x hx))
  rw [h3] at h7
  exact h7
theorem BkN.take (h : BkN w B c D m p F bb FB es) (hc : c.Ok) (hm : m ≤ 4398046511104) (a : Int) : Calls Try.prog 38 #[.pointer (some ⟨D, 0, none⟩), .int .i64 a] w fun e w' => ∃ A cap, e = .returned (.tuple #[.agg #[.int .i64 ((takeD c p a).2.1.id : Int), .int .i64 ((takeD c p a).2.1.src : Int), .int .i64 ((takeD c p a).2.1.dst : Int), .int .i64 ((takeD c p a).2.1.due : Int), .slice A (takeD c p a).2.1.bs.length cap], .int .i64 (takeD c p a).1]) ∧ LiveC w F B c D m (takeD c p a).2.2 w' ∧ RdB w' w'.heap.size A (takeD c p a).2.1.bs.length (takeD c p a).2.1.bs ∧ (0 < (takeD c p a).2.1.bs.length → ∀ q o s, A = some ⟨q, o, s⟩ → ¬ FB q) := by
  refine (Take_any hc h.live.pn (h.live.inv.fine hc hm) a).mono ?_
  rintro e w' ⟨A, cap, h1, ⟨G, h2, h3, h4⟩, h5, h6⟩
  exact ⟨A, cap, h1, ⟨G, ⟨h2.mono (Nat.le_succ m), h.live.inv.take a, fun k hk => (h3 k hk).elim (h.live.ab k) (Nat.le_trans h.hB)⟩, h3, h4⟩, h5, fun hp q o s e hf => h.ap _ hf (h6 q o s hp e)⟩
set_option maxRecDepth 100000 in
set_option maxHeartbeats 3200000 in
theorem run_turn (hc : c.Ok) (h : BkN w B c D m p F bb FB es) (hi : BInv c p es) (hm : m ≤ 4398046511104) (kd : Int) (hk : kd = 5 ∨ kd = 6 ∨ kd = 7) (a b n : Int) (BA SA : Option Addr) (bc sc : Nat) (bs : List UInt8) (sides : List Int) (hn : n ≤ 9223372036854775807) (hr : RdB w B BA bs.length bs) (hbn : bs.length ≤ 140737488351232) (hs : RdI w B SA sides.length sides) (hsn : sides.length ≤ 17592186043904) : Calls Try.prog 27 #[.pointer (some ⟨bb, 0, none⟩), .pointer (some ⟨D, 0, none⟩), .agg #[.int .i64 kd, .int .i64 a, .int .i64 b, .int .i64 n, .slice BA bs.length bc, .slice SA sides.length sc]] w (RunR w B c D m bb) := by
  have hb0 := one_box' w (.cells #[.int .i64 kd, .int .i64 a, .int .i64 b, .int .i64 n, .slice BA bs.length bc, .slice SA sides.length sc] 33)
  have hE := Blk.new w 33 #[.int .i64 kd, .int .i64 a, .int .i64 b, .int .i64 n, .slice BA bs.length bc, .slice SA sides.length sc]
  obtain ⟨w0, hw0⟩ : ∃ w0, w0 = w.alloc (.cells #[.int .i64 kd, .int .i64 a, .int .i64 b, .int .i64 n, .slice BA bs.length bc, .slice SA sides.length sc] 33) := ⟨_, rfl⟩
  rw [← hw0] at hb0 hE
  have HW0 := Lib.hid hw0
  have HFL := Lib.hid ((h.below hb0).flights hc hm)
  have HK0 := Lib.hid (h.below hb0)
  have HE := Lib.hid hE
  have HI := Lib.hid hi
  have HM := Lib.hid hm
  have HC := Lib.hid hc
  have HBw := Lib.hid h.hB
  have HB0 : Hid (Below B w w0) := Lib.hid (hb0.mono h.hB)
  have HR := Lib.hid hr
  have HS := Lib.hid hs
  have HBS := Lib.hid (And.intro hbn (And.intro hsn hn))
  have x0 : w0.cell? ⟨w.heap.size, 0, none⟩ = some (.int .i64 kd) := hE.cell 0
  have HNZ : Hid (¬ F w.heap.size ∧ ¬ FB w.heap.size) := Lib.hid ⟨fun hf => Nat.lt_irrefl _ (h.live.pn.1 _ hf), fun hf => Nat.lt_irrefl _ (h.lt _ hf)⟩
  have HAF : Hid (0 < bs.length → ∀ q o s, BA = some ⟨q, o, s⟩ → ¬ FB q ∧ ¬ F q) := Lib.hid fun hp q o s e => by
    obtain ⟨b2, o2, e', hlt, _⟩ := hr.at_ hp
    rw [e] at e'
    injection e' with e'
    injection e' with e'
    exact ⟨fun hf => by have := h.ab q hf; omega, fun hf => by have := h.live.ab q hf; omega⟩
  clear hw0 hb0 hE h hi hm hc hr hs hbn hsn hn
  have e5 : decide (kd ≥ 5) = true := by simp; omega
  have e7 : decide (kd ≤ 7) = true := by simp; omega
  have HKD := Lib.hid hk
  clear hk
  go_enter Try.func27, Try.ntmps27
  go_upto_region 1 with fail
  rw [← HW0.out]
  go_upto_region 2 with (go_at_call 23; refine HFL.out.mono ?_; rintro _ w1 ⟨LA, lc, rfl, hfl, hb1⟩; have HFO := Lib.hid hfl; have HB01 := Lib.hid hb1; clear hfl hb1)
  have HK1 := Lib.hid (HK0.out.below HB01.out)
  have HB1 : Hid (Below B w w1) := Lib.hid (HB0.out.trans (HB01.out.mono HK0.out.hB))
  have hE1 := HE.out.over HB01.out
  have HE1 := Lib.hid hE1
  have y0 : w1.cell? ⟨w.heap.size, 0, none⟩ = some (.int .i64 kd) := hE1.cell 0
  have y1 : w1.cell? ⟨w.heap.size, 1, none⟩ = some (.int .i64 a) := hE1.cell 1
  have y2 : w1.cell? ⟨w.heap.size, 2, none⟩ = some (.int .i64 b) := hE1.cell 2
  have y3 : w1.cell? ⟨w.heap.size, 3, none⟩ = some (.int .i64 n) := hE1.cell 3
  have y4 : w1.cell? ⟨w.heap.size, 4, none⟩ = some (.slice BA bs.length bc) := hE1.cell 4
  have y5 : w1.cell? ⟨w.heap.size, 5, none⟩ = some (.slice SA sides.length sc) := hE1.cell 5
  have HR1 := Lib.hid ((HR.out.below HB1.out).more HK1.out.hB)
  have HS1 := Lib.hid ((HS.out.below HB1.out).more HK1.out.hB)
  clear hE1 x0
  have HP := Lib.hid (turn_any HK1.out HI.out HM.out kd a b n BA SA bs.length bc sides.length sc HKD.out)
  go_wp2_with (go_at_call 50; refine HP.out.mono ?_; rintro _ w2 ⟨rfl, hx, hb2⟩; have HX := Lib.hid (And.intro hx hb2); clear hx hb2)
  go_ret
  exact ⟨rfl, HX.out.1, HB1.out.trans HX.out.2⟩
set_option maxRecDepth 100000 in
set_option maxHeartbeats 3200000 in
theorem run_none1 (hc : c.Ok) (h : BkN w B c D m p F bb FB es) (hi : BInv c p es) (hm : m ≤ 4398046511104) (kd : Int) (hk : kd < 5) (a b n : Int) (BA SA : Option Addr) (bc sc : Nat) (bs : List UInt8) (sides : List Int) (hn : n ≤ 9223372036854775807) (hr : RdB w B BA bs.length bs) (hbn : bs.length ≤ 140737488351232) (hs : RdI w B SA sides.length sides) (hsn : sides.length ≤ 17592186043904) : Calls Try.prog 27 #[.pointer (some ⟨bb, 0, none⟩), .pointer (some ⟨D, 0, none⟩), .agg #[.int .i64 kd, .int .i64 a, .int .i64 b, .int .i64 n, .slice BA bs.length bc, .slice SA sides.length sc]] w (RunR w B c D m bb) := by
  have hb0 := one_box' w (.cells #[.int .i64 kd, .int .i64 a, .int .i64 b, .int .i64 n, .slice BA bs.length bc, .slice SA sides.length sc] 33)
  have hE := Blk.new w 33 #[.int .i64 kd, .int .i64 a, .int .i64 b, .int .i64 n, .slice BA bs.length bc, .slice SA sides.length sc]
  obtain ⟨w0, hw0⟩ : ∃ w0, w0 = w.alloc (.cells #[.int .i64 kd, .int .i64 a, .int .i64 b, .int .i64 n, .slice BA bs.length bc, .slice SA sides.length sc] 33) := ⟨_, rfl⟩
  rw [← hw0] at hb0 hE
  have HW0 := Lib.hid hw0
  have HFL := Lib.hid ((h.below hb0).flights hc hm)
  have HK0 := Lib.hid (h.below hb0)
  have HE := Lib.hid hE
  have HI := Lib.hid hi
  have HM := Lib.hid hm
  have HC := Lib.hid hc
  have HBw := Lib.hid h.hB
  have HB0 : Hid (Below B w w0) := Lib.hid (hb0.mono h.hB)
  have HR := Lib.hid hr
  have HS := Lib.hid hs
  have HBS := Lib.hid (And.intro hbn (And.intro hsn hn))
  have x0 : w0.cell? ⟨w.heap.size, 0, none⟩ = some (.int .i64 kd) := hE.cell 0
  have HNZ : Hid (¬ F w.heap.size ∧ ¬ FB w.heap.size) := Lib.hid ⟨fun hf => Nat.lt_irrefl _ (h.live.pn.1 _ hf), fun hf => Nat.lt_irrefl _ (h.lt _ hf)⟩
  have HAF : Hid (0 < bs.length → ∀ q o s, BA = some ⟨q, o, s⟩ → ¬ FB q ∧ ¬ F q) := Lib.hid fun hp q o s e => by
    obtain ⟨b2, o2, e', hlt, _⟩ := hr.at_ hp
    rw [e] at e'
    injection e' with e'
    injection e' with e'
    exact ⟨fun hf => by have := h.ab q hf; omega, fun hf => by have := h.live.ab q hf; omega⟩
  clear hw0 hb0 hE h hi hm hc hr hs hbn hsn hn
  have g0 : decide (kd ≥ 5) = false := by simp; omega
  have g1 : (kd == 10) = false := by simp; omega
  have g2 : (kd == 11) = false := by simp; omega
  have g3 : (kd == 12) = false := by simp; omega
  have g4 : decide (kd > 20) = false := by simp; omega
  clear hk
  go_enter Try.func27, Try.ntmps27
  go_upto_region 1 with fail
  rw [← HW0.out]
  go_upto_region 2 with (go_at_call 23; refine HFL.out.mono ?_; rintro _ w1 ⟨LA, lc, rfl, hfl, hb1⟩; have HFO := Lib.hid hfl; have HB01 := Lib.hid hb1; clear hfl hb1)
  have HK1 := Lib.hid (HK0.out.below HB01.out)
  have HB1 : Hid (Below B w w1) := Lib.hid (HB0.out.trans (HB01.out.mono HK0.out.hB))
  have hE1 := HE.out.over HB01.out
  have HE1 := Lib.hid hE1
  have y0 : w1.cell? ⟨w.heap.size, 0, none⟩ = some (.int .i64 kd) := hE1.cell 0
  have y1 : w1.cell? ⟨w.heap.size, 1, none⟩ = some (.int .i64 a) := hE1.cell 1
  have y2 : w1.cell? ⟨w.heap.size, 2, none⟩ = some (.int .i64 b) := hE1.cell 2
  have y3 : w1.cell? ⟨w.heap.size, 3, none⟩ = some (.int .i64 n) := hE1.cell 3
  have y4 : w1.cell? ⟨w.heap.size, 4, none⟩ = some (.slice BA bs.length bc) := hE1.cell 4
  have y5 : w1.cell? ⟨w.heap.size, 5, none⟩ = some (.slice SA sides.length sc) := hE1.cell 5
  have HR1 := Lib.hid ((HR.out.below HB1.out).more HK1.out.hB)
  have HS1 := Lib.hid ((HS.out.below HB1.out).more HK1.out.hB)
  clear hE1 x0
  go_wp2
  go_ret
  exact ⟨rfl, ⟨p, F, FB, es, HK1.out.mono (Nat.le_succ m), HI.out⟩, HB1.out⟩
set_option maxRecDepth 100000 in
set_option maxHeartbeats 3200000 in
theorem run_none2 (hc : c.Ok) (h : BkN w B c D m p F bb FB es) (hi : BInv c p es) (hm : m ≤ 4398046511104) (kd : Int) (hk : 8 ≤ kd ∧ kd ≤ 20 ∧ kd ≠ 10 ∧ kd ≠ 11 ∧ kd ≠ 12) (a b n : Int) (BA SA : Option Addr) (bc sc : Nat) (bs : List UInt8) (sides : List Int) (hn : n ≤ 9223372036854775807) (hr : RdB w B BA bs.length bs) (hbn : bs.length ≤ 140737488351232) (hs : RdI w B SA sides.length sides) (hsn : sides.length ≤ 17592186043904) : Calls Try.prog 27 #[.pointer (some ⟨bb, 0, none⟩), .pointer (some ⟨D, 0, none⟩), .agg #[.int .i64 kd, .int .i64 a, .int .i64 b, .int .i64 n, .slice BA bs.length bc, .slice SA sides.length sc]] w (RunR w B c D m bb) := by
  have hb0 := one_box' w (.cells #[.int .i64 kd, .int .i64 a, .int .i64 b, .int .i64 n, .slice BA bs.length bc, .slice SA sides.length sc] 33)
  have hE := Blk.new w 33 #[.int .i64 kd, .int .i64 a, .int .i64 b, .int .i64 n, .slice BA bs.length bc, .slice SA sides.length sc]
  obtain ⟨w0, hw0⟩ : ∃ w0, w0 = w.alloc (.cells #[.int .i64 kd, .int .i64 a, .int .i64 b, .int .i64 n, .slice BA bs.length bc, .slice SA sides.length sc] 33) := ⟨_, rfl⟩
  rw [← hw0] at hb0 hE
  have HW0 := Lib.hid hw0
  have HFL := Lib.hid ((h.below hb0).flights hc hm)
  have HK0 := Lib.hid (h.below hb0)
  have HE := Lib.hid hE
  have HI := Lib.hid hi
  have HM := Lib.hid hm
  have HC := Lib.hid hc
  have HBw := Lib.hid h.hB
  have HB0 : Hid (Below B w w0) := Lib.hid (hb0.mono h.hB)
  have HR := Lib.hid hr
  have HS := Lib.hid hs
  have HBS := Lib.hid (And.intro hbn (And.intro hsn hn))
  have x0 : w0.cell? ⟨w.heap.size, 0, none⟩ = some (.int .i64 kd) := hE.cell 0
  have HNZ : Hid (¬ F w.heap.size ∧ ¬ FB w.heap.size) := Lib.hid ⟨fun hf => Nat.lt_irrefl _ (h.live.pn.1 _ hf), fun hf => Nat.lt_irrefl _ (h.lt _ hf)⟩
  have HAF : Hid (0 < bs.length → ∀ q o s, BA = some ⟨q, o, s⟩ → ¬ FB q ∧ ¬ F q) := Lib.hid fun hp q o s e => by
    obtain ⟨b2, o2, e', hlt, _⟩ := hr.at_ hp
    rw [e] at e'
    injection e' with e'
    injection e' with e'
    exact ⟨fun hf => by have := h.ab q hf; omega, fun hf => by have := h.live.ab q hf; omega⟩
  clear hw0 hb0 hE h hi hm hc hr hs hbn hsn hn
  have g0 : decide (kd ≥ 5) = true := by simp; omega
  have g1 : decide (kd ≤ 7) = false := by simp; omega
  have g2 : (kd == 10) = false := by simp; omega
  have g3 : (kd == 11) = false := by simp; omega
  have g4 : (kd == 12) = false := by simp; omega
  have g5 : decide (kd > 20) = false := by simp; omega
  clear hk
  go_enter Try.func27, Try.ntmps27
  go_upto_region 1 with fail
  rw [← HW0.out]
  go_upto_region 2 with (go_at_call 23; refine HFL.out.mono ?_; rintro _ w1 ⟨LA, lc, rfl, hfl, hb1⟩; have HFO := Lib.hid hfl; have HB01 := Lib.hid hb1; clear hfl hb1)
  have HK1 := Lib.hid (HK0.out.below HB01.out)
  have HB1 : Hid (Below B w w1) := Lib.hid (HB0.out.trans (HB01.out.mono HK0.out.hB))
  have hE1 := HE.out.over HB01.out
  have HE1 := Lib.hid hE1
  have y0 : w1.cell? ⟨w.heap.size, 0, none⟩ = some (.int .i64 kd) := hE1.cell 0
  have y1 : w1.cell? ⟨w.heap.size, 1, none⟩ = some (.int .i64 a) := hE1.cell 1
  have y2 : w1.cell? ⟨w.heap.size, 2, none⟩ = some (.int .i64 b) := hE1.cell 2
  have y3 : w1.cell? ⟨w.heap.size, 3, none⟩ = some (.int .i64 n) := hE1.cell 3
  have y4 : w1.cell? ⟨w.heap.size, 4, none⟩ = some (.slice BA bs.length bc) := hE1.cell 4
  have y5 : w1.cell? ⟨w.heap.size, 5, none⟩ = some (.slice SA sides.length sc) := hE1.cell 5
  have HR1 := Lib.hid ((HR.out.below HB1.out).more HK1.out.hB)
  have HS1 := Lib.hid ((HS.out.below HB1.out).more HK1.out.hB)
  clear hE1 x0
  go_wp2
  go_ret
  exact ⟨rfl, ⟨p, F, FB, es, HK1.out.mono (Nat.le_succ m), HI.out⟩, HB1.out⟩
set_option maxRecDepth 100000 in
set_option maxHeartbeats 3200000 in
theorem run_none3 (hc : c.Ok) (h : BkN w B c D m p F bb FB es) (hi : BInv c p es) (hm : m ≤ 4398046511104) (kd : Int) (hk : 60 < kd) (a b n : Int) (BA SA : Option Addr) (bc sc : Nat) (bs : List UInt8) (sides : List Int) (hn : n ≤ 9223372036854775807) (hr : RdB w B BA bs.length bs) (hbn : bs.length ≤ 140737488351232) (hs : RdI w B SA sides.length sides) (hsn : sides.length ≤ 17592186043904) : Calls Try.prog 27 #[.pointer (some ⟨bb, 0, none⟩), .pointer (some ⟨D, 0, none⟩), .agg #[.int .i64 kd, .int .i64 a, .int .i64 b, .int .i64 n, .slice BA bs.length bc, .slice SA sides.length sc]] w (RunR w B c D m bb) := by
  have hb0 := one_box' w (.cells #[.int .i64 kd, .int .i64 a, .int .i64 b, .int .i64 n, .slice BA bs.length bc, .slice SA sides.length sc] 33)
  have hE := Blk.new w 33 #[.int .i64 kd, .int .i64 a, .int .i64 b, .int .i64 n, .slice BA bs.length bc, .slice SA sides.length sc]
  obtain ⟨w0, hw0⟩ : ∃ w0, w0 = w.alloc (.cells #[.int .i64 kd, .int .i64 a, .int .i64 b, .int .i64 n, .slice BA bs.length bc, .slice SA sides.length sc] 33) := ⟨_, rfl⟩
  rw [← hw0] at hb0 hE
  have HW0 := Lib.hid hw0
  have HFL := Lib.hid ((h.below hb0).flights hc hm)
  have HK0 := Lib.hid (h.below hb0)
  have HE := Lib.hid hE
  have HI := Lib.hid hi
  have HM := Lib.hid hm
  have HC := Lib.hid hc
  have HBw := Lib.hid h.hB
  have HB0 : Hid (Below B w w0) := Lib.hid (hb0.mono h.hB)
  have HR := Lib.hid hr
  have HS := Lib.hid hs
  have HBS := Lib.hid (And.intro hbn (And.intro hsn hn))
  have x0 : w0.cell? ⟨w.heap.size, 0, none⟩ = some (.int .i64 kd) := hE.cell 0
  have HNZ : Hid (¬ F w.heap.size ∧ ¬ FB w.heap.size) := Lib.hid ⟨fun hf => Nat.lt_irrefl _ (h.live.pn.1 _ hf), fun hf => Nat.lt_irrefl _ (h.lt _ hf)⟩
  have HAF : Hid (0 < bs.length → ∀ q o s, BA = some ⟨q, o, s⟩ → ¬ FB q ∧ ¬ F q) := Lib.hid fun hp q o s e => by
    obtain ⟨b2, o2, e', hlt, _⟩ := hr.at_ hp
    rw [e] at e'
    injection e' with e'
    injection e' with e'
    exact ⟨fun hf => by have := h.ab q hf; omega, fun hf => by have := h.live.ab q hf; omega⟩
  clear hw0 hb0 hE h hi hm hc hr hs hbn hsn hn
  have g0 : decide (kd ≥ 5) = true := by simp; omega
  have g1 : decide (kd ≤ 7) = false := by simp; omega
  have g2 : (kd == 10) = false := by simp; omega
  have g3 : (kd == 11) = false := by simp; omega
  have g4 : (kd == 12) = false := by simp; omega
  have g5 : decide (kd > 20) = true := by simp; omega
  have g6 : decide (kd ≤ 60) = false := by simp; omega
  clear hk
  go_enter Try.func27, Try.ntmps27
  go_upto_region 1 with fail
  rw [← HW0.out]
  go_upto_region 2 with (go_at_call 23; refine HFL.out.mono ?_; rintro _ w1 ⟨LA, lc, rfl, hfl, hb1⟩; have HFO := Lib.hid hfl; have HB01 := Lib.hid hb1; clear hfl hb1)
  have HK1 := Lib.hid (HK0.out.below HB01.out)
  have HB1 : Hid (Below B w w1) := Lib.hid (HB0.out.trans (HB01.out.mono HK0.out.hB))
  have hE1 := HE.out.over HB01.out
  have HE1 := Lib.hid hE1
  have y0 : w1.cell? ⟨w.heap.size, 0, none⟩ = some (.int .i64 kd) := hE1.cell 0
  have y1 : w1.cell? ⟨w.heap.size, 1, none⟩ = some (.int .i64 a) := hE1.cell 1
  have y2 : w1.cell? ⟨w.heap.size, 2, none⟩ = some (.int .i64 b) := hE1.cell 2
  have y3 : w1.cell? ⟨w.heap.size, 3, none⟩ = some (.int .i64 n) := hE1.cell 3
  have y4 : w1.cell? ⟨w.heap.size, 4, none⟩ = some (.slice BA bs.length bc) := hE1.cell 4
  have y5 : w1.cell? ⟨w.heap.size, 5, none⟩ = some (.slice SA sides.length sc) := hE1.cell 5
  have HR1 := Lib.hid ((HR.out.below HB1.out).more HK1.out.hB)
  have HS1 := Lib.hid ((HS.out.below HB1.out).more HK1.out.hB)
  clear hE1 x0
  go_wp2
  go_ret
  exact ⟨rfl, ⟨p, F, FB, es, HK1.out.mono (Nat.le_succ m), HI.out⟩, HB1.out⟩
set_option maxRecDepth 100000 in
set_option maxHeartbeats 3200000 in
theorem run_10 (hc : c.Ok) (h : BkN w B c D m p F bb FB es) (hi : BInv c p es) (hm : m ≤ 4398046511104) (a b n : Int) (BA SA : Option Addr) (bc sc : Nat) (bs : List UInt8) (sides : List Int) (hn : n ≤ 9223372036854775807) (hr : RdB w B BA bs.length bs) (hbn : bs.length ≤ 140737488351232) (hs : RdI w B SA sides.length sides) (hsn : sides.length ≤ 17592186043904) : Calls Try.prog 27 #[.pointer (some ⟨bb, 0, none⟩), .pointer (some ⟨D, 0, none⟩), .agg #[.int .i64 10, .int .i64 a, .int .i64 b, .int .i64 n, .slice BA bs.length bc, .slice SA sides.length sc]] w (RunR w B c D m bb) := by
  have hb0 := one_box' w (.cells #[.int .i64 10, .int .i64 a, .int .i64 b, .int .i64 n, .slice BA bs.length bc, .slice SA sides.length sc] 33)
  have hE := Blk.new w 33 #[.int .i64 10, .int .i64 a, .int .i64 b, .int .i64 n, .slice BA bs.length bc, .slice SA sides.length sc]
  obtain ⟨w0, hw0⟩ : ∃ w0, w0 = w.alloc (.cells #[.int .i64 10, .int .i64 a, .int .i64 b, .int .i64 n, .slice BA bs.length bc, .slice SA sides.length sc] 33) := ⟨_, rfl⟩
  rw [← hw0] at hb0 hE
  have HW0 := Lib.hid hw0
  have HFL := Lib.hid ((h.below hb0).flights hc hm)
  have HK0 := Lib.hid (h.below hb0)
  have HE := Lib.hid hE
  have HI := Lib.hid hi
  have HM := Lib.hid hm
  have HC := Lib.hid hc
  have HBw := Lib.hid h.hB
  have HB0 : Hid (Below B w w0) := Lib.hid (hb0.mono h.hB)
  have HR := Lib.hid hr
  have HS := Lib.hid hs
  have HBS := Lib.hid (And.intro hbn (And.intro hsn hn))
  have x0 : w0.cell? ⟨w.heap.size, 0, none⟩ = some (.int .i64 10) := hE.cell 0
  have HNZ : Hid (¬ F w.heap.size ∧ ¬ FB w.heap.size) := Lib.hid ⟨fun hf => Nat.lt_irrefl _ (h.live.pn.1 _ hf), fun hf => Nat.lt_irrefl _ (h.lt _ hf)⟩
  have HAF : Hid (0 < bs.length → ∀ q o s, BA = some ⟨q, o, s⟩ → ¬ FB q ∧ ¬ F q) := Lib.hid fun hp q o s e => by
    obtain ⟨b2, o2, e', hlt, _⟩ := hr.at_ hp
    rw [e] at e'
    injection e' with e'
    injection e' with e'
    exact ⟨fun hf => by have := h.ab q hf; omega, fun hf => by have := h.live.ab q hf; omega⟩
  clear hw0 hb0 hE h hi hm hc hr hs hbn hsn hn
  go_enter Try.func27, Try.ntmps27
  go_upto_region 1 with fail
  rw [← HW0.out]
  go_upto_region 2 with (go_at_call 23; refine HFL.out.mono ?_; rintro _ w1 ⟨LA, lc, rfl, hfl, hb1⟩; have HFO := Lib.hid hfl; have HB01 := Lib.hid hb1; clear hfl hb1)
  have HK1 := Lib.hid (HK0.out.below HB01.out)
  have HB1 : Hid (Below B w w1) := Lib.hid (HB0.out.trans (HB01.out.mono HK0.out.hB))
  have hE1 := HE.out.over HB01.out
  have HE1 := Lib.hid hE1
  have y0 : w1.cell? ⟨w.heap.size, 0, none⟩ = some (.int .i64 10) := hE1.cell 0
  have y1 : w1.cell? ⟨w.heap.size, 1, none⟩ = some (.int .i64 a) := hE1.cell 1
  have y2 : w1.cell? ⟨w.heap.size, 2, none⟩ = some (.int .i64 b) := hE1.cell 2
  have y3 : w1.cell? ⟨w.heap.size, 3, none⟩ = some (.int .i64 n) := hE1.cell 3
  have y4 : w1.cell? ⟨w.heap.size, 4, none⟩ = some (.slice BA bs.length bc) := hE1.cell 4
  have y5 : w1.cell? ⟨w.heap.size, 5, none⟩ = some (.slice SA sides.length sc) := hE1.cell 5
  have HR1 := Lib.hid ((HR.out.below HB1.out).more HK1.out.hB)
  have HS1 := Lib.hid ((HS.out.below HB1.out).more HK1.out.hB)
  clear hE1 x0
  have HP := Lib.hid (CPost HC.out HK1.out.live HK1.out.hB HM.out a b BA bc bs HR1.out HBS.out.1 fun hp q o s e => (HAF.out hp q o s e).2)
  obtain ⟨y, hy⟩ : ∃ y, y = postE c p a b bs.length true := ⟨_, rfl⟩
  obtain ⟨z, hz⟩ : ∃ z, z = postR c p a b bs.length true := ⟨_, rfl⟩
  rw [← hy, ← hz] at HP
  have HY := Lib.hid (And.intro hy hz)
  clear hy hz
  go_upto_region 6 with (go_at_call 20; refine HP.out.mono ?_; rintro _ w2 ⟨rfl, hl2⟩; have HL2 := Lib.hid hl2; clear hl2)
  clear y0 y1 y2 y3 y4 y5 HP
  obtain ⟨⟨G, hk2⟩, hb2⟩ := HK1.out.net HL2.out
  have hE2 := HE1.out.chg HL2.out.choose_spec.2.2 HNZ.out.1
  have z1 : w2.cell? ⟨w.heap.size, 1, none⟩ = some (.int .i64 a) := hE2.cell 1
  have z2 : w2.cell? ⟨w.heap.size, 2, none⟩ = some (.int .i64 b) := hE2.cell 2
  have z4 : w2.cell? ⟨w.heap.size, 4, none⟩ = some (.slice BA bs.length bc) := hE2.cell 4
  have HK2 := Lib.hid hk2
  have HB2 := Lib.hid hb2
  clear hk2 hb2 hE2 HL2
  by_cases h0 : y = 0
  · have hE0 : postE c p a b bs.length true = 0 := by rw [← HY.out.1]; exact h0
    obtain ⟨i, j, ha, hb⟩ : ∃ i j : Nat, a = (i : Int) ∧ b = (j : Int) := by
      rcases joinB_cases c a b with ⟨i, j, ha, hb, _⟩ | hnj
      · exact ⟨i, j, ha, hb⟩
      · exfalso
        unfold postE at hE0
        rw [if_neg (by simp [hnj])] at hE0
        cases hE0
    have hz : z = ((es.map (·.src)).length : Int) + 1 := by
      rw [HY.out.2]
      unfold postR
      rw [if_pos hE0, List.length_map, HI.out.len]
    have hi2 := HI.out.post HK0.out.live.inv.ids.2 hE0
    have HEQ := Lib.hid (And.intro ha hb)
    rw [ha, hb, Int.toNat_natCast, Int.toNat_natCast] at hi2
    have hrd := (HR.out.below (HB1.out.trans HB2.out)).more HK2.out.hB
    obtain ⟨v0, v1, v2, v3, Y, hq⟩ := HK2.out.book
    have hlen := HI.out.len_le HK0.out.live.inv
    have hpt := bput_d (x := i) (y := j) hq (by simp) (by simp) (by simp) (by simp; have := HM.out; omega) BA bc bs hrd HBS.out.1 fun hp q o s e => (HAF.out hp q o s e).1
    rw [← hz, ← ha, ← hb] at hpt
    have HPT := Lib.hid hpt
    have HI2 := Lib.hid hi2
    subst h0
    clear hq hpt hrd hi2 ha hb hz hE0 hlen
    go_wp2_with (go_at_call 25; refine HPT.out.mono ?_; rintro _ w3 hp3; have hp4 : PutD w2 FB bb _ _ _ _ (.returned (.bool true)) w3 := hp3.1 ▸ hp3; obtain rfl := hp3.1; have HP3 := Lib.hid hp4; clear hp3 hp4)
    go_ret
    have h4 := HP3.out
    have h5 := HK2.out.putD (es' := es ++ [⟨i, j, bs, false⟩]) (by rw [List.map_append, List.map_append, List.map_append, List.map_append]; exact h4)
    obtain ⟨FB', h6⟩ := h5.2.1
    exact ⟨rfl, ⟨_, G, FB', _, h6, by rw [HEQ.out.1, HEQ.out.2]; exact HI2.out⟩, (HB1.out.trans HB2.out).trans h5.2.2⟩
  · have e1 : (y != 0) = true := by simpa using h0
    have hp0 : postP c p a b bs true = p := (post_zero (by rw [← HY.out.1]; exact h0)).2
    have HP0 := Lib.hid hp0
    clear hp0
    go_wp2
    go_ret
    exact ⟨rfl, ⟨_, G, FB, es, HK2.out, by rw [HP0.out]; exact HI.out⟩, HB1.out.trans HB2.out⟩
end
end Go.Proofs.Ytgfhmfhhobhojaa
namespace Go.Proofs.Ytgfhmfhhobhojaa
open Go.ChangeShapes Go.WideShapes Go.ChangeAt Go.RowKit
section
variable {w w' : World} {B : Nat} {c : ECfg} {D m bb : Nat} {p p' : PV} {F FB : Nat → Prop} {es : List Ent}
set_option maxRecDepth 100000 in
set_option maxHeartbeats 3200000 in
theorem run_12 (hc : c.Ok) (h : BkN w B c D m p F bb FB es) (hi : BInv c p es) (hm : m ≤ 4398046511104) (a b n : Int) (BA SA : Option Addr) (bc sc : Nat) (bs : List UInt8) (sides : List Int) (hn : n ≤ 9223372036854775807) (hr : RdB w B BA bs.length bs) (hbn : bs.length ≤ 140737488351232) (hs : RdI w B SA sides.length sides) (hsn : sides.length ≤ 17592186043904) : Calls Try.prog 27 #[.pointer (some ⟨bb, 0, none⟩), .pointer (some ⟨D, 0, none⟩), .agg #[.int .i64 12, .int .i64 a, .int .i64 b, .int .i64 n, .slice BA bs.length bc, .slice SA sides.length sc]] w (RunR w B c D m bb) := by
  have hb0 := one_box' w (.cells #[.int .i64 12, .int .i64 a, .int .i64 b, .int .i64 n, .slice BA bs.length bc, .slice SA sides.length sc] 33)
  have hE := Blk.new w 33 #[.int .i64 12, .int .i64 a, .int .i64 b, .int .i64 n, .slice BA bs.length bc, .slice SA sides.length sc]
  obtain ⟨w0, hw0⟩ : ∃ w0, w0 = w.alloc (.cells #[.int .i64 12, .int .i64 a, .int .i64 b, .int .i64 n, .slice BA bs.length bc, .slice SA sides.length sc] 33) := ⟨_, rfl⟩
  rw [← hw0] at hb0 hE
  have HW0 := Lib.hid hw0
  have HFL := Lib.hid ((h.below hb0).flights hc hm)
  have HK0 := Lib.hid (h.below hb0)
  have HE := Lib.hid hE
  have HI := Lib.hid hi
  have HM := Lib.hid hm
  have HC := Lib.hid hc
  have HBw := Lib.hid h.hB
  have HB0 : Hid (Below B w w0) := Lib.hid (hb0.mono h.hB)
  have HR := Lib.hid hr
  have HS := Lib.hid hs
  have HBS := Lib.hid (And.intro hbn (And.intro hsn hn))
  have x0 : w0.cell? ⟨w.heap.size, 0, none⟩ = some (.int .i64 12) := hE.cell 0
  have HNZ : Hid (¬ F w.heap.size ∧ ¬ FB w.heap.size) := Lib.hid ⟨fun hf => Nat.lt_irrefl _ (h.live.pn.1 _ hf), fun hf => Nat.lt_irrefl _ (h.lt _ hf)⟩
  have HAF : Hid (0 < bs.length → ∀ q o s, BA = some ⟨q, o, s⟩ → ¬ FB q ∧ ¬ F q) := Lib.hid fun hp q o s e => by
    obtain ⟨b2, o2, e', hlt, _⟩ := hr.at_ hp
    rw [e] at e'
    injection e' with e'
    injection e' with e'
    exact ⟨fun hf => by have := h.ab q hf; omega, fun hf => by have := h.live.ab q hf; omega⟩
  clear hw0 hb0 hE h hi hm hc hr hs hbn hsn hn
  go_enter Try.func27, Try.ntmps27
  go_upto_region 1 with fail
  rw [← HW0.out]
  go_upto_region 2 with (go_at_call 23; refine HFL.out.mono ?_; rintro _ w1 ⟨LA, lc, rfl, hfl, hb1⟩; have HFO := Lib.hid hfl; have HB01 := Lib.hid hb1; clear hfl hb1)
  have HK1 := Lib.hid (HK0.out.below HB01.out)
  have HB1 : Hid (Below B w w1) := Lib.hid (HB0.out.trans (HB01.out.mono HK0.out.hB))
  have hE1 := HE.out.over HB01.out
  have HE1 := Lib.hid hE1
  have y0 : w1.cell? ⟨w.heap.size, 0, none⟩ = some (.int .i64 12) := hE1.cell 0
  have y1 : w1.cell? ⟨w.heap.size, 1, none⟩ = some (.int .i64 a) := hE1.cell 1
  have y2 : w1.cell? ⟨w.heap.size, 2, none⟩ = some (.int .i64 b) := hE1.cell 2
  have y3 : w1.cell? ⟨w.heap.size, 3, none⟩ = some (.int .i64 n) := hE1.cell 3
  have y4 : w1.cell? ⟨w.heap.size, 4, none⟩ = some (.slice BA bs.length bc) := hE1.cell 4
  have y5 : w1.cell? ⟨w.heap.size, 5, none⟩ = some (.slice SA sides.length sc) := hE1.cell 5
  have HR1 := Lib.hid ((HR.out.below HB1.out).more HK1.out.hB)
  have HS1 := Lib.hid ((HS.out.below HB1.out).more HK1.out.hB)
  clear hE1 x0
  have HP := Lib.hid (HK1.out.take HC.out HM.out a)
  obtain ⟨y, hy⟩ : ∃ y, y = (takeD c p a).1 := ⟨_, rfl⟩
  obtain ⟨f, hf⟩ : ∃ f, f = (takeD c p a).2.1 := ⟨_, rfl⟩
  obtain ⟨p2, hp2⟩ : ∃ p2, p2 = (takeD c p a).2.2 := ⟨_, rfl⟩
  have hdid : y = 0 → BRest c p2 es [f] ∧ f ∈ p.way ∧ openB c p2.shut (f.src : Int) (f.dst : Int) = true ∧ upA c p2.down (f.dst : Int) = true := fun e => by
    rw [hp2, hf]
    exact take_did HI.out HK0.out.live.inv (by rw [← hy]; exact e)
  have hbad : y ≠ 0 → p2 = p := fun e => by rw [hp2]; exact (take_err (by rw [← hy]; exact e)).1
  rw [← hy, ← hf, ← hp2] at HP
  have HDID := Lib.hid (And.intro hdid hbad)
  clear hy hf hp2 hdid hbad
  go_upto_region 15 with fail
  go_upto_region 16 with (go_at_call 38; refine HP.out.mono ?_; rintro _ w2 ⟨fA, fc, rfl, hl2, hrd, hA⟩; have HL2 := Lib.hid (And.intro hl2 (And.intro hrd hA)); clear hl2 hrd hA)
  clear y0 y1 y2 y3 y4 y5 HP
  obtain ⟨⟨G, hk2⟩, hb2⟩ := HK1.out.net HL2.out.1
  have hb3 := one_box' w2 (.cells #[.int .i64 (f.id : Int), .int .i64 (f.src : Int), .int .i64 (f.dst : Int), .int .i64 (f.due : Int), .slice fA f.bs.length fc] 48)
  have hY := Blk.new w2 48 #[.int .i64 (f.id : Int), .int .i64 (f.src : Int), .int .i64 (f.dst : Int), .int .i64 (f.due : Int), .slice fA f.bs.length fc]
  obtain ⟨w3, hw3⟩ : ∃ w3, w3 = w2.alloc (.cells #[.int .i64 (f.id : Int), .int .i64 (f.src : Int), .int .i64 (f.dst : Int), .int .i64 (f.due : Int), .slice fA f.bs.length fc] 48) := ⟨_, rfl⟩
  rw [← hw3] at hb3 hY ⊢
  have HK3 := Lib.hid (hk2.below hb3)
  have HB3 : Hid (Below B w w3) := Lib.hid ((HB1.out.trans hb2).trans (hb3.mono hk2.hB))
  by_cases h0 : y = 0
  · obtain ⟨hR, hfw, hop, hup⟩ := HDID.out.1 h0
    have hsm := HK0.out.live.inv.small hfw
    have hm' := HM.out
    have hC := comes_any HK3.out hR (by omega) fA fc ((HL2.out.2.1.below hb3).more hb3.size) HL2.out.2.2
    have HCM := Lib.hid hC
    have HOU := Lib.hid (And.intro hop hup)
    have HNF : Hid (¬ FB w2.heap.size) := Lib.hid fun hf => by have := hk2.lt _ hf; omega
    have HY := Lib.hid hY
    have HRS := Lib.hid hR
    have z0 : w3.cell? ⟨w2.heap.size, 0, none⟩ = some (.int .i64 (f.id : Int)) := hY.cell 0
    have z1 : w3.cell? ⟨w2.heap.size, 1, none⟩ = some (.int .i64 (f.src : Int)) := hY.cell 1
    have z2 : w3.cell? ⟨w2.heap.size, 2, none⟩ = some (.int .i64 (f.dst : Int)) := hY.cell 2
    have z3 : w3.cell? ⟨w2.heap.size, 3, none⟩ = some (.int .i64 (f.due : Int)) := hY.cell 3
    have z4 : w3.cell? ⟨w2.heap.size, 4, none⟩ = some (.slice fA f.bs.length fc) := hY.cell 4
    subst h0
    clear hR hfw hop hup hsm hC hk2 hb2 hb3 hY hw3 HL2 hm'
    go_wp2_with (first
      | (go_at_call 26; refine HCM.out.mono ?_; rintro _ w4 ⟨rfl, hk4, hb4, hc4⟩; have HK4 := Lib.hid (And.intro hk4 hb4); have hY4 := HY.out.chg hc4 HNF.out; clear hk4 hb4 hc4 z0 z1 z2 z3 z4; have HY4 := Lib.hid hY4; have q1 : w4.cell? ⟨w2.heap.size, 1, none⟩ = some (.int .i64 (f.src : Int)) := hY4.cell 1; have q2 : w4.cell? ⟨w2.heap.size, 2, none⟩ = some (.int .i64 (f.dst : Int)) := hY4.cell 2; clear hY4; have hop := Open_any HC.out HK4.out.1.live.pn (f.src : Int) (f.dst : Int); rw [HOU.out.1] at hop; have HOP := Lib.hid hop; clear hop)
      | (go_at_call 47; refine HOP.out.mono ?_; rintro _ w5 ⟨rfl, hb5⟩; have HK5 := Lib.hid (HK4.out.1.below hb5); have HB5 := Lib.hid hb5; have hY5 := HY4.out.over hb5; clear hb5 q1 q2; have q2 : w5.cell? ⟨w2.heap.size, 2, none⟩ = some (.int .i64 (f.dst : Int)) := hY5.cell 2; clear hY5; have hup := Up_any HK5.out.live.pn (f.dst : Int); rw [HOU.out.2] at hup; have HUP := Lib.hid hup; clear hup)
      | (go_at_call 18; refine HUP.out.mono ?_; rintro _ _ ⟨rfl, rfl⟩))
    go_ret
    exact ⟨rfl, ⟨_, G, FB, _, HK5.out, HRS.out.step.inv⟩, (HB3.out.trans HK4.out.2).trans (HB5.out.mono HK4.out.1.hB)⟩
  · have e1 : (y != 0) = true := by simpa using h0
    have HP0 := Lib.hid (HDID.out.2 h0)
    clear hk2 hb2 hb3 hY hw3 HL2
    go_wp2
    go_ret
    exact ⟨rfl, ⟨_, G, FB, es, HK3.out, by rw [HP0.out]; exact HI.out⟩, HB3.out⟩
set_option maxRecDepth 100000 in
set_option maxHeartbeats 3200000 in
theorem run_do (hc : c.Ok) (h : BkN w B c D m p F bb FB es) (hi : BInv c p es) (hm : m ≤ 4398046511104) (kd : Int) (hk : 21 ≤ kd ∧ kd ≤ 60) (a b n : Int) (BA SA : Option Addr) (bc sc : Nat) (bs : List UInt8) (sides : List Int) (hn : n ≤ 9223372036854775807) (hr : RdB w B BA bs.length bs) (hbn : bs.length ≤ 140737488351232) (hs : RdI w B SA sides.length sides) (hsn : sides.length ≤ 17592186043904) : Calls Try.prog 27 #[.pointer (some ⟨bb, 0, none⟩), .pointer (some ⟨D, 0, none⟩), .agg #[.int .i64 kd, .int .i64 a, .int .i64 b, .int .i64 n, .slice BA bs.length bc, .slice SA sides.length sc]] w (RunR w B c D m bb) := by
  have hb0 := one_box' w (.cells #[.int .i64 kd, .int .i64 a, .int .i64 b, .int .i64 n, .slice BA bs.length bc, .slice SA sides.length sc] 33)
  have hE := Blk.new w 33 #[.int .i64 kd, .int .i64 a, .int .i64 b, .int .i64 n, .slice BA bs.length bc, .slice SA sides.length sc]
  obtain ⟨w0, hw0⟩ : ∃ w0, w0 = w.alloc (.cells #[.int .i64 kd, .int .i64 a, .int .i64 b, .int .i64 n, .slice BA bs.length bc, .slice SA sides.length sc] 33) := ⟨_, rfl⟩
  rw [← hw0] at hb0 hE
  have HW0 := Lib.hid hw0
  have HFL := Lib.hid ((h.below hb0).flights hc hm)
  have HK0 := Lib.hid (h.below hb0)
  have HE := Lib.hid hE
  have HI := Lib.hid hi
  have HM := Lib.hid hm
  have HC := Lib.hid hc
  have HBw := Lib.hid h.hB
  have HB0 : Hid (Below B w w0) := Lib.hid (hb0.mono h.hB)
  have HR := Lib.hid hr
  have HS := Lib.hid hs
  have HBS := Lib.hid (And.intro hbn (And.intro hsn hn))
  have x0 : w0.cell? ⟨w.heap.size, 0, none⟩ = some (.int .i64 kd) := hE.cell 0
  have HNZ : Hid (¬ F w.heap.size ∧ ¬ FB w.heap.size) := Lib.hid ⟨fun hf => Nat.lt_irrefl _ (h.live.pn.1 _ hf), fun hf => Nat.lt_irrefl _ (h.lt _ hf)⟩
  have HAF : Hid (0 < bs.length → ∀ q o s, BA = some ⟨q, o, s⟩ → ¬ FB q ∧ ¬ F q) := Lib.hid fun hp q o s e => by
    obtain ⟨b2, o2, e', hlt, _⟩ := hr.at_ hp
    rw [e] at e'
    injection e' with e'
    injection e' with e'
    exact ⟨fun hf => by have := h.ab q hf; omega, fun hf => by have := h.live.ab q hf; omega⟩
  clear hw0 hb0 hE h hi hm hc hr hs hbn hsn hn
  have g0 : decide (kd ≥ 5) = true := by simp; omega
  have g1 : decide (kd ≤ 7) = false := by simp; omega
  have g2 : (kd == 10) = false := by simp; omega
  have g3 : (kd == 11) = false := by simp; omega
  have g4 : (kd == 12) = false := by simp; omega
  have g5 : decide (kd > 20) = true := by simp; omega
  have g6 : decide (kd ≤ 60) = true := by simp; omega
  have HKD := Lib.hid hk
  clear hk
  go_enter Try.func27, Try.ntmps27
  go_upto_region 1 with fail
  rw [← HW0.out]
  go_upto_region 2 with (go_at_call 23; refine HFL.out.mono ?_; rintro _ w1 ⟨LA, lc, rfl, hfl, hb1⟩; have HFO := Lib.hid hfl; have HB01 := Lib.hid hb1; clear hfl hb1)
  have HK1 := Lib.hid (HK0.out.below HB01.out)
  have HB1 : Hid (Below B w w1) := Lib.hid (HB0.out.trans (HB01.out.mono HK0.out.hB))
  have hE1 := HE.out.over HB01.out
  have HE1 := Lib.hid hE1
  have y0 : w1.cell? ⟨w.heap.size, 0, none⟩ = some (.int .i64 kd) := hE1.cell 0
  have y1 : w1.cell? ⟨w.heap.size, 1, none⟩ = some (.int .i64 a) := hE1.cell 1
  have y2 : w1.cell? ⟨w.heap.size, 2, none⟩ = some (.int .i64 b) := hE1.cell 2
  have y3 : w1.cell? ⟨w.heap.size, 3, none⟩ = some (.int .i64 n) := hE1.cell 3
  have y4 : w1.cell? ⟨w.heap.size, 4, none⟩ = some (.slice BA bs.length bc) := hE1.cell 4
  have y5 : w1.cell? ⟨w.heap.size, 5, none⟩ = some (.slice SA sides.length sc) := hE1.cell 5
  have HR1 := Lib.hid ((HR.out.below HB1.out).more HK1.out.hB)
  have HS1 := Lib.hid ((HS.out.below HB1.out).more HK1.out.hB)
  clear hE1 x0
  have HEV := Lib.hid (event_any kd a b n BA SA bc sc bs sides (by have := HKD.out; omega) HR1.out HBS.out.1 HS1.out HBS.out.2.1)
  obtain ⟨y, hy⟩ : ∃ y, y = (doD c p ⟨kd - 20, a, b, n, bs, sides⟩).1 := ⟨_, rfl⟩
  obtain ⟨p2, hp2⟩ : ∃ p2, p2 = (doD c p ⟨kd - 20, a, b, n, bs, sides⟩).2 := ⟨_, rfl⟩
  have HQ : Hid (y = (doD c p ⟨kd - 20, a, b, n, bs, sides⟩).1 ∧ p2 = (doD c p ⟨kd - 20, a, b, n, bs, sides⟩).2) := Lib.hid ⟨hy, hp2⟩
  clear hy hp2
  go_upto_region 18 with fail
  go_upto_region 19 with (first
    | (go_at_call 39; refine HEV.out.mono ?_; rintro _ wv ⟨g, cap, hh, caps, rfl, hSB, hSI, hbv⟩; have HG := Lib.hid (And.intro hSB (And.intro hSI hbv)); clear hSB hSI hbv; have HP := Lib.hid (CDo HC.out HK1.out.live HK1.out.hB HM.out HBS.out.2.2 HBS.out.1 HBS.out.2.1 HG.out.1 HG.out.2.1 HG.out.2.2 (kd - 20) a b); rw [← HQ.out.1, ← HQ.out.2] at HP)
    | (go_at_call 19; refine HP.out.mono ?_; rintro _ w2 ⟨rfl, hl2⟩; have HL2 := Lib.hid hl2; clear hl2))
  clear y0 y1 y2 y3 y4 y5 HP HEV HG
  obtain ⟨⟨G, hk2⟩, hb2⟩ := HK1.out.net HL2.out
  have hE2 := HE1.out.chg HL2.out.choose_spec.2.2 HNZ.out.1
  have z0 : w2.cell? ⟨w.heap.size, 0, none⟩ = some (.int .i64 kd) := hE2.cell 0
  have z1 : w2.cell? ⟨w.heap.size, 1, none⟩ = some (.int .i64 a) := hE2.cell 1
  have z2 : w2.cell? ⟨w.heap.size, 2, none⟩ = some (.int .i64 b) := hE2.cell 2
  have z3 : w2.cell? ⟨w.heap.size, 3, none⟩ = some (.int .i64 n) := hE2.cell 3
  have z4 : w2.cell? ⟨w.heap.size, 4, none⟩ = some (.slice BA bs.length bc) := hE2.cell 4
  have z5 : w2.cell? ⟨w.heap.size, 5, none⟩ = some (.slice SA sides.length sc) := hE2.cell 5
  have HK2 := Lib.hid hk2
  have HB2 := Lib.hid hb2
  have hfo := (HFO.out.chg HL2.out.choose_spec.2.2 fun k _ hk => .inr hk).weak (Z' := FB) fun k hk => .inl hk
  have HFOC := Lib.hid hfo
  by_cases h0 : y = 0
  · obtain ⟨es', hD, hBI⟩ := HI.out.did HK0.out.live.inv (e := ⟨kd - 20, a, b, n, bs, sides⟩) (by rw [← HQ.out.1]; exact h0)
    rw [← HQ.out.2] at hBI
    have hrd := (HR.out.below (HB1.out.trans HB2.out)).more HK2.out.hB
    have hfl2 := HFOC.out
    have hDD := did_any HK2.out HI.out HK0.out.live.inv HM.out hD HKD.out HBS.out.2.2 hfl2 lc BA SA bc sides.length sc (by have h1 := HK0.out.live.inv.ways; have h2 := HM.out; have h3 := HK0.out.live.inv.room; have h4 := HC.out.2.2.2; omega) hrd HBS.out.1 fun hp q o s e => (HAF.out hp q o s e).1
    have HDD := Lib.hid hDD
    have HBI := Lib.hid hBI
    subst h0
    clear hD hBI hrd hfl2 hDD hk2 hb2 hE2 hfo
    go_wp2_with (go_at_call 51; refine HDD.out.mono ?_; rintro _ w3 ⟨rfl, hk3, hb3⟩; have HK3 := Lib.hid (And.intro hk3 hb3); clear hk3 hb3)
    go_ret
    obtain ⟨FB', h6⟩ := HK3.out.1
    exact ⟨rfl, ⟨_, G, FB', _, h6, HBI.out⟩, (HB1.out.trans HB2.out).trans HK3.out.2⟩
  · have e1 : (y != 0) = true := by simpa using h0
    have HP0 : Hid (p2 = p) := Lib.hid (by rw [HQ.out.2]; exact do_err (by rw [← HQ.out.1]; exact h0))
    clear hk2 hb2 hE2 hfo
    go_wp2
    go_ret
    exact ⟨rfl, ⟨_, G, FB, es, HK2.out, by rw [HP0.out]; exact HI.out⟩, HB1.out.trans HB2.out⟩
end
end Go.Proofs.Ytgfhmfhhobhojaa
namespace Go.Proofs.Ytgfhmfhhobhojaa
open Go.ChangeShapes Go.WideShapes Go.ChangeAt Go.RowKit
section
variable {w w' : World} {B : Nat} {c : ECfg} {D m bb : Nat} {p p' : PV} {F FB : Nat → Prop} {es : List Ent}
/-- While those that have come are told. -/
structure BkRd (w : World) (B : Nat) (c : ECfg) (D m bb : Nat) (p : PV) (G FB : Nat → Prop) (A : Option Addr) (l : List Flt) (k : Nat) (es : List Ent) (wr : World) : Prop where
  bk : BkN wr B c D m p G bb FB es
  rest : BRest c p es (l.drop k)
  fl : FlO wr FB A l.length l
  below : Below B w wr
set_option maxRecDepth 100000 in
set_option maxHeartbeats 3200000 in
theorem run_11 (hc : c.Ok) (h : BkN w B c D m p F bb FB es) (hi : BInv c p es) (hm : m ≤ 4398046511104) (a b n : Int) (BA SA : Option Addr) (bc sc : Nat) (bs : List UInt8) (sides : List Int) (hn : n ≤ 9223372036854775807) (hr : RdB w B BA bs.length bs) (hbn : bs.length ≤ 140737488351232) (hs : RdI w B SA sides.length sides) (hsn : sides.length ≤ 17592186043904) : Calls Try.prog 27 #[.pointer (some ⟨bb, 0, none⟩), .pointer (some ⟨D, 0, none⟩), .agg #[.int .i64 11, .int .i64 a, .int .i64 b, .int .i64 n, .slice BA bs.length bc, .slice SA sides.length sc]] w (RunR w B c D m bb) := by
  have hb0 := one_box' w (.cells #[.int .i64 11, .int .i64 a, .int .i64 b, .int .i64 n, .slice BA bs.length bc, .slice SA sides.length sc] 33)
  have hE := Blk.new w 33 #[.int .i64 11, .int .i64 a, .int .i64 b, .int .i64 n, .slice BA bs.length bc, .slice SA sides.length sc]
  obtain ⟨w0, hw0⟩ : ∃ w0, w0 = w.alloc (.cells #[.int .i64 11, .int .i64 a, .int .i64 b, .int .i64 n, .slice BA bs.length bc, .slice SA sides.length sc] 33) := ⟨_, rfl⟩
  rw [← hw0] at hb0 hE
  have HW0 := Lib.hid hw0
  have HFL := Lib.hid ((h.below hb0).flights hc hm)
  have HK0 := Lib.hid (h.below hb0)
  have HE := Lib.hid hE
  have HI := Lib.hid hi
  have HM := Lib.hid hm
  have HC := Lib.hid hc
  have HBw := Lib.hid h.hB
  have HB0 : Hid (Below B w w0) := Lib.hid (hb0.mono h.hB)
  have HR := Lib.hid hr
  have HS := Lib.hid hs
  have HBS := Lib.hid (And.intro hbn (And.intro hsn hn))
  have x0 : w0.cell? ⟨w.heap.size, 0, none⟩ = some (.int .i64 11) := hE.cell 0
  have HNZ : Hid (¬ F w.heap.size ∧ ¬ FB w.heap.size) := Lib.hid ⟨fun hf => Nat.lt_irrefl _ (h.live.pn.1 _ hf), fun hf => Nat.lt_irrefl _ (h.lt _ hf)⟩
  have HAF : Hid (0 < bs.length → ∀ q o s, BA = some ⟨q, o, s⟩ → ¬ FB q ∧ ¬ F q) := Lib.hid fun hp q o s e => by
    obtain ⟨b2, o2, e', hlt, _⟩ := hr.at_ hp
    rw [e] at e'
    injection e' with e'
    injection e' with e'
    exact ⟨fun hf => by have := h.ab q hf; omega, fun hf => by have := h.live.ab q hf; omega⟩
  clear hw0 hb0 hE h hi hm hc hr hs hbn hsn hn
  go_enter Try.func27, Try.ntmps27
  go_upto_region 1 with fail
  rw [← HW0.out]
  go_upto_region 2 with (go_at_call 23; refine HFL.out.mono ?_; rintro _ w1 ⟨LA, lc, rfl, hfl, hb1⟩; have HFO := Lib.hid hfl; have HB01 := Lib.hid hb1; clear hfl hb1)
  have HK1 := Lib.hid (HK0.out.below HB01.out)
  have HB1 : Hid (Below B w w1) := Lib.hid (HB0.out.trans (HB01.out.mono HK0.out.hB))
  have hE1 := HE.out.over HB01.out
  have HE1 := Lib.hid hE1
  have y0 : w1.cell? ⟨w.heap.size, 0, none⟩ = some (.int .i64 11) := hE1.cell 0
  have y1 : w1.cell? ⟨w.heap.size, 1, none⟩ = some (.int .i64 a) := hE1.cell 1
  have y2 : w1.cell? ⟨w.heap.size, 2, none⟩ = some (.int .i64 b) := hE1.cell 2
  have y3 : w1.cell? ⟨w.heap.size, 3, none⟩ = some (.int .i64 n) := hE1.cell 3
  have y4 : w1.cell? ⟨w.heap.size, 4, none⟩ = some (.slice BA bs.length bc) := hE1.cell 4
  have y5 : w1.cell? ⟨w.heap.size, 5, none⟩ = some (.slice SA sides.length sc) := hE1.cell 5
  have HR1 := Lib.hid ((HR.out.below HB1.out).more HK1.out.hB)
  have HS1 := Lib.hid ((HS.out.below HB1.out).more HK1.out.hB)
  clear hE1 x0
  have HP := Lib.hid (HK1.out.round HC.out HM.out)
  have HRI := Lib.hid (HI.out.round HK0.out.live.inv)
  have HPI := Lib.hid HK0.out.live.inv
  obtain ⟨l, hl⟩ : ∃ l, l = roundL c p := ⟨_, rfl⟩
  obtain ⟨p2, hp2⟩ : ∃ p2, p2 = roundP p := ⟨_, rfl⟩
  have HL : Hid (∀ f, f ∈ l → f.due = p2.clock ∧ f.id ≤ 4398046511104 ∧ openB c p2.shut (f.src : Int) (f.dst : Int) = true ∧ upA c p2.down (f.dst : Int) = true) := Lib.hid fun f hf => by
    rw [hl] at hf
    have h1 := round_ok hf
    have h2 := HPI.out.due_ hf
    have h3 := HPI.out.small (List.mem_filter.1 hf).1
    have h4 := HM.out
    rw [hp2]
    exact ⟨h2, by omega, h1.1, h1.2⟩
  have HLN : Hid (l.length ≤ 1099511627776) := Lib.hid (by
    have h1 : l.length ≤ p.way.length := by rw [hl]; exact List.length_filter_le _ _
    have h3 := HPI.out.room
    have h4 := HC.out.2.2.2
    omega)
  rw [← hl, ← hp2] at HP HRI
  clear hl hp2
  go_upto_region 9 with (go_at_call 21; refine HP.out.mono ?_; rintro _ w2 ⟨RA, rcap, rfl, hfl2, hl2⟩; have HL2 := Lib.hid (And.intro hfl2 hl2); clear hfl2 hl2)
  clear y0 y1 y2 y3 y4 y5 HP
  obtain ⟨⟨G, hk2⟩, hb2⟩ := HK1.out.net HL2.out.2
  have HST : Hid (BkRd w B c D (m + 1) bb p2 G FB RA l 0 es w2) := Lib.hid ⟨hk2, HRI.out, HL2.out.1, HB1.out.trans hb2⟩
  clear hk2 hb2 HL2 HRI HPI HE1 HNZ HAF HFL HR1 HS1 HR HS HBS HE HFO HB01
  go_wp2_with fail
  go_loopw [11] (fun i wr => ∃ (k : Nat) (es' : List Ent), k ≤ l.length ∧ i = .int .i64 (k : Int) ∧ Hid (BkRd w B c D (m + 1) bb p2 G FB RA l k es' wr)) (fun i _ => l.length - (intOf i).toNat)
  case atStart => exact ⟨0, es, by omega, rfl, HST⟩
  case round =>
    obtain ⟨k, es', hk, rfl, HR⟩ := hrel
    clear HST
    by_cases hlt : k < l.length
    · have hI : (k : Int) < (l.length : Int) := by omega
      obtain ⟨f, hf⟩ : ∃ f, l[k]? = some f := ⟨l[k], List.getElem?_eq_getElem hlt⟩
      have hln := HLN.out
      go_upto_region 12 with fail
      obtain ⟨wd, hwd⟩ : ∃ wd, wd = wr.drew := ⟨_, rfl⟩
      have hbd : Below wr.heap.size wr wd := by rw [hwd]; exact below_drewN (Below.refl _ _) 1
      have hkd := HR.out.bk.below hbd
      have hfd := HR.out.fl.below hbd
      have hBd : Below B w wd := HR.out.below.trans (hbd.mono HR.out.bk.hB)
      obtain ⟨g, bA, bc', rfl, hz, hg, c0, c1, c2, c3, c4, hrb, hAb⟩ := hfd.at_ k f hf
      have hdrop : l.drop k = f :: l.drop (k + 1) := by
        rw [List.drop_eq_getElem_cons hlt]
        congr 1
        rw [List.getElem?_eq_getElem hlt] at hf
        exact Option.some.inj hf
      obtain ⟨hdue, hid2, hop, hup⟩ := HL.out f (List.mem_of_getElem? hf)
      have hrest := HR.out.rest
      rw [hdrop] at hrest
      have HCM := Lib.hid (comes_any hkd hrest hid2 bA bc' hrb hAb)
      have HFD := Lib.hid hfd
      have HF := Lib.hid hf
      have HBD := Lib.hid hBd
      have HRE := Lib.hid hrest
      have HOU := Lib.hid (And.intro hdue (And.intro hop hup))
      have hS : wd.cell? ⟨g, k * 5, none⟩ = some (.int .i64 (f.id : Int)) ∧ wd.cell? ⟨g, k * 5 + 1, none⟩ = some (.int .i64 (f.src : Int)) ∧ wd.cell? ⟨g, k * 5 + 2, none⟩ = some (.int .i64 (f.dst : Int)) ∧ wd.cell? ⟨g, k * 5 + 3, none⟩ = some (.int .i64 (f.due : Int)) ∧ wd.cell? ⟨g, k * 5 + 4, none⟩ = some (.slice bA f.bs.length bc') := ⟨c0, c1, c2, c3, c4⟩
      have HKD := Lib.hid hkd
      have HWD := Lib.hid hwd
      have ef : ((f.due : Int) != (f.due : Int)) = false := by simp
      clear hwd hbd hkd hfd hBd hz hg c0 c1 c2 c3 c4 hrb hAb hdrop hdue hid2 hop hup hrest HR hf
      refine wp_region_held_drew (S := (fun w' => w'.cell? ⟨g, k * 5, none⟩ = some (.int .i64 (f.id : Int)) ∧ w'.cell? ⟨g, k * 5 + 1, none⟩ = some (.int .i64 (f.src : Int)) ∧ w'.cell? ⟨g, k * 5 + 2, none⟩ = some (.int .i64 (f.dst : Int)) ∧ w'.cell? ⟨g, k * 5 + 3, none⟩ = some (.int .i64 (f.due : Int)) ∧ w'.cell? ⟨g, k * 5 + 4, none⟩ = some (.slice bA f.bs.length bc'))) (by kernel_rfl) (by rw [← HWD.out]; exact hS) (fun hHeld => ?_)
      rw [← HWD.out] at hHeld ⊢
      refine wpAnyH_take (i := 0) (oi := ?oi0a) (v := ?v0a) ?hi0a (by kernel_rfl) (by kernel_rfl) (by kernel_rfl) ?hq0a ?hy0a (by assumption) ?rest0a
      case hi0a => (simp only [List.getElem?_toArray, List.getElem?_cons_zero]; rfl)
      case hy0a => (refine Or.inl ⟨by rfl, ?_⟩; intro w hSw; (try dsimp only at hSw); go_simp; try with_reducible rfl)
      case hq0a => exact fun _ _ _ h => h
      try simp only [Act.put, List.setIfInBounds_toArray, List.set_cons_zero, List.set_cons_succ]
      refine wpAnyH_take (i := 1) (oi := ?oi1a) (v := ?v1a) ?hi1a (by kernel_rfl) (by kernel_rfl) (by kernel_rfl) ?hq1a ?hy1a (by assumption) ?rest1a
      case hi1a => (simp only [List.getElem?_toArray, List.getElem?_cons_zero, List.getElem?_cons_succ]; rfl)
      case hy1a => (refine Or.inl ⟨by rfl, ?_⟩; intro w hSw; (try dsimp only at hSw); go_simp; try with_reducible rfl)
      case hq1a => exact fun _ _ _ h => h
      try simp only [Act.put, List.setIfInBounds_toArray, List.set_cons_zero, List.set_cons_succ]
      refine wpAnyH_take (i := 2) (oi := ?oi2a) (v := ?v2a) ?hi2a (by kernel_rfl) (by kernel_rfl) (by kernel_rfl) ?hq2a ?hy2a (by assumption) ?rest2a
      case hi2a => (simp only [List.getElem?_toArray, List.getElem?_cons_zero, List.getElem?_cons_succ]; rfl)
      case hy2a => (refine Or.inl ⟨by rfl, ?_⟩; intro w hSw; (try dsimp only at hSw); go_simp; try with_reducible rfl)
      case hq2a => exact fun _ _ _ h => h
      try simp only [Act.put, List.setIfInBounds_toArray, List.set_cons_zero, List.set_cons_succ]
      refine wpAnyH_take (i := 3) (oi := ?oi3a) (v := ?v3a) ?hi3a (by kernel_rfl) (by kernel_rfl) (by kernel_rfl) ?hq3a ?hy3a (by assumption) ?rest3a
      case hi3a => (simp only [List.getElem?_toArray, List.getElem?_cons_zero, List.getElem?_cons_succ]; rfl)
      case hy3a => (refine Or.inl ⟨by rfl, ?_⟩; intro w hSw; (try dsimp only at hSw); go_simp; try with_reducible rfl)
      case hq3a => exact fun _ _ _ h => h
      try simp only [Act.put, List.setIfInBounds_toArray, List.set_cons_zero, List.set_cons_succ]
      refine wpAnyH_take (i := 4) (oi := ?oi4a) (v := ?v4a) ?hi4a (by kernel_rfl) (by kernel_rfl) (by kernel_rfl) ?hq4a ?hy4a (by assumption) ?rest4a
      case hi4a => (simp only [List.getElem?_toArray, List.getElem?_cons_zero, List.getElem?_cons_succ]; rfl)
      case hy4a => (refine Or.inl ⟨by rfl, ?_⟩; intro w hSw; (try dsimp only at hSw); go_simp; try with_reducible rfl)
      case hq4a => exact fun _ _ _ h => h
      try simp only [Act.put, List.setIfInBounds_toArray, List.set_cons_zero, List.set_cons_succ]
      refine wpAnyH_ready (rs := [5]) (by kernel_rfl) (by simp) ?_
      refine AllReadyH.cons (o := ?o5pa) ?ho5pa (fun K hK => ?st5pa) ?mo5pa
      case ho5pa => (simp only [List.getElem?_toArray, List.getElem?_cons_zero, List.getElem?_cons_succ]; rfl)
      · skip
        go_simp
        refine HCM.out.mono ?_
        rintro _ w4 ⟨rfl, hk4, hb4, hc4⟩
        have hf4 := HFD.out.chg hc4 fun _ _ h => h
        have hS4 : w4.cell? ⟨g, k * 5, none⟩ = some (.int .i64 (f.id : Int)) ∧ w4.cell? ⟨g, k * 5 + 1, none⟩ = some (.int .i64 (f.src : Int)) ∧ w4.cell? ⟨g, k * 5 + 2, none⟩ = some (.int .i64 (f.dst : Int)) ∧ w4.cell? ⟨g, k * 5 + 3, none⟩ = some (.int .i64 (f.due : Int)) ∧ w4.cell? ⟨g, k * 5 + 4, none⟩ = some (.slice bA f.bs.length bc') := by
          obtain ⟨g', bA', bc2, e, _, _, c0, c1, c2, c3, c4, _, _⟩ := hf4.at_ k f HF.out
          injection e with e
          injection e with e
          subst e
          have h4 : wd.cell? ⟨g, k * 5 + 4, none⟩ = some (.slice bA f.bs.length bc') := hS.2.2.2.2
          refine ⟨c0, c1, c2, c3, ?_⟩
          obtain ⟨g3, bA3, bc3, e3, hz3, hg3, _⟩ := HFD.out.at_ k f HF.out
          injection e3 with e3
          injection e3 with e3
          subst e3
          exact (World.cell?_of_block (hc4.block g hg3 hz3)).trans h4
        have hop4 := Open_any HC.out hk4.live.pn (f.src : Int) (f.dst : Int)
        rw [HOU.out.2.1] at hop4
        have HOP := Lib.hid hop4
        have HK4 := Lib.hid (And.intro hk4 hb4)
        have HF4 := Lib.hid hf4
        clear hk4 hb4 hc4 hf4 hop4
        go_simp
        refine hK.out _ _ hS4 (fun hHeld1 => ?_)
        clear hK K
        try simp only [Act.put, List.setIfInBounds_toArray, List.set_cons_zero, List.set_cons_succ]
        refine wpAnyH_take (i := 6) (oi := ?oi6b) (v := ?v6b) ?hi6b (by kernel_rfl) (by kernel_rfl) (by kernel_rfl) ?hq6b ?hy6b (by assumption) ?rest6b
        case hi6b => (simp only [List.getElem?_toArray, List.getElem?_cons_zero, List.getElem?_cons_succ]; rfl)
        case hy6b => (refine Or.inl ⟨by rfl, ?_⟩; intro w hSw; (try dsimp only at hSw); go_simp; try with_reducible rfl)
        case hq6b => exact fun _ _ _ h => h
        try simp only [Act.put, List.setIfInBounds_toArray, List.set_cons_zero, List.set_cons_succ]
        refine wpAnyH_take (i := 7) (oi := ?oi7b) (v := ?v7b) ?hi7b (by kernel_rfl) (by kernel_rfl) (by kernel_rfl) ?hq7b ?hy7b (by assumption) ?rest7b
        case hi7b => (simp only [List.getElem?_toArray, List.getElem?_cons_zero, List.getElem?_cons_succ]; rfl)
        case hy7b => (refine Or.inl ⟨by rfl, ?_⟩; intro w hSw; (try dsimp only at hSw); go_simp; try with_reducible rfl)
        case hq7b => exact fun _ _ _ h => h
        try simp only [Act.put, List.setIfInBounds_toArray, List.set_cons_zero, List.set_cons_succ]
        refine wpAnyH_take (i := 8) (oi := ?oi8b) (v := ?v8b) ?hi8b (by kernel_rfl) (by kernel_rfl) (by kernel_rfl) ?hq8b ?hy8b (by assumption) ?rest8b
        case hi8b => (simp only [List.getElem?_toArray, List.getElem?_cons_zero, List.getElem?_cons_succ]; rfl)
        case hy8b => (refine Or.inl ⟨by rfl, ?_⟩; intro w hSw; (try dsimp only at hSw); go_simp; try with_reducible rfl)
        case hq8b => exact fun _ _ _ h => h
        try simp only [Act.put, List.setIfInBounds_toArray, List.set_cons_zero, List.set_cons_succ]
        refine wpAnyH_take (i := 9) (oi := ?oi9b) (v := ?v9b) ?hi9b (by kernel_rfl) (by kernel_rfl) (by kernel_rfl) ?hq9b ?hy9b (by assumption) ?rest9b
        case hi9b => (simp only [List.getElem?_toArray, List.getElem?_cons_zero, List.getElem?_cons_succ]; rfl)
        case hy9b => (refine Or.inl ⟨by rfl, ?_⟩; intro w hSw; (try dsimp only at hSw); go_simp; try with_reducible rfl)
        case hq9b => exact fun _ _ _ h => h
        try simp only [Act.put, List.setIfInBounds_toArray, List.set_cons_zero, List.set_cons_succ]
        refine wpAnyH_take (i := 10) (oi := ?oi10b) (v := ?v10b) ?hi10b (by kernel_rfl) (by kernel_rfl) (by kernel_rfl) ?hq10b ?hy10b (by assumption) ?rest10b
        case hi10b => (simp only [List.getElem?_toArray, List.getElem?_cons_zero, List.getElem?_cons_succ]; rfl)
        case hy10b => (refine Or.inl ⟨by rfl, ?_⟩; intro w hSw; (try dsimp only at hSw); go_simp; try with_reducible rfl)
        case hq10b => exact fun _ _ _ h => h
        try simp only [Act.put, List.setIfInBounds_toArray, List.set_cons_zero, List.set_cons_succ]
        refine wpAnyH_take (i := 11) (oi := ?oi11b) (v := ?v11b) ?hi11b (by kernel_rfl) (by kernel_rfl) (by kernel_rfl) ?hq11b ?hy11b (by assumption) ?rest11b
        case hi11b => (simp only [List.getElem?_toArray, List.getElem?_cons_zero, List.getElem?_cons_succ]; rfl)
        case hy11b => (refine Or.inl ⟨by rfl, ?_⟩; intro w hSw; (try dsimp only at hSw); go_simp; try with_reducible rfl)
        case hq11b => exact fun _ _ _ h => h
        try simp only [Act.put, List.setIfInBounds_toArray, List.set_cons_zero, List.set_cons_succ]
        refine wpAnyH_take (i := 12) (oi := ?oi12b) (v := ?v12b) ?hi12b (by kernel_rfl) (by kernel_rfl) (by kernel_rfl) ?hq12b ?hy12b (by assumption) ?rest12b
        case hi12b => (simp only [List.getElem?_toArray, List.getElem?_cons_zero, List.getElem?_cons_succ]; rfl)
        case hy12b => (refine Or.inl ⟨by rfl, ?_⟩; intro w hSw; (try dsimp only at hSw); go_simp; try with_reducible rfl)
        case hq12b => exact fun _ _ _ h => h
        try simp only [Act.put, List.setIfInBounds_toArray, List.set_cons_zero, List.set_cons_succ]
        refine wpAnyH_take (i := 13) (oi := ?oi13b) (v := ?v13b) ?hi13b (by kernel_rfl) (by kernel_rfl) (by kernel_rfl) ?hq13b ?hy13b (by assumption) ?rest13b
        case hi13b => (simp only [List.getElem?_toArray, List.getElem?_cons_zero, List.getElem?_cons_succ]; rfl)
        case hy13b => (refine Or.inl ⟨by rfl, ?_⟩; intro w hSw; (try dsimp only at hSw); go_simp; try with_reducible rfl)
        case hq13b => exact fun _ _ _ h => h
        try simp only [Act.put, List.setIfInBounds_toArray, List.set_cons_zero, List.set_cons_succ]
        refine wpAnyH_take (i := 14) (oi := ?oi14b) (v := ?v14b) ?hi14b (by kernel_rfl) (by kernel_rfl) (by kernel_rfl) ?hq14b ?hy14b (by assumption) ?rest14b
        case hi14b => (simp only [List.getElem?_toArray, List.getElem?_cons_zero, List.getElem?_cons_succ]; rfl)
        case hy14b => (refine Or.inl ⟨by rfl, ?_⟩; intro w hSw; (try dsimp only at hSw); go_simp; try with_reducible rfl)
        case hq14b => exact fun _ _ _ h => h
        try simp only [Act.put, List.setIfInBounds_toArray, List.set_cons_zero, List.set_cons_succ]
        refine wpAnyH_take (i := 15) (oi := ?oi15b) (v := ?v15b) ?hi15b (by kernel_rfl) (by kernel_rfl) (by kernel_rfl) ?hq15b ?hy15b (by assumption) ?rest15b
        case hi15b => (simp only [List.getElem?_toArray, List.getElem?_cons_zero, List.getElem?_cons_succ]; rfl)
        case hy15b => (refine Or.inl ⟨by rfl, ?_⟩; intro w hSw; (try dsimp only at hSw); go_simp; try with_reducible rfl)
        case hq15b => exact fun _ _ _ h => h
        try simp only [Act.put, List.setIfInBounds_toArray, List.set_cons_zero, List.set_cons_succ]
        refine wpAnyH_take (i := 16) (oi := ?oi16b) (v := ?v16b) ?hi16b (by kernel_rfl) (by kernel_rfl) (by kernel_rfl) ?hq16b ?hy16b (by assumption) ?rest16b
        case hi16b => (simp only [List.getElem?_toArray, List.getElem?_cons_zero, List.getElem?_cons_succ]; rfl)
        case hy16b => (refine Or.inl ⟨by rfl, ?_⟩; intro w hSw; (try dsimp only at hSw); go_simp; try with_reducible rfl)
        case hq16b => exact fun _ _ _ h => h
        try simp only [Act.put, List.setIfInBounds_toArray, List.set_cons_zero, List.set_cons_succ]
        refine wpAnyH_take (i := 17) (oi := ?oi17b) (v := ?v17b) ?hi17b (by kernel_rfl) (by kernel_rfl) (by kernel_rfl) ?hq17b ?hy17b (by assumption) ?rest17b
        case hi17b => (simp only [List.getElem?_toArray, List.getElem?_cons_zero, List.getElem?_cons_succ]; rfl)
        case hy17b => (refine Or.inl ⟨by rfl, ?_⟩; intro w hSw; (try dsimp only at hSw); go_simp; try with_reducible rfl)
        case hq17b => exact fun _ _ _ h => h
        try simp only [Act.put, List.setIfInBounds_toArray, List.set_cons_zero, List.set_cons_succ]
        refine wpAnyH_take (i := 18) (oi := ?oi18b) (v := ?v18b) ?hi18b (by kernel_rfl) (by kernel_rfl) (by kernel_rfl) ?hq18b ?hy18b (by assumption) ?rest18b
        case hi18b => (simp only [List.getElem?_toArray, List.getElem?_cons_zero, List.getElem?_cons_succ]; rfl)
        case hy18b => (refine Or.inl ⟨by rfl, ?_⟩; intro w hSw; (try dsimp only at hSw); go_simp; try with_reducible rfl)
        case hq18b => exact fun _ _ _ h => h
        try simp only [Act.put, List.setIfInBounds_toArray, List.set_cons_zero, List.set_cons_succ]
        refine wpAnyH_ready (rs := [19]) (by kernel_rfl) (by simp) ?_
        refine AllReadyH.cons (o := ?o19pb) ?ho19pb (fun K hK => ?st19pb) ?mo19pb
        case ho19pb => (simp only [List.getElem?_toArray, List.getElem?_cons_zero, List.getElem?_cons_succ]; rfl)
        · skip
          go_simp
          refine HOP.out.mono ?_
          rintro _ w5 ⟨rfl, hb5⟩
          have hk5 := HK4.out.1.below hb5
          have hf5 := HF4.out.below hb5
          have hS5 : w5.cell? ⟨g, k * 5, none⟩ = some (.int .i64 (f.id : Int)) ∧ w5.cell? ⟨g, k * 5 + 1, none⟩ = some (.int .i64 (f.src : Int)) ∧ w5.cell? ⟨g, k * 5 + 2, none⟩ = some (.int .i64 (f.dst : Int)) ∧ w5.cell? ⟨g, k * 5 + 3, none⟩ = some (.int .i64 (f.due : Int)) ∧ w5.cell? ⟨g, k * 5 + 4, none⟩ = some (.slice bA f.bs.length bc') := by
            obtain ⟨h0, h1, h2, h3, h4⟩ := hS4
            exact ⟨(hb5.cell (World.block_lt_of_cell? _ _ h0)).trans h0, (hb5.cell (World.block_lt_of_cell? _ _ h1)).trans h1, (hb5.cell (World.block_lt_of_cell? _ _ h2)).trans h2, (hb5.cell (World.block_lt_of_cell? _ _ h3)).trans h3, (hb5.cell (World.block_lt_of_cell? _ _ h4)).trans h4⟩
          have hup5 := Up_any hk5.live.pn (f.dst : Int)
          rw [HOU.out.2.2] at hup5
          have hck5 := Clock_any hk5.live.pn
          rw [← HOU.out.1] at hck5
          have HUP := Lib.hid hup5
          have HCK := Lib.hid hck5
          have HK5 := Lib.hid (And.intro hk5 (And.intro hf5 (hb5.mono HK4.out.1.hB)))
          clear hb5 hk5 hf5 hup5 hck5
          go_simp
          refine hK.out _ _ hS5 (fun hHeld2 => ?_)
          clear hK K
          try simp only [Act.put, List.setIfInBounds_toArray, List.set_cons_zero, List.set_cons_succ]
          refine wpAnyH_take (i := 20) (oi := ?oi20c) (v := ?v20c) ?hi20c (by kernel_rfl) (by kernel_rfl) (by kernel_rfl) ?hq20c ?hy20c (by assumption) ?rest20c
          case hi20c => (simp only [List.getElem?_toArray, List.getElem?_cons_zero, List.getElem?_cons_succ]; rfl)
          case hy20c => (refine Or.inl ⟨by rfl, ?_⟩; intro w hSw; (try dsimp only at hSw); go_simp; try with_reducible rfl)
          case hq20c => exact fun _ _ _ h => h
          try simp only [Act.put, List.setIfInBounds_toArray, List.set_cons_zero, List.set_cons_succ]
          refine wpAnyH_take (i := 21) (oi := ?oi21c) (v := ?v21c) ?hi21c (by kernel_rfl) (by kernel_rfl) (by kernel_rfl) ?hq21c ?hy21c (by assumption) ?rest21c
          case hi21c => (simp only [List.getElem?_toArray, List.getElem?_cons_zero, List.getElem?_cons_succ]; rfl)
          case hy21c => (refine Or.inl ⟨by rfl, ?_⟩; intro w hSw; (try dsimp only at hSw); go_simp; try with_reducible rfl)
          case hq21c => exact fun _ _ _ h => h
          try simp only [Act.put, List.setIfInBounds_toArray, List.set_cons_zero, List.set_cons_succ]
          refine wpAnyH_take (i := 22) (oi := ?oi22c) (v := ?v22c) ?hi22c (by kernel_rfl) (by kernel_rfl) (by kernel_rfl) ?hq22c ?hy22c (by assumption) ?rest22c
          case hi22c => (simp only [List.getElem?_toArray, List.getElem?_cons_zero, List.getElem?_cons_succ]; rfl)
          case hy22c => (refine Or.inl ⟨by rfl, ?_⟩; intro w hSw; (try dsimp only at hSw); go_simp; try with_reducible rfl)
          case hq22c => exact fun _ _ _ h => h
          try simp only [Act.put, List.setIfInBounds_toArray, List.set_cons_zero, List.set_cons_succ]
          refine wpAnyH_take (i := 23) (oi := ?oi23c) (v := ?v23c) ?hi23c (by kernel_rfl) (by kernel_rfl) (by kernel_rfl) ?hq23c ?hy23c (by assumption) ?rest23c
          case hi23c => (simp only [List.getElem?_toArray, List.getElem?_cons_zero, List.getElem?_cons_succ]; rfl)
          case hy23c => (refine Or.inl ⟨by rfl, ?_⟩; intro w hSw; (try dsimp only at hSw); go_simp; try with_reducible rfl)
          case hq23c => exact fun _ _ _ h => h
          try simp only [Act.put, List.setIfInBounds_toArray, List.set_cons_zero, List.set_cons_succ]
          refine wpAnyH_take (i := 24) (oi := ?oi24c) (v := ?v24c) ?hi24c (by kernel_rfl) (by kernel_rfl) (by kernel_rfl) ?hq24c ?hy24c (by assumption) ?rest24c
          case hi24c => (simp only [List.getElem?_toArray, List.getElem?_cons_zero, List.getElem?_cons_succ]; rfl)
          case hy24c => (refine Or.inl ⟨by rfl, ?_⟩; intro w hSw; (try dsimp only at hSw); go_simp; try with_reducible rfl)
          case hq24c => exact fun _ _ _ h => h
          try simp only [Act.put, List.setIfInBounds_toArray, List.set_cons_zero, List.set_cons_succ]
          refine wpAnyH_take (i := 25) (oi := ?oi25c) (v := ?v25c) ?hi25c (by kernel_rfl) (by kernel_rfl) (by kernel_rfl) ?hq25c ?hy25c (by assumption) ?rest25c
          case hi25c => (simp only [List.getElem?_toArray, List.getElem?_cons_zero, List.getElem?_cons_succ]; rfl)
          case hy25c => (refine Or.inl ⟨by rfl, ?_⟩; intro w hSw; (try dsimp only at hSw); go_simp; try with_reducible rfl)
          case hq25c => exact fun _ _ _ h => h
          try simp only [Act.put, List.setIfInBounds_toArray, List.set_cons_zero, List.set_cons_succ]
          refine wpAnyH_take (i := 26) (oi := ?oi26c) (v := ?v26c) ?hi26c (by kernel_rfl) (by kernel_rfl) (by kernel_rfl) ?hq26c ?hy26c (by assumption) ?rest26c
          case hi26c => (simp only [List.getElem?_toArray, List.getElem?_cons_zero, List.getElem?_cons_succ]; rfl)
          case hy26c => (refine Or.inl ⟨by rfl, ?_⟩; intro w hSw; (try dsimp only at hSw); go_simp; try with_reducible rfl)
          case hq26c => exact fun _ _ _ h => h
          try simp only [Act.put, List.setIfInBounds_toArray, List.set_cons_zero, List.set_cons_succ]
          refine wpAnyH_take (i := 27) (oi := ?oi27c) (v := ?v27c) ?hi27c (by kernel_rfl) (by kernel_rfl) (by kernel_rfl) ?hq27c ?hy27c (by assumption) ?rest27c
          case hi27c => (simp only [List.getElem?_toArray, List.getElem?_cons_zero, List.getElem?_cons_succ]; rfl)
          case hy27c => (refine Or.inl ⟨by rfl, ?_⟩; intro w hSw; (try dsimp only at hSw); go_simp; try with_reducible rfl)
          case hq27c => exact fun _ _ _ h => h
          try simp only [Act.put, List.setIfInBounds_toArray, List.set_cons_zero, List.set_cons_succ]
          refine wpAnyH_take (i := 28) (oi := ?oi28c) (v := ?v28c) ?hi28c (by kernel_rfl) (by kernel_rfl) (by kernel_rfl) ?hq28c ?hy28c (by assumption) ?rest28c
          case hi28c => (simp only [List.getElem?_toArray, List.getElem?_cons_zero, List.getElem?_cons_succ]; rfl)
          case hy28c => (refine Or.inl ⟨by rfl, ?_⟩; intro w hSw; (try dsimp only at hSw); go_simp; try with_reducible rfl)
          case hq28c => exact fun _ _ _ h => h
          try simp only [Act.put, List.setIfInBounds_toArray, List.set_cons_zero, List.set_cons_succ]
          refine wpAnyH_ready (rs := [29]) (by kernel_rfl) (by simp) ?_
          refine AllReadyH.cons (o := ?o29pc) ?ho29pc (fun K hK => ?st29pc) ?mo29pc
          case ho29pc => (simp only [List.getElem?_toArray, List.getElem?_cons_zero, List.getElem?_cons_succ]; rfl)
          · skip
            go_simp
            refine HUP.out.mono ?_
            rintro _ _ ⟨rfl, rfl⟩
            go_simp
            refine hK.out _ _ hS5 (fun hHeld3 => ?_)
            clear hK K
            try simp only [Act.put, List.setIfInBounds_toArray, List.set_cons_zero, List.set_cons_succ]
            refine wpAnyH_take (i := 30) (oi := ?oi30d) (v := ?v30d) ?hi30d (by kernel_rfl) (by kernel_rfl) (by kernel_rfl) ?hq30d ?hy30d (by assumption) ?rest30d
            case hi30d => (simp only [List.getElem?_toArray, List.getElem?_cons_zero, List.getElem?_cons_succ]; rfl)
            case hy30d => (refine Or.inl ⟨by rfl, ?_⟩; intro w hSw; (try dsimp only at hSw); go_simp; try with_reducible rfl)
            case hq30d => exact fun _ _ _ h => h
            try simp only [Act.put, List.setIfInBounds_toArray, List.set_cons_zero, List.set_cons_succ]
            refine wpAnyH_take (i := 31) (oi := ?oi31d) (v := ?v31d) ?hi31d (by kernel_rfl) (by kernel_rfl) (by kernel_rfl) ?hq31d ?hy31d (by assumption) ?rest31d
            case hi31d => (simp only [List.getElem?_toArray, List.getElem?_cons_zero, List.getElem?_cons_succ]; rfl)
            case hy31d => (refine Or.inl ⟨by rfl, ?_⟩; intro w hSw; (try dsimp only at hSw); go_simp; try with_reducible rfl)
            case hq31d => exact fun _ _ _ h => h
            try simp only [Act.put, List.setIfInBounds_toArray, List.set_cons_zero, List.set_cons_succ]
            refine wpAnyH_take (i := 32) (oi := ?oi32d) (v := ?v32d) ?hi32d (by kernel_rfl) (by kernel_rfl) (by kernel_rfl) ?hq32d ?hy32d (by assumption) ?rest32d
            case hi32d => (simp only [List.getElem?_toArray, List.getElem?_cons_zero, List.getElem?_cons_succ]; rfl)
            case hy32d => (refine Or.inl ⟨by rfl, ?_⟩; intro w hSw; (try dsimp only at hSw); go_simp; try with_reducible rfl)
            case hq32d => exact fun _ _ _ h => h
            try simp only [Act.put, List.setIfInBounds_toArray, List.set_cons_zero, List.set_cons_succ]
            refine wpAnyH_take (i := 33) (oi := ?oi33d) (v := ?v33d) ?hi33d (by kernel_rfl) (by kernel_rfl) (by kernel_rfl) ?hq33d ?hy33d (by assumption) ?rest33d
            case hi33d => (simp only [List.getElem?_toArray, List.getElem?_cons_zero, List.getElem?_cons_succ]; rfl)
            case hy33d => (refine Or.inl ⟨by rfl, ?_⟩; intro w hSw; (try dsimp only at hSw); go_simp; try with_reducible rfl)
            case hq33d => exact fun _ _ _ h => h
            try simp only [Act.put, List.setIfInBounds_toArray, List.set_cons_zero, List.set_cons_succ]
            refine wpAnyH_take (i := 34) (oi := ?oi34d) (v := ?v34d) ?hi34d (by kernel_rfl) (by kernel_rfl) (by kernel_rfl) ?hq34d ?hy34d (by assumption) ?rest34d
            case hi34d => (simp only [List.getElem?_toArray, List.getElem?_cons_zero, List.getElem?_cons_succ]; rfl)
            case hy34d => (refine Or.inl ⟨by rfl, ?_⟩; intro w hSw; (try dsimp only at hSw); go_simp; try with_reducible rfl)
            case hq34d => exact fun _ _ _ h => h
            try simp only [Act.put, List.setIfInBounds_toArray, List.set_cons_zero, List.set_cons_succ]
            refine wpAnyH_take (i := 35) (oi := ?oi35d) (v := ?v35d) ?hi35d (by kernel_rfl) (by kernel_rfl) (by kernel_rfl) ?hq35d ?hy35d (by assumption) ?rest35d
            case hi35d => (simp only [List.getElem?_toArray, List.getElem?_cons_zero, List.getElem?_cons_succ]; rfl)
            case hy35d => (refine Or.inl ⟨by rfl, ?_⟩; intro w hSw; (try dsimp only at hSw); go_simp; try with_reducible rfl)
            case hq35d => exact fun _ _ _ h => h
            try simp only [Act.put, List.setIfInBounds_toArray, List.set_cons_zero, List.set_cons_succ]
            refine wpAnyH_take (i := 36) (oi := ?oi36d) (v := ?v36d) ?hi36d (by kernel_rfl) (by kernel_rfl) (by kernel_rfl) ?hq36d ?hy36d (by assumption) ?rest36d
            case hi36d => (simp only [List.getElem?_toArray, List.getElem?_cons_zero, List.getElem?_cons_succ]; rfl)
            case hy36d => (refine Or.inl ⟨by rfl, ?_⟩; intro w hSw; (try dsimp only at hSw); go_simp; try with_reducible rfl)
            case hq36d => exact fun _ _ _ h => h
            try simp only [Act.put, List.setIfInBounds_toArray, List.set_cons_zero, List.set_cons_succ]
            refine wpAnyH_take (i := 37) (oi := ?oi37d) (v := ?v37d) ?hi37d (by kernel_rfl) (by kernel_rfl) (by kernel_rfl) ?hq37d ?hy37d (by assumption) ?rest37d
            case hi37d => (simp only [List.getElem?_toArray, List.getElem?_cons_zero, List.getElem?_cons_succ]; rfl)
            case hy37d => (refine Or.inl ⟨by rfl, ?_⟩; intro w hSw; (try dsimp only at hSw); go_simp; try with_reducible rfl)
            case hq37d => exact fun _ _ _ h => h
            try simp only [Act.put, List.setIfInBounds_toArray, List.set_cons_zero, List.set_cons_succ]
            refine wpAnyH_take (i := 38) (oi := ?oi38d) (v := ?v38d) ?hi38d (by kernel_rfl) (by kernel_rfl) (by kernel_rfl) ?hq38d ?hy38d (by assumption) ?rest38d
            case hi38d => (simp only [List.getElem?_toArray, List.getElem?_cons_zero, List.getElem?_cons_succ]; rfl)
            case hy38d => (refine Or.inl ⟨by rfl, ?_⟩; intro w hSw; (try dsimp only at hSw); go_simp; try with_reducible rfl)
            case hq38d => exact fun _ _ _ h => h
            try simp only [Act.put, List.setIfInBounds_toArray, List.set_cons_zero, List.set_cons_succ]
            refine wpAnyH_ready (rs := [39]) (by kernel_rfl) (by simp) ?_
            refine AllReadyH.cons (o := ?o39pd) ?ho39pd (fun K hK => ?st39pd) ?mo39pd
            case ho39pd => (simp only [List.getElem?_toArray, List.getElem?_cons_zero, List.getElem?_cons_succ]; rfl)
            · skip
              go_simp
              refine HCK.out.mono ?_
              rintro _ _ ⟨rfl, rfl⟩
              go_simp
              refine hK.out _ _ hS5 (fun hHeld4 => ?_)
              clear hK K
              try simp only [Act.put, List.setIfInBounds_toArray, List.set_cons_zero, List.set_cons_succ]
              refine wpAnyH_take (i := 40) (oi := ?oi40e) (v := ?v40e) ?hi40e (by kernel_rfl) (by kernel_rfl) (by kernel_rfl) ?hq40e ?hy40e (by assumption) ?rest40e
              case hi40e => (simp only [List.getElem?_toArray, List.getElem?_cons_zero, List.getElem?_cons_succ]; rfl)
              case hy40e => (refine Or.inl ⟨by rfl, ?_⟩; intro w hSw; (try dsimp only at hSw); go_simp; try with_reducible rfl)
              case hq40e => exact fun _ _ _ h => h
              try simp only [Act.put, List.setIfInBounds_toArray, List.set_cons_zero, List.set_cons_succ]
              refine wpAnyH_take (i := 41) (oi := ?oi41e) (v := ?v41e) ?hi41e (by kernel_rfl) (by kernel_rfl) (by kernel_rfl) ?hq41e ?hy41e (by assumption) ?rest41e
              case hi41e => (simp only [List.getElem?_toArray, List.getElem?_cons_zero, List.getElem?_cons_succ]; rfl)
              case hy41e => (refine Or.inl ⟨by rfl, ?_⟩; intro w hSw; (try dsimp only at hSw); go_simp; try with_reducible rfl)
              case hq41e => exact fun _ _ _ h => h
              try simp only [Act.put, List.setIfInBounds_toArray, List.set_cons_zero, List.set_cons_succ]
              refine wpAnyH_done (by kernel_rfl) ?_ _
              have HNX : Hid (BkRd w B c D (m + 1) bb p2 G FB (some ⟨g, 0, none⟩) l (k + 1) (mark es' (f.id - 1)) w5) := Lib.hid ⟨HK5.out.1, HRE.out.step, HK5.out.2.1, (HBD.out.trans HK4.out.2).trans HK5.out.2.2⟩
              clear hS hS4 hS5 hHeld hHeld1 hHeld2 hHeld3 hHeld4
              go_wp2
              go_roundw
              case rel => exact ⟨k + 1, _, by omega, by go_num, HNX⟩
              case measure => simp [intOf]; omega
            · exact AllReadyH.nil
          · exact AllReadyH.nil
        · exact AllReadyH.nil
      · exact AllReadyH.nil
    · obtain rfl : k = l.length := by omega
      have hnl : ¬ (l.length : Int) < (l.length : Int) := by omega
      go_wp2
      go_ret
      exact ⟨rfl, ⟨p2, G, FB, es', HR.out.bk, HR.out.rest.inv⟩, HR.out.below⟩
end
end Go.Proofs.Ytgfhmfhhobhojaa
namespace Go.Proofs.Ytgfhmfhhobhojaa
open Go.ChangeShapes Go.WideShapes Go.ChangeAt Go.RowKit
section
variable {w w' : World} {B : Nat} {c : ECfg} {D m bb : Nat} {p p' : PV} {F FB : Nat → Prop} {es : List Ent}
theorem run_any (hc : c.Ok) (h : BkX w B c D m bb) (hm : m ≤ 4398046511104) (kd a b n : Int) (BA SA : Option Addr) (bc sc : Nat) (bs : List UInt8) (sides : List Int) (hn : n ≤ 9223372036854775807) (hr : RdB w B BA bs.length bs) (hbn : bs.length ≤ 140737488351232) (hs : RdI w B SA sides.length sides) (hsn : sides.length ≤ 17592186043904) : Calls Try.prog 27 #[.pointer (some ⟨bb, 0, none⟩), .pointer (some ⟨D, 0, none⟩), .agg #[.int .i64 kd, .int .i64 a, .int .i64 b, .int .i64 n, .slice BA bs.length bc, .slice SA sides.length sc]] w (RunR w B c D m bb) := by
  obtain ⟨p, F, FB, es, hk, hi⟩ := h
  by_cases h1 : kd < 5
  · exact run_none1 hc hk hi hm kd h1 a b n BA SA bc sc bs sides hn hr hbn hs hsn
  by_cases h2 : kd ≤ 7
  · exact run_turn hc hk hi hm kd (by omega) a b n BA SA bc sc bs sides hn hr hbn hs hsn
  by_cases h3 : kd = 10
  · subst h3; exact run_10 hc hk hi hm a b n BA SA bc sc bs sides hn hr hbn hs hsn
  by_cases h4 : kd = 11
  · subst h4; exact run_11 hc hk hi hm a b n BA SA bc sc bs sides hn hr hbn hs hsn
  by_cases h5 : kd = 12
  · subst h5; exact run_12 hc hk hi hm a b n BA SA bc sc bs sides hn hr hbn hs hsn
  by_cases h6 : kd ≤ 20
  · exact run_none2 hc hk hi hm kd (by omega) a b n BA SA bc sc bs sides hn hr hbn hs hsn
  by_cases h7 : kd ≤ 60
  · exact run_do hc hk hi hm kd (by omega) a b n BA SA bc sc bs sides hn hr hbn hs hsn
  · exact run_none3 hc hk hi hm kd (by omega) a b n BA SA bc sc bs sides hn hr hbn hs hsn
theorem first_post {j : Nat} (hc : c.Ok) (hj : 1 ≤ j) (hjn : j < c.n) : postE c PV.new 0 (j : Int) 2 true = 0 ∧ postR c PV.new 0 (j : Int) 2 true = 1 ∧ ∃ f, roundL c (postP c PV.new 0 (j : Int) [1, 2] true) = [f] := by
  have hJ : joinB c 0 (j : Int) = true := joinB_nat (i := 0) (by omega) hjn (by omega)
  have e : postE c PV.new 0 (j : Int) 2 true = 0 := by
    unfold postE launchE
    rw [if_pos ⟨hJ, by omega⟩]
    simp [PV.new]
    have := hc.2.2.1
    omega
  refine ⟨e, by unfold postR; rw [if_pos e]; rfl, ⟨1, 0, j, 1, [1, 2]⟩, ?_⟩
  have hP : postP c PV.new 0 (j : Int) [1, 2] true = addP PV.new 0 j 1 [1, 2] := by
    unfold postP
    rw [if_pos (show postE c PV.new 0 (j : Int) ([1, 2] : List UInt8).length true = 0 from e)]
    simp [PV.new]
  rw [hP]
  have hok : okB c (addP PV.new 0 j 1 [1, 2]) ⟨1, 0, j, 1, [1, 2]⟩ = true := by
    show (joinB c 0 (j : Int) && !false && (hasB c (j : Int) && !false)) = true
    rw [hJ]
    simp [hasB]
    omega
  show (([] ++ [⟨0 + 1, 0, j, 1, [1, 2]⟩] : List Flt)).filter (hereB c (addP PV.new 0 j 1 [1, 2]) (0 + 1)) = _
  have hh : hereB c (addP PV.new 0 j 1 [1, 2]) (0 + 1) ⟨1, 0, j, 1, [1, 2]⟩ = true := by
    unfold hereB
    rw [hok]
    rfl
  rw [List.nil_append, List.filter_cons, if_pos hh]
  rfl
theorem BookQ.new (w : World) : BookQ (w.alloc (.cells #[.slice none 0 0, .slice none 0 0, .slice none 0 0, .slice none 0 0] 55)) (fun k => k = w.heap.size) w.heap.size [] [] [] [] (.slice none 0 0) (.slice none 0 0) (.slice none 0 0) (.slice none 0 0) [] := by
  refine ⟨Blk.new w _ _, ⟨rfl, .inl ⟨rfl, rfl⟩⟩, ⟨rfl, .inl ⟨rfl, rfl⟩⟩, ⟨rfl, .inl ⟨rfl, rfl⟩⟩, ⟨rfl, .inl ⟨rfl, rfl⟩⟩, fun k bs h => ?_, fun j k u u' g h => ?_, fun g h => (by cases h), rfl, fun g h => (by cases h), fun g h => (by cases h), fun g h => (by cases h), fun g h => (by cases h), fun u h => (by simp at h), fun k h => (by subst h; simp)⟩
  · simp at h
  · simp at h
end
set_option maxRecDepth 100000 in
set_option maxHeartbeats 1600000 in
theorem Nn_none {w : World} (x0 x1 : Int) (h0 : ¬ NetOk x0 x1) (A : Option Addr) (n cap : Nat) : Calls Try.prog 5 #[.agg #[.int .i64 x0, .int .i64 x1, .slice A n cap]] w (TrueOk w) := by
  have hb0 := one_box' w (.cells #[.int .i64 x0, .int .i64 x1, .slice A n cap] 24)
  have hR := Blk.new w 24 #[.int .i64 x0, .int .i64 x1, .slice A n cap]
  obtain ⟨w0, hw0⟩ : ∃ w0, w0 = w.alloc (.cells #[.int .i64 x0, .int .i64 x1, .slice A n cap] 24) := ⟨_, rfl⟩
  rw [← hw0] at hb0 hR
  have HW := Lib.hid hw0
  have HB0 := Lib.hid hb0
  have r0 : w0.cell? ⟨w.heap.size, 0, none⟩ = some (.int .i64 x0) := hR.cell 0
  have r1 : w0.cell? ⟨w.heap.size, 1, none⟩ = some (.int .i64 x1) := hR.cell 1
  have HNEW := Lib.hid (New_no (w := w0) x0 x1 h0)
  have hd : x0 < 2 ∨ (2 ≤ x0 ∧ 16 < x0) ∨ (2 ≤ x0 ∧ x0 ≤ 16 ∧ x1 < 1) ∨ (2 ≤ x0 ∧ x0 ≤ 16 ∧ 1 ≤ x1 ∧ 20000 < x1) := by
    unfold NetOk at h0
    omega
  clear hw0 hR hb0 h0
  go_enter Try.func5, Try.ntmps5
  go_upto_region 1 with fail
  rw [← HW.out]
  go_upto_region 2 with (go_at_call 15; refine HNEW.out.mono ?_; rintro _ _ ⟨rfl, rfl⟩)
  rcases hd with h1 | ⟨h1, h2⟩ | ⟨h1, h2, h3⟩ | ⟨h1, h2, h3, h4⟩
  · go_wp2
    go_ret
    exact ⟨rfl, HB0.out⟩
  · have g1 : ¬ x0 < 2 := by omega
    go_wp2
    go_ret
    exact ⟨rfl, HB0.out⟩
  · have g1 : ¬ x0 < 2 := by omega
    have g2 : ¬ 16 < x0 := by omega
    go_wp2
    go_ret
    exact ⟨rfl, HB0.out⟩
  · have g1 : ¬ x0 < 2 := by omega
    have g2 : ¬ 16 < x0 := by omega
    have g3 : ¬ x1 < 1 := by omega
    go_wp2
    go_ret
    exact ⟨rfl, HB0.out⟩
set_option maxRecDepth 100000 in
set_option maxHeartbeats 6400000 in
theorem Nn_yes {w : World} {c : ECfg} (hc : c.Ok) (A : Option Addr) (n cap : Nat) (hcap : n ≤ cap) (hcm : cap * 80 ≤ 140737488351232) (HO : Hid (EOps w w.heap.size 140737488351232 17592186043904 A n)) :
    Calls Try.prog 5 #[.agg #[.int .i64 (c.n : Int), .int .i64 (c.room : Int), .slice A n cap]] w (TrueOk w) := by
  have hb0 := one_box' w (.cells #[.int .i64 (c.n : Int), .int .i64 (c.room : Int), .slice A n cap] 24)
  have hR := Blk.new w 24 #[.int .i64 (c.n : Int), .int .i64 (c.room : Int), .slice A n cap]
  obtain ⟨w0, hw0⟩ : ∃ w0, w0 = w.alloc (.cells #[.int .i64 (c.n : Int), .int .i64 (c.room : Int), .slice A n cap] 24) := ⟨_, rfl⟩
  rw [← hw0] at hb0 hR
  have HW := Lib.hid hw0
  have hs0 := hb0.size
  have HOP : Hid (EOps w0 w.heap.size 140737488351232 17592186043904 A n) := HO.out.below hb0
  have HR := Lib.hid hR
  have HB0 := Lib.hid hb0
  have HC := Lib.hid hc
  have HNEW := Lib.hid (New_yes (w := w0) hc)
  have r0 : w0.cell? ⟨w.heap.size, 0, none⟩ = some (.int .i64 (c.n : Int)) := hR.cell 0
  have r1 : w0.cell? ⟨w.heap.size, 1, none⟩ = some (.int .i64 (c.room : Int)) := hR.cell 1
  have g2 : ¬ (16 : Int) < (c.n : Int) := by have := hc.2.1; omega
  have g3 : ¬ (c.room : Int) < 1 := by have := hc.2.2.1; omega
  have g4 : ¬ (20000 : Int) < (c.room : Int) := by have := hc.2.2.2; omega
  clear hw0 hR hb0
  go_enter Try.func5, Try.ntmps5
  go_upto_region 1 with fail
  rw [← HW.out]
  go_upto_region 2 with (go_at_call 15; refine HNEW.out.mono ?_; rintro _ w1 ⟨D, F1, rfl, hp, hF, hb1⟩; have HP1 := Lib.hid (And.intro hp (And.intro hF hb1)); clear hp hF hb1)
  have hR1 := HR.out.over HP1.out.2.2
  clear r0 r1
  have r0 : w1.cell? ⟨w.heap.size, 0, none⟩ = some (.int .i64 (c.n : Int)) := hR1.cell 0
  have r1 : w1.cell? ⟨w.heap.size, 1, none⟩ = some (.int .i64 (c.room : Int)) := hR1.cell 1
  clear hR1
  by_cases h2 : c.n < 2
  · have g1 : (c.n : Int) < 2 := by omega
    go_wp2
    go_ret
    exact ⟨rfl, HB0.out.trans (HP1.out.2.2.mono hs0)⟩
  · have g1 : ¬ (c.n : Int) < 2 := by omega
    obtain ⟨j, hj⟩ : ∃ j, j = c.n - 1 := ⟨_, rfl⟩
    have hjw : IntKind.i64.wrap ((c.n : Int) - 1) = (j : Int) := by
      rw [show (c.n : Int) - 1 = (j : Int) by omega]
      exact IntWalk.i64_in _ (by have := hc.2.1; omega)
    have hb2 := one_box' w1 (.cells #[.slice none 0 0, .slice none 0 0, .slice none 0 0, .slice none 0 0] 55)
    have hq := BookQ.new w1
    obtain ⟨w2, hw2⟩ : ∃ w2, w2 = w1.alloc (.cells #[.slice none 0 0, .slice none 0 0, .slice none 0 0, .slice none 0 0] 55) := ⟨_, rfl⟩
    rw [← hw2] at hb2 hq
    have hs1 := HP1.out.2.2.size
    have hs2 := hb2.size
    have hlive : LiveP w1 w0.heap.size c D 0 PV.new F1 := ⟨HP1.out.1, PInv.new hc, HP1.out.2.1⟩
    have hbk : BkN w2 w0.heap.size c D 0 PV.new F1 w1.heap.size (fun k => k = w1.heap.size) [] := ⟨hlive.below hb2, ⟨_, _, _, _, _, hq⟩, fun k hk hf => by have := HP1.out.1.1 k hf; omega, fun k hk => by omega, by omega⟩
    have hb3 := one_box' w2 (.cells #[.int .u8 1, .int .u8 2] 5)
    have hE3 := Blk.new w2 5 #[.int .u8 1, .int .u8 2]
    obtain ⟨w3, hw3⟩ : ∃ w3, w3 = w2.alloc (.cells #[.int .u8 1, .int .u8 2] 5) := ⟨_, rfl⟩
    rw [← hw3] at hb3 hE3
    have hbk3 := hbk.below hb3
    have hrd : ∀ W, Blk W w2.heap.size 5 #[.int .u8 1, .int .u8 2] → RdB W W.heap.size (some ⟨w2.heap.size, 0, none⟩) 2 [1, 2] := fun W hW => ⟨rfl, fun _ => ⟨_, 0, rfl, hW.lt, fun q u hu => by
      rw [Nat.zero_add, hW.cell, ← Array.getElem?_toList]; exact hu⟩⟩
    have hnf1 : ¬ F1 w2.heap.size := fun hf => by have := HP1.out.1.1 _ hf; omega
    have hcp : Calls Try.prog 20 #[.pointer (some ⟨D, 0, none⟩), .int .i64 0, .int .i64 (j : Int), .slice (some ⟨w2.heap.size, 0, none⟩) 2 2] w3 fun e w' => e = .returned (.tuple #[.int .i64 (postR c PV.new 0 (j : Int) 2 true), .int .i64 (postE c PV.new 0 (j : Int) 2 true)]) ∧ LiveC w3 F1 w0.heap.size c D 0 (postP c PV.new 0 (j : Int) [1, 2] true) w' := CPost hc hbk3.live hbk3.hB (by omega) 0 (j : Int) (some ⟨w2.heap.size, 0, none⟩) 2 [1, 2] (hrd w3 hE3) (by decide) fun _ b o s e => by injection e with e; injection e with e; exact e ▸ hnf1
    obtain ⟨hp0, hpr, f, hfl⟩ := first_post (c := c) (j := j) hc (by omega) (by omega)
    have hbi := (BInv.new c).post (bs := [1, 2]) (a := 0) (b := (j : Int)) (lives := true) (fun f hf => by simp [PV.new] at hf) hp0
    rw [hpr, hp0] at hcp
    obtain ⟨p1, hp1⟩ : ∃ p1, p1 = postP c PV.new 0 (j : Int) [1, 2] true := ⟨_, rfl⟩
    rw [← hp1] at hcp hfl hbi
    have HBI : Hid (BInv c p1 [⟨0, j, [1, 2], false⟩]) := Lib.hid (by
      have := hbi
      rw [Int.toNat_natCast] at this
      exact this)
    have HCP := Lib.hid hcp
    have HFL := Lib.hid hfl
    have HK3 := Lib.hid hbk3
    have HRD := Lib.hid hrd
    have HE3 := Lib.hid hE3
    have HB3 : Hid (Below w0.heap.size w0 w3) := Lib.hid ((HP1.out.2.2.trans (hb2.mono hs1)).trans (hb3.mono (by omega)))
    have HW2 := Lib.hid hw2
    have HW3 := Lib.hid hw3
    have HNF := Lib.hid hnf1
    have HSZ : Hid (w0.heap.size ≤ w2.heap.size ∧ w1.heap.size < w2.heap.size) := Lib.hid ⟨by omega, by rw [hw2]; simp⟩
    have HR2 : Hid (Blk w3 w.heap.size 24 #[.int .i64 (c.n : Int), .int .i64 (c.room : Int), .slice A n cap]) := Lib.hid (HR.out.over HB3.out)
    clear hj hb2 hq hw2 hlive hbk hb3 hE3 hw3 hbk3 hrd hnf1 hcp hp0 hpr hfl hbi hp1
    go_upto_region 7 with fail
    rw [← HW2.out]
    go_upto_region 8 with fail
    rw [← HW3.out]
    clear r0 r1 g1 g2 g3 g4
    have r0 : w3.cell? ⟨w.heap.size, 0, none⟩ = some (.int .i64 (c.n : Int)) := HR2.out.cell 0
    go_upto_region 9 with (go_at_call 20; refine HCP.out.mono ?_; rintro _ w4 ⟨rfl, hl4⟩; have HL4 := Lib.hid hl4; clear hl4)
    clear r0
    obtain ⟨⟨G, hk4⟩, hb4⟩ := HK3.out.net HL4.out
    have hch4 := HL4.out.choose_spec.2.2
    have hR4 : Blk w4 w.heap.size 24 #[.int .i64 (c.n : Int), .int .i64 (c.room : Int), .slice A n cap] := HR2.out.chg hch4 fun hf => by have := HP1.out.2.1 _ hf; have := HR.out.lt; omega
    have hE4 := HE3.out.chg hch4 HNF.out
    have r0 : w4.cell? ⟨w.heap.size, 0, none⟩ = some (.int .i64 (c.n : Int)) := hR4.cell 0
    have hpt : Calls Try.prog 25 #[.pointer (some ⟨w1.heap.size, 0, none⟩), .int .i64 1, .int .i64 0, .int .i64 (j : Int), .slice (some ⟨w2.heap.size, 0, none⟩) 2 2] w4 (PutD w4 (fun k => k = w1.heap.size) w1.heap.size [0] [j] [[1, 2]] [false]) := by
      obtain ⟨v0, v1, v2, v3, Y, hq⟩ := hk4.book
      exact bput_d (x := 0) (y := j) hq rfl rfl rfl (by simp) (some ⟨w2.heap.size, 0, none⟩) 2 [1, 2] (HRD.out w4 hE4) (by decide) fun _ q o s e => by injection e with e; injection e with e; have := HSZ.out; omega
    have HPT := Lib.hid hpt
    have HK4 := Lib.hid hk4
    have HB4 := Lib.hid hb4
    have HR4 := Lib.hid hR4
    clear hk4 hb4 hch4 hR4 hE4 hpt
    go_upto_region 11 with (go_at_call 25; refine HPT.out.mono ?_; rintro _ w5 hp5; have hp6 := HK4.out.putD (es' := [⟨0, j, [1, 2], false⟩]) hp5; obtain rfl := hp6.1; have HP6 := Lib.hid hp6.2; clear hp5 hp6)
    clear r0 hjw
    obtain ⟨⟨FB, hk5⟩, hb5⟩ := HP6.out
    have hrn := hk5.round HC.out (by omega)
    have hre := HBI.out.round hk5.live.inv
    rw [HFL.out] at hrn hre
    have hfm : f ∈ p1.way := by
      have h : f ∈ roundL c p1 := by rw [HFL.out]; simp
      exact (List.mem_filter.1 h).1
    have HSM := Lib.hid (hk5.live.inv.small hfm)
    have HRN := Lib.hid hrn
    have HRE := Lib.hid hre
    have HK5 := Lib.hid hk5
    have HB5 := Lib.hid hb5
    clear hk5 hb5 hrn hre hfm
    go_upto_region 12 with (go_at_call 21; refine HRN.out.mono ?_; rintro _ w6 ⟨RA, rcap, rfl, hfl6, hl6⟩; have HL6 := Lib.hid (And.intro hfl6 hl6); clear hfl6 hl6)
    obtain ⟨⟨G6, hk6⟩, hb6⟩ := HK5.out.net HL6.out.2
    obtain ⟨g, bA, bc', rfl, hz, hg, c0, c1, c2, c3, c4, hrb, hAb⟩ := HL6.out.1.at_ 0 f rfl
    rw [Nat.zero_mul] at c0 c1 c2 c3 c4
    rw [Nat.zero_add] at c1 c2 c3 c4
    have HCM := Lib.hid (comes_any hk6 HRE.out (by have := HSM.out; omega) bA bc' hrb hAb)
    have HB6 : Hid (Below w0.heap.size w0 w6) := Lib.hid (((HB3.out.trans HB4.out).trans HB5.out).trans hb6)
    clear hk6 hb6 hz hg hrb hAb
    go_upto_region 14 with (go_at_call 26; refine HCM.out.mono ?_; rintro _ w7 ⟨rfl, hk7, hb7, _⟩; have HK7 := Lib.hid (And.intro hk7 hb7); clear hk7 hb7)
    clear c0 c1 c2 c3 c4
    have HST : Hid (BkX w7 w0.heap.size c D (2 + 0) w1.heap.size) := Lib.hid ⟨_, _, _, _, HK7.out.1, HRE.out.step.inv⟩
    have HSB : Hid (Below w0.heap.size w0 w7) := Lib.hid (HB6.out.trans HK7.out.2)
    go_wp2_with fail
    go_loopw [9] (fun i wr => ∃ k : Nat, k ≤ n ∧ i = .int .i64 (k : Int) ∧ Hid (BkX wr w0.heap.size c D (2 + k) w1.heap.size) ∧ Hid (Below w0.heap.size w0 wr)) (fun i _ => n - (intOf i).toNat)
    case atStart => exact ⟨0, by omega, rfl, HST, HSB⟩
    case round =>
      clear HST HSB
      obtain ⟨k, hk, rfl, HT, HBT⟩ := hrel
      have hRr := HR.out.over HBT.out
      have r2 : wr.cell? ⟨w.heap.size, 2, none⟩ = some (.slice A n cap) := hRr.cell 2
      have hsr := HBT.out.size
      by_cases hlt : k < n
      · have hI : (k : Int) < (n : Int) := by omega
        obtain ⟨b, off, rfl, hbl, hops⟩ := (HOP.out.below (HBT.out.mono hs0)) (by omega)
        obtain ⟨kd, q, qq, nn, BA, bc, bs, SA, sc, sides, hop⟩ := hops k hlt
        have o0 := hop.c0
        have o1 := hop.c1
        have o2 := hop.c2
        have o3 := hop.c3
        have o4 := hop.c4
        have o5 := hop.c5
        have HPL := Lib.hid (run_any HC.out HT.out (by omega) kd q qq nn BA SA bc sc bs sides hop.nb.2 (hop.rb.more hs0) hop.mb (hop.rs.more hs0) hop.ms)
        clear hop hops hRr
        go_wp2_with (go_at_call 27; refine HPL.out.mono ?_; rintro _ w8 ⟨rfl, hx8, hb8⟩; have HX8 := Lib.hid (And.intro hx8 hb8); clear hx8 hb8)
        have HNX : Hid (BkX w8 w0.heap.size c D (2 + (k + 1)) w1.heap.size) := Lib.hid HX8.out.1
        have HNB : Hid (Below w0.heap.size w0 w8) := Lib.hid (HBT.out.trans HX8.out.2)
        go_roundw
        case rel => first | exact ⟨k + 1, by omega, by go_num, HNX, HNB⟩ | ((repeat apply Exists.intro); exact ⟨⟨k + 1, by omega, by go_num, HNX, HNB⟩, rfl⟩)
        case measure => simp [intOf] <;> omega
      · go_wp2
        go_ret
        exact ⟨rfl, HB0.out.trans (HBT.out.mono hs0)⟩
theorem EtherNoneFromNothing_walk {H : Type} {enc : TypeId × Value → H} (x0 x1 : Int) (A2 : Option Addr) (n2 k2 : Nat) (x2 : List (List Value)) (w : World) (_b0 : -9223372036854775808 ≤ x0) (_t0 : x0 ≤ 9223372036854775807) (_b1 : -9223372036854775808 ≤ x1) (_t1 : x1 ≤ 9223372036854775807) (p2 : n2 ≤ k2) (q2 : k2 * 80 ≤ 140737488351232) (l2 : x2.length = n2) (r2 : Rd w w.heap.size 6 A2 n2 x2.flatten) (s2 : ∀ y ∈ x2, y.length = 6 ∧ ∃ d, Fit enc Try.prog w 33 y d) :
    Calls Try.prog 5 #[.agg #[.int .i64 x0, .int .i64 x1, .slice A2 n2 k2]] w (TrueOk w) := by
  by_cases hok : NetOk x0 x1
  · obtain ⟨c, hc, rfl, rfl⟩ := hok.cfg
    exact Nn_yes hc A2 n2 k2 p2 q2 (Lib.hid (eops_open l2 r2 s2))
  · exact Nn_none x0 x1 hok A2 n2 k2
end Go.Proofs.Ytgfhmfhhobhojaa
