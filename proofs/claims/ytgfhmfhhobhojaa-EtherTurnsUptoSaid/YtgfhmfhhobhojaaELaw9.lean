/-
  The ether statements' walk over a case. And: The ether statements' helper: plays, on both networks.
-/
import Derived.Test.YtgfhmfhhobhojaaELaw7
import Derived.Test.YtgfhmfhhobhojaaEOps
namespace Go.Proofs.Ytgfhmfhhobhojaa
open Go.ChangeShapes Go.WideShapes Go.ChangeAt Go.RowKit
theorem nodes_any {w : World} {F1 F2 : Nat → Prop} {c : ECfg} {D K m : Nat} {p : PV} {r : RV} (hc : c.Ok) (h : Duo w F1 F2 c D K m p r) (hm : m ≤ 16777216) (kd a b n : Int) (BA SA : Option Addr) (bc sc : Nat) (bs : List UInt8) (sides : List Int) (hk : 1 ≤ kd ∧ kd ≤ 7) : Calls Try.prog 52 #[.pointer (some ⟨D, 0, none⟩), .pointer (some ⟨K, 0, none⟩), .agg #[.int .i64 kd, .int .i64 a, .int .i64 b, .int .i64 n, .slice BA bs.length bc, .slice SA sides.length sc]] w (NextR w F1 F2 c D K m) := by
  rcases (by omega : kd = 1 ∨ kd = 2 ∨ kd = 3 ∨ kd = 4 ∨ kd = 5 ∨ kd = 6 ∨ kd = 7) with rfl | rfl | rfl | rfl | rfl | rfl | rfl
  · exact nodes_1 hc h hm a b n BA SA bs.length bc sides.length sc
  · exact nodes_2 hc h hm a b n BA SA bs.length bc sides.length sc
  · exact nodes_3 hc h hm a b n BA SA bs.length bc sides.length sc
  · exact nodes_4 hc h hm a b n BA SA bs.length bc sides.length sc
  · exact nodes_5 hc h hm a b n BA SA bs.length bc sides.length sc
  · exact nodes_6 hc h hm a b n BA SA bs.length bc sides.length sc
  · exact nodes_7 hc h hm a b n BA SA bs.length bc sides.length sc
theorem packets_any {w : World} {F1 F2 : Nat → Prop} {c : ECfg} {D K m : Nat} {p : PV} {r : RV} (hc : c.Ok) (h : Duo w F1 F2 c D K m p r) (hm : m ≤ 16777216) (kd a b n : Int) (BA SA : Option Addr) (bc sc : Nat) (bs : List UInt8) (sides : List Int) (hk : 8 ≤ kd ∧ kd ≤ 13) (hr : RdB w w.heap.size BA bs.length bs) (hbn : bs.length ≤ 17592186044416) (hBA : 0 < bs.length → ∀ b o s, BA = some ⟨b, o, s⟩ → ¬ F1 b ∧ ¬ F2 b) : Calls Try.prog 53 #[.pointer (some ⟨D, 0, none⟩), .pointer (some ⟨K, 0, none⟩), .agg #[.int .i64 kd, .int .i64 a, .int .i64 b, .int .i64 n, .slice BA bs.length bc, .slice SA sides.length sc]] w (NextR w F1 F2 c D K m) := by
  rcases (by omega : kd = 8 ∨ kd = 9 ∨ kd = 10 ∨ kd = 11 ∨ kd = 12 ∨ kd = 13) with rfl | rfl | rfl | rfl | rfl | rfl
  · exact packets_8 hc h hm a b n BA SA bs.length bc sides.length sc
  · exact packets_9 hc h hm a b n BA SA bs.length bc sides.length sc
  · exact packets_10 hc h hm a b n BA SA bc sides.length sc bs hr hbn hBA
  · exact packets_11 hc h hm a b n BA SA bs.length bc sides.length sc
  · exact packets_12 hc h hm a b n BA SA bs.length bc sides.length sc
  · exact packets_13 hc h hm a b n BA SA bs.length bc sides.length sc
set_option maxRecDepth 100000 in
set_option maxHeartbeats 1600000 in
theorem plays_nodes {w : World} {F1 F2 : Nat → Prop} {c : ECfg} {D K m : Nat} {p : PV} {r : RV} (hc : c.Ok) (h : Duo w F1 F2 c D K m p r) (hm : m ≤ 16777216) (kd a b n : Int) (BA SA : Option Addr) (bc sc : Nat) (bs : List UInt8) (sides : List Int) (hk1 : 1 ≤ kd) (hk2 : kd ≤ 7) (_hn : n ≤ 9223372036854775807) (hr : RdB w w.heap.size BA bs.length bs) (_hbn : bs.length ≤ 17592186044416) (hs : RdI w w.heap.size SA sides.length sides) (_hsn : sides.length ≤ 1099511627776) (_hBA : 0 < bs.length → ∀ b o s, BA = some ⟨b, o, s⟩ → ¬ F1 b ∧ ¬ F2 b) (_hSA : 0 < sides.length → ∀ b o s, SA = some ⟨b, o, s⟩ → ¬ F1 b ∧ ¬ F2 b) : Calls Try.prog 31 #[.pointer (some ⟨D, 0, none⟩), .pointer (some ⟨K, 0, none⟩), .agg #[.int .i64 kd, .int .i64 a, .int .i64 b, .int .i64 n, .slice BA bs.length bc, .slice SA sides.length sc]] w (NextR w F1 F2 c D K m) := by
  have hb0 := one_box' w (.cells #[.int .i64 kd, .int .i64 a, .int .i64 b, .int .i64 n, .slice BA bs.length bc, .slice SA sides.length sc] 33)
  have hE := Blk.new w 33 #[.int .i64 kd, .int .i64 a, .int .i64 b, .int .i64 n, .slice BA bs.length bc, .slice SA sides.length sc]
  obtain ⟨w0, hw0⟩ : ∃ w0, w0 = w.alloc (.cells #[.int .i64 kd, .int .i64 a, .int .i64 b, .int .i64 n, .slice BA bs.length bc, .slice SA sides.length sc] 33) := ⟨_, rfl⟩
  rw [← hw0] at hb0 hE
  have h0 := h.below hb0
  have HW0 := Lib.hid hw0
  have HB0 := Lib.hid hb0
  have HH := Lib.hid h
  have hr0 := (hr.below hb0).more hb0.size
  have hs0 := (hs.below hb0).more hb0.size
  have x0 : w0.cell? ⟨w.heap.size, 0, none⟩ = some (.int .i64 kd) := hE.cell 0
  have x1 : w0.cell? ⟨w.heap.size, 1, none⟩ = some (.int .i64 a) := hE.cell 1
  have x2 : w0.cell? ⟨w.heap.size, 2, none⟩ = some (.int .i64 b) := hE.cell 2
  have x3 : w0.cell? ⟨w.heap.size, 3, none⟩ = some (.int .i64 n) := hE.cell 3
  have x4 : w0.cell? ⟨w.heap.size, 4, none⟩ = some (.slice BA bs.length bc) := hE.cell 4
  have x5 : w0.cell? ⟨w.heap.size, 5, none⟩ = some (.slice SA sides.length sc) := hE.cell 5
  have HP := Lib.hid (nodes_any hc h0 hm kd a b n BA SA bc sc bs sides ⟨hk1, hk2⟩)
  clear hw0 hb0 hE h0 h hr hr0 hs hs0 _hBA _hSA hc hm _hbn _hsn _hn
  go_enter Try.func31, Try.ntmps31
  go_upto_region 1 with fail
  rw [← HW0.out]
  go_wp2_with (go_at_call 52; refine HP.out.mono ?_; rintro _ w1 ⟨rfl, p1, r1, G1, G2, hn⟩; have HN := Lib.hid (hn.ahead HB0.out); clear hn)
  go_ret
  exact ⟨rfl, p1, r1, G1, G2, HN.out⟩
set_option maxRecDepth 100000 in
set_option maxHeartbeats 1600000 in
theorem plays_packets {w : World} {F1 F2 : Nat → Prop} {c : ECfg} {D K m : Nat} {p : PV} {r : RV} (hc : c.Ok) (h : Duo w F1 F2 c D K m p r) (hm : m ≤ 16777216) (kd a b n : Int) (BA SA : Option Addr) (bc sc : Nat) (bs : List UInt8) (sides : List Int) (hk1 : 8 ≤ kd) (hk2 : kd ≤ 13) (_hn : n ≤ 9223372036854775807) (hr : RdB w w.heap.size BA bs.length bs) (hbn : bs.length ≤ 17592186044416) (hs : RdI w w.heap.size SA sides.length sides) (_hsn : sides.length ≤ 1099511627776) (hBA : 0 < bs.length → ∀ b o s, BA = some ⟨b, o, s⟩ → ¬ F1 b ∧ ¬ F2 b) (_hSA : 0 < sides.length → ∀ b o s, SA = some ⟨b, o, s⟩ → ¬ F1 b ∧ ¬ F2 b) : Calls Try.prog 31 #[.pointer (some ⟨D, 0, none⟩), .pointer (some ⟨K, 0, none⟩), .agg #[.int .i64 kd, .int .i64 a, .int .i64 b, .int .i64 n, .slice BA bs.length bc, .slice SA sides.length sc]] w (NextR w F1 F2 c D K m) := by
  have hb0 := one_box' w (.cells #[.int .i64 kd, .int .i64 a, .int .i64 b, .int .i64 n, .slice BA bs.length bc, .slice SA sides.length sc] 33)
  have hE := Blk.new w 33 #[.int .i64 kd, .int .i64 a, .int .i64 b, .int .i64 n, .slice BA bs.length bc, .slice SA sides.length sc]
  obtain ⟨w0, hw0⟩ : ∃ w0, w0 = w.alloc (.cells #[.int .i64 kd, .int .i64 a, .int .i64 b, .int .i64 n, .slice BA bs.length bc, .slice SA sides.length sc] 33) := ⟨_, rfl⟩
  rw [← hw0] at hb0 hE
  have h0 := h.below hb0
  have HW0 := Lib.hid hw0
  have HB0 := Lib.hid hb0
  have HH := Lib.hid h
  have hr0 := (hr.below hb0).more hb0.size
  have hs0 := (hs.below hb0).more hb0.size
  have k1 : 1 ≤ kd := by omega
  have k2 : ¬ kd ≤ 7 := by omega
  have x0 : w0.cell? ⟨w.heap.size, 0, none⟩ = some (.int .i64 kd) := hE.cell 0
  have x1 : w0.cell? ⟨w.heap.size, 1, none⟩ = some (.int .i64 a) := hE.cell 1
  have x2 : w0.cell? ⟨w.heap.size, 2, none⟩ = some (.int .i64 b) := hE.cell 2
  have x3 : w0.cell? ⟨w.heap.size, 3, none⟩ = some (.int .i64 n) := hE.cell 3
  have x4 : w0.cell? ⟨w.heap.size, 4, none⟩ = some (.slice BA bs.length bc) := hE.cell 4
  have x5 : w0.cell? ⟨w.heap.size, 5, none⟩ = some (.slice SA sides.length sc) := hE.cell 5
  have HP := Lib.hid (packets_any hc h0 hm kd a b n BA SA bc sc bs sides ⟨hk1, hk2⟩ hr0 hbn hBA)
  clear hw0 hb0 hE h0 h hr hr0 hs hs0 hBA _hSA hc hm hbn _hsn _hn
  go_enter Try.func31, Try.ntmps31
  go_upto_region 1 with fail
  rw [← HW0.out]
  go_wp2_with (go_at_call 53; refine HP.out.mono ?_; rintro _ w1 ⟨rfl, p1, r1, G1, G2, hn⟩; have HN := Lib.hid (hn.ahead HB0.out); clear hn)
  go_ret
  exact ⟨rfl, p1, r1, G1, G2, HN.out⟩
set_option maxRecDepth 100000 in
set_option maxHeartbeats 1600000 in
theorem plays_does {w : World} {F1 F2 : Nat → Prop} {c : ECfg} {D K m : Nat} {p : PV} {r : RV} (hc : c.Ok) (h : Duo w F1 F2 c D K m p r) (hm : m ≤ 16777216) (kd a b n : Int) (BA SA : Option Addr) (bc sc : Nat) (bs : List UInt8) (sides : List Int) (hk1 : 20 < kd) (hk2 : kd ≤ 60) (hn : n ≤ 9223372036854775807) (hr : RdB w w.heap.size BA bs.length bs) (hbn : bs.length ≤ 17592186044416) (hs : RdI w w.heap.size SA sides.length sides) (hsn : sides.length ≤ 1099511627776) (hBA : 0 < bs.length → ∀ b o s, BA = some ⟨b, o, s⟩ → ¬ F1 b ∧ ¬ F2 b) (hSA : 0 < sides.length → ∀ b o s, SA = some ⟨b, o, s⟩ → ¬ F1 b ∧ ¬ F2 b) : Calls Try.prog 31 #[.pointer (some ⟨D, 0, none⟩), .pointer (some ⟨K, 0, none⟩), .agg #[.int .i64 kd, .int .i64 a, .int .i64 b, .int .i64 n, .slice BA bs.length bc, .slice SA sides.length sc]] w (NextR w F1 F2 c D K m) := by
  have hb0 := one_box' w (.cells #[.int .i64 kd, .int .i64 a, .int .i64 b, .int .i64 n, .slice BA bs.length bc, .slice SA sides.length sc] 33)
  have hE := Blk.new w 33 #[.int .i64 kd, .int .i64 a, .int .i64 b, .int .i64 n, .slice BA bs.length bc, .slice SA sides.length sc]
  obtain ⟨w0, hw0⟩ : ∃ w0, w0 = w.alloc (.cells #[.int .i64 kd, .int .i64 a, .int .i64 b, .int .i64 n, .slice BA bs.length bc, .slice SA sides.length sc] 33) := ⟨_, rfl⟩
  rw [← hw0] at hb0 hE
  have h0 := h.below hb0
  have HW0 := Lib.hid hw0
  have HB0 := Lib.hid hb0
  have HH := Lib.hid h
  have hr0 := (hr.below hb0).more hb0.size
  have hs0 := (hs.below hb0).more hb0.size
  have k1 : 1 ≤ kd := by omega
  have k2 : ¬ kd ≤ 7 := by omega
  have k3 : 8 ≤ kd := by omega
  have k4 : ¬ kd ≤ 13 := by omega
  have x0 : w0.cell? ⟨w.heap.size, 0, none⟩ = some (.int .i64 kd) := hE.cell 0
  have x1 : w0.cell? ⟨w.heap.size, 1, none⟩ = some (.int .i64 a) := hE.cell 1
  have x2 : w0.cell? ⟨w.heap.size, 2, none⟩ = some (.int .i64 b) := hE.cell 2
  have x3 : w0.cell? ⟨w.heap.size, 3, none⟩ = some (.int .i64 n) := hE.cell 3
  have x4 : w0.cell? ⟨w.heap.size, 4, none⟩ = some (.slice BA bs.length bc) := hE.cell 4
  have x5 : w0.cell? ⟨w.heap.size, 5, none⟩ = some (.slice SA sides.length sc) := hE.cell 5
  have HP := Lib.hid (does_any hc h0 hm kd a b n BA SA bc sc bs sides ⟨hk1, hk2⟩ hn hr0 hbn hs0 hsn hBA hSA)
  clear hw0 hb0 hE h0 h hr hr0 hs hs0 hBA hSA hc hm hbn hsn hn
  go_enter Try.func31, Try.ntmps31
  go_upto_region 1 with fail
  rw [← HW0.out]
  go_wp2_with (go_at_call 54; refine HP.out.mono ?_; rintro _ w1 ⟨rfl, p1, r1, G1, G2, hn⟩; have HN := Lib.hid (hn.ahead HB0.out); clear hn)
  go_ret
  exact ⟨rfl, p1, r1, G1, G2, HN.out⟩
set_option maxRecDepth 100000 in
set_option maxHeartbeats 1600000 in
theorem plays_none1 {w : World} {F1 F2 : Nat → Prop} {c : ECfg} {D K m : Nat} {p : PV} {r : RV} (_hc : c.Ok) (h : Duo w F1 F2 c D K m p r) (_hm : m ≤ 16777216) (kd a b n : Int) (BA SA : Option Addr) (bc sc : Nat) (bs : List UInt8) (sides : List Int) (hk : kd < 1) (_hn : n ≤ 9223372036854775807) (hr : RdB w w.heap.size BA bs.length bs) (_hbn : bs.length ≤ 17592186044416) (hs : RdI w w.heap.size SA sides.length sides) (_hsn : sides.length ≤ 1099511627776) (_hBA : 0 < bs.length → ∀ b o s, BA = some ⟨b, o, s⟩ → ¬ F1 b ∧ ¬ F2 b) (_hSA : 0 < sides.length → ∀ b o s, SA = some ⟨b, o, s⟩ → ¬ F1 b ∧ ¬ F2 b) : Calls Try.prog 31 #[.pointer (some ⟨D, 0, none⟩), .pointer (some ⟨K, 0, none⟩), .agg #[.int .i64 kd, .int .i64 a, .int .i64 b, .int .i64 n, .slice BA bs.length bc, .slice SA sides.length sc]] w (NextR w F1 F2 c D K m) := by
  have hb0 := one_box' w (.cells #[.int .i64 kd, .int .i64 a, .int .i64 b, .int .i64 n, .slice BA bs.length bc, .slice SA sides.length sc] 33)
  have hE := Blk.new w 33 #[.int .i64 kd, .int .i64 a, .int .i64 b, .int .i64 n, .slice BA bs.length bc, .slice SA sides.length sc]
  obtain ⟨w0, hw0⟩ : ∃ w0, w0 = w.alloc (.cells #[.int .i64 kd, .int .i64 a, .int .i64 b, .int .i64 n, .slice BA bs.length bc, .slice SA sides.length sc] 33) := ⟨_, rfl⟩
  rw [← hw0] at hb0 hE
  have h0 := h.below hb0
  have HW0 := Lib.hid hw0
  have HB0 := Lib.hid hb0
  have HH := Lib.hid h
  have hr0 := (hr.below hb0).more hb0.size
  have hs0 := (hs.below hb0).more hb0.size
  have k1 : ¬ 1 ≤ kd := by omega
  have k3 : ¬ 8 ≤ kd := by omega
  have k5 : ¬ 20 < kd := by omega
  have x0 : w0.cell? ⟨w.heap.size, 0, none⟩ = some (.int .i64 kd) := hE.cell 0
  have x1 : w0.cell? ⟨w.heap.size, 1, none⟩ = some (.int .i64 a) := hE.cell 1
  have x2 : w0.cell? ⟨w.heap.size, 2, none⟩ = some (.int .i64 b) := hE.cell 2
  have x3 : w0.cell? ⟨w.heap.size, 3, none⟩ = some (.int .i64 n) := hE.cell 3
  have x4 : w0.cell? ⟨w.heap.size, 4, none⟩ = some (.slice BA bs.length bc) := hE.cell 4
  have x5 : w0.cell? ⟨w.heap.size, 5, none⟩ = some (.slice SA sides.length sc) := hE.cell 5
  have HN := Lib.hid (Next.same h hb0)
  clear hw0 hb0 hE h0 h hr hr0 hs hs0 _hBA _hSA _hc _hm _hbn _hsn _hn
  go_enter Try.func31, Try.ntmps31
  go_upto_region 1 with fail
  rw [← HW0.out]
  go_wp2
  go_ret
  exact ⟨rfl, p, r, F1, F2, HN.out⟩
set_option maxRecDepth 100000 in
set_option maxHeartbeats 1600000 in
theorem plays_none2 {w : World} {F1 F2 : Nat → Prop} {c : ECfg} {D K m : Nat} {p : PV} {r : RV} (_hc : c.Ok) (h : Duo w F1 F2 c D K m p r) (_hm : m ≤ 16777216) (kd a b n : Int) (BA SA : Option Addr) (bc sc : Nat) (bs : List UInt8) (sides : List Int) (hk1 : 13 < kd) (hk2 : kd ≤ 20) (_hn : n ≤ 9223372036854775807) (hr : RdB w w.heap.size BA bs.length bs) (_hbn : bs.length ≤ 17592186044416) (hs : RdI w w.heap.size SA sides.length sides) (_hsn : sides.length ≤ 1099511627776) (_hBA : 0 < bs.length → ∀ b o s, BA = some ⟨b, o, s⟩ → ¬ F1 b ∧ ¬ F2 b) (_hSA : 0 < sides.length → ∀ b o s, SA = some ⟨b, o, s⟩ → ¬ F1 b ∧ ¬ F2 b) : Calls Try.prog 31 #[.pointer (some ⟨D, 0, none⟩), .pointer (some ⟨K, 0, none⟩), .agg #[.int .i64 kd, .int .i64 a, .int .i64 b, .int .i64 n, .slice BA bs.length bc, .slice SA sides.length sc]] w (NextR w F1 F2 c D K m) := by
  have hb0 := one_box' w (.cells #[.int .i64 kd, .int .i64 a, .int .i64 b, .int .i64 n, .slice BA bs.length bc, .slice SA sides.length sc] 33)
  have hE := Blk.new w 33 #[.int .i64 kd, .int .i64 a, .int .i64 b, .int .i64 n, .slice BA bs.length bc, .slice SA sides.length sc]
  obtain ⟨w0, hw0⟩ : ∃ w0, w0 = w.alloc (.cells #[.int .i64 kd, .int .i64 a, .int .i64 b, .int .i64 n, .slice BA bs.length bc, .slice SA sides.length sc] 33) := ⟨_, rfl⟩
  rw [← hw0] at hb0 hE
  have h0 := h.below hb0
  have HW0 := Lib.hid hw0
  have HB0 := Lib.hid hb0
  have HH := Lib.hid h
  have hr0 := (hr.below hb0).more hb0.size
  have hs0 := (hs.below hb0).more hb0.size
  have k1 : 1 ≤ kd := by omega
  have k2 : ¬ kd ≤ 7 := by omega
  have k3 : 8 ≤ kd := by omega
  have k4 : ¬ kd ≤ 13 := by omega
  have k5 : ¬ 20 < kd := by omega
  have x0 : w0.cell? ⟨w.heap.size, 0, none⟩ = some (.int .i64 kd) := hE.cell 0
  have x1 : w0.cell? ⟨w.heap.size, 1, none⟩ = some (.int .i64 a) := hE.cell 1
  have x2 : w0.cell? ⟨w.heap.size, 2, none⟩ = some (.int .i64 b) := hE.cell 2
  have x3 : w0.cell? ⟨w.heap.size, 3, none⟩ = some (.int .i64 n) := hE.cell 3
  have x4 : w0.cell? ⟨w.heap.size, 4, none⟩ = some (.slice BA bs.length bc) := hE.cell 4
  have x5 : w0.cell? ⟨w.heap.size, 5, none⟩ = some (.slice SA sides.length sc) := hE.cell 5
  have HN := Lib.hid (Next.same h hb0)
  clear hw0 hb0 hE h0 h hr hr0 hs hs0 _hBA _hSA _hc _hm _hbn _hsn _hn
  go_enter Try.func31, Try.ntmps31
  go_upto_region 1 with fail
  rw [← HW0.out]
  go_wp2
  go_ret
  exact ⟨rfl, p, r, F1, F2, HN.out⟩
set_option maxRecDepth 100000 in
set_option maxHeartbeats 1600000 in
theorem plays_none3 {w : World} {F1 F2 : Nat → Prop} {c : ECfg} {D K m : Nat} {p : PV} {r : RV} (_hc : c.Ok) (h : Duo w F1 F2 c D K m p r) (_hm : m ≤ 16777216) (kd a b n : Int) (BA SA : Option Addr) (bc sc : Nat) (bs : List UInt8) (sides : List Int) (hk1 : 60 < kd) (_hn : n ≤ 9223372036854775807) (hr : RdB w w.heap.size BA bs.length bs) (_hbn : bs.length ≤ 17592186044416) (hs : RdI w w.heap.size SA sides.length sides) (_hsn : sides.length ≤ 1099511627776) (_hBA : 0 < bs.length → ∀ b o s, BA = some ⟨b, o, s⟩ → ¬ F1 b ∧ ¬ F2 b) (_hSA : 0 < sides.length → ∀ b o s, SA = some ⟨b, o, s⟩ → ¬ F1 b ∧ ¬ F2 b) : Calls Try.prog 31 #[.pointer (some ⟨D, 0, none⟩), .pointer (some ⟨K, 0, none⟩), .agg #[.int .i64 kd, .int .i64 a, .int .i64 b, .int .i64 n, .slice BA bs.length bc, .slice SA sides.length sc]] w (NextR w F1 F2 c D K m) := by
  have hb0 := one_box' w (.cells #[.int .i64 kd, .int .i64 a, .int .i64 b, .int .i64 n, .slice BA bs.length bc, .slice SA sides.length sc] 33)
  have hE := Blk.new w 33 #[.int .i64 kd, .int .i64 a, .int .i64 b, .int .i64 n, .slice BA bs.length bc, .slice SA sides.length sc]
  obtain ⟨w0, hw0⟩ : ∃ w0, w0 = w.alloc (.cells #[.int .i64 kd, .int .i64 a, .int .i64 b, .int .i64 n, .slice BA bs.length bc, .slice SA sides.length sc] 33) := ⟨_, rfl⟩
  rw [← hw0] at hb0 hE
  have h0 := h.below hb0
  have HW0 := Lib.hid hw0
  have HB0 := Lib.hid hb0
  have HH := Lib.hid h
  have hr0 := (hr.below hb0).more hb0.size
  have hs0 := (hs.below hb0).more hb0.size
  have k1 : 1 ≤ kd := by omega
  have k2 : ¬ kd ≤ 7 := by omega
  have k3 : 8 ≤ kd := by omega
  have k4 : ¬ kd ≤ 13 := by omega
  have k5 : 20 < kd := by omega
  have k6 : ¬ kd ≤ 60 := by omega
  have x0 : w0.cell? ⟨w.heap.size, 0, none⟩ = some (.int .i64 kd) := hE.cell 0
  have x1 : w0.cell? ⟨w.heap.size, 1, none⟩ = some (.int .i64 a) := hE.cell 1
  have x2 : w0.cell? ⟨w.heap.size, 2, none⟩ = some (.int .i64 b) := hE.cell 2
  have x3 : w0.cell? ⟨w.heap.size, 3, none⟩ = some (.int .i64 n) := hE.cell 3
  have x4 : w0.cell? ⟨w.heap.size, 4, none⟩ = some (.slice BA bs.length bc) := hE.cell 4
  have x5 : w0.cell? ⟨w.heap.size, 5, none⟩ = some (.slice SA sides.length sc) := hE.cell 5
  have HN := Lib.hid (Next.same h hb0)
  clear hw0 hb0 hE h0 h hr hr0 hs hs0 _hBA _hSA _hc _hm _hbn _hsn _hn
  go_enter Try.func31, Try.ntmps31
  go_upto_region 1 with fail
  rw [← HW0.out]
  go_wp2
  go_ret
  exact ⟨rfl, p, r, F1, F2, HN.out⟩
theorem plays_any {w : World} {F1 F2 : Nat → Prop} {c : ECfg} {D K m : Nat} {p : PV} {r : RV} (hc : c.Ok) (h : Duo w F1 F2 c D K m p r) (hm : m ≤ 16777216) (kd a b n : Int) (BA SA : Option Addr) (bc sc : Nat) (bs : List UInt8) (sides : List Int) (hn : n ≤ 9223372036854775807) (hr : RdB w w.heap.size BA bs.length bs) (hbn : bs.length ≤ 17592186044416) (hs : RdI w w.heap.size SA sides.length sides) (hsn : sides.length ≤ 1099511627776) (hBA : 0 < bs.length → ∀ b o s, BA = some ⟨b, o, s⟩ → ¬ F1 b ∧ ¬ F2 b) (hSA : 0 < sides.length → ∀ b o s, SA = some ⟨b, o, s⟩ → ¬ F1 b ∧ ¬ F2 b) : Calls Try.prog 31 #[.pointer (some ⟨D, 0, none⟩), .pointer (some ⟨K, 0, none⟩), .agg #[.int .i64 kd, .int .i64 a, .int .i64 b, .int .i64 n, .slice BA bs.length bc, .slice SA sides.length sc]] w (NextR w F1 F2 c D K m) := by
  by_cases h1 : kd < 1
  · exact plays_none1 hc h hm kd a b n BA SA bc sc bs sides h1 hn hr hbn hs hsn hBA hSA
  · by_cases h2 : kd ≤ 7
    · exact plays_nodes hc h hm kd a b n BA SA bc sc bs sides (by omega) h2 hn hr hbn hs hsn hBA hSA
    · by_cases h3 : kd ≤ 13
      · exact plays_packets hc h hm kd a b n BA SA bc sc bs sides (by omega) h3 hn hr hbn hs hsn hBA hSA
      · by_cases h4 : kd ≤ 20
        · exact plays_none2 hc h hm kd a b n BA SA bc sc bs sides (by omega) h4 hn hr hbn hs hsn hBA hSA
        · by_cases h5 : kd ≤ 60
          · exact plays_does hc h hm kd a b n BA SA bc sc bs sides (by omega) h5 hn hr hbn hs hsn hBA hSA
          · exact plays_none3 hc h hm kd a b n BA SA bc sc bs sides (by omega) hn hr hbn hs hsn hBA hSA
end Go.Proofs.Ytgfhmfhhobhojaa
namespace Go.Proofs.Ytgfhmfhhobhojaa
open Go.ChangeShapes Go.WideShapes Go.ChangeAt Go.RowKit
/-- Both networks, made behind B. -/
structure DuoB (w : World) (B : Nat) (c : ECfg) (D K m : Nat) : Prop where
  ex : ∃ p r F1 F2, Duo w F1 F2 c D K m p r ∧ (∀ k, F1 k → B ≤ k) ∧ (∀ k, F2 k → B ≤ k)
theorem DuoB.new {w w1 w2 : World} {c : ECfg} {D K : Nat} {F1 F2 : Nat → Prop} (hc : c.Ok) (h1 : PNx w1 F1 c D PV.new 0) (h2 : ∀ k, F1 k → w.heap.size ≤ k) (hs : w.heap.size ≤ w1.heap.size) (h3 : RNx w2 F2 c K RV.new) (h4 : ∀ k, F2 k → w1.heap.size ≤ k) (hb : Below w1.heap.size w1 w2) : DuoB w2 w.heap.size c D K 0 :=
  ⟨PV.new, RV.new, F1, F2, ⟨h1.below hb, h3, TwinS.new c hc, fun k hk hk2 => by have := h1.1 k hk; have := h4 k hk2; omega⟩, h2, fun k hk => Nat.le_trans hs (h4 k hk)⟩
theorem DuoB.next {w w1 : World} {B : Nat} {c : ECfg} {D K m : Nat} {p1 : PV} {r1 : RV} {F1 F2 G1 G2 : Nat → Prop} (hB : B ≤ w.heap.size) (h1 : ∀ k, F1 k → B ≤ k) (h2 : ∀ k, F2 k → B ≤ k) (h : Next w F1 F2 c D K (m + 1) p1 r1 G1 G2 w1) : DuoB w1 B c D K (m + 1) ∧ Below B w w1 :=
  ⟨⟨p1, r1, G1, G2, h.duo, fun k hk => (h.g1 k hk).elim (h1 k) (Nat.le_trans hB), fun k hk => (h.g2 k hk).elim (h2 k) (Nat.le_trans hB)⟩,
   h.chg.to_below hB fun i hi => hi.elim (h1 i) (h2 i)⟩
def WalkOk (w : World) (e : Ending) (w' : World) : Prop := e = .returned (.bool true) ∧ Below w.heap.size w w'
/-- A step of a case. -/
theorem step_any {wr : World} {B b off n MB MS : Nat} {c : ECfg} {D K k : Nat} (hc : c.Ok) (h : DuoB wr B c D K k) (hk : k ≤ 16777216) (hB : B ≤ wr.heap.size) {kd p q nn : Int} {BA : Option Addr} {bc : Nat} {bs : List UInt8} {SA : Option Addr} {sc : Nat} {sides : List Int} (ho : EOpAt wr B MB MS b off n kd p q nn BA bc bs SA sc sides) (hMB : MB ≤ 17592186044416) (hMS : MS ≤ 1099511627776) :
    Calls Try.prog 31 #[.pointer (some ⟨D, 0, none⟩), .pointer (some ⟨K, 0, none⟩), .agg #[.int .i64 kd, .int .i64 p, .int .i64 q, .int .i64 nn, .slice BA bs.length bc, .slice SA sides.length sc]] wr fun e w' => e = .returned (.bool true) ∧ DuoB w' B c D K (k + 1) ∧ Below B wr w' := by
  obtain ⟨p0, r0, F1, F2, hd, h1, h2⟩ := h.ex
  refine (plays_any hc hd hk kd p q nn BA SA bc sc bs sides ho.nb.2 (ho.rb.more hB) (Nat.le_trans ho.mb hMB) (ho.rs.more hB) (Nat.le_trans ho.ms hMS) (fun hp b o s e => ?_) (fun hp b o s e => ?_)).mono ?_
  · obtain ⟨b2, o2, e', hlt, _⟩ := ho.rb.at_ hp
    rw [e] at e'
    injection e' with e'
    injection e' with e'
    exact ⟨fun hf => by have := h1 b hf; omega, fun hf => by have := h2 b hf; omega⟩
  · obtain ⟨b2, o2, e', hlt, _⟩ := ho.rs.at_ hp
    rw [e] at e'
    injection e' with e'
    injection e' with e'
    exact ⟨fun hf => by have := h1 b hf; omega, fun hf => by have := h2 b hf; omega⟩
  · rintro e w' ⟨rfl, p1, r1, G1, G2, hn⟩
    exact ⟨rfl, DuoB.next hB h1 h2 hn⟩
set_option maxRecDepth 100000 in
set_option maxHeartbeats 3200000 in
theorem walk_yes {w : World} {c : ECfg} (hc : c.Ok) (lo hi : Int) (A : Option Addr) (n cap : Nat) (hn : n ≤ 1048576) (hcap : n ≤ cap) (hcm : cap * 80 ≤ 140737488351232) (HO : Hid (EOps w w.heap.size 1048576 1048576 A n)) :
    Calls Try.prog 28 #[.agg #[.int .i64 (c.n : Int), .int .i64 (c.room : Int), .slice A n cap], .int .i64 lo, .int .i64 hi] w (WalkOk w) := by
  have hb0 := one_box' w (.cells #[.int .i64 (c.n : Int), .int .i64 (c.room : Int), .slice A n cap] 24)
  have hR := Blk.new w 24 #[.int .i64 (c.n : Int), .int .i64 (c.room : Int), .slice A n cap]
  obtain ⟨w0, hw0⟩ : ∃ w0, w0 = w.alloc (.cells #[.int .i64 (c.n : Int), .int .i64 (c.room : Int), .slice A n cap] 24) := ⟨_, rfl⟩
  rw [← hw0] at hb0 hR
  have HW := Lib.hid hw0
  have hs0 := hb0.size
  have HOP : Hid (EOps w0 w.heap.size 1048576 1048576 A n) := HO.out.below hb0
  have HR := Lib.hid hR
  have HB0 := Lib.hid hb0
  have r0 : w0.cell? ⟨w.heap.size, 0, none⟩ = some (.int .i64 (c.n : Int)) := hR.cell 0
  have r1 : w0.cell? ⟨w.heap.size, 1, none⟩ = some (.int .i64 (c.room : Int)) := hR.cell 1
  have HC := Lib.hid hc
  have HNEW := Lib.hid (New_yes (w := w0) hc)
  clear hw0 hR hb0 hc
  go_enter Try.func28, Try.ntmps28
  go_upto_region 1 with fail
  rw [← HW.out]
  go_upto_region 2 with (go_at_call 15; refine HNEW.out.mono ?_; rintro _ w1 ⟨D, F1, rfl, hp, hF, hb1⟩; have HP1 := Lib.hid (And.intro hp (And.intro hF hb1)); clear hp hF hb1)
  have hR1 := HR.out.over HP1.out.2.2
  clear r0 r1
  have r0 : w1.cell? ⟨w.heap.size, 0, none⟩ = some (.int .i64 (c.n : Int)) := hR1.cell 0
  have r1 : w1.cell? ⟨w.heap.size, 1, none⟩ = some (.int .i64 (c.room : Int)) := hR1.cell 1
  have HRN := Lib.hid (RNew_yes (w := w1) c HC.out)
  clear hR1
  go_upto_region 3 with (go_at_call 29; refine HRN.out.mono ?_; rintro _ w2 ⟨K, F2, rfl, hp, hF, hb2⟩; have HP2 := Lib.hid (And.intro hp (And.intro hF hb2)); clear hp hF hb2)
  have HST : Hid (DuoB w2 w0.heap.size c D K 0 ∧ Below w0.heap.size w0 w2) := Lib.hid ⟨DuoB.new HC.out HP1.out.1 HP1.out.2.1 HP1.out.2.2.size HP2.out.1 HP2.out.2.1 HP2.out.2.2, HP1.out.2.2.trans (HP2.out.2.2.mono HP1.out.2.2.size)⟩
  clear r0 r1
  go_upto_region 7 with (go_at_call 30; refine (num_any _ _ (by omega) (by omega)).mono ?_; rintro _ _ ⟨rfl, rfl⟩)
  go_wp2_with fail
  go_loopw [11] (fun i wr => ∃ k : Nat, k ≤ n ∧ i = .int .i64 (k : Int) ∧ Hid (DuoB wr w0.heap.size c D K k ∧ Below w0.heap.size w0 wr)) (fun i _ => n - (intOf i).toNat)
  case atStart => exact ⟨0, by omega, rfl, HST⟩
  case round =>
    clear HST
    obtain ⟨k, hk, rfl, HT⟩ := hrel
    have hRr := HR.out.over HT.out.2
    have r2 : wr.cell? ⟨w.heap.size, 2, none⟩ = some (.slice A n cap) := hRr.cell 2
    have hsr := HT.out.2.size
    by_cases hlt : k < n
    · have hI : (k : Int) < (n : Int) := by omega
      obtain ⟨b, off, rfl, hbl, hops⟩ := (HOP.out.below (HT.out.2.mono hs0)) (by omega)
      obtain ⟨kd, p, q, nn, BA, bc, bs, SA, sc, sides, hop⟩ := hops k hlt
      have o0 := hop.c0
      have o1 := hop.c1
      have o2 := hop.c2
      have o3 := hop.c3
      have o4 := hop.c4
      have o5 := hop.c5
      have hMB : (1048576 : Nat) ≤ 17592186044416 := by decide
      have hMS : (1048576 : Nat) ≤ 1099511627776 := by decide
      have hop' : EOpAt wr w0.heap.size 1048576 1048576 b off k kd p q nn BA bc bs SA sc sides := ⟨hop.c0, hop.c1, hop.c2, hop.c3, hop.c4, hop.c5, hop.rb.more hs0, hop.rs.more hs0, hop.mb, hop.ms, hop.cb, hop.cs, hop.kb, hop.pb, hop.qb, hop.nb, hop.sb⟩
      have HPL := Lib.hid (step_any HC.out HT.out.1 (by omega) hsr hop' hMB hMS)
      clear hMB hMS hop' hop hops hRr
      go_wp2_with (go_at_call 31; refine HPL.out.mono ?_; rintro _ w3 ⟨rfl, hd, hb3⟩; have HN := Lib.hid (And.intro hd (HT.out.2.trans hb3)); clear hd hb3)
      go_roundw
      case rel => exact ⟨k + 1, by omega, by go_num, HN⟩
      case measure => simp [intOf] <;> omega
    · go_wp2
      go_ret
      exact ⟨rfl, HB0.out.trans (HT.out.2.mono hs0)⟩
set_option maxRecDepth 100000 in
set_option maxHeartbeats 1600000 in
theorem walk_no {w : World} (x0 x1 lo hi : Int) (hno : ¬ NetOk x0 x1) (A : Option Addr) (n cap : Nat) :
    Calls Try.prog 28 #[.agg #[.int .i64 x0, .int .i64 x1, .slice A n cap], .int .i64 lo, .int .i64 hi] w (WalkOk w) := by
  have hb0 := one_box' w (.cells #[.int .i64 x0, .int .i64 x1, .slice A n cap] 24)
  have hR := Blk.new w 24 #[.int .i64 x0, .int .i64 x1, .slice A n cap]
  obtain ⟨w0, hw0⟩ : ∃ w0, w0 = w.alloc (.cells #[.int .i64 x0, .int .i64 x1, .slice A n cap] 24) := ⟨_, rfl⟩
  rw [← hw0] at hb0 hR
  have HW := Lib.hid hw0
  have HB0 := Lib.hid hb0
  have HN := Lib.hid (New_no (w := w0) x0 x1 hno)
  have HRN := Lib.hid (RNew_no (w := w0) x0 x1 hno)
  have r0 : w0.cell? ⟨w.heap.size, 0, none⟩ = some (.int .i64 x0) := hR.cell 0
  have r1 : w0.cell? ⟨w.heap.size, 1, none⟩ = some (.int .i64 x1) := hR.cell 1
  clear hw0 hR hb0 hno
  go_enter Try.func28, Try.ntmps28
  go_upto_region 1 with fail
  rw [← HW.out]
  go_wp2_with (first
    | (go_at_call 15; refine HN.out.mono ?_; rintro _ _ ⟨rfl, rfl⟩)
    | (go_at_call 29; refine HRN.out.mono ?_; rintro _ _ ⟨rfl, rfl⟩)
    | (go_at_call 30; refine (num_any _ _ (by omega) (by omega)).mono ?_; rintro _ _ ⟨rfl, rfl⟩))
  go_ret
  exact ⟨rfl, HB0.out⟩
theorem walk_any {w : World} (x0 x1 lo hi : Int) (A : Option Addr) (n cap : Nat) (hn : n ≤ 1048576) (hcap : n ≤ cap) (hcm : cap * 80 ≤ 140737488351232) (HO : Hid (EOps w w.heap.size 1048576 1048576 A n)) :
    Calls Try.prog 28 #[.agg #[.int .i64 x0, .int .i64 x1, .slice A n cap], .int .i64 lo, .int .i64 hi] w (WalkOk w) := by
  by_cases hok : NetOk x0 x1
  · obtain ⟨c, hc, rfl, rfl⟩ := hok.cfg
    exact walk_yes hc lo hi A n cap hn hcap hcm HO
  · exact walk_no x0 x1 lo hi hok A n cap
end Go.Proofs.Ytgfhmfhhobhojaa
