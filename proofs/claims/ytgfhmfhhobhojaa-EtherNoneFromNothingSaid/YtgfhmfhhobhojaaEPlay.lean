/-
  The ether statements' helper: play, on the program's network.
-/
import Derived.Test.YtgfhmfhhobhojaaEPInv
import Derived.Test.YtgfhmfhhobhojaaELaw6
namespace Go.Proofs.Ytgfhmfhhobhojaa
open Go.ChangeShapes Go.WideShapes Go.ChangeAt Go.RowKit
def PlayR (w : World) (F : Nat → Prop) (c : ECfg) (D m : Nat) (e : Ending) (w' : World) : Prop := e = .returned (.tuple #[]) ∧ ∃ p' G, PNx w' G c D p' (m + 1) ∧ PInv c p' (m + 1) ∧ (∀ k, G k → F k ∨ w.heap.size ≤ k) ∧ Chg F w w'
/-- A network that stands behind B, whatever was called. -/
structure LiveP (w : World) (B : Nat) (c : ECfg) (D m : Nat) (p : PV) (F : Nat → Prop) : Prop where
  pn : PNx w F c D p m
  inv : PInv c p m
  ab : ∀ k, F k → B ≤ k
theorem LiveP.step {w w1 : World} {B : Nat} {c : ECfg} {D m : Nat} {p p' : PV} {F G : Nat → Prop} (h : LiveP w B c D m p F) (hB : B ≤ w.heap.size) (h1 : PNx w1 G c D p' (m + 1)) (h2 : PInv c p' (m + 1)) (h3 : ∀ k, G k → F k ∨ w.heap.size ≤ k) (h4 : Chg F w w1) : LiveP w1 B c D (m + 1) p' G ∧ Below B w w1 :=
  ⟨⟨h1, h2, fun k hk => (h3 k hk).elim (h.ab k) (Nat.le_trans hB)⟩, h4.to_below hB h.ab⟩
theorem LiveP.below {w w1 : World} {B : Nat} {c : ECfg} {D m : Nat} {p : PV} {F : Nat → Prop} (h : LiveP w B c D m p F) (hb : Below w.heap.size w w1) : LiveP w1 B c D m p F := ⟨h.pn.below hb, h.inv, h.ab⟩
theorem LiveP.mono {w : World} {B : Nat} {c : ECfg} {D m m' : Nat} {p : PV} {F : Nat → Prop} (h : LiveP w B c D m p F) (hm : m ≤ m') : LiveP w B c D m' p F := ⟨h.pn.mono hm, h.inv.more hm, h.ab⟩
theorem LiveP.clear {w w1 : World} {B g : Nat} {c : ECfg} {D m : Nat} {p : PV} {F : Nat → Prop} (h : LiveP w B c D m p F) (hc : Chg (fun k => k = g) w w1) (hg : ¬ F g) : LiveP w1 B c D m p F := ⟨h.pn.chg hc fun _k hk e => hg (e ▸ hk), h.inv, h.ab⟩
/-- What a step leaves. -/
def LiveR (w : World) (B : Nat) (c : ECfg) (D m : Nat) (p' : PV) (w' : World) : Prop := (∃ G, LiveP w' B c D (m + 1) p' G) ∧ Below B w w'
section
variable {w w1 : World} {B : Nat} {c : ECfg} {D m : Nat} {p p' : PV} {F : Nat → Prop}
theorem LiveP.of_step (h : LiveP w B c D m p F) (hB : B ≤ w.heap.size) {v : Value} {e : Ending} {m' : Nat} (hm : m' ≤ m + 1) (hs : StepP w F c D m' v p' e w1) (hi : PInv c p' (m + 1)) : e = .returned v ∧ LiveR w B c D m p' w1 := by
  obtain ⟨h1, G, h2, h3, h4⟩ := hs
  obtain ⟨h5, h6⟩ := h.step hB (h2.mono hm) hi h3 h4
  exact ⟨h1, ⟨G, h5⟩, h6⟩
theorem LTick (h : LiveP w B c D m p F) (hB : B ≤ w.heap.size) (hm : m ≤ 4398046511104) (q : Int) : Calls Try.prog 36 #[.pointer (some ⟨D, 0, none⟩), .int .i64 q] w fun e w' => e = .returned (.tuple #[.int .i64 (Tick_r c p.down p.tk q), .int .i64 (Tick_e c p.down q)]) ∧ LiveR w B c D m (tickP c p q) w' :=
  (Tick_any h.pn q (fun k _ => by have := h.inv.tks k; omega)).mono fun _ _ hs => h.of_step hB (Nat.le_succ m) hs (h.inv.tick q)
theorem LCrash (h : LiveP w B c D m p F) (hB : B ≤ w.heap.size) (q : Int) : Calls Try.prog 37 #[.pointer (some ⟨D, 0, none⟩), .int .i64 q] w fun e w' => e = .returned (.int .i64 (Tick_e c p.down q)) ∧ LiveR w B c D m (crashP c p q) w' :=
  (Crash_any h.pn q).mono fun _ _ hs => h.of_step hB (Nat.le_succ m) hs (h.inv.crash q)
theorem LRest (h : LiveP w B c D m p F) (hB : B ≤ w.heap.size) (hm : m ≤ 4398046511104) (q : Int) : Calls Try.prog 17 #[.pointer (some ⟨D, 0, none⟩), .int .i64 q] w fun e w' => e = .returned (.tuple #[.int .i64 (Rest_r c p.down p.inc q), .int .i64 (Rest_e c p.down q)]) ∧ LiveR w B c D m (restP c p q) w' :=
  (Restart_any h.pn q (fun k _ => by have := h.inv.incs k; omega)).mono fun _ _ hs => h.of_step hB (Nat.le_succ m) hs (h.inv.rest q)
theorem LiveP.fd (h : LiveP w B c D m p F) : F D := by
  obtain ⟨_, _, _, _, _, _, hP⟩ := h.pn
  exact hP.fd
theorem LPost (hc : c.Ok) (h : LiveP w B c D m p F) (hB : B ≤ w.heap.size) (hm : m ≤ 4398046511104) (a b : Int) (bA : Option Addr) (cap : Nat) (bs : List UInt8) (hr : RdB w w.heap.size bA bs.length bs) (hn : bs.length ≤ 140737488351232) (hF : 0 < bs.length → ∀ b o s, bA = some ⟨b, o, s⟩ → ¬ F b) : Calls Try.prog 20 #[.pointer (some ⟨D, 0, none⟩), .int .i64 a, .int .i64 b, .slice bA bs.length cap] w fun e w' => e = .returned (.tuple #[.int .i64 (postR c p a b bs.length true), .int .i64 (postE c p a b bs.length true)]) ∧ LiveR w B c D m (postP c p a b bs true) w' := by
  have hf := h.inv.fine hc hm
  exact (Post_any hc h.pn a b bA cap bs hr hn (fun hp b o s e e2 => hF hp b o s e (e2 ▸ h.fd)) hf.way hf.last hf.clk hf.slow).mono fun _ _ hs => h.of_step hB (Nat.le_succ m) hs (h.inv.post hc a b bs true)
theorem LDo (hc : c.Ok) (h : LiveP w B c D m p F) (hB : B ≤ w.heap.size) (hm : m ≤ 4398046511104) (kd a b n : Int) (BA SA : Option Addr) (bc sc : Nat) (bs : List UInt8) (sides : List Int) (hn : n ≤ 9223372036854775807) (hr : RdB w w.heap.size BA bs.length bs) (hbn : bs.length ≤ 140737488351232) (hs : RdI w w.heap.size SA sides.length sides) (hsn : sides.length ≤ 140737488351232) (hBF : 0 < bs.length → ∀ b o s, BA = some ⟨b, o, s⟩ → ¬ F b) (hSF : 0 < sides.length → ∀ b o s, SA = some ⟨b, o, s⟩ → ¬ F b) : Calls Try.prog 19 #[.pointer (some ⟨D, 0, none⟩), .agg #[.int .i64 kd, .int .i64 a, .int .i64 b, .int .i64 n, .slice BA bs.length bc, .int .i64 0, .int .i64 0, .int .i64 0, .int .i64 0, .string ByteArray.empty, .string ByteArray.empty, .string ByteArray.empty, .slice SA sides.length sc]] w fun e w' => e = .returned (.int .i64 (doD c p ⟨kd, a, b, n, bs, sides⟩).1) ∧ LiveR w B c D m (doD c p ⟨kd, a, b, n, bs, sides⟩).2 w' :=
  (Do_any hc h.pn (h.inv.fine hc hm) kd a b n BA SA bc sides.length sc bs sides hn hr hbn (fun hp b o s e e2 => hBF hp b o s e (e2 ▸ h.fd)) hs hsn hSF).mono fun _ _ hs => h.of_step hB (Nat.le_refl _) hs (h.inv.do_ hc _)
theorem LTake (hc : c.Ok) (h : LiveP w B c D m p F) (hB : B ≤ w.heap.size) (hm : m ≤ 4398046511104) (a : Int) : Calls Try.prog 38 #[.pointer (some ⟨D, 0, none⟩), .int .i64 a] w fun e w' => ∃ A cap, e = .returned (.tuple #[.agg #[.int .i64 ((takeD c p a).2.1.id : Int), .int .i64 ((takeD c p a).2.1.src : Int), .int .i64 ((takeD c p a).2.1.dst : Int), .int .i64 ((takeD c p a).2.1.due : Int), .slice A (takeD c p a).2.1.bs.length cap], .int .i64 (takeD c p a).1]) ∧ RdB w' w'.heap.size A (takeD c p a).2.1.bs.length (takeD c p a).2.1.bs ∧ LiveR w B c D m (takeD c p a).2.2 w' := by
  refine (Take_any hc h.pn (h.inv.fine hc hm) a).mono ?_
  rintro e w' ⟨A, cap, h1, ⟨G, h2, h3, h4⟩, h5, _⟩
  obtain ⟨h6, h7⟩ := h.step hB (h2.mono (Nat.le_succ m)) (h.inv.take a) h3 h4
  exact ⟨A, cap, h1, h5, ⟨G, h6⟩, h7⟩
theorem LRound (hc : c.Ok) (h : LiveP w B c D m p F) (hB : B ≤ w.heap.size) (hm : m ≤ 4398046511104) : Calls Try.prog 21 #[.pointer (some ⟨D, 0, none⟩)] w fun e w' => ∃ v, e = .returned v ∧ FltsAt w' F w.heap.size v (roundL c p) ∧ LiveR w B c D m (roundP p) w' := by
  refine (Round_any hc h.pn (h.inv.fine hc hm)).mono ?_
  rintro e w' ⟨v, G, h1, h2, h3, h4, h5⟩
  obtain ⟨h6, h7⟩ := h.step hB (h3.mono (Nat.le_succ m)) h.inv.round h4 h5
  exact ⟨v, h1, h2, ⟨G, h6⟩, h7⟩
end
theorem do_ev {w w1 : World} {B : Nat} {c : ECfg} {D m : Nat} {p : PV} {F : Nat → Prop} (hc : c.Ok) (h : LiveP w B c D m p F) (hm : m ≤ 4398046511104) (hB : B ≤ w.heap.size) {n : Int} (hn : n ≤ 9223372036854775807) {bs : List UInt8} {sides : List Int} (hbn : bs.length ≤ 140737488351232) (hsn : sides.length ≤ 17592186043904) {g cap hh caps : Nat} (h1 : SpareB w1 w.heap.size g cap bs) (h2 : SpareI w1 w.heap.size hh caps sides) (hb : Below w.heap.size w w1) (kd a b : Int) : Calls Try.prog 19 #[.pointer (some ⟨D, 0, none⟩), .agg #[.int .i64 kd, .int .i64 a, .int .i64 b, .int .i64 n, .slice (some ⟨g, 0, none⟩) bs.length cap, .int .i64 0, .int .i64 0, .int .i64 0, .int .i64 0, .string ByteArray.empty, .string ByteArray.empty, .string ByteArray.empty, .slice (some ⟨hh, 0, none⟩) sides.length caps]] w1 fun e w' => e = .returned (.int .i64 (doD c p ⟨kd, a, b, n, bs, sides⟩).1) ∧ LiveR w B c D m (doD c p ⟨kd, a, b, n, bs, sides⟩).2 w' := by
  have hF := h.pn.1
  refine (LDo hc (h.below hb) (Nat.le_trans hB hb.size) hm kd a b n (some ⟨g, 0, none⟩) (some ⟨hh, 0, none⟩) cap caps bs sides hn h1.rd hbn h2.rd (by omega) (fun _ b o s e hf => ?_) (fun _ b o s e hf => ?_)).mono fun e w' hh => ⟨hh.1, hh.2.1, (hb.mono hB).trans hh.2.2⟩
  · injection e with e
    injection e with e
    have := hF b hf
    have := h1.new
    omega
  · injection e with e
    injection e with e
    have := hF b hf
    have := h2.new
    omega
set_option maxRecDepth 100000 in
set_option maxHeartbeats 1600000 in
theorem play_5 {w : World} {B : Nat} {c : ECfg} {D m : Nat} {p : PV} {F : Nat → Prop} (_hc : c.Ok) (h : LiveP w B c D m p F) (hB : B ≤ w.heap.size) (hm : m ≤ 4398046511104) (a b n : Int) (BA SA : Option Addr) (bc sc : Nat) (bs : List UInt8) (sides : List Int) (_hn : n ≤ 9223372036854775807) (hr : RdB w B BA bs.length bs) (_hbn : bs.length ≤ 140737488351232) (hs : RdI w B SA sides.length sides) (_hsn : sides.length ≤ 17592186043904) : Calls Try.prog 16 #[.pointer (some ⟨D, 0, none⟩), .agg #[.int .i64 5, .int .i64 a, .int .i64 b, .int .i64 n, .slice BA bs.length bc, .slice SA sides.length sc]] w fun e w' => e = .returned (.tuple #[]) ∧ ∃ p', LiveR w B c D m p' w' := by
  have hb0 := one_box' w (.cells #[.int .i64 5, .int .i64 a, .int .i64 b, .int .i64 n, .slice BA bs.length bc, .slice SA sides.length sc] 33)
  have hE := Blk.new w 33 #[.int .i64 5, .int .i64 a, .int .i64 b, .int .i64 n, .slice BA bs.length bc, .slice SA sides.length sc]
  obtain ⟨w0, hw0⟩ : ∃ w0, w0 = w.alloc (.cells #[.int .i64 5, .int .i64 a, .int .i64 b, .int .i64 n, .slice BA bs.length bc, .slice SA sides.length sc] 33) := ⟨_, rfl⟩
  rw [← hw0] at hb0 hE
  have hL := h.below hb0
  have hs0 := hb0.size
  have hB0 : B ≤ w0.heap.size := by omega
  have HW0 := Lib.hid hw0
  have HB0 := Lib.hid (hb0.mono hB)
  have hr0 := (hr.below (hb0.mono hB)).more hB0
  have hi0 := (hs.below (hb0.mono hB)).more hB0
  have hBF : 0 < bs.length → ∀ b o s, BA = some ⟨b, o, s⟩ → ¬ F b := fun hp b o s e hf => by
    obtain ⟨b2, o2, e', hlt, _⟩ := hr.at_ hp
    rw [e] at e'
    injection e' with e'
    injection e' with e'
    have := h.ab b hf
    omega
  have hSF : 0 < sides.length → ∀ b o s, SA = some ⟨b, o, s⟩ → ¬ F b := fun hp b o s e hf => by
    obtain ⟨b2, o2, e', hlt, _⟩ := hs.at_ hp
    rw [e] at e'
    injection e' with e'
    injection e' with e'
    have := h.ab b hf
    omega
  have x0 : w0.cell? ⟨w.heap.size, 0, none⟩ = some (.int .i64 5) := hE.cell 0
  have x1 : w0.cell? ⟨w.heap.size, 1, none⟩ = some (.int .i64 a) := hE.cell 1
  have x2 : w0.cell? ⟨w.heap.size, 2, none⟩ = some (.int .i64 b) := hE.cell 2
  have x3 : w0.cell? ⟨w.heap.size, 3, none⟩ = some (.int .i64 n) := hE.cell 3
  have x4 : w0.cell? ⟨w.heap.size, 4, none⟩ = some (.slice BA bs.length bc) := hE.cell 4
  have x5 : w0.cell? ⟨w.heap.size, 5, none⟩ = some (.slice SA sides.length sc) := hE.cell 5
  have HP := Lib.hid (LTick hL hB0 hm a)
  clear hw0 hb0 hE hL h hr hs hr0 hi0 hBF hSF _hc hm _hbn _hsn _hn hs0 hB0 hB
  go_enter Try.func16, Try.ntmps16
  go_upto_region 1 with fail
  rw [← HW0.out]
  go_wp2_with (go_at_call 36; refine HP.out.mono ?_; rintro _ w1 ⟨rfl, hn⟩; have HN := Lib.hid hn; clear hn)
  go_end0
  exact ⟨rfl, _, ⟨HN.out.1, HB0.out.trans HN.out.2⟩⟩
set_option maxRecDepth 100000 in
set_option maxHeartbeats 1600000 in
theorem play_6 {w : World} {B : Nat} {c : ECfg} {D m : Nat} {p : PV} {F : Nat → Prop} (_hc : c.Ok) (h : LiveP w B c D m p F) (hB : B ≤ w.heap.size) (_hm : m ≤ 4398046511104) (a b n : Int) (BA SA : Option Addr) (bc sc : Nat) (bs : List UInt8) (sides : List Int) (_hn : n ≤ 9223372036854775807) (hr : RdB w B BA bs.length bs) (_hbn : bs.length ≤ 140737488351232) (hs : RdI w B SA sides.length sides) (_hsn : sides.length ≤ 17592186043904) : Calls Try.prog 16 #[.pointer (some ⟨D, 0, none⟩), .agg #[.int .i64 6, .int .i64 a, .int .i64 b, .int .i64 n, .slice BA bs.length bc, .slice SA sides.length sc]] w fun e w' => e = .returned (.tuple #[]) ∧ ∃ p', LiveR w B c D m p' w' := by
  have hb0 := one_box' w (.cells #[.int .i64 6, .int .i64 a, .int .i64 b, .int .i64 n, .slice BA bs.length bc, .slice SA sides.length sc] 33)
  have hE := Blk.new w 33 #[.int .i64 6, .int .i64 a, .int .i64 b, .int .i64 n, .slice BA bs.length bc, .slice SA sides.length sc]
  obtain ⟨w0, hw0⟩ : ∃ w0, w0 = w.alloc (.cells #[.int .i64 6, .int .i64 a, .int .i64 b, .int .i64 n, .slice BA bs.length bc, .slice SA sides.length sc] 33) := ⟨_, rfl⟩
  rw [← hw0] at hb0 hE
  have hL := h.below hb0
  have hs0 := hb0.size
  have hB0 : B ≤ w0.heap.size := by omega
  have HW0 := Lib.hid hw0
  have HB0 := Lib.hid (hb0.mono hB)
  have hr0 := (hr.below (hb0.mono hB)).more hB0
  have hi0 := (hs.below (hb0.mono hB)).more hB0
  have hBF : 0 < bs.length → ∀ b o s, BA = some ⟨b, o, s⟩ → ¬ F b := fun hp b o s e hf => by
    obtain ⟨b2, o2, e', hlt, _⟩ := hr.at_ hp
    rw [e] at e'
    injection e' with e'
    injection e' with e'
    have := h.ab b hf
    omega
  have hSF : 0 < sides.length → ∀ b o s, SA = some ⟨b, o, s⟩ → ¬ F b := fun hp b o s e hf => by
    obtain ⟨b2, o2, e', hlt, _⟩ := hs.at_ hp
    rw [e] at e'
    injection e' with e'
    injection e' with e'
    have := h.ab b hf
    omega
  have x0 : w0.cell? ⟨w.heap.size, 0, none⟩ = some (.int .i64 6) := hE.cell 0
  have x1 : w0.cell? ⟨w.heap.size, 1, none⟩ = some (.int .i64 a) := hE.cell 1
  have x2 : w0.cell? ⟨w.heap.size, 2, none⟩ = some (.int .i64 b) := hE.cell 2
  have x3 : w0.cell? ⟨w.heap.size, 3, none⟩ = some (.int .i64 n) := hE.cell 3
  have x4 : w0.cell? ⟨w.heap.size, 4, none⟩ = some (.slice BA bs.length bc) := hE.cell 4
  have x5 : w0.cell? ⟨w.heap.size, 5, none⟩ = some (.slice SA sides.length sc) := hE.cell 5
  have HP := Lib.hid (LCrash hL hB0 a)
  clear hw0 hb0 hE hL h hr hs hr0 hi0 hBF hSF _hc _hm _hbn _hsn _hn hs0 hB0 hB
  go_enter Try.func16, Try.ntmps16
  go_upto_region 1 with fail
  rw [← HW0.out]
  go_wp2_with (go_at_call 37; refine HP.out.mono ?_; rintro _ w1 ⟨rfl, hn⟩; have HN := Lib.hid hn; clear hn)
  go_end0
  exact ⟨rfl, _, ⟨HN.out.1, HB0.out.trans HN.out.2⟩⟩
set_option maxRecDepth 100000 in
set_option maxHeartbeats 1600000 in
theorem play_7 {w : World} {B : Nat} {c : ECfg} {D m : Nat} {p : PV} {F : Nat → Prop} (_hc : c.Ok) (h : LiveP w B c D m p F) (hB : B ≤ w.heap.size) (hm : m ≤ 4398046511104) (a b n : Int) (BA SA : Option Addr) (bc sc : Nat) (bs : List UInt8) (sides : List Int) (_hn : n ≤ 9223372036854775807) (hr : RdB w B BA bs.length bs) (_hbn : bs.length ≤ 140737488351232) (hs : RdI w B SA sides.length sides) (_hsn : sides.length ≤ 17592186043904) : Calls Try.prog 16 #[.pointer (some ⟨D, 0, none⟩), .agg #[.int .i64 7, .int .i64 a, .int .i64 b, .int .i64 n, .slice BA bs.length bc, .slice SA sides.length sc]] w fun e w' => e = .returned (.tuple #[]) ∧ ∃ p', LiveR w B c D m p' w' := by
  have hb0 := one_box' w (.cells #[.int .i64 7, .int .i64 a, .int .i64 b, .int .i64 n, .slice BA bs.length bc, .slice SA sides.length sc] 33)
  have hE := Blk.new w 33 #[.int .i64 7, .int .i64 a, .int .i64 b, .int .i64 n, .slice BA bs.length bc, .slice SA sides.length sc]
  obtain ⟨w0, hw0⟩ : ∃ w0, w0 = w.alloc (.cells #[.int .i64 7, .int .i64 a, .int .i64 b, .int .i64 n, .slice BA bs.length bc, .slice SA sides.length sc] 33) := ⟨_, rfl⟩
  rw [← hw0] at hb0 hE
  have hL := h.below hb0
  have hs0 := hb0.size
  have hB0 : B ≤ w0.heap.size := by omega
  have HW0 := Lib.hid hw0
  have HB0 := Lib.hid (hb0.mono hB)
  have hr0 := (hr.below (hb0.mono hB)).more hB0
  have hi0 := (hs.below (hb0.mono hB)).more hB0
  have hBF : 0 < bs.length → ∀ b o s, BA = some ⟨b, o, s⟩ → ¬ F b := fun hp b o s e hf => by
    obtain ⟨b2, o2, e', hlt, _⟩ := hr.at_ hp
    rw [e] at e'
    injection e' with e'
    injection e' with e'
    have := h.ab b hf
    omega
  have hSF : 0 < sides.length → ∀ b o s, SA = some ⟨b, o, s⟩ → ¬ F b := fun hp b o s e hf => by
    obtain ⟨b2, o2, e', hlt, _⟩ := hs.at_ hp
    rw [e] at e'
    injection e' with e'
    injection e' with e'
    have := h.ab b hf
    omega
  have x0 : w0.cell? ⟨w.heap.size, 0, none⟩ = some (.int .i64 7) := hE.cell 0
  have x1 : w0.cell? ⟨w.heap.size, 1, none⟩ = some (.int .i64 a) := hE.cell 1
  have x2 : w0.cell? ⟨w.heap.size, 2, none⟩ = some (.int .i64 b) := hE.cell 2
  have x3 : w0.cell? ⟨w.heap.size, 3, none⟩ = some (.int .i64 n) := hE.cell 3
  have x4 : w0.cell? ⟨w.heap.size, 4, none⟩ = some (.slice BA bs.length bc) := hE.cell 4
  have x5 : w0.cell? ⟨w.heap.size, 5, none⟩ = some (.slice SA sides.length sc) := hE.cell 5
  have HP := Lib.hid (LRest hL hB0 hm a)
  clear hw0 hb0 hE hL h hr hs hr0 hi0 hBF hSF _hc hm _hbn _hsn _hn hs0 hB0 hB
  go_enter Try.func16, Try.ntmps16
  go_upto_region 1 with fail
  rw [← HW0.out]
  go_wp2_with (go_at_call 17; refine HP.out.mono ?_; rintro _ w1 ⟨rfl, hn⟩; have HN := Lib.hid hn; clear hn)
  go_end0
  exact ⟨rfl, _, ⟨HN.out.1, HB0.out.trans HN.out.2⟩⟩
set_option maxRecDepth 100000 in
set_option maxHeartbeats 1600000 in
theorem play_10 {w : World} {B : Nat} {c : ECfg} {D m : Nat} {p : PV} {F : Nat → Prop} (hc : c.Ok) (h : LiveP w B c D m p F) (hB : B ≤ w.heap.size) (hm : m ≤ 4398046511104) (a b n : Int) (BA SA : Option Addr) (bc sc : Nat) (bs : List UInt8) (sides : List Int) (_hn : n ≤ 9223372036854775807) (hr : RdB w B BA bs.length bs) (hbn : bs.length ≤ 140737488351232) (hs : RdI w B SA sides.length sides) (_hsn : sides.length ≤ 17592186043904) : Calls Try.prog 16 #[.pointer (some ⟨D, 0, none⟩), .agg #[.int .i64 10, .int .i64 a, .int .i64 b, .int .i64 n, .slice BA bs.length bc, .slice SA sides.length sc]] w fun e w' => e = .returned (.tuple #[]) ∧ ∃ p', LiveR w B c D m p' w' := by
  have hb0 := one_box' w (.cells #[.int .i64 10, .int .i64 a, .int .i64 b, .int .i64 n, .slice BA bs.length bc, .slice SA sides.length sc] 33)
  have hE := Blk.new w 33 #[.int .i64 10, .int .i64 a, .int .i64 b, .int .i64 n, .slice BA bs.length bc, .slice SA sides.length sc]
  obtain ⟨w0, hw0⟩ : ∃ w0, w0 = w.alloc (.cells #[.int .i64 10, .int .i64 a, .int .i64 b, .int .i64 n, .slice BA bs.length bc, .slice SA sides.length sc] 33) := ⟨_, rfl⟩
  rw [← hw0] at hb0 hE
  have hL := h.below hb0
  have hs0 := hb0.size
  have hB0 : B ≤ w0.heap.size := by omega
  have HW0 := Lib.hid hw0
  have HB0 := Lib.hid (hb0.mono hB)
  have hr0 := (hr.below (hb0.mono hB)).more hB0
  have hi0 := (hs.below (hb0.mono hB)).more hB0
  have hBF : 0 < bs.length → ∀ b o s, BA = some ⟨b, o, s⟩ → ¬ F b := fun hp b o s e hf => by
    obtain ⟨b2, o2, e', hlt, _⟩ := hr.at_ hp
    rw [e] at e'
    injection e' with e'
    injection e' with e'
    have := h.ab b hf
    omega
  have hSF : 0 < sides.length → ∀ b o s, SA = some ⟨b, o, s⟩ → ¬ F b := fun hp b o s e hf => by
    obtain ⟨b2, o2, e', hlt, _⟩ := hs.at_ hp
    rw [e] at e'
    injection e' with e'
    injection e' with e'
    have := h.ab b hf
    omega
  have x0 : w0.cell? ⟨w.heap.size, 0, none⟩ = some (.int .i64 10) := hE.cell 0
  have x1 : w0.cell? ⟨w.heap.size, 1, none⟩ = some (.int .i64 a) := hE.cell 1
  have x2 : w0.cell? ⟨w.heap.size, 2, none⟩ = some (.int .i64 b) := hE.cell 2
  have x3 : w0.cell? ⟨w.heap.size, 3, none⟩ = some (.int .i64 n) := hE.cell 3
  have x4 : w0.cell? ⟨w.heap.size, 4, none⟩ = some (.slice BA bs.length bc) := hE.cell 4
  have x5 : w0.cell? ⟨w.heap.size, 5, none⟩ = some (.slice SA sides.length sc) := hE.cell 5
  have HP := Lib.hid (LPost hc hL hB0 hm a b BA bc bs hr0 hbn hBF)
  clear hw0 hb0 hE hL h hr hs hr0 hi0 hBF hSF hc hm hbn _hsn _hn hs0 hB0 hB
  go_enter Try.func16, Try.ntmps16
  go_upto_region 1 with fail
  rw [← HW0.out]
  go_wp2_with (go_at_call 20; refine HP.out.mono ?_; rintro _ w1 ⟨rfl, hn⟩; have HN := Lib.hid hn; clear hn)
  go_end0
  exact ⟨rfl, _, ⟨HN.out.1, HB0.out.trans HN.out.2⟩⟩
set_option maxRecDepth 100000 in
set_option maxHeartbeats 1600000 in
theorem play_12 {w : World} {B : Nat} {c : ECfg} {D m : Nat} {p : PV} {F : Nat → Prop} (hc : c.Ok) (h : LiveP w B c D m p F) (hB : B ≤ w.heap.size) (hm : m ≤ 4398046511104) (a b n : Int) (BA SA : Option Addr) (bc sc : Nat) (bs : List UInt8) (sides : List Int) (_hn : n ≤ 9223372036854775807) (hr : RdB w B BA bs.length bs) (_hbn : bs.length ≤ 140737488351232) (hs : RdI w B SA sides.length sides) (_hsn : sides.length ≤ 17592186043904) : Calls Try.prog 16 #[.pointer (some ⟨D, 0, none⟩), .agg #[.int .i64 12, .int .i64 a, .int .i64 b, .int .i64 n, .slice BA bs.length bc, .slice SA sides.length sc]] w fun e w' => e = .returned (.tuple #[]) ∧ ∃ p', LiveR w B c D m p' w' := by
  have hb0 := one_box' w (.cells #[.int .i64 12, .int .i64 a, .int .i64 b, .int .i64 n, .slice BA bs.length bc, .slice SA sides.length sc] 33)
  have hE := Blk.new w 33 #[.int .i64 12, .int .i64 a, .int .i64 b, .int .i64 n, .slice BA bs.length bc, .slice SA sides.length sc]
  obtain ⟨w0, hw0⟩ : ∃ w0, w0 = w.alloc (.cells #[.int .i64 12, .int .i64 a, .int .i64 b, .int .i64 n, .slice BA bs.length bc, .slice SA sides.length sc] 33) := ⟨_, rfl⟩
  rw [← hw0] at hb0 hE
  have hL := h.below hb0
  have hs0 := hb0.size
  have hB0 : B ≤ w0.heap.size := by omega
  have HW0 := Lib.hid hw0
  have HB0 := Lib.hid (hb0.mono hB)
  have hr0 := (hr.below (hb0.mono hB)).more hB0
  have hi0 := (hs.below (hb0.mono hB)).more hB0
  have hBF : 0 < bs.length → ∀ b o s, BA = some ⟨b, o, s⟩ → ¬ F b := fun hp b o s e hf => by
    obtain ⟨b2, o2, e', hlt, _⟩ := hr.at_ hp
    rw [e] at e'
    injection e' with e'
    injection e' with e'
    have := h.ab b hf
    omega
  have hSF : 0 < sides.length → ∀ b o s, SA = some ⟨b, o, s⟩ → ¬ F b := fun hp b o s e hf => by
    obtain ⟨b2, o2, e', hlt, _⟩ := hs.at_ hp
    rw [e] at e'
    injection e' with e'
    injection e' with e'
    have := h.ab b hf
    omega
  have x0 : w0.cell? ⟨w.heap.size, 0, none⟩ = some (.int .i64 12) := hE.cell 0
  have x1 : w0.cell? ⟨w.heap.size, 1, none⟩ = some (.int .i64 a) := hE.cell 1
  have x2 : w0.cell? ⟨w.heap.size, 2, none⟩ = some (.int .i64 b) := hE.cell 2
  have x3 : w0.cell? ⟨w.heap.size, 3, none⟩ = some (.int .i64 n) := hE.cell 3
  have x4 : w0.cell? ⟨w.heap.size, 4, none⟩ = some (.slice BA bs.length bc) := hE.cell 4
  have x5 : w0.cell? ⟨w.heap.size, 5, none⟩ = some (.slice SA sides.length sc) := hE.cell 5
  have HP := Lib.hid (LTake hc hL hB0 hm a)
  clear hw0 hb0 hE hL h hr hs hr0 hi0 hBF hSF hc hm _hbn _hsn _hn hs0 hB0 hB
  go_enter Try.func16, Try.ntmps16
  go_upto_region 1 with fail
  rw [← HW0.out]
  go_wp2_with (go_at_call 38; refine HP.out.mono ?_; rintro _ w1 ⟨A, cap, rfl, _, hn⟩; have HN := Lib.hid hn; clear hn)
  go_end0
  exact ⟨rfl, _, ⟨HN.out.1, HB0.out.trans HN.out.2⟩⟩
set_option maxRecDepth 100000 in
set_option maxHeartbeats 1600000 in
theorem play_11 {w : World} {B : Nat} {c : ECfg} {D m : Nat} {p : PV} {F : Nat → Prop} (hc : c.Ok) (h : LiveP w B c D m p F) (hB : B ≤ w.heap.size) (hm : m ≤ 4398046511104) (a b n : Int) (BA SA : Option Addr) (bc sc : Nat) (bs : List UInt8) (sides : List Int) (_hn : n ≤ 9223372036854775807) (hr : RdB w B BA bs.length bs) (_hbn : bs.length ≤ 140737488351232) (hs : RdI w B SA sides.length sides) (_hsn : sides.length ≤ 17592186043904) : Calls Try.prog 16 #[.pointer (some ⟨D, 0, none⟩), .agg #[.int .i64 11, .int .i64 a, .int .i64 b, .int .i64 n, .slice BA bs.length bc, .slice SA sides.length sc]] w fun e w' => e = .returned (.tuple #[]) ∧ ∃ p', LiveR w B c D m p' w' := by
  have hb0 := one_box' w (.cells #[.int .i64 11, .int .i64 a, .int .i64 b, .int .i64 n, .slice BA bs.length bc, .slice SA sides.length sc] 33)
  have hE := Blk.new w 33 #[.int .i64 11, .int .i64 a, .int .i64 b, .int .i64 n, .slice BA bs.length bc, .slice SA sides.length sc]
  obtain ⟨w0, hw0⟩ : ∃ w0, w0 = w.alloc (.cells #[.int .i64 11, .int .i64 a, .int .i64 b, .int .i64 n, .slice BA bs.length bc, .slice SA sides.length sc] 33) := ⟨_, rfl⟩
  rw [← hw0] at hb0 hE
  have hL := h.below hb0
  have hs0 := hb0.size
  have hB0 : B ≤ w0.heap.size := by omega
  have HW0 := Lib.hid hw0
  have HB0 := Lib.hid (hb0.mono hB)
  have hr0 := (hr.below (hb0.mono hB)).more hB0
  have hi0 := (hs.below (hb0.mono hB)).more hB0
  have hBF : 0 < bs.length → ∀ b o s, BA = some ⟨b, o, s⟩ → ¬ F b := fun hp b o s e hf => by
    obtain ⟨b2, o2, e', hlt, _⟩ := hr.at_ hp
    rw [e] at e'
    injection e' with e'
    injection e' with e'
    have := h.ab b hf
    omega
  have hSF : 0 < sides.length → ∀ b o s, SA = some ⟨b, o, s⟩ → ¬ F b := fun hp b o s e hf => by
    obtain ⟨b2, o2, e', hlt, _⟩ := hs.at_ hp
    rw [e] at e'
    injection e' with e'
    injection e' with e'
    have := h.ab b hf
    omega
  have x0 : w0.cell? ⟨w.heap.size, 0, none⟩ = some (.int .i64 11) := hE.cell 0
  have x1 : w0.cell? ⟨w.heap.size, 1, none⟩ = some (.int .i64 a) := hE.cell 1
  have x2 : w0.cell? ⟨w.heap.size, 2, none⟩ = some (.int .i64 b) := hE.cell 2
  have x3 : w0.cell? ⟨w.heap.size, 3, none⟩ = some (.int .i64 n) := hE.cell 3
  have x4 : w0.cell? ⟨w.heap.size, 4, none⟩ = some (.slice BA bs.length bc) := hE.cell 4
  have x5 : w0.cell? ⟨w.heap.size, 5, none⟩ = some (.slice SA sides.length sc) := hE.cell 5
  have HP := Lib.hid (LRound hc hL hB0 hm)
  clear hw0 hb0 hE hL h hr hs hr0 hi0 hBF hSF hc hm _hbn _hsn _hn hs0 hB0 hB
  go_enter Try.func16, Try.ntmps16
  go_upto_region 1 with fail
  rw [← HW0.out]
  go_wp2_with (go_at_call 21; refine HP.out.mono ?_; rintro _ w1 ⟨v, rfl, _, hn⟩; have HN := Lib.hid hn; clear hn)
  go_end0
  exact ⟨rfl, _, ⟨HN.out.1, HB0.out.trans HN.out.2⟩⟩
set_option maxRecDepth 100000 in
set_option maxHeartbeats 1600000 in
theorem play_none1 {w : World} {B : Nat} {c : ECfg} {D m : Nat} {p : PV} {F : Nat → Prop} (_hc : c.Ok) (h : LiveP w B c D m p F) (hB : B ≤ w.heap.size) (_hm : m ≤ 4398046511104) (kd : Int) (a b n : Int) (BA SA : Option Addr) (bc sc : Nat) (bs : List UInt8) (sides : List Int) (hk : kd ≠ 5 ∧ kd ≠ 6 ∧ kd ≠ 7 ∧ kd ≠ 10 ∧ kd ≠ 11 ∧ kd ≠ 12) (hk1 : ¬ 20 < kd) (_hn : n ≤ 9223372036854775807) (hr : RdB w B BA bs.length bs) (_hbn : bs.length ≤ 140737488351232) (hs : RdI w B SA sides.length sides) (_hsn : sides.length ≤ 17592186043904) : Calls Try.prog 16 #[.pointer (some ⟨D, 0, none⟩), .agg #[.int .i64 kd, .int .i64 a, .int .i64 b, .int .i64 n, .slice BA bs.length bc, .slice SA sides.length sc]] w fun e w' => e = .returned (.tuple #[]) ∧ ∃ p', LiveR w B c D m p' w' := by
  have hb0 := one_box' w (.cells #[.int .i64 kd, .int .i64 a, .int .i64 b, .int .i64 n, .slice BA bs.length bc, .slice SA sides.length sc] 33)
  have hE := Blk.new w 33 #[.int .i64 kd, .int .i64 a, .int .i64 b, .int .i64 n, .slice BA bs.length bc, .slice SA sides.length sc]
  obtain ⟨w0, hw0⟩ : ∃ w0, w0 = w.alloc (.cells #[.int .i64 kd, .int .i64 a, .int .i64 b, .int .i64 n, .slice BA bs.length bc, .slice SA sides.length sc] 33) := ⟨_, rfl⟩
  rw [← hw0] at hb0 hE
  have hL := h.below hb0
  have hs0 := hb0.size
  have hB0 : B ≤ w0.heap.size := by omega
  have HW0 := Lib.hid hw0
  have HB0 := Lib.hid (hb0.mono hB)
  have hr0 := (hr.below (hb0.mono hB)).more hB0
  have hi0 := (hs.below (hb0.mono hB)).more hB0
  have hBF : 0 < bs.length → ∀ b o s, BA = some ⟨b, o, s⟩ → ¬ F b := fun hp b o s e hf => by
    obtain ⟨b2, o2, e', hlt, _⟩ := hr.at_ hp
    rw [e] at e'
    injection e' with e'
    injection e' with e'
    have := h.ab b hf
    omega
  have hSF : 0 < sides.length → ∀ b o s, SA = some ⟨b, o, s⟩ → ¬ F b := fun hp b o s e hf => by
    obtain ⟨b2, o2, e', hlt, _⟩ := hs.at_ hp
    rw [e] at e'
    injection e' with e'
    injection e' with e'
    have := h.ab b hf
    omega
  have e5 : (kd == 5) = false := by simp; omega
  have f5 : ¬ kd = 5 := by omega
  have e6 : (kd == 6) = false := by simp; omega
  have f6 : ¬ kd = 6 := by omega
  have e7 : (kd == 7) = false := by simp; omega
  have f7 : ¬ kd = 7 := by omega
  have e10 : (kd == 10) = false := by simp; omega
  have f10 : ¬ kd = 10 := by omega
  have e11 : (kd == 11) = false := by simp; omega
  have f11 : ¬ kd = 11 := by omega
  have e12 : (kd == 12) = false := by simp; omega
  have f12 : ¬ kd = 12 := by omega
  have x0 : w0.cell? ⟨w.heap.size, 0, none⟩ = some (.int .i64 kd) := hE.cell 0
  have x1 : w0.cell? ⟨w.heap.size, 1, none⟩ = some (.int .i64 a) := hE.cell 1
  have x2 : w0.cell? ⟨w.heap.size, 2, none⟩ = some (.int .i64 b) := hE.cell 2
  have x3 : w0.cell? ⟨w.heap.size, 3, none⟩ = some (.int .i64 n) := hE.cell 3
  have x4 : w0.cell? ⟨w.heap.size, 4, none⟩ = some (.slice BA bs.length bc) := hE.cell 4
  have x5 : w0.cell? ⟨w.heap.size, 5, none⟩ = some (.slice SA sides.length sc) := hE.cell 5
  have HN : Hid (LiveR w0 B c D m p w0) := Lib.hid ⟨⟨F, hL.mono (Nat.le_succ m)⟩, Below.refl _ _⟩
  clear hw0 hb0 hE hL h hr hs hr0 hi0 hBF hSF _hc _hm _hbn _hsn _hn hs0 hB0 hB
  go_enter Try.func16, Try.ntmps16
  go_upto_region 1 with fail
  rw [← HW0.out]
  go_wp2
  go_end0
  exact ⟨rfl, _, ⟨HN.out.1, HB0.out.trans HN.out.2⟩⟩
set_option maxRecDepth 100000 in
set_option maxHeartbeats 1600000 in
theorem play_none2 {w : World} {B : Nat} {c : ECfg} {D m : Nat} {p : PV} {F : Nat → Prop} (_hc : c.Ok) (h : LiveP w B c D m p F) (hB : B ≤ w.heap.size) (_hm : m ≤ 4398046511104) (kd : Int) (a b n : Int) (BA SA : Option Addr) (bc sc : Nat) (bs : List UInt8) (sides : List Int) (hk1 : 20 < kd) (hk2 : ¬ kd ≤ 60) (_hn : n ≤ 9223372036854775807) (hr : RdB w B BA bs.length bs) (_hbn : bs.length ≤ 140737488351232) (hs : RdI w B SA sides.length sides) (_hsn : sides.length ≤ 17592186043904) : Calls Try.prog 16 #[.pointer (some ⟨D, 0, none⟩), .agg #[.int .i64 kd, .int .i64 a, .int .i64 b, .int .i64 n, .slice BA bs.length bc, .slice SA sides.length sc]] w fun e w' => e = .returned (.tuple #[]) ∧ ∃ p', LiveR w B c D m p' w' := by
  have hb0 := one_box' w (.cells #[.int .i64 kd, .int .i64 a, .int .i64 b, .int .i64 n, .slice BA bs.length bc, .slice SA sides.length sc] 33)
  have hE := Blk.new w 33 #[.int .i64 kd, .int .i64 a, .int .i64 b, .int .i64 n, .slice BA bs.length bc, .slice SA sides.length sc]
  obtain ⟨w0, hw0⟩ : ∃ w0, w0 = w.alloc (.cells #[.int .i64 kd, .int .i64 a, .int .i64 b, .int .i64 n, .slice BA bs.length bc, .slice SA sides.length sc] 33) := ⟨_, rfl⟩
  rw [← hw0] at hb0 hE
  have hL := h.below hb0
  have hs0 := hb0.size
  have hB0 : B ≤ w0.heap.size := by omega
  have HW0 := Lib.hid hw0
  have HB0 := Lib.hid (hb0.mono hB)
  have hr0 := (hr.below (hb0.mono hB)).more hB0
  have hi0 := (hs.below (hb0.mono hB)).more hB0
  have hBF : 0 < bs.length → ∀ b o s, BA = some ⟨b, o, s⟩ → ¬ F b := fun hp b o s e hf => by
    obtain ⟨b2, o2, e', hlt, _⟩ := hr.at_ hp
    rw [e] at e'
    injection e' with e'
    injection e' with e'
    have := h.ab b hf
    omega
  have hSF : 0 < sides.length → ∀ b o s, SA = some ⟨b, o, s⟩ → ¬ F b := fun hp b o s e hf => by
    obtain ⟨b2, o2, e', hlt, _⟩ := hs.at_ hp
    rw [e] at e'
    injection e' with e'
    injection e' with e'
    have := h.ab b hf
    omega
  have e5 : (kd == 5) = false := by simp; omega
  have f5 : ¬ kd = 5 := by omega
  have e6 : (kd == 6) = false := by simp; omega
  have f6 : ¬ kd = 6 := by omega
  have e7 : (kd == 7) = false := by simp; omega
  have f7 : ¬ kd = 7 := by omega
  have e10 : (kd == 10) = false := by simp; omega
  have f10 : ¬ kd = 10 := by omega
  have e11 : (kd == 11) = false := by simp; omega
  have f11 : ¬ kd = 11 := by omega
  have e12 : (kd == 12) = false := by simp; omega
  have f12 : ¬ kd = 12 := by omega
  have x0 : w0.cell? ⟨w.heap.size, 0, none⟩ = some (.int .i64 kd) := hE.cell 0
  have x1 : w0.cell? ⟨w.heap.size, 1, none⟩ = some (.int .i64 a) := hE.cell 1
  have x2 : w0.cell? ⟨w.heap.size, 2, none⟩ = some (.int .i64 b) := hE.cell 2
  have x3 : w0.cell? ⟨w.heap.size, 3, none⟩ = some (.int .i64 n) := hE.cell 3
  have x4 : w0.cell? ⟨w.heap.size, 4, none⟩ = some (.slice BA bs.length bc) := hE.cell 4
  have x5 : w0.cell? ⟨w.heap.size, 5, none⟩ = some (.slice SA sides.length sc) := hE.cell 5
  have HN : Hid (LiveR w0 B c D m p w0) := Lib.hid ⟨⟨F, hL.mono (Nat.le_succ m)⟩, Below.refl _ _⟩
  clear hw0 hb0 hE hL h hr hs hr0 hi0 hBF hSF _hc _hm _hbn _hsn _hn hs0 hB0 hB
  go_enter Try.func16, Try.ntmps16
  go_upto_region 1 with fail
  rw [← HW0.out]
  go_wp2
  go_end0
  exact ⟨rfl, _, ⟨HN.out.1, HB0.out.trans HN.out.2⟩⟩
set_option maxRecDepth 100000 in
set_option maxHeartbeats 1600000 in
theorem play_do {w : World} {B : Nat} {c : ECfg} {D m : Nat} {p : PV} {F : Nat → Prop} (hc : c.Ok) (h : LiveP w B c D m p F) (hB : B ≤ w.heap.size) (hm : m ≤ 4398046511104) (kd : Int) (a b n : Int) (BA SA : Option Addr) (bc sc : Nat) (bs : List UInt8) (sides : List Int) (hk1 : 20 < kd) (hk2 : kd ≤ 60) (hn : n ≤ 9223372036854775807) (hr : RdB w B BA bs.length bs) (hbn : bs.length ≤ 140737488351232) (hs : RdI w B SA sides.length sides) (hsn : sides.length ≤ 17592186043904) : Calls Try.prog 16 #[.pointer (some ⟨D, 0, none⟩), .agg #[.int .i64 kd, .int .i64 a, .int .i64 b, .int .i64 n, .slice BA bs.length bc, .slice SA sides.length sc]] w fun e w' => e = .returned (.tuple #[]) ∧ ∃ p', LiveR w B c D m p' w' := by
  have hb0 := one_box' w (.cells #[.int .i64 kd, .int .i64 a, .int .i64 b, .int .i64 n, .slice BA bs.length bc, .slice SA sides.length sc] 33)
  have hE := Blk.new w 33 #[.int .i64 kd, .int .i64 a, .int .i64 b, .int .i64 n, .slice BA bs.length bc, .slice SA sides.length sc]
  obtain ⟨w0, hw0⟩ : ∃ w0, w0 = w.alloc (.cells #[.int .i64 kd, .int .i64 a, .int .i64 b, .int .i64 n, .slice BA bs.length bc, .slice SA sides.length sc] 33) := ⟨_, rfl⟩
  rw [← hw0] at hb0 hE
  have hL := h.below hb0
  have hs0 := hb0.size
  have hB0 : B ≤ w0.heap.size := by omega
  have HW0 := Lib.hid hw0
  have HB0 := Lib.hid (hb0.mono hB)
  have hr0 := (hr.below (hb0.mono hB)).more hB0
  have hi0 := (hs.below (hb0.mono hB)).more hB0
  have hBF : 0 < bs.length → ∀ b o s, BA = some ⟨b, o, s⟩ → ¬ F b := fun hp b o s e hf => by
    obtain ⟨b2, o2, e', hlt, _⟩ := hr.at_ hp
    rw [e] at e'
    injection e' with e'
    injection e' with e'
    have := h.ab b hf
    omega
  have hSF : 0 < sides.length → ∀ b o s, SA = some ⟨b, o, s⟩ → ¬ F b := fun hp b o s e hf => by
    obtain ⟨b2, o2, e', hlt, _⟩ := hs.at_ hp
    rw [e] at e'
    injection e' with e'
    injection e' with e'
    have := h.ab b hf
    omega
  have e5 : (kd == 5) = false := by simp; omega
  have f5 : ¬ kd = 5 := by omega
  have e6 : (kd == 6) = false := by simp; omega
  have f6 : ¬ kd = 6 := by omega
  have e7 : (kd == 7) = false := by simp; omega
  have f7 : ¬ kd = 7 := by omega
  have e10 : (kd == 10) = false := by simp; omega
  have f10 : ¬ kd = 10 := by omega
  have e11 : (kd == 11) = false := by simp; omega
  have f11 : ¬ kd = 11 := by omega
  have e12 : (kd == 12) = false := by simp; omega
  have f12 : ¬ kd = 12 := by omega
  have x0 : w0.cell? ⟨w.heap.size, 0, none⟩ = some (.int .i64 kd) := hE.cell 0
  have x1 : w0.cell? ⟨w.heap.size, 1, none⟩ = some (.int .i64 a) := hE.cell 1
  have x2 : w0.cell? ⟨w.heap.size, 2, none⟩ = some (.int .i64 b) := hE.cell 2
  have x3 : w0.cell? ⟨w.heap.size, 3, none⟩ = some (.int .i64 n) := hE.cell 3
  have x4 : w0.cell? ⟨w.heap.size, 4, none⟩ = some (.slice BA bs.length bc) := hE.cell 4
  have x5 : w0.cell? ⟨w.heap.size, 5, none⟩ = some (.slice SA sides.length sc) := hE.cell 5
  have HEV := Lib.hid (event_any kd a b n BA SA bc sc bs sides (by omega) hr0 hbn hi0 hsn)
  have HC := Lib.hid hc
  have HL := Lib.hid hL
  have HX := Lib.hid (And.intro hm (And.intro hB0 (And.intro hbn (And.intro hsn hn))))
  clear hw0 hb0 hE hL h hr hs hr0 hi0 hBF hSF hc hm hbn hsn hn hs0 hB0 hB
  go_enter Try.func16, Try.ntmps16
  go_upto_region 1 with fail
  rw [← HW0.out]
  go_upto_region 14 with fail
  go_wp2_with (first
    | (go_at_call 39; refine HEV.out.mono ?_; rintro _ w1 ⟨g, cap, hh, caps, rfl, hSB, hSI, hb1⟩; have HG := Lib.hid (And.intro hSB (And.intro hSI hb1)); clear hSB hSI hb1; have HP := Lib.hid (do_ev HC.out HL.out HX.out.1 HX.out.2.1 HX.out.2.2.2.2 HX.out.2.2.1 HX.out.2.2.2.1 HG.out.1 HG.out.2.1 HG.out.2.2 (kd - 20) a b))
    | (go_at_call 19; refine HP.out.mono ?_; rintro _ w2 ⟨rfl, hn⟩; have HN := Lib.hid hn; clear hn))
  go_end0
  exact ⟨rfl, _, ⟨HN.out.1, HB0.out.trans HN.out.2⟩⟩
theorem play_any {w : World} {B : Nat} {c : ECfg} {D m : Nat} {p : PV} {F : Nat → Prop} (hc : c.Ok) (h : LiveP w B c D m p F) (hB : B ≤ w.heap.size) (hm : m ≤ 4398046511104) (kd : Int) (a b n : Int) (BA SA : Option Addr) (bc sc : Nat) (bs : List UInt8) (sides : List Int) (hn : n ≤ 9223372036854775807) (hr : RdB w B BA bs.length bs) (hbn : bs.length ≤ 140737488351232) (hs : RdI w B SA sides.length sides) (hsn : sides.length ≤ 17592186043904) : Calls Try.prog 16 #[.pointer (some ⟨D, 0, none⟩), .agg #[.int .i64 kd, .int .i64 a, .int .i64 b, .int .i64 n, .slice BA bs.length bc, .slice SA sides.length sc]] w fun e w' => e = .returned (.tuple #[]) ∧ ∃ p', LiveR w B c D m p' w' := by
  by_cases h1 : 20 < kd
  · by_cases h2 : kd ≤ 60
    · exact play_do hc h hB hm kd a b n BA SA bc sc bs sides h1 h2 hn hr hbn hs hsn
    · exact play_none2 hc h hB hm kd a b n BA SA bc sc bs sides h1 h2 hn hr hbn hs hsn
  · by_cases h2 : kd ≠ 5 ∧ kd ≠ 6 ∧ kd ≠ 7 ∧ kd ≠ 10 ∧ kd ≠ 11 ∧ kd ≠ 12
    · exact play_none1 hc h hB hm kd a b n BA SA bc sc bs sides h2 h1 hn hr hbn hs hsn
    · rcases (by omega : kd = 5 ∨ kd = 6 ∨ kd = 7 ∨ kd = 10 ∨ kd = 11 ∨ kd = 12) with rfl | rfl | rfl | rfl | rfl | rfl
      · exact play_5 hc h hB hm a b n BA SA bc sc bs sides hn hr hbn hs hsn
      · exact play_6 hc h hB hm a b n BA SA bc sc bs sides hn hr hbn hs hsn
      · exact play_7 hc h hB hm a b n BA SA bc sc bs sides hn hr hbn hs hsn
      · exact play_10 hc h hB hm a b n BA SA bc sc bs sides hn hr hbn hs hsn
      · exact play_11 hc h hB hm a b n BA SA bc sc bs sides hn hr hbn hs hsn
      · exact play_12 hc h hB hm a b n BA SA bc sc bs sides hn hr hbn hs hsn
end Go.Proofs.Ytgfhmfhhobhojaa
