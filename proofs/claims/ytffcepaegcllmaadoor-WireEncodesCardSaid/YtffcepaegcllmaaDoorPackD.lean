/-
  What a packet's lists hold; when a packet is a valid one; the program's 'empty' for every kind.
-/
import Derived.Test.YtffcepaegcllmaaDoorPackC
namespace Go.Proofs.YtffcepaegcllmaaDoor
open Go.RowKit

/-- What a packet's lists hold. -/
structure PkD where
  hears : List Int
  set : List Int
  vec : List Int
  slots : List (Int × Int)
  got : List Int
  body : List UInt8
  msgs : List Msg
structure PkIn (w : World) (B : Nat) (p : Pk) (D : PkD) : Prop where
  rh : RdI w B p.hA p.hn D.hears
  rp : RdI w B p.pA p.pn D.set
  rv : RdI w B p.vA p.vn D.vec
  rs : SlotsAt w B p.sA p.sn D.slots
  re : RdI w B p.eA p.en D.got
  rb : RdB w B p.bA p.bn D.body
  rm : MsgsAt w B p.mA p.mn D.msgs
structure PkLe (p : Pk) : Prop where
  lh : p.hn ≤ 140737488351232
  lp : p.pn ≤ 140737488351232
  lv : p.vn ≤ 140737488351232
  ls : p.sn ≤ 140737488351232
  le : p.en ≤ 140737488351232
  lb : p.bn ≤ 140737488351232
  lm : p.mn ≤ 140737488351232
theorem PkIn.below {w w' : World} {B : Nat} {p : Pk} {D : PkD} (h : PkIn w B p D) (hb : Below B w w') : PkIn w' B p D :=
  ⟨h.rh.below hb, h.rp.below hb, h.rv.below hb, h.rs.below hb, h.re.below hb, h.rb.below hb, h.rm.below hb⟩
theorem SlotsAt.more {w : World} {B B' : Nat} {A : Option Addr} {n : Nat} {sl : List (Int × Int)} (h : SlotsAt w B A n sl) (hB : B ≤ B') : SlotsAt w B' A n sl :=
  ⟨h.1, fun hn => by
    obtain ⟨b, off, e, hlt, hc⟩ := h.2 hn
    exact ⟨b, off, e, Nat.lt_of_lt_of_le hlt hB, hc⟩⟩
theorem PkIn.more {w : World} {B B' : Nat} {p : Pk} {D : PkD} (h : PkIn w B p D) (hB : B ≤ B') : PkIn w B' p D :=
  ⟨h.rh.more hB, h.rp.more hB, h.rv.more hB, h.rs.more hB, h.re.more hB, h.rb.more hB, h.rm.more hB⟩
/-- A packet whose lists lie below the world's size, behind a call. -/
theorem PkIn.over {w w' : World} {p : Pk} {D : PkD} (h : PkIn w w.heap.size p D) (hb : Below w.heap.size w w') : PkIn w' w'.heap.size p D :=
  (h.below hb).more hb.size
def Pk.ek (p : Pk) : Nat → Bool
  | 1 => p.e1
  | 2 => p.e2
  | 3 => p.e3
  | 4 => p.e4
  | 5 => p.e5
  | 6 => p.e6
  | 7 => p.e7
  | _ => true
/-- Of kind j, or nothing in j's part. -/
def Pk.ok (p : Pk) (j : Nat) : Bool := decide (p.k = (j : Int)) || p.ek j
theorem others_iff (p : Pk) : p.others = true ↔ ∀ j, 1 ≤ j → j < 8 → p.ok j = true := by
  constructor
  · intro h j h1 h8
    simp only [Pk.others, Bool.and_eq_true] at h
    obtain ⟨⟨⟨⟨⟨⟨a1, a2⟩, a3⟩, a4⟩, a5⟩, a6⟩, a7⟩ := h
    rcases (by omega : j = 1 ∨ j = 2 ∨ j = 3 ∨ j = 4 ∨ j = 5 ∨ j = 6 ∨ j = 7) with rfl | rfl | rfl | rfl | rfl | rfl | rfl
    · exact a1
    · exact a2
    · exact a3
    · exact a4
    · exact a5
    · exact a6
    · exact a7
  · intro h
    simp only [Pk.others, Bool.and_eq_true]
    exact ⟨⟨⟨⟨⟨⟨h 1 (by omega) (by omega), h 2 (by omega) (by omega)⟩, h 3 (by omega) (by omega)⟩, h 4 (by omega) (by omega)⟩, h 5 (by omega) (by omega)⟩, h 6 (by omega) (by omega)⟩, h 7 (by omega) (by omega)⟩
theorem others_no {p : Pk} {j : Nat} (h1 : 1 ≤ j) (h8 : j < 8) (h : p.ok j = false) : p.others = false := by
  cases ho : p.others with
  | false => rfl
  | true => rw [(others_iff p).1 ho j h1 h8] at h; cases h
/-- Does the kind's own part fit? -/
def kindB (p : Pk) (D : PkD) : Bool :=
  if p.k = 1 then beatB p.tk D.hears
  else if p.k = 2 then propB D.set p.cid p.rev p.top p.p1 p.p2 p.p3 p.p4 D.vec
  else if p.k = 3 then flushB p.f1 p.f2 p.f3 p.f4 p.base D.slots D.got
  else if p.k = 4 then stableB p.w1 p.w2 p.w3 p.w4 p.done p.pfx
  else if p.k = 5 then frameB p.t1 p.t2 p.t3 p.t4 p.seq p.bn
  else if p.k = 6 then ackB p.a1 p.a2 p.a3 p.a4 p.upto
  else if p.k = 7 then forwardB p.g1 p.g2 p.g3 p.g4 D.msgs
  else false
/-- Is it a valid packet? -/
def validB (p : Pk) (D : PkD) : Bool := headB p.k p.s p.si p.d p.di && p.others && kindB p D
theorem empty_any (p : Pk) (j : Nat) (h1 : 1 ≤ j) (h8 : j < 8) (w : World) : Calls Tryd.prog 89 #[.agg p.cells, .int .i64 (j : Int)] w fun r w' => r = .returned (.bool (p.ek j)) ∧ Below w.heap.size w w' := by
  rcases (by omega : j = 1 ∨ j = 2 ∨ j = 3 ∨ j = 4 ∨ j = 5 ∨ j = 6 ∨ j = 7) with rfl | rfl | rfl | rfl | rfl | rfl | rfl
  · exact empty1 p w
  · exact empty2 p w
  · exact empty3 p w
  · exact empty4 p w
  · exact empty5 p w
  · exact empty6 p w
  · exact empty7 p w
end Go.Proofs.YtffcepaegcllmaaDoor
