/-
  The program's reader of a file: bytes, number, seal; what is damaged panics.
-/
import Derived.Test.YtpkdalpjfcopbaaDoorKProg
import Derived.Defers
import Derived.Recover
namespace Go.Proofs.YtpkdalpjfcopbaaDoor
open Go.RowKit
/-- Damage was met. -/
def Dam (e : Ending) : Prop := ∃ q : Int, e = .panicked [{ v := .iface 135 (.agg #[.int .i64 q]), recovered := false }]
/-- A reader in memory, at place p, over the bytes bs; S: its last sum's list. -/
structure RdAt (w : World) (gr B : Nat) (A : Option Addr) (n cap : Nat) (bs : List UInt8) (p : Nat) (S : Value) : Prop where
  blk : Blk w gr 126 #[.slice A n cap, .int .i64 (p : Int), S]
  rd : RdB w B A n bs
  lo : B ≤ gr
  le : p ≤ n
section
variable {w w' : World} {gr B n cap p : Nat} {A : Option Addr} {bs : List UInt8} {S : Value}
theorem RdAt.below (h : RdAt w gr B A n cap bs p S) (hb : Below w.heap.size w w') : RdAt w' gr B A n cap bs p S := ⟨h.blk.over hb, h.rd.below (hb.mono (by have := h.blk.lt; have := h.lo; omega)), h.lo, h.le⟩
theorem rdB_chg {m : Nat} {A2 : Option Addr} {xs : List Value} {sz : Nat} (h : Rd w B sz A2 m xs) (hc : Chg (fun k => k = gr) w w') (hB : B ≤ gr) (hg : gr < w.heap.size) : Rd w' B sz A2 m xs := h.keep fun g hlt => hc.block g (by omega) (by omega)
end
def BytesP (w : World) (gr B : Nat) (A : Option Addr) (n cap : Nat) (bs : List UInt8) (p m : Nat) (S : Value) (e : Ending) (w' : World) : Prop :=
  Chg (fun k => k = gr) w w' ∧ if n < p + m then Dam e else ∃ A2 c2, e = .returned (.slice A2 m c2) ∧ m ≤ c2 ∧ c2 ≤ maxLen ∧ RdB w' B A2 m (part bs p m) ∧ RdAt w' gr B A n cap bs (p + m) S
set_option maxRecDepth 100000 in
set_option maxHeartbeats 800000 in
theorem bytes_any {w : World} {gr B n cap p : Nat} {A : Option Addr} {bs : List UInt8} {S : Value} (h : RdAt w gr B A n cap bs p S) (hn : n ≤ cap) (hc : cap ≤ maxLen) (m : Nat) (hm : m ≤ 65536) :
    Calls Tryd.prog 87 #[.pointer (some ⟨gr, 0, none⟩), .int .i64 (m : Int)] w (BytesP w gr B A n cap bs p m S) := by
  have hple := h.le
  have hl := h.rd.lenB
  have c0 : w.cell? ⟨gr, 0, none⟩ = some (.slice A n cap) := h.blk.cell 0
  have c1 : w.cell? ⟨gr, 1, none⟩ = some (.int .i64 (p : Int)) := h.blk.cell 1
  have f1 := h.blk.frozen 1
  have hcx : cap ≤ 9223372036854775807 := by simp only [maxLen] at hc; omega
  have H := Lib.hid h
  have HL := Lib.hid hl
  have HC := Lib.hid hc
  clear h hl hc
  by_cases hlt : n < p + m
  · have hlI : (n : Int) - (p : Int) < (m : Int) := by omega
    have HX : Hid (∀ (e : Ending) (w' : World), Chg (fun k => k = gr) w w' → Dam e → BytesP w gr B A n cap bs p m S e w') := Lib.hid fun e w' h1 h2 => ⟨h1, by rw [if_pos hlt]; exact h2⟩
    generalize BytesP w gr B A n cap bs p m S = PP at HX ⊢
    go_enter Tryd.func87, Tryd.ntmps87
    go_wp2_with fail
    go_quiet (fail)
    go_wp2
    exact ⟨rfl, HX.out _ _ ((Chg.refl _ w).drewN nq) ⟨_, rfl⟩⟩
  · have hlI : (m : Int) ≤ (n : Int) - (p : Int) := by omega
    have HX : Hid (∀ (e : Ending) (w' : World), Chg (fun k => k = gr) w w' → (∃ A2 c2, e = .returned (.slice A2 m c2) ∧ m ≤ c2 ∧ c2 ≤ maxLen ∧ RdB w' B A2 m (part bs p m) ∧ RdAt w' gr B A n cap bs (p + m) S) → BytesP w gr B A n cap bs p m S e w') := Lib.hid fun e w' h1 h2 => ⟨h1, by rw [if_neg hlt]; exact h2⟩
    generalize BytesP w gr B A n cap bs p m S = PP at HX ⊢
    go_enter Tryd.func87, Tryd.ntmps87
    go_wp2_with fail
    go_quiet (fail)
    have hB1 := H.out.blk.drewN nq
    have hc1 := (Chg.refl (fun k => k = gr) w).drewN nq
    generalize w.drewN nq = w1 at hB1 hc1 ⊢
    clear c0 c1 f1
    have c0 : w1.cell? ⟨gr, 0, none⟩ = some (.slice A n cap) := hB1.cell 0
    have c1 : w1.cell? ⟨gr, 1, none⟩ = some (.int .i64 (p : Int)) := hB1.cell 1
    have f1 := hB1.frozen 1
    go_upto_region 4 with fail
    have ep : (p : Int) + (m : Int) = ((p + m : Nat) : Int) := by omega
    rw [ep]
    have hB2 := hB1.set_ 1 (.int .i64 ((p + m : Nat) : Int))
    have hc2 := hc1.setCell (p := ⟨gr, 1, none⟩) (.inl rfl) (.int .i64 ((p + m : Nat) : Int))
    generalize w1.setCell ⟨gr, 1, none⟩ (.int .i64 ((p + m : Nat) : Int)) = w2 at hB2 hc2 ⊢
    clear c0 c1 f1 ep
    have c0 : w2.cell? ⟨gr, 0, none⟩ = some (.slice A n cap) := hB2.cell 0
    have c1 : w2.cell? ⟨gr, 1, none⟩ = some (.int .i64 ((p + m : Nat) : Int)) := hB2.cell 1
    have HB2 := Lib.hid hB2
    have HC2 := Lib.hid hc2
    have hz : p + m ≤ n := by omega
    obtain ⟨q, hq⟩ : ∃ q, q = p + m := ⟨_, rfl⟩
    rw [← hq] at c1 hz
    have hqi : (q : Int) - (m : Int) = (p : Int) := by omega
    have e1 : IntKind.i64.wrap ((q : Int) - (m : Int)) = (p : Int) := by rw [hqi]; exact IntWalk.i64_in _ (by omega)
    have hle : (p : Int) ≤ (q : Int) := by omega
    have g0 : (0 : Int) ≤ (p : Int) := by omega
    have hqn : (q : Int) ≤ (cap : Int) := by omega
    rw [← hq]
    have HQ := Lib.hid hq
    clear hB1 hB2 hc1 hc2 hq hqi
    go_quiet (fail)
    go_wp2
    all_goals
      have hqp : q - p = m := by have := HQ.out; omega
      have hq := HQ.out
      rw [hqp]
      have hrd : RdB w2 B A n bs := H.out.rd.keep fun g hg => HC2.out.block g (by have := H.out.blk.lt; have := H.out.lo; omega) (by have := H.out.lo; omega)
      have hat : RdAt (w2.drewN nq) gr B A n cap bs (p + m) S := ⟨HB2.out.drewN nq, hrd.dn nq, H.out.lo, by omega⟩
    · have h0 : m = 0 := by omega
      subst h0
      exact HX.out _ _ (HC2.out.drewN nq) ⟨_, _, rfl, Nat.le_refl _, by simp [maxLen], Rd.nil_ _, hat⟩
    · exact HX.out _ _ (HC2.out.drewN nq) ⟨_, _, rfl, by omega, by have := HC.out; simp only [maxLen] at this ⊢; omega, (Rd.sliceB hrd (by omega)).dn nq, hat⟩
theorem wrap_step {l : List UInt8} {k : Nat} {c : UInt8} (_hk : k < 8) (h : l[k]? = some c) : numB (l.take (k + 1)) = numB (l.take k) * 256 + c.toNat := by
  rw [List.take_add_one, h]
  exact numB_snoc _ _
theorem toNat_w (y : Nat) (h : y < 18446744073709551616) : (BitVec.ofInt 64 (wrap64 (y : Int))).toNat = y := by
  rw [BitVec.toNat_ofInt]
  unfold wrap64
  omega
theorem or_step (x c : Nat) (hx : x < 72057594037927936) (hc : c < 256) : bits .or .i64 (wrap64 (wrap64 (x : Int) * 256)) (wrap64 (c : Int)) = IntKind.i64.wrap ((x * 256 + c : Nat) : Int) := by
  show IntKind.i64.wrap ((BitVec.ofInt 64 (wrap64 (wrap64 (x : Int) * 256)) ||| BitVec.ofInt 64 (wrap64 (c : Int))).toNat : Int) = _
  have e : wrap64 (x : Int) * 256 = ((x * 256 : Nat) : Int) := by unfold wrap64; omega
  rw [e, BitVec.toNat_or, toNat_w _ (by omega), toNat_w _ (by omega)]
  have h := Nat.shiftLeft_add_eq_or_of_lt (b := c) (i := 8) (by omega) x
  rw [Nat.shiftLeft_eq] at h
  rw [show (2 : Nat) ^ 8 = 256 from rfl] at h
  rw [h]
theorem num_56 {l : List UInt8} {k : Nat} (hk : k < 8) : numB (l.take k) < 72057594037927936 := by
  refine Nat.lt_of_lt_of_le (numB_lt _) ?_
  have : (l.take k).length ≤ 7 := by rw [List.length_take]; omega
  exact Nat.le_trans (Nat.pow_le_pow_right (by omega) this) (by decide)
def NumP (w : World) (gr B : Nat) (A : Option Addr) (n cap : Nat) (bs : List UInt8) (p m : Nat) (S : Value) (e : Ending) (w' : World) : Prop :=
  Chg (fun k => k = gr) w w' ∧ if n < p + m then Dam e else e = .returned (.int .i64 (IntKind.i64.wrap (numB (part bs p m)))) ∧ RdAt w' gr B A n cap bs (p + m) S
set_option maxRecDepth 100000 in
set_option maxHeartbeats 800000 in
theorem readN_any {w : World} {gr B n cap p : Nat} {A : Option Addr} {bs : List UInt8} {S : Value} (h : RdAt w gr B A n cap bs p S) (hn : n ≤ cap) (hc : cap ≤ maxLen) (m : Nat) (hm : m ≤ 8) :
    Calls Tryd.prog 85 #[.pointer (some ⟨gr, 0, none⟩), .int .i64 (m : Int)] w (NumP w gr B A n cap bs p m S) := by
  have HY := Lib.hid (bytes_any h hn hc m (by omega))
  have hlb : bs.length = n := h.rd.lenB
  by_cases hlt : n < p + m
  · have HX : Hid (∀ (e : Ending) (w' : World), Chg (fun k => k = gr) w w' → Dam e → NumP w gr B A n cap bs p m S e w') := Lib.hid fun e w' h1 h2 => ⟨h1, by rw [if_pos hlt]; exact h2⟩
    generalize NumP w gr B A n cap bs p m S = PP at HX ⊢
    clear h hn hc hlb
    go_enter Tryd.func85, Tryd.ntmps85
    go_wp2_with (go_at_call 87; refine HY.out.mono ?_; rintro e w1 ⟨hc1, hp⟩; rw [if_pos hlt] at hp; obtain ⟨q, rfl⟩ := hp)
    exact ⟨rfl, HX.out _ _ hc1 ⟨_, rfl⟩⟩
  · have HX : Hid (∀ (e : Ending) (w' : World), Chg (fun k => k = gr) w w' → (e = .returned (.int .i64 (IntKind.i64.wrap (numB (part bs p m)))) ∧ RdAt w' gr B A n cap bs (p + m) S) → NumP w gr B A n cap bs p m S e w') := Lib.hid fun e w' h1 h2 => ⟨h1, by rw [if_neg hlt]; exact h2⟩
    generalize NumP w gr B A n cap bs p m S = PP at HX ⊢
    have hpl : (part bs p m).length = m := part_length (by omega)
    obtain ⟨l, hl⟩ : ∃ l, l = part bs p m := ⟨_, rfl⟩
    rw [← hl] at HX hpl
    have HLQ := Lib.hid hl
    have HPL := Lib.hid hpl
    clear h hn hc hlb hl hpl
    go_enter Tryd.func85, Tryd.ntmps85
    go_wp2_with (go_at_call 87; refine HY.out.mono ?_; rintro e w1 ⟨hc1, hp⟩; rw [if_neg hlt] at hp; obtain ⟨A2, c2, rfl, hm2, hcm, hr2, hat⟩ := hp; rw [← HLQ.out] at hr2; have HR2 := Lib.hid hr2; have HAT := Lib.hid hat; have HC1 := Lib.hid hc1; clear hr2 hat hc1)
    go_loop [5, 12] (fun v i => ∃ k : Nat, k ≤ m ∧ i = .int .i64 (k : Int) ∧ v = .int .i64 (IntKind.i64.wrap (numB (l.take k)))) (fun _ i => m - (intOf i).toNat)
    case atStart => exact ⟨0, by omega, rfl, rfl⟩
    case round =>
      obtain ⟨k, hk, rfl, rfl⟩ := hrel
      by_cases hlt2 : k < m
      · have hI : (k : Int) < (m : Int) := by omega
        obtain ⟨b, off, c, rfl, hb, hcx, hcell⟩ := HR2.out.byte hlt2
        have HS := Lib.hid (wrap_step (l := l) (k := k) (by omega) hcx)
        have HX2 := Lib.hid (num_56 (l := l) (k := k) (by omega))
        generalize numB (l.take k) = x at HS HX2 ⊢
        go_wp2
        go_round
        case rel => exact ⟨k + 1, by omega, by go_num, by rw [HS.out]; exact congrArg (Value.int .i64) (or_step x c.toNat HX2.out c.toNat_lt)⟩
        case measure => simp [intOf] <;> omega
      · obtain rfl : m = k := by omega
        rw [List.take_of_length_le (by rw [HPL.out]; exact Nat.le_refl _)]
        go_wp2
        exact HX.out _ _ HC1.out ⟨rfl, HAT.out⟩
end Go.Proofs.YtpkdalpjfcopbaaDoor
