/-
  The program's reader of a file: seal. And: The program's reader of a file: bytes, number, seal; what is damaged panics.
-/
import Derived.Test.YtpkdalpjfcopbaaDoorKProg
import Derived.Defers
import Derived.Recover
namespace Go.Proofs.YtpkdalpjfcopbaaDoor
open Go.RowKit
/-- Damage was met. -/
def Dam (e : Ending) : Prop := ∃ q : Int, e = .panicked [{ v := .iface 135 (.agg #[.int .i64 q]), recovered := false }]
/-- A reader in memory, at place p, over the bytes bs; S: its last sum's list. -/
structure RdAt (w : World) (gr B : Nat) (A : Option Addr) (n cap : Nat) (bs : List UInt8) (p : Nat) (S : Value) : Prop where
  blk : Blk w gr 126 #[.slice A n cap, .int .i64 (p : Int), S]
  rd : RdB w B A n bs
  lo : B ≤ gr
  le : p ≤ n
section
variable {w w' : World} {gr B n cap p : Nat} {A : Option Addr} {bs : List UInt8} {S : Value}
theorem RdAt.below (h : RdAt w gr B A n cap bs p S) (hb : Below w.heap.size w w') : RdAt w' gr B A n cap bs p S := ⟨h.blk.over hb, h.rd.below (hb.mono (by have := h.blk.lt; have := h.lo; omega)), h.lo, h.le⟩
theorem rdB_chg {m : Nat} {A2 : Option Addr} {xs : List Value} {sz : Nat} (h : Rd w B sz A2 m xs) (hc : Chg (fun k => k = gr) w w') (hB : B ≤ gr) (hg : gr < w.heap.size) : Rd w' B sz A2 m xs := h.keep fun g hlt => hc.block g (by omega) (by omega)
end
def BytesP (w : World) (gr B : Nat) (A : Option Addr) (n cap : Nat) (bs : List UInt8) (p m : Nat) (S : Value) (e : Ending) (w' : World) : Prop :=
  Chg (fun k => k = gr) w w' ∧ if n < p + m then Dam e else ∃ A2 c2, e = .returned (.slice A2 m c2) ∧ m ≤ c2 ∧ c2 ≤ maxLen ∧ RdB w' B A2 m (part bs p m) ∧ RdAt w' gr B A n cap bs (p + m) S
set_option maxRecDepth 100000 in
set_option maxHeartbeats 800000 in
theorem bytes_any {w : World} {gr B n cap p : Nat} {A : Option Addr} {bs : List UInt8} {S : Value} (h : RdAt w gr B A n cap bs p S) (hn : n ≤ cap) (hc : cap ≤ maxLen) (m : Nat) (hm : m ≤ 65536) :
    Calls Tryd.prog 87 #[.pointer (some ⟨gr, 0, none⟩), .int .i64 (m : Int)] w (BytesP w gr B A n cap bs p m S) := by
  have hple := h.le
  have hl := h.rd.lenB
  have c0 : w.cell? ⟨gr, 0, none⟩ = some (.slice A n cap) := h.blk.cell 0
  have c1 : w.cell? ⟨gr, 1, none⟩ = some (.int .i64 (p : Int)) := h.blk.cell 1
  have f1 := h.blk.frozen 1
  have hcx : cap ≤ 9223372036854775807 := by simp only [maxLen] at hc; omega
  have H := Lib.hid h
  have HL := Lib.hid hl
  have HC := Lib.hid hc
  clear h hl hc
  by_cases hlt : n < p + m
  · have hlI : (n : Int) - (p : Int) < (m : Int) := by omega
    have HX : Hid (∀ (e : Ending) (w' : World), Chg (fun k => k = gr) w w' → Dam e → BytesP w gr B A n cap bs p m S e w') := Lib.hid fun e w' h1 h2 => ⟨h1, by rw [if_pos hlt]; exact h2⟩
    generalize BytesP w gr B A n cap bs p m S = PP at HX ⊢
    go_enter Tryd.func87, Tryd.ntmps87
    go_wp2_with fail
    go_quiet (fail)
    go_wp2
    exact ⟨rfl, HX.out _ _ ((Chg.refl _ w).drewN nq) ⟨_, rfl⟩⟩
  · have hlI : (m : Int) ≤ (n : Int) - (p : Int) := by omega
    have HX : Hid (∀ (e : Ending) (w' : World), Chg (fun k => k = gr) w w' → (∃ A2 c2, e = .returned (.slice A2 m c2) ∧ m ≤ c2 ∧ c2 ≤ maxLen ∧ RdB w' B A2 m (part bs p m) ∧ RdAt w' gr B A n cap bs (p + m) S) → BytesP w gr B A n cap bs p m S e w') := Lib.hid fun e w' h1 h2 => ⟨h1, by rw [if_neg hlt]; exact h2⟩
    generalize BytesP w gr B A n cap bs p m S = PP at HX ⊢
    go_enter Tryd.func87, Tryd.ntmps87
    go_wp2_with fail
    go_quiet (fail)
    have hB1 := H.out.blk.drewN nq
    have hc1 := (Chg.refl (fun k => k = gr) w).drewN nq
    generalize w.drewN nq = w1 at hB1 hc1 ⊢
    clear c0 c1 f1
    have c0 : w1.cell? ⟨gr, 0, none⟩ = some (.slice A n cap) := hB1.cell 0
    have c1 : w1.cell? ⟨gr, 1, none⟩ = some (.int .i64 (p : Int)) := hB1.cell 1
    have f1 := hB1.frozen 1
    go_upto_region 4 with fail
    have ep : (p : Int) + (m : Int) = ((p + m : Nat) : Int) := by omega
    rw [ep]
    have hB2 := hB1.set_ 1 (.int .i64 ((p + m : Nat) : Int))
    have hc2 := hc1.setCell (p := ⟨gr, 1, none⟩) (.inl rfl) (.int .i64 ((p + m : Nat) : Int))
    generalize w1.setCell ⟨gr, 1, none⟩ (.int .i64 ((p + m : Nat) : Int)) = w2 at hB2 hc2 ⊢
    clear c0 c1 f1 ep
    have c0 : w2.cell? ⟨gr, 0, none⟩ = some (.slice A n cap) := hB2.cell 0
    have c1 : w2.cell? ⟨gr, 1, none⟩ = some (.int .i64 ((p + m : Nat) : Int)) := hB2.cell 1
    have HB2 := Lib.hid hB2
    have HC2 := Lib.hid hc2
    have hz : p + m ≤ n := by omega
    obtain ⟨q, hq⟩ : ∃ q, q = p + m := ⟨_, rfl⟩
    rw [← hq] at c1 hz
    have hqi : (q : Int) - (m : Int) = (p : Int) := by omega
    have e1 : IntKind.i64.wrap ((q : Int) - (m : Int)) = (p : Int) := by rw [hqi]; exact IntWalk.i64_in _ (by omega)
    have hle : (p : Int) ≤ (q : Int) := by omega
    have g0 : (0 : Int) ≤ (p : Int) := by omega
    have hqn : (q : Int) ≤ (cap : Int) := by omega
    rw [← hq]
    have HQ := Lib.hid hq
    clear hB1 hB2 hc1 hc2 hq hqi
    go_quiet (fail)
    go_wp2
    all_goals
      have hqp : q - p = m := by have := HQ.out; omega
      have hq := HQ.out
      rw [hqp]
      have hrd : RdB w2 B A n bs := H.out.rd.keep fun g hg => HC2.out.block g (by have := H.out.blk.lt; have := H.out.lo; omega) (by have := H.out.lo; omega)
      have hat : RdAt (w2.drewN nq) gr B A n cap bs (p + m) S := ⟨HB2.out.drewN nq, hrd.dn nq, H.out.lo, by omega⟩
    · have h0 : m = 0 := by omega
      subst h0
      exact HX.out _ _ (HC2.out.drewN nq) ⟨_, _, rfl, Nat.le_refl _, by simp [maxLen], Rd.nil_ _, hat⟩
    · exact HX.out _ _ (HC2.out.drewN nq) ⟨_, _, rfl, by omega, by have := HC.out; simp only [maxLen] at this ⊢; omega, (Rd.sliceB hrd (by omega)).dn nq, hat⟩
theorem wrap_step {l : List UInt8} {k : Nat} {c : UInt8} (_hk : k < 8) (h : l[k]? = some c) : numB (l.take (k + 1)) = numB (l.take k) * 256 + c.toNat := by
  rw [List.take_add_one, h]
  exact numB_snoc _ _
theorem toNat_w (y : Nat) (h : y < 18446744073709551616) : (BitVec.ofInt 64 (wrap64 (y : Int))).toNat = y := by
  rw [BitVec.toNat_ofInt]
  unfold wrap64
  omega
theorem or_step (x c : Nat) (hx : x < 72057594037927936) (hc : c < 256) : bits .or .i64 (wrap64 (wrap64 (x : Int) * 256)) (wrap64 (c : Int)) = IntKind.i64.wrap ((x * 256 + c : Nat) : Int) := by
  show IntKind.i64.wrap ((BitVec.ofInt 64 (wrap64 (wrap64 (x : Int) * 256)) ||| BitVec.ofInt 64 (wrap64 (c : Int))).toNat : Int) = _
  have e : wrap64 (x : Int) * 256 = ((x * 256 : Nat) : Int) := by unfold wrap64; omega
  rw [e, BitVec.toNat_or, toNat_w _ (by omega), toNat_w _ (by omega)]
  have h := Nat.shiftLeft_add_eq_or_of_lt (b := c) (i := 8) (by omega) x
  rw [Nat.shiftLeft_eq] at h
  rw [show (2 : Nat) ^ 8 = 256 from rfl] at h
  rw [h]
theorem num_56 {l : List UInt8} {k : Nat} (hk : k < 8) : numB (l.take k) < 72057594037927936 := by
  refine Nat.lt_of_lt_of_le (numB_lt _) ?_
  have : (l.take k).length ≤ 7 := by rw [List.length_take]; omega
  exact Nat.le_trans (Nat.pow_le_pow_right (by omega) this) (by decide)
def NumP (w : World) (gr B : Nat) (A : Option Addr) (n cap : Nat) (bs : List UInt8) (p m : Nat) (S : Value) (e : Ending) (w' : World) : Prop :=
  Chg (fun k => k = gr) w w' ∧ if n < p + m then Dam e else e = .returned (.int .i64 (IntKind.i64.wrap (numB (part bs p m)))) ∧ RdAt w' gr B A n cap bs (p + m) S
set_option maxRecDepth 100000 in
set_option maxHeartbeats 800000 in
theorem readN_any {w : World} {gr B n cap p : Nat} {A : Option Addr} {bs : List UInt8} {S : Value} (h : RdAt w gr B A n cap bs p S) (hn : n ≤ cap) (hc : cap ≤ maxLen) (m : Nat) (hm : m ≤ 8) :
    Calls Tryd.prog 85 #[.pointer (some ⟨gr, 0, none⟩), .int .i64 (m : Int)] w (NumP w gr B A n cap bs p m S) := by
  have HY := Lib.hid (bytes_any h hn hc m (by omega))
  have hlb : bs.length = n := h.rd.lenB
  by_cases hlt : n < p + m
  · have HX : Hid (∀ (e : Ending) (w' : World), Chg (fun k => k = gr) w w' → Dam e → NumP w gr B A n cap bs p m S e w') := Lib.hid fun e w' h1 h2 => ⟨h1, by rw [if_pos hlt]; exact h2⟩
    generalize NumP w gr B A n cap bs p m S = PP at HX ⊢
    clear h hn hc hlb
    go_enter Tryd.func85, Tryd.ntmps85
    go_wp2_with (go_at_call 87; refine HY.out.mono ?_; rintro e w1 ⟨hc1, hp⟩; rw [if_pos hlt] at hp; obtain ⟨q, rfl⟩ := hp)
    exact ⟨rfl, HX.out _ _ hc1 ⟨_, rfl⟩⟩
  · have HX : Hid (∀ (e : Ending) (w' : World), Chg (fun k => k = gr) w w' → (e = .returned (.int .i64 (IntKind.i64.wrap (numB (part bs p m)))) ∧ RdAt w' gr B A n cap bs (p + m) S) → NumP w gr B A n cap bs p m S e w') := Lib.hid fun e w' h1 h2 => ⟨h1, by rw [if_neg hlt]; exact h2⟩
    generalize NumP w gr B A n cap bs p m S = PP at HX ⊢
    have hpl : (part bs p m).length = m := part_length (by omega)
    obtain ⟨l, hl⟩ : ∃ l, l = part bs p m := ⟨_, rfl⟩
    rw [← hl] at HX hpl
    have HLQ := Lib.hid hl
    have HPL := Lib.hid hpl
    clear h hn hc hlb hl hpl
    go_enter Tryd.func85, Tryd.ntmps85
    go_wp2_with (go_at_call 87; refine HY.out.mono ?_; rintro e w1 ⟨hc1, hp⟩; rw [if_neg hlt] at hp; obtain ⟨A2, c2, rfl, hm2, hcm, hr2, hat⟩ := hp; rw [← HLQ.out] at hr2; have HR2 := Lib.hid hr2; have HAT := Lib.hid hat; have HC1 := Lib.hid hc1; clear hr2 hat hc1)
    go_loop [5, 12] (fun v i => ∃ k : Nat, k ≤ m ∧ i = .int .i64 (k : Int) ∧ v = .int .i64 (IntKind.i64.wrap (numB (l.take k)))) (fun _ i => m - (intOf i).toNat)
    case atStart => exact ⟨0, by omega, rfl, rfl⟩
    case round =>
      obtain ⟨k, hk, rfl, rfl⟩ := hrel
      by_cases hlt2 : k < m
      · have hI : (k : Int) < (m : Int) := by omega
        obtain ⟨b, off, c, rfl, hb, hcx, hcell⟩ := HR2.out.byte hlt2
        have HS := Lib.hid (wrap_step (l := l) (k := k) (by omega) hcx)
        have HX2 := Lib.hid (num_56 (l := l) (k := k) (by omega))
        generalize numB (l.take k) = x at HS HX2 ⊢
        go_wp2
        go_round
        case rel => exact ⟨k + 1, by omega, by go_num, by rw [HS.out]; exact congrArg (Value.int .i64) (or_step x c.toNat HX2.out c.toNat_lt)⟩
        case measure => simp [intOf] <;> omega
      · obtain rfl : m = k := by omega
        rw [List.take_of_length_le (by rw [HPL.out]; exact Nat.le_refl _)]
        go_wp2
        exact HX.out _ _ HC1.out ⟨rfl, HAT.out⟩
end Go.Proofs.YtpkdalpjfcopbaaDoor
namespace Go.Proofs.YtpkdalpjfcopbaaDoor
open Go.RowKit
def SealP (w : World) (gr B : Nat) (A : Option Addr) (n cap : Nat) (bs : List UInt8) (p : Nat) (_S : Value) (sum : Nat) (e : Ending) (w' : World) : Prop :=
  Chg (fun k => k = gr) w w' ∧ if n < p + 4 then Dam e else if numB (part bs p 4) = sum then e = .returned (.tuple #[]) ∧ ∃ A2 c2, RdAt w' gr B A n cap bs (p + 4) (.slice A2 4 c2) ∧ 4 ≤ c2 ∧ RdB w' B A2 4 (part bs p 4) else Dam e
set_option maxRecDepth 100000 in
set_option maxHeartbeats 1600000 in
theorem seal_any {w : World} {gr B n cap p : Nat} {A : Option Addr} {bs : List UInt8} {S : Value} (h : RdAt w gr B A n cap bs p S) (hn : n ≤ cap) (hc : cap ≤ 9223372036854775807) (hc2 : n ≤ 140737488351232) (f : Nat) (hf : f ≤ p) (Aa : Option Addr) (na ca : Nat) (la : List UInt8) (ha : RdB w w.heap.size Aa na la) (hna : na ≤ 4) (ht : Nibs w) (hgn : 0 ≠ gr) :
    Calls Tryd.prog 86 #[.pointer (some ⟨gr, 0, none⟩), .int .i64 (f : Int), .slice Aa na ca] w (SealP w gr B A n cap bs p S (Crc.crc (la ++ part bs f (p - f)))) := by
  obtain ⟨i0, hi0, hz0, hz1, hz2⟩ := info_parts info_u8
  have hple := h.le
  have hl := h.rd.lenB
  have c0 : w.cell? ⟨gr, 0, none⟩ = some (.slice A n cap) := h.blk.cell 0
  have c1 : w.cell? ⟨gr, 1, none⟩ = some (.int .i64 (p : Int)) := h.blk.cell 1
  have hgr := h.blk.lt
  have HCX : Hid (∀ W, Below w.heap.size w W → W.cell? ⟨gr, 0, none⟩ = some (.slice A n cap) ∧ W.cell? ⟨gr, 1, none⟩ = some (.int .i64 (p : Int))) := Lib.hid fun W hb => ⟨(hb.cell (p := ⟨gr, 0, none⟩) hgr).trans c0, (hb.cell (p := ⟨gr, 1, none⟩) hgr).trans c1⟩
  have HSR : Hid (∀ W, Below w.heap.size w W → RdB W w.heap.size (if cap = f then A else Option.map (fun x => x.add f) A) (p - f) (part bs f (p - f))) := Lib.hid fun W hb => by
    have hr : RdB W w.heap.size A n bs := ((h.rd.more (by have := h.lo; omega)).below hb)
    by_cases hcf : cap = f
    · have h0 : p - f = 0 := by omega
      rw [h0]
      exact Rd.nil_ _
    · rw [if_neg hcf]
      exact Rd.sliceB hr (by omega)
  have H := Lib.hid h
  have HL := Lib.hid hl
  have HA := Lib.hid ha
  have HT := Lib.hid ht
  have HNE := Lib.hid hgn
  have g0 : (0 : Int) ≤ (f : Int) := by omega
  have g1 : (f : Int) ≤ (p : Int) := by omega
  have g2 : (p : Int) ≤ (cap : Int) := by omega
  clear h hl ha ht hgn c0 c1
  generalize hPP : SealP w gr B A n cap bs p S (Crc.crc (la ++ part bs f (p - f))) = PP
  have HPP := Lib.hid hPP
  clear hPP
  go_enter Tryd.func86, Tryd.ntmps86
  go_wp2_with fail
  go_cut [6] from 9 to 21 (fun v wc => ∃ A6 c6, v = .slice A6 (na + (p - f)) c6 ∧ Hid (wc.ownsRow w.heap.size 5 1 (.slice A6 (na + (p - f)) c6) (na + (p - f)) (bvs (la ++ part bs f (p - f)))) ∧ Hid (Below w.heap.size w wc))
  case first =>
    refine wp_region_held_drew (S := fun W => W.cell? ⟨gr, 0, none⟩ = some (.slice A n cap) ∧ W.cell? ⟨gr, 1, none⟩ = some (.int .i64 (p : Int))) (by kernel_rfl) (HCX.out _ (below_drewN (Below.refl _ w) 1)) (fun hsw => ?_)
    refine wpAnyH_take (i := 0) (oi := ?oi0a) (v := ?v0a) ?hi0a (by kernel_rfl) (by kernel_rfl) (by kernel_rfl) ?hq0a ?hy0a (by assumption) ?rest0a
    case hi0a => (simp only [List.getElem?_toArray, List.getElem?_cons_zero]; rfl)
    case hy0a => (refine Or.inl ⟨by rfl, ?_⟩; intro w hSw; (try dsimp only at hSw); go_simp; try with_reducible rfl)
    case hq0a => exact fun _ _ _ h => h
    try simp only [Act.put, List.setIfInBounds_toArray, List.set_cons_zero, List.set_cons_succ]
    refine wpAnyH_take (i := 2) (oi := ?oi2a) (v := ?v2a) ?hi2a (by kernel_rfl) (by kernel_rfl) (by kernel_rfl) ?hq2a ?hy2a (by assumption) ?rest2a
    case hi2a => (simp only [List.getElem?_toArray, List.getElem?_cons_zero, List.getElem?_cons_succ]; rfl)
    case hy2a => (refine Or.inl ⟨by rfl, ?_⟩; intro w hSw; (try dsimp only at hSw); go_simp; try with_reducible rfl)
    case hq2a => exact fun _ _ _ h => h
    try simp only [Act.put, List.setIfInBounds_toArray, List.set_cons_zero, List.set_cons_succ]
    refine wpAnyH_take (i := 3) (oi := ?oi3a) (v := ?v3a) ?hi3a (by kernel_rfl) (by kernel_rfl) (by kernel_rfl) ?hq3a ?hy3a (by assumption) ?rest3a
    case hi3a => (simp only [List.getElem?_toArray, List.getElem?_cons_zero, List.getElem?_cons_succ]; rfl)
    case hy3a => (refine Or.inl ⟨by rfl, ?_⟩; intro w hSw; (try dsimp only at hSw); go_simp; try with_reducible rfl)
    case hq3a => exact fun _ _ _ h => h
    try simp only [Act.put, List.setIfInBounds_toArray, List.set_cons_zero, List.set_cons_succ]
    refine wpAnyH_take (i := 4) (oi := ?oi4a) (v := ?v4a) ?hi4a (by kernel_rfl) (by kernel_rfl) (by kernel_rfl) ?hq4a ?hy4a (by assumption) ?rest4a
    case hi4a => (simp only [List.getElem?_toArray, List.getElem?_cons_zero, List.getElem?_cons_succ]; rfl)
    case hy4a => (refine Or.inl ⟨by rfl, ?_⟩; intro w hSw; (try dsimp only at hSw); go_simp; try with_reducible rfl)
    case hq4a => exact fun _ _ _ h => h
    try simp only [Act.put, List.setIfInBounds_toArray, List.set_cons_zero, List.set_cons_succ]
    refine wpAnyH_take (i := 5) (oi := ?oi5a) (v := ?v5a) ?hi5a (by kernel_rfl) (by kernel_rfl) (by kernel_rfl) ?hq5a ?hy5a (by assumption) ?rest5a
    case hi5a => (simp only [List.getElem?_toArray, List.getElem?_cons_zero, List.getElem?_cons_succ]; rfl)
    case hy5a => (refine Or.inl ⟨by rfl, ?_⟩; intro w hSw; (try dsimp only at hSw); go_simp; try with_reducible rfl)
    case hq5a => exact fun _ _ _ h => h
    try simp only [Act.put, List.setIfInBounds_toArray, List.set_cons_zero, List.set_cons_succ]
    refine wpAnyH_take (i := 6) (oi := ?oi6a) (v := ?v6a) ?hi6a (by kernel_rfl) (by kernel_rfl) (by kernel_rfl) ?hq6a ?hy6a (by assumption) ?rest6a
    case hi6a => (simp only [List.getElem?_toArray, List.getElem?_cons_zero, List.getElem?_cons_succ]; rfl)
    case hy6a => (refine Or.inl ⟨by rfl, ?_⟩; intro w hSw; (try dsimp only at hSw); go_simp; try with_reducible rfl)
    case hq6a => exact fun _ _ _ h => h
    try simp only [Act.put, List.setIfInBounds_toArray, List.set_cons_zero, List.set_cons_succ]
    refine wpAnyH_take (i := 7) (oi := ?oi7a) (v := ?v7a) ?hi7a (by kernel_rfl) (by kernel_rfl) (by kernel_rfl) ?hq7a ?hy7a (by assumption) ?rest7a
    case hi7a => (simp only [List.getElem?_toArray, List.getElem?_cons_zero, List.getElem?_cons_succ]; rfl)
    case hy7a => (refine Or.inl ⟨by rfl, ?_⟩; intro w hSw; (try dsimp only at hSw); go_simp; try with_reducible rfl)
    case hq7a => exact fun _ _ _ h => h
    try simp only [Act.put, List.setIfInBounds_toArray, List.set_cons_zero, List.set_cons_succ]
    refine wpAnyH_take (i := 8) (oi := ?oi8a) (v := ?v8a) ?hi8a (by kernel_rfl) (by kernel_rfl) (by kernel_rfl) ?hq8a ?hy8a (by assumption) ?rest8a
    case hi8a => (simp only [List.getElem?_toArray, List.getElem?_cons_zero, List.getElem?_cons_succ]; rfl)
    case hy8a => (refine Or.inl ⟨by rfl, ?_⟩; intro w hSw; (try dsimp only at hSw); go_simp; try with_reducible rfl)
    case hq8a => exact fun _ _ _ h => h
    try simp only [Act.put, List.setIfInBounds_toArray, List.set_cons_zero, List.set_cons_succ]
    refine wpAnyH_take (i := 9) (oi := ?oi9a) (v := ?v9a) ?hi9a (by kernel_rfl) (by kernel_rfl) (by kernel_rfl) ?hq9a ?hy9a (by assumption) ?rest9a
    case hi9a => (simp only [List.getElem?_toArray, List.getElem?_cons_zero, List.getElem?_cons_succ]; rfl)
    case hy9a => (refine Or.inl ⟨by rfl, ?_⟩; intro w hSw; (try dsimp only at hSw); go_simp; try with_reducible rfl)
    case hq9a => exact fun _ _ _ h => h
    try simp only [Act.put, List.setIfInBounds_toArray, List.set_cons_zero, List.set_cons_succ]
    refine wpAnyH_take (i := 10) (oi := ?oi10a) (v := ?v10a) ?hi10a (by kernel_rfl) (by kernel_rfl) (by kernel_rfl) ?hq10a ?hy10a (by assumption) ?rest10a
    case hi10a => (simp only [List.getElem?_toArray, List.getElem?_cons_zero, List.getElem?_cons_succ]; rfl)
    case hy10a => (refine Or.inl ⟨by rfl, ?_⟩; intro w hSw; (try dsimp only at hSw); go_simp; try with_reducible rfl)
    case hq10a => exact fun _ _ _ h => h
    try simp only [Act.put, List.setIfInBounds_toArray, List.set_cons_zero, List.set_cons_succ]
    refine wpAnyH_take (i := 11) (oi := ?oi11a) (v := ?v11a) ?hi11a (by kernel_rfl) (by kernel_rfl) (by kernel_rfl) ?hq11a ?hy11a (by assumption) ?rest11a
    case hi11a => (simp only [List.getElem?_toArray, List.getElem?_cons_zero, List.getElem?_cons_succ]; rfl)
    case hy11a => (refine Or.inl ⟨by rfl, ?_⟩; intro w hSw; (try dsimp only at hSw); go_simp; try with_reducible rfl)
    case hq11a => exact fun _ _ _ h => h
    try simp only [Act.put, List.setIfInBounds_toArray, List.set_cons_zero, List.set_cons_succ]
    have hnil : w.drew.ownsRow w.heap.size 5 1 (.slice none 0 0) 0 [] := ⟨by simp, .inl ⟨rfl, rfl⟩⟩
    generalize (if cap = f then A else Option.map (fun x => x.add f) A) = A20 at HSR ⊢
    refine wpAnyH_ready (rs := [1]) (by kernel_rfl) (by simp) ?_
    refine AllReadyH.cons (o := ?o1a) ?ho1a (fun K hK => ?st1a) ?mo1a
    case ho1a => (simp only [List.getElem?_toArray, List.getElem?_cons_zero, List.getElem?_cons_succ]; rfl)
    · skip
      refine step_append_any _ (by rfl) _ _ 22 (by rfl) w.heap.size 5 i0 _ 1 1 u_bytes hi0 hz0 hz1 hz2 rfl (by omega) _ 0 [] (by rfl) hnil w.heap.size Aa na ca (bvs la) (by rfl) (HA.out.dn 1) (bvs_one _) (by simp only [maxLen]; omega) (by omega) (Nat.le_refl _) ?_
      intro v1 w1 ho1 hg1 _
      have hb1 : Below w.heap.size w w1 := (below_drewN (Below.refl _ w) 1).trans (below_app hnil hg1 (Nat.le_refl _))
      rw [Nat.zero_add, List.nil_append] at ho1
      refine hK.out _ _ (HCX.out _ hb1) (fun _ => ?_)
      have HO1 := Lib.hid ho1
      have HB1 := Lib.hid hb1
      clear hK K ho1 hg1 hb1 hnil
      try simp only [Act.put, List.setIfInBounds_toArray, List.set_cons_zero, List.set_cons_succ]
      refine wpAnyH_ready (rs := [12]) (by kernel_rfl) (by simp) ?_
      refine AllReadyH.cons (o := ?o12b) ?ho12b (fun K hK => ?st12b) ?mo12b
      case ho12b => (simp only [List.getElem?_toArray, List.getElem?_cons_zero, List.getElem?_cons_succ]; rfl)
      · skip
        refine step_append_any _ (by rfl) _ _ 22 (by rfl) w.heap.size 5 i0 _ 1 1 u_bytes hi0 hz0 hz1 hz2 rfl (by omega) _ na (bvs la) (by rfl) HO1.out w.heap.size A20 (p - f) _ (bvs (part bs f (p - f))) (by rfl) (HSR.out _ HB1.out) (bvs_one _) (by simp only [maxLen]; omega) (by omega) HB1.out.size ?_
        intro v2 w2 ho2 hg2 _
        have hb2 : Below w.heap.size w w2 := HB1.out.trans (below_app HO1.out hg2 HB1.out.size)
        rw [← bvs_append] at ho2
        obtain ⟨A6, c6, rfl, _, _⟩ := own_shape ho2
        have HE := Lib.hid (And.intro ho2 hb2)
        refine hK.out _ _ (HCX.out _ hb2) (fun _ => ?_)
        clear hK K ho2 hg2 hb2
        try simp only [Act.put, List.setIfInBounds_toArray, List.set_cons_zero, List.set_cons_succ]
        refine wpAnyH_take (i := 13) (oi := ?oi13b) (v := ?v13b) ?hi13b (by kernel_rfl) (by kernel_rfl) (by kernel_rfl) ?hq13b ?hy13b (by assumption) ?rest13b
        case hi13b => (simp only [List.getElem?_toArray, List.getElem?_cons_zero, List.getElem?_cons_succ]; rfl)
        case hy13b => (refine Or.inl ⟨by rfl, ?_⟩; intro w hSw; (try dsimp only at hSw); go_simp; try with_reducible rfl)
        case hq13b => exact fun _ _ _ h => h
        try simp only [Act.put, List.setIfInBounds_toArray, List.set_cons_zero, List.set_cons_succ]
        refine wpAnyH_done (by kernel_rfl) ?_ _
        go_wp2_with fail
        go_meet
        exact ⟨_, _, rfl, Lib.hid HE.out.1, Lib.hid HE.out.2⟩
      exact AllReadyH.nil
    exact AllReadyH.nil
  obtain ⟨A6, c6, rfl, HO6, HB6⟩ := hcut
  clear HCX HSR HA g0 g1 g2
  have hlt : (la ++ part bs f (p - f)).length = na + (p - f) := by have := HO6.out.1; rw [bvs_length] at this; omega
  generalize la ++ part bs f (p - f) = t at HO6 HPP hlt
  have HSM := Lib.hid (Sum_any A6 (na + (p - f)) c6 wc.heap.size t wc (Rd.of_own HO6.out) (by omega) (HT.out.below HB6.out))
  have hcr := Crc.crc_lt t
  obtain ⟨cr, hcr0⟩ : ∃ cr, cr = Crc.crc t := ⟨_, rfl⟩
  rw [← hcr0] at HSM HPP hcr
  have hat := H.out.below HB6.out
  have c1 : wc.cell? ⟨gr, 1, none⟩ = some (.int .i64 (p : Int)) := hat.blk.cell 1
  have HNM := Lib.hid (readN_any hat hn (by simp only [maxLen]; omega) 4 (by omega))
  have HX : Hid (∀ (e : Ending) (w' : World), Chg (fun k => k = gr) w w' → (if n < p + 4 then Dam e else if numB (part bs p 4) = cr then e = .returned (.tuple #[]) ∧ ∃ A2 c2, RdAt w' gr B A n cap bs (p + 4) (.slice A2 4 c2) ∧ 4 ≤ c2 ∧ RdB w' B A2 4 (part bs p 4) else Dam e) → PP e w') := Lib.hid fun e w' h1 h2 => by
    rw [← HPP.out]
    exact ⟨h1, h2⟩
  have HC6 : Hid (Chg (fun k => k = gr) w wc) := Lib.hid (Chg.of_below HB6.out _)
  clear hat hcr0 HPP hlt HT
  by_cases h4 : n < p + 4
  · go_wp2_with (first | (go_at_call 72; refine HSM.out.mono ?_; rintro _ w4' ⟨rfl, rfl⟩) | (go_at_call 85; refine HNM.out.mono ?_; rintro e w2 ⟨hc2, hp⟩; rw [if_pos h4] at hp; obtain ⟨q, rfl⟩ := hp))
    exact ⟨rfl, HX.out _ _ (HC6.out.trans hc2) (by rw [if_pos h4]; exact ⟨_, rfl⟩)⟩
  · have hnl := numB_lt (part bs p 4)
    rw [part_length (by rw [HL.out]; omega)] at hnl
    have hwr : IntKind.i64.wrap ((numB (part bs p 4) : Nat) : Int) = ((numB (part bs p 4) : Nat) : Int) := IntWalk.i64_in _ (by omega)
    have HWR := Lib.hid hwr
    clear hwr
    by_cases he : numB (part bs p 4) = cr
    · have hb0 : ((numB (part bs p 4) : Int) != (cr : Int)) = false := by simp [he]
      have HE := Lib.hid he
      clear he
      generalize hnb : numB (part bs p 4) = x at HWR HE hb0 hnl
      have HNB := Lib.hid hnb
      clear hnb
      go_wp2_with (first | (go_at_call 72; refine HSM.out.mono ?_; rintro _ w4' ⟨rfl, rfl⟩) | (go_at_call 85; refine HNM.out.mono ?_; rintro e w2 ⟨hc2, hp⟩; rw [if_neg h4, HNB.out, HWR.out] at hp; obtain ⟨rfl, hat⟩ := hp))
      obtain ⟨q, hq⟩ : ∃ q, q = p + 4 := ⟨_, rfl⟩
      rw [← hq] at hat
      have hk0 : w2.cell? ⟨gr, 0, none⟩ = some (.slice A n cap) := hat.blk.cell 0
      have hk1 : w2.cell? ⟨gr, 1, none⟩ = some (.int .i64 (q : Int)) := hat.blk.cell 1
      have hk2 : w2.cell? ⟨gr, 2, none⟩ = some S := hat.blk.cell 2
      have hf2 := hat.blk.frozen 2
      have hqn := hat.le
      have g0 : (0 : Int) ≤ (p : Int) := by omega
      have g1 : (p : Int) ≤ (q : Int) := by omega
      have g2 : (q : Int) ≤ (cap : Int) := by omega
      have hne : ¬ cap = p := by omega
      have hsz : q - p = 4 := by omega
      have hrd : RdB w2 B (Option.map (fun x => x.add p) A) 4 (part bs p 4) := Rd.sliceB hat.rd (by omega)
      have HRD := Lib.hid hrd
      have HAT := Lib.hid hat
      have HQ := Lib.hid hq
      have HC2 := Lib.hid (HC6.out.trans hc2)
      clear hrd hat hq hc2 c1
      refine region_tail 13 (by kernel_rfl) (by kernel_rfl) ?_
      simp only [List.take_succ_cons, List.take_zero, List.drop_succ_cons, List.drop_zero]
      repeat still_step
      refine wpStill_nil ?_
      go_wp2
      go_end0
      refine HX.out _ _ (((HC2.out).setCell (p := ⟨gr, 2, none⟩) (.inl rfl) _).drew) ?_
      rw [if_neg h4, HNB.out, if_pos HE.out]
      have hcs := ((Chg.refl (fun k => k = gr) w2).setCell (p := ⟨gr, 2, none⟩) (.inl rfl) (.slice (Option.map (fun x => x.add p) A) 4 (cap - p))).drew
      have hl2 := HAT.out.blk.lt
      rw [← HQ.out]
      exact ⟨rfl, Option.map (fun x => x.add p) A, cap - p, ⟨(HAT.out.blk.set_ 2 _).drew, rdB_chg HAT.out.rd hcs HAT.out.lo hl2, HAT.out.lo, HAT.out.le⟩, by omega, rdB_chg HRD.out hcs HAT.out.lo hl2⟩
    · have hb0 : ((numB (part bs p 4) : Int) != (cr : Int)) = true := by simp; omega
      have HE : Hid (numB (part bs p 4) ≠ cr) := Lib.hid he
      clear he
      generalize hnb : numB (part bs p 4) = x at HWR HE hb0 hnl
      have HNB := Lib.hid hnb
      clear hnb
      go_wp2_with (first | (go_at_call 72; refine HSM.out.mono ?_; rintro _ w4' ⟨rfl, rfl⟩) | (go_at_call 85; refine HNM.out.mono ?_; rintro e w2 ⟨hc2, hp⟩; rw [if_neg h4, HNB.out, HWR.out] at hp; obtain ⟨rfl, hat⟩ := hp))
      exact ⟨rfl, HX.out _ _ (HC6.out.trans hc2) (by rw [if_neg h4, HNB.out, if_neg HE.out]; exact ⟨_, rfl⟩)⟩
end Go.Proofs.YtpkdalpjfcopbaaDoor
