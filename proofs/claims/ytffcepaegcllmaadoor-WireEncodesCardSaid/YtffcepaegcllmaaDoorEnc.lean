/-
  The writer: counts, lists of bytes, data; and the reference's, which append alike.
-/
import Derived.Test.YtffcepaegcllmaaDoorPut
import Derived.Test.YtffcepaegcllmaaDoorValid
namespace Go.Proofs.YtffcepaegcllmaaDoor
open Go.RowKit

def pack (is : List Int) : List UInt8 := is.flatMap fun i => putB i.toNat
theorem pack_le (is : List Int) : (pack is).length ≤ 9 * is.length := by
  induction is with
  | nil => simp [pack]
  | cons i is ih =>
    have := putB_length i.toNat
    simp only [pack, List.flatMap_cons, List.length_append, List.length_cons] at *
    omega
theorem pack_snoc {is : List Int} {k : Nat} {c : Int} (h : is[k]? = some c) : pack (is.take (k + 1)) = pack (is.take k) ++ putB c.toNat := by
  obtain ⟨hk, e⟩ := List.getElem?_eq_some_iff.1 h
  rw [List.take_succ_eq_append_getElem hk, e]
  simp [pack, List.flatMap_append]
theorem pack_append (a b : List Int) : pack (a ++ b) = pack a ++ pack b := by simp [pack, List.flatMap_append]
abbrev wrTs : List TypeId := [5, 85]

set_option maxRecDepth 100000 in
set_option maxHeartbeats 800000 in
theorem counts_any (base gw : Nat) (bv : Value) (n : Nat) (xs : List Value) (A : Option Addr) (m cap B : Nat) (is : List Int) (w : World) (hW : Blk w gw 85 #[bv]) (hgb : base ≤ gw) (hown : w.ownsRow base 5 1 bv n xs) (hb0 : base ≤ w.heap.size)
    (hr : ∀ w1, ChT wrTs base w w1 → RdI w1 B A m is) (hn : n + 9 * m + 9 ≤ 140737488355328) (his : ∀ x ∈ is, 0 ≤ x ∧ x ≤ 4611686018427387904) :
    Calls Tryd.prog 39 #[.pointer (some ⟨gw, 0, none⟩), .slice A m cap] w fun e w' => e = .returned (.tuple #[]) ∧ ∃ bv', Blk w' gw 85 #[bv'] ∧ w'.ownsRow base 5 1 bv' (n + (pack is).length) (xs ++ bvs (pack is)) ∧ ChT wrTs base w w' := by
  have HR := Lib.hid hr
  clear hr
  have hli : is.length = m := (HR.out w (ChT.refl _ _ _)).lenI
  have HLI := Lib.hid hli
  clear hli
  go_enter Tryd.func39, Tryd.ntmps39
  go_wp2_with fail
  go_loopw [8] (fun i wr => ∃ (k : Nat) (bv' : Value) (d : List UInt8), k ≤ m ∧ i = .int .i64 k ∧ Hid (d = pack (is.take k)) ∧ d.length ≤ 9 * k ∧ Blk wr gw 85 #[bv'] ∧ wr.ownsRow base 5 1 bv' (n + d.length) (xs ++ bvs d) ∧ ChT wrTs base w wr) (fun i _ => m - (intOf i).toNat)
  case atStart => exact ⟨0, bv, [], by omega, rfl, by simp [Hid, pack], by simp, hW, by simpa [bvs] using hown, ChT.refl _ _ _⟩
  case round =>
    clear hown hW
    obtain ⟨k, bv', d, hk, rfl, HD, hd, hW, hown, hc⟩ := hrel
    obtain ⟨Ab, capb, rfl, hcb, _⟩ := own_shape hown
    have hsz := ChT.size hc
    by_cases hlt : k < m
    · obtain ⟨b, off, c, rfl, hb, hck, hcell⟩ := (HR.out wr hc).int hlt
      have hci := his c (List.mem_of_getElem? hck)
      have HS := Lib.hid (pack_snoc hck)
      obtain ⟨h0, h1⟩ := hci
      clear hck
      obtain ⟨y, rfl⟩ := Int.eq_ofNat_of_zero_le h0
      have c0 : wr.cell? ⟨gw, 0, none⟩ = some (.slice Ab (n + d.length) capb) := by rw [hW.cell]; rfl
      have hltI : (k : Int) < (m : Int) := by omega
      have hk0 : (0 : Int) ≤ (k : Int) := by omega
      go_wp2_with fail
      refine (put_cht base _ (n + d.length) (xs ++ bvs d) y wr hown (by omega) (by omega) (by omega)).mono ?_
      rintro _ w2 ⟨v2, rfl, hown2, hc2⟩
      obtain ⟨A2, cap2, rfl, hcb2, _⟩ := own_shape hown2
      have hW2 := hW.cht hc2 (.inl (by decide))
      have c2 : w2.cell? ⟨gw, 0, none⟩ = some (.slice Ab (n + d.length) capb) := by rw [hW2.cell]; rfl
      have f2 := hW2.frozen 0
      have hlen := (putB_length y).2
      go_wp2_with fail
      go_roundw
      case rel =>
        have hc3 := ChT.set (i := 0) (u := .slice A2 (n + d.length + (putB y).length) cap2) (hc.trans (hc2.mono (by simp) (Nat.le_refl _))) hW2 (by simp) hgb
        refine ⟨k + 1, _, d ++ putB y, by omega, by go_num, ?_, by rw [List.length_append]; omega, hW2.set_ 0 _, ?_, hc3⟩
        · show _ = _
          rw [HS.out, HD.out]; rfl
        · rw [List.length_append, ← Nat.add_assoc, bvs_append, ← List.append_assoc]
          exact own_cht hown2 (ChT.set (ts := [85]) (base := 0) (ChT.refl _ _ _) hW2 (by simp) (Nat.zero_le _) 0 _) (.inl (by decide))
      case measure => simp [intOf]; omega
    · obtain rfl : m = k := by omega
      go_wp2
      go_end0
      rw [← HLI.out, List.take_length] at HD
      rw [← HD.out]
      exact ⟨rfl, _, hW, hown, hc⟩

/-- A list of bytes behind its length. -/
def packB (bs : List UInt8) : List UInt8 := putB bs.length ++ bs
set_option maxRecDepth 100000 in
set_option maxHeartbeats 800000 in
theorem text_any (base gw : Nat) (bv : Value) (n : Nat) (xs : List Value) (A : Option Addr) (m cap B : Nat) (bs : List UInt8) (w : World) (hW : Blk w gw 85 #[bv]) (hgb : base ≤ gw) (hown : w.ownsRow base 5 1 bv n xs) (hb0 : base ≤ w.heap.size)
    (hr : ∀ w1, ChT wrTs base w w1 → RdB w1 B A m bs) (hn : n + m + 100 ≤ 140737488355328) :
    Calls Tryd.prog 99 #[.pointer (some ⟨gw, 0, none⟩), .slice A m cap] w fun e w' => e = .returned (.tuple #[]) ∧ ∃ bv', Blk w' gw 85 #[bv'] ∧ w'.ownsRow base 5 1 bv' (n + (packB bs).length) (xs ++ bvs (packB bs)) ∧ ChT wrTs base w w' := by
  obtain ⟨i0, hi0, hz0, hz1, hz2⟩ := info_parts info_u8
  have HR := Lib.hid hr
  clear hr
  have hli : bs.length = m := (HR.out w (ChT.refl _ _ _)).lenB
  have HLI := Lib.hid hli
  clear hli
  obtain ⟨Ab, capb, rfl, hcb, _⟩ := own_shape hown
  have hlm := (putB_length m).2
  go_enter Tryd.func99, Tryd.ntmps99
  go_wp2_with fail
  have hal : Below w.heap.size w (w.alloc (.cells #[.int .i64 (m : Int)] 3)) := one_box _ _
  have hN := Blk.new w 3 #[.int .i64 (m : Int)]
  refine (counts_any base gw _ n xs _ 1 1 (w.heap.size + 1) [(m : Int)] _ (hW.over hal) hgb (own_over hown hal) (by simp; omega) (fun w1 hc => ?_) (by omega) (by simp; omega)).mono ?_
  · have h := hN.cht hc (.inl (by decide))
    refine ⟨rfl, fun _ => ⟨w.heap.size, 0, rfl, by omega, fun j u hu => ?_⟩⟩
    rw [Nat.zero_add, h.cell]
    match j, hu with
    | 0, hu => simpa [ivs] using hu
    | j + 1, hu => simp [ivs] at hu
  rintro _ w2 ⟨rfl, bv2, hW2, hown2, hc2⟩
  have e1 : pack [(m : Int)] = putB m := by simp [pack]
  rw [e1] at hown2
  clear e1
  obtain ⟨A2, cap2, rfl, hcb2, _⟩ := own_shape hown2
  have hc02 : ChT wrTs base w w2 := (ChT.of_below hal).trans hc2
  have hrd := HR.out w2 hc02
  have c2 : w2.cell? ⟨gw, 0, none⟩ = some (.slice A2 (n + (putB m).length) cap2) := by rw [hW2.cell]; rfl
  have hs2 := ChT.size hc02
  go_wp2_with (
     at_builtin
     refine wpList_append_any _ (by rfl) _ _ 36 (by rfl) base 5 i0 _ 1 1 u_bytes hi0 hz0 hz1 hz2 rfl (by omega) _ _ _ (by rfl) hown2 B A m cap (bvs bs) (by rfl) hrd (bvs_one bs) (by simp only [maxLen]; omega) (by omega) (by omega) ?_
     intro v3 w3 hown3 hg3 hat3
     have hc3 : ChT [5] base w2 w3 := ChT.app hown2 hg3 (by simp)
     obtain ⟨A3, cap3, rfl, hcb3, _⟩ := own_shape hown3
     have hW3 := hW2.cht hc3 (.inl (by decide))
     have c3 : w3.cell? ⟨gw, 0, none⟩ = some (.slice A2 (n + (putB m).length) cap2) := by rw [hW3.cell]; rfl
     have f3 := hW3.frozen 0)
  go_end0
  refine ⟨rfl, _, hW3.set_ 0 _, ?_, ChT.set (hc02.trans (hc3.mono (by simp) (Nat.le_refl _))) hW3 (by simp) hgb 0 _⟩
  unfold packB
  rw [HLI.out, List.length_append, HLI.out, ← Nat.add_assoc, bvs_append, ← List.append_assoc]
  exact own_cht hown3 (ChT.set (ts := [85]) (base := 0) (ChT.refl _ _ _) hW3 (by simp) (Nat.zero_le _) 0 _) (.inl (by decide))

def packD (s q t : Int) (bs : List UInt8) : List UInt8 := pack [s, q, t] ++ packB bs
theorem packB_le (bs : List UInt8) : (packB bs).length ≤ bs.length + 9 := by
  have := (putB_length bs.length).2
  unfold packB
  rw [List.length_append]
  omega
theorem built_rd {w w1 : World} {is : List Int} {cs : Array Value} {m base : Nat} (hc : ChT wrTs base (w.alloc (.cells cs 3)) w1) (hcs : cs.toList = ivs is) (hl : is.length = m) {g : Nat} (hg : w.heap.size = g) : RdI w1 (g + 1) (some ⟨g, 0, none⟩) m is := by
  subst hg
  have h := (Blk.new w 3 cs).cht hc (.inl (by decide))
  refine ⟨by rw [ivs_length, hl]; omega, fun _ => ⟨w.heap.size, 0, rfl, by omega, fun j u hu => ?_⟩⟩
  rw [Nat.zero_add, h.cell, ← Array.getElem?_toList, hcs]
  exact hu

set_option maxRecDepth 100000 in
set_option maxHeartbeats 800000 in
theorem data_any (base gw : Nat) (bv : Value) (n : Nat) (xs : List Value) (s q t : Int) (A : Option Addr) (m cap B : Nat) (bs : List UInt8) (w : World) (hW : Blk w gw 85 #[bv]) (hgb : base ≤ gw) (hown : w.ownsRow base 5 1 bv n xs) (hb0 : base ≤ w.heap.size)
    (hr : ∀ w1, ChT wrTs base w w1 → RdB w1 B A m bs) (hn : n + m + 200 ≤ 140737488355328) (hs : 0 ≤ s ∧ s ≤ 4611686018427387904) (hq : 0 ≤ q ∧ q ≤ 4611686018427387904) (ht : 0 ≤ t ∧ t ≤ 4611686018427387904) :
    Calls Tryd.prog 100 #[.pointer (some ⟨gw, 0, none⟩), .agg #[.int .i64 s, .int .i64 q, .int .i64 t, .slice A m cap]] w fun e w' => e = .returned (.tuple #[]) ∧ ∃ bv', Blk w' gw 85 #[bv'] ∧ w'.ownsRow base 5 1 bv' (n + (packD s q t bs).length) (xs ++ bvs (packD s q t bs)) ∧ ChT wrTs base w w' := by
  have HR := Lib.hid hr
  clear hr
  obtain ⟨wb, hwb⟩ : ∃ wb, wb = w.alloc (.cells #[.int .i64 s, .int .i64 q, .int .i64 t, .slice A m cap] 82) := ⟨_, rfl⟩
  have hbx : Below w.heap.size w wb := by rw [hwb]; exact one_box _ _
  have hD : Blk wb w.heap.size 82 #[.int .i64 s, .int .i64 q, .int .i64 t, .slice A m cap] := by rw [hwb]; exact Blk.new _ _ _
  have d0 : wb.cell? ⟨w.heap.size, 0, none⟩ = some (.int .i64 s) := by rw [hD.cell]; rfl
  have d1 : wb.cell? ⟨w.heap.size, 1, none⟩ = some (.int .i64 q) := by rw [hD.cell]; rfl
  have d2 : wb.cell? ⟨w.heap.size, 2, none⟩ = some (.int .i64 t) := by rw [hD.cell]; rfl
  go_enter Tryd.func100, Tryd.ntmps100
  go_wp2_with fail
  have hz : wb.heap.size = w.heap.size + 1 := by rw [hwb]; simp
  have HZ := Lib.hid hz
  clear hz
  rw [← hwb]
  have HWB := Lib.hid hwb
  clear hwb
  have hal : Below wb.heap.size wb (wb.alloc (.cells #[.int .i64 s, .int .i64 q, .int .i64 t] 3)) := one_box _ _
  have hbs := hbx.size
  refine (counts_any base gw _ n xs _ 3 3 (w.heap.size + 1 + 1) [s, q, t] (wb.alloc (.cells #[.int .i64 s, .int .i64 q, .int .i64 t] 3)) ((hW.over hbx).over hal) hgb (own_over (own_over hown hbx) hal) (by simp; omega) (fun w1 hc => built_rd (is := [s, q, t]) hc rfl rfl HZ.out) (by omega) (by simp; omega)).mono ?_
  rintro _ w2 ⟨rfl, bv2, hW2, hown2, hc2⟩
  have hc02 : ChT wrTs base w w2 := ((ChT.of_below hbx).trans (ChT.of_below hal)).trans hc2
  have hD2 := (hD.over hal).cht hc2 (.inl (by decide))
  have e3 : w2.cell? ⟨w.heap.size, 3, none⟩ = some (.slice A m cap) := by rw [hD2.cell]; rfl
  have hp := pack_le [s, q, t]
  have hs2 := ChT.size hc02
  clear d0 d1 d2 hD hW hown
  go_wp2_with fail
  refine (text_any base gw _ _ _ A m cap B bs w2 hW2 hgb hown2 (by omega) (fun w1 hc => HR.out w1 (hc02.trans hc)) (by simp only [List.length_cons, List.length_nil] at hp; omega)).mono ?_
  rintro _ w3 ⟨rfl, bv3, hW3, hown3, hc3⟩
  go_wp2
  go_end0
  refine ⟨rfl, bv3, hW3, ?_, hc02.trans hc3⟩
  unfold packD
  rw [List.length_append, ← Nat.add_assoc, bvs_append, ← List.append_assoc]
  exact hown3

/-! The reference's. -/
set_option maxRecDepth 100000 in
set_option maxHeartbeats 800000 in
theorem PutBytes_any (base : Nat) (bv : Value) (n : Nat) (xs : List Value) (A : Option Addr) (m cap B : Nat) (bs : List UInt8) (w : World) (hown : w.ownsRow base 5 1 bv n xs) (hb0 : base ≤ w.heap.size)
    (hr : ∀ w1, ChT [5] base w w1 → RdB w1 B A m bs) (hn : n + m + 100 ≤ 140737488355328) :
    Calls Tryd.prog 84 #[bv, .slice A m cap] w fun e w' => ∃ bv', e = .returned bv' ∧ w'.ownsRow base 5 1 bv' (n + (packB bs).length) (xs ++ bvs (packB bs)) ∧ ChT [5] base w w' := by
  obtain ⟨i0, hi0, hz0, hz1, hz2⟩ := info_parts info_u8
  have HR := Lib.hid hr
  clear hr
  have hli : bs.length = m := (HR.out w (ChT.refl _ _ _)).lenB
  have HLI := Lib.hid hli
  clear hli
  have hlm := (putB_length m).2
  go_enter Tryd.func84, Tryd.ntmps84
  go_wp2_with fail
  refine (Rput_cht base _ n xs m w hown hb0 (by omega) (by omega)).mono ?_
  rintro _ w2 ⟨v2, rfl, hown2, hc2⟩
  generalize hN : n + (putB m).length = N at hown2
  have hN' : N ≤ n + 9 := by omega
  have HN := Lib.hid hN
  clear hN
  go_wp2_with fail
  go_loopw [0, 5] (fun u i wr => ∃ (k : Nat), k ≤ m ∧ i = .int .i64 k ∧ wr.ownsRow base 5 1 u (N + k) (xs ++ bvs (putB m) ++ bvs (bs.take k)) ∧ ChT [5] base w wr) (fun _ i _ => m - (intOf i).toNat)
  case atStart => exact ⟨0, by omega, rfl, by simpa [bvs] using hown2, hc2⟩
  case round =>
    clear hown hown2 hc2
    obtain ⟨k, hk, rfl, hown, hc⟩ := hrel
    have hsz := ChT.size hc
    by_cases hlt : k < m
    · obtain ⟨b, off, c, rfl, hb, hck, hcell⟩ := (HR.out wr hc).byte hlt
      have hs : bvs (bs.take (k + 1)) = bvs (bs.take k) ++ [.int .u8 (c.toNat : Int)] := by
        obtain ⟨hk', e⟩ := List.getElem?_eq_some_iff.1 hck
        rw [List.take_succ_eq_append_getElem hk', e, bvs_append, bvs_sing]
      have HS := Lib.hid hs
      clear hck hs
      have hltI : (k : Int) < (m : Int) := by omega
      go_wp2_with (
         at_builtin
         refine app1 wr (by rfl) _ _ 36 (by rfl) base 5 i0 _ 1 u_bytes hi0 hz0 hz1 hz2 rfl _ _ _ (by rfl) hown _ (by rfl) (by rfl) (by simp only [maxLen]; omega) (by omega) (by omega) ?_
         intro v3 w3 hown3 _ hg3)
      go_roundw
      case rel =>
        refine ⟨k + 1, by omega, by go_num, ?_, ChT.trans hc (ChT.app hown hg3 (by simp))⟩
        rw [HS.out, ← List.append_assoc]
        exact hown3
      case measure => simp [intOf]; omega
    · obtain rfl : m = k := by omega
      go_wp2
      go_ret
      refine ⟨_, rfl, ?_, hc⟩
      unfold packB
      rw [HLI.out, List.length_append, HLI.out, ← Nat.add_assoc, HN.out, bvs_append, ← List.append_assoc]
      rw [← HLI.out, List.take_length] at hown
      rw [← HLI.out]
      exact hown

set_option maxRecDepth 100000 in
set_option maxHeartbeats 800000 in
theorem putData_any (base : Nat) (bv : Value) (n : Nat) (xs : List Value) (s q t : Nat) (A : Option Addr) (m cap B : Nat) (bs : List UInt8) (w : World) (hown : w.ownsRow base 5 1 bv n xs) (hb0 : base ≤ w.heap.size)
    (hr : ∀ w1, ChT [5] base w w1 → RdB w1 B A m bs) (hn : n + m + 200 ≤ 140737488355328) (hs : s ≤ 4611686018427387904) (hq : q ≤ 4611686018427387904) (ht : t ≤ 4611686018427387904) :
    Calls Tryd.prog 85 #[bv, .agg #[.int .i64 s, .int .i64 q, .int .i64 t, .slice A m cap]] w fun e w' => ∃ bv', e = .returned bv' ∧ w'.ownsRow base 5 1 bv' (n + (packD s q t bs).length) (xs ++ bvs (packD s q t bs)) ∧ ChT [5] base w w' := by
  have HR := Lib.hid hr
  clear hr
  obtain ⟨wb, hwb⟩ : ∃ wb, wb = w.alloc (.cells #[.int .i64 s, .int .i64 q, .int .i64 t, .slice A m cap] 82) := ⟨_, rfl⟩
  have hbx : Below w.heap.size w wb := by rw [hwb]; exact one_box _ _
  have hD : Blk wb w.heap.size 82 #[.int .i64 s, .int .i64 q, .int .i64 t, .slice A m cap] := by rw [hwb]; exact Blk.new _ _ _
  have d0 : wb.cell? ⟨w.heap.size, 0, none⟩ = some (.int .i64 s) := by rw [hD.cell]; rfl
  have hbs := hbx.size
  have l1 := (putB_length s).2
  have l2 := (putB_length q).2
  have l3 := (putB_length t).2
  go_enter Tryd.func85, Tryd.ntmps85
  go_wp2_with fail
  rw [← hwb]
  have HWB := Lib.hid hwb
  clear hwb
  refine (Rput_cht base _ n xs s wb (own_over hown hbx) (by omega) (by omega) (by omega)).mono ?_
  rintro _ w2 ⟨v2, rfl, hown2, hc2⟩
  have hD2 := hD.cht hc2 (.inl (by decide))
  have d1 : w2.cell? ⟨w.heap.size, 1, none⟩ = some (.int .i64 q) := by rw [hD2.cell]; rfl
  have hs2 := ChT.size hc2
  clear d0
  go_wp2_with fail
  refine (Rput_cht base _ _ _ q w2 hown2 (by omega) (by omega) (by omega)).mono ?_
  rintro _ w3 ⟨v3, rfl, hown3, hc3⟩
  have hD3 := hD2.cht hc3 (.inl (by decide))
  have d2 : w3.cell? ⟨w.heap.size, 2, none⟩ = some (.int .i64 t) := by rw [hD3.cell]; rfl
  have hs3 := ChT.size hc3
  clear d1
  go_wp2_with fail
  refine (Rput_cht base _ _ _ t w3 hown3 (by omega) (by omega) (by omega)).mono ?_
  rintro _ w4 ⟨v4, rfl, hown4, hc4⟩
  have hD4 := hD3.cht hc4 (.inl (by decide))
  have d3 : w4.cell? ⟨w.heap.size, 3, none⟩ = some (.slice A m cap) := by rw [hD4.cell]; rfl
  have hs4 := ChT.size hc4
  have hc04 : ChT [5] base w w4 := (((ChT.of_below hbx).trans hc2).trans hc3).trans hc4
  clear d2
  go_wp2_with fail
  refine (PutBytes_any base _ _ _ A m cap B bs w4 hown4 (by omega) (fun w1 hc => HR.out w1 (hc04.trans hc)) (by omega)).mono ?_
  rintro _ w5 ⟨v5, rfl, hown5, hc5⟩
  go_wp2
  go_ret
  refine ⟨_, rfl, ?_, hc04.trans hc5⟩
  have e : packD (s : Int) (q : Int) (t : Int) bs = putB s ++ putB q ++ putB t ++ packB bs := by simp [packD, pack]
  rw [e]
  simp only [List.length_append, bvs_append, ← List.append_assoc, ← Nat.add_assoc]
  exact hown5
end Go.Proofs.YtffcepaegcllmaaDoor
