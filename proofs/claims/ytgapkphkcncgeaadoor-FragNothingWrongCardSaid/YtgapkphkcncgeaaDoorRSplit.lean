/-
  The reference's chunk and Split.
-/
import Derived.Test.YtgapkphkcncgeaaDoorNumber
import Derived.Test.YtgapkphkcncgeaaDoorSplit
namespace Go.Proofs.YtgapkphkcncgeaaDoor
open Go.RowKit

/-- A row of slices: each is its own row of bytes; each reads as bytes. -/
def LO (w : World) (base : Nat) (vs : List Value) (cs : List (List UInt8)) : Prop := vs.length = cs.length ∧ ∀ (i : Nat) (v : Value) (c : List UInt8), vs[i]? = some v → cs[i]? = some c → w.ownsRow base 5 1 v c.length (bvs c)
def LL (w : World) (B : Nat) (vs : List Value) (cs : List (List UInt8)) : Prop := vs.length = cs.length ∧ ∀ (i : Nat) (v : Value) (c : List UInt8), vs[i]? = some v → cs[i]? = some c → ∃ A cap, v = .slice A c.length cap ∧ c.length ≤ cap ∧ cap ≤ maxLen ∧ RdB w B A c.length c
section
variable {w w' : World} {base B : Nat} {vs : List Value} {cs : List (List UInt8)}
theorem LO.ll (h : LO w base vs cs) : LL w w.heap.size vs cs := ⟨h.1, fun i v c hv hc => by
  have ho := h.2 i v c hv hc
  obtain ⟨A, cap, rfl, h1, h2⟩ := own_shape ho
  exact ⟨A, cap, rfl, h1, h2, Rd.of_own ho⟩⟩
theorem LO.over (h : LO w base vs cs) (hb : Below w.heap.size w w') : LO w' base vs cs := ⟨h.1, fun i v c hv hc => own_over (h.2 i v c hv hc) hb⟩
theorem LL.over (h : LL w w.heap.size vs cs) (hb : Below w.heap.size w w') : LL w' w'.heap.size vs cs := ⟨h.1, fun i v c hv hc => by
  obtain ⟨A, cap, e, h1, h2, h3⟩ := h.2 i v c hv hc
  exact ⟨A, cap, e, h1, h2, h3.over hb⟩⟩
theorem LO.chg {S : Nat → Prop} (h : LO w base vs cs) (hc : Chg S w w') (hS : ∀ g, IsT w 5 g → ¬ S g) : LO w' base vs cs := ⟨h.1, fun i v c hv hc' => own_chg (h.2 i v c hv hc') hc fun g hg => hS g (own_isT (h.2 i v c hv hc') hg)⟩
theorem LO.snoc {v : Value} {c : List UInt8} (h : LO w base vs cs) (ho : w.ownsRow base 5 1 v c.length (bvs c)) : LO w base (vs ++ [v]) (cs ++ [c]) := by
  refine ⟨by simp [h.1], fun i x y hx hy => ?_⟩
  rw [List.getElem?_append] at hx hy
  rw [h.1] at hx
  split at hx
  · rename_i hlt
    rw [if_pos hlt] at hy
    exact h.2 i x y hx hy
  · rename_i hlt
    rw [if_neg hlt] at hy
    rcases Nat.eq_zero_or_pos (i - cs.length) with h0 | h0
    · rw [h0] at hx hy
      simp only [List.getElem?_cons_zero, Option.some.injEq] at hx hy
      subst hx hy
      exact ho
    · rw [List.getElem?_eq_none (by simp; omega)] at hx
      cases hx
/-- The program's chunks, as lists that read. -/
theorem LL.split {T n C : Nat} {cur : Array Value} {bs : List UInt8} (hT : Blk w T 5 cur) (hc : cur.toList = bvs (splitS bs C).flatten) (hn : bs.length = n) (hn' : n ≤ 4000) (hC : ∀ j, j < C → 248 * j ≤ n) (hC2 : ∀ j, j + 1 < C → 248 * (j + 1) ≤ n) : LL w w.heap.size ((List.range C).map (chunkV T n)) (splitS bs C) := by
  refine ⟨by simp [splitS], fun i v c hv hc' => ?_⟩
  simp only [List.getElem?_map, splitS, Option.map_eq_some_iff] at hv hc'
  obtain ⟨k, hk, rfl⟩ := hv
  obtain ⟨k', hk', rfl⟩ := hc'
  obtain rfl : k = k' := by rw [hk] at hk'; exact Option.some.inj hk'
  obtain ⟨hlt, hki⟩ := List.getElem?_eq_some_iff.1 hk
  rw [List.length_range] at hlt
  rw [List.getElem_range] at hki
  subst hki
  have hlen : (chunkS bs i).length = 8 + min 248 (n - 248 * i) := by rw [chunkS_length, hn]
  refine ⟨some ⟨T, 256 * i, none⟩, _, by unfold chunkV; rw [← hlen], Nat.le_refl _, by rw [hlen]; simp only [maxLen]; omega, ⟨by rw [bvs_length]; omega, fun _ => ⟨T, 256 * i, rfl, hT.lt, fun j u hu => ?_⟩⟩⟩
  have hsp : splitS bs C = splitS bs i ++ chunkS bs i :: ((List.range' (i + 1) (C - (i + 1))).map (chunkS bs)) := by
    unfold splitS
    rw [show C = i + (C - i) by omega, List.range_add]
    rw [List.map_append, show C - i = (C - (i + 1)) + 1 by omega, List.range_succ_eq_map]
    simp only [List.map_cons, List.map_map, Nat.add_zero]
    congr 2
    rw [show i + (C - (i + 1) + 1) - (i + 1) = C - (i + 1) by omega, List.range'_eq_map_range, List.map_map]
    apply List.map_congr_left
    intro x _
    simp only [Function.comp]
    congr 1
    omega
  have hoff : (splitS bs i).flatten.length = 256 * i := by
    rw [splitS_len bs i (fun j hj => by rw [hn]; exact hC j (by omega)), hn]
    rcases Nat.eq_zero_or_pos i with h0 | h0
    · subst h0; simp
    · have := hC2 (i - 1) (by omega)
      rw [show i - 1 + 1 = i by omega] at this
      omega
  rw [hT.cell, ← Array.getElem?_toList, hc, hsp, List.flatten_append, List.flatten_cons, bvs_append, bvs_append, List.getElem?_append_right (by rw [bvs_length, hoff]; omega), bvs_length, hoff, Nat.add_sub_cancel_left, List.getElem?_append_left (List.getElem?_eq_some_iff.1 hu).1]
  exact hu
end
theorem hdr_be (n m s : Nat) : beN n 2 ++ beN m 2 ++ beN s 4 = hdr n m s := by
  simp [beN, hdr, List.range_succ]

set_option maxRecDepth 100000 in
set_option maxHeartbeats 1600000 in
theorem chunk_any (A : Option Addr) (n cap : Nat) (bs : List UInt8) (m k : Nat) (hm : m = 248 * k) (w : World) (hr : RdB w w.heap.size A n bs) (hn : n ≤ 4000) (hk : m ≤ n) :
    Calls Tryd.prog 30 #[.slice A n cap, .int .i64 (m : Int)] w fun e w' => ∃ u, e = .returned u ∧ w'.ownsRow w.heap.size 5 1 u (chunkS bs k).length (bvs (chunkS bs k)) ∧ Below w.heap.size w w' := by
  obtain ⟨i0, hi0, hz0, hz1, hz2⟩ := info_parts info_u8
  have hl := hr.lenB
  have HL := Lib.hid hl
  have HM := Lib.hid hm
  clear hl hm
  have hs := Crc.crc_lt bs
  generalize hS : Crc.crc bs = s at hs
  have HS := Lib.hid hS
  clear hS
  go_enter Tryd.func30, Tryd.ntmps30
  go_wp2_with fail
  refine (RSum_any _ _ _ _ bs w hr (by omega)).mono ?_
  rintro _ _ ⟨he, rfl⟩
  rw [HS.out] at he
  subst he
  go_wp2_with fail
  refine (number_any n 2 w (by omega) (by omega) (by omega)).mono ?_
  rintro _ w1 ⟨u1, rfl, ho1, hb1⟩
  obtain ⟨A1, cap1, rfl, _, _⟩ := own_shape ho1
  have HB1 : Hid (∀ g, (Value.slice A1 2 cap1).ownBlock = some g → g < w1.heap.size) := fun g hg => (own_block_lt ho1 hg).1
  have hs1 := hb1.size
  go_wp2_with fail
  refine (number_any m 2 w1 (by omega) (by omega) (by omega)).mono ?_
  rintro _ w2 ⟨u2, rfl, ho2, hb2⟩
  obtain ⟨A2, cap2, rfl, _, _⟩ := own_shape ho2
  have hs2 := hb2.size
  replace ho1 := own_over ho1 hb2
  go_wp2_with fail
  refine (number_any s 4 w2 (by omega) (by omega) (by omega)).mono ?_
  rintro _ w3 ⟨u3, rfl, ho3, hb3⟩
  obtain ⟨A3, cap3, rfl, _, _⟩ := own_shape ho3
  have hs3 := hb3.size
  replace ho1 := own_over ho1 hb3
  replace ho2 := own_over ho2 hb3
  have hb03 := Below.then (Below.then hb1 hb2) hb3
  have HN3 : Hid (∀ g, (Value.slice A3 4 cap3).ownBlock = some g → w2.heap.size ≤ g) := fun g hg => (own_block_lt ho3 hg).2.1
  go_wp2_with (first
    | (at_builtin
       refine wpList_append_any _ (by rfl) (.tmp 19) (.tmp 20) 22 (by rfl) w.heap.size 5 i0 _ 1 1 u_bytes hi0 hz0 hz1 hz2 rfl (by omega) _ 2 _ (by rfl) ho1 w3.heap.size A2 2 cap2 _ (by rfl) (Rd.of_own ho2) (bvs_one _) (by simp [maxLen]) (by omega) (by omega) ?_
       intro v4 w4 ho4 hg4 hat4
       have hb4 : Below w.heap.size w3 w4 := below_app ho1 hg4 (by omega)
       have ho3 := own_chg ho3 (Chg.of_grown hg4) (fun g hg h => by have h1 := HB1.out g h.symm; have h2 := HN3.out g hg; omega)
       obtain ⟨A4, cap4, rfl, _, _⟩ := own_shape ho4
       have hs4 := hb4.size)
    | (at_builtin
       refine wpList_append_any _ (by rfl) (.tmp 22) (.tmp 23) 22 (by rfl) w.heap.size 5 i0 _ 1 1 u_bytes hi0 hz0 hz1 hz2 rfl (by omega) _ _ _ (by rfl) ho4 w4.heap.size A3 4 cap3 _ (by rfl) (Rd.of_own ho3) (bvs_one _) (by simp [maxLen]) (by omega) (by omega) ?_
       intro v5 w5 ho5 hg5 hat5
       have hb5 : Below w.heap.size w4 w5 := below_app ho4 hg5 (by omega)
       obtain ⟨A5, cap5, rfl, _, _⟩ := own_shape ho5))
  have hb05 : Below w.heap.size w w5 := (hb03.trans hb4).trans hb5
  have ho5 : w5.ownsRow w.heap.size 5 1 (.slice A5 (2 + 2 + 4) cap5) 8 (bvs (hdr n m s)) := by
    rw [← hdr_be, bvs_append, bvs_append]; exact ho5
  obtain ⟨p, hp⟩ : ∃ p, p = min 248 (n - m) := ⟨_, rfl⟩
  have hp1 : p ≤ 248 := by omega
  have hp2 : m + p ≤ n := by omega
  have HP := Lib.hid hp
  clear ho1 ho2 ho3 ho4 hg4 hat4 hg5 hat5 hp
  go_loopw [6, 9] (fun c i wr => ∃ j : Nat, j ≤ p ∧ i = .int .i64 ((m : Int) + (j : Int)) ∧ wr.ownsRow w.heap.size 5 1 c (8 + j) (bvs (hdr n m s ++ (bs.drop m).take j)) ∧ Below w.heap.size w wr) (fun _ i _ => m + p - (intOf i).toNat)
  case atStart => exact ⟨0, by omega, by simp, by simpa using ho5, hb05⟩
  case round =>
    clear ho5 hb05
    obtain ⟨j, hj, rfl, ho, hb⟩ := hrel
    obtain ⟨Al, capl, rfl, _, _⟩ := own_shape ho
    by_cases hlt : j < p
    · have hlt1 : (m : Int) + (j : Int) < (m : Int) + 248 := by omega
      have hlt2 : (m : Int) + (j : Int) < (n : Int) := by omega
      have e3 : ((m : Int) + (j : Int)).toNat = m + j := by omega
      obtain ⟨b, off, c, rfl, hbb, hck, hcell⟩ := (hr.below hb).byte (k := m + j) (by omega)
      have hT : (bs.drop m).take (j + 1) = (bs.drop m).take j ++ [c] := by
        rw [List.take_add_one, List.getElem?_drop, hck]; rfl
      have HT := Lib.hid hT
      clear hck hT
      go_wp2_with (
         at_builtin
         refine app1 wr (by rfl) _ _ 22 (by rfl) w.heap.size 5 i0 _ 1 u_bytes hi0 hz0 hz1 hz2 rfl _ _ _ (by rfl) ho _ (by rfl) (by rfl) (by simp only [maxLen]; omega) (by omega) hb.size ?_
         intro v2 w2 hown2 hb2 _)
      go_roundw
      case rel =>
        refine ⟨j + 1, by omega, by go_num, ?_, hb.trans hb2⟩
        rw [HT.out, ← List.append_assoc, bvs_append]
        exact hown2
      case measure => simp [intOf] <;> omega
    · obtain rfl : j = p := by omega
      have hfin : bvs (hdr n m s ++ (bs.drop m).take j) = bvs (chunkS bs k) ∧ 8 + j = (chunkS bs k).length := by
        have hk' := HM.out
        subst hk'
        have hj' := HP.out
        rw [chunkS_length, HL.out]
        refine ⟨?_, by omega⟩
        unfold chunkS
        rw [HL.out, HS.out]
        congr 2
        rcases Nat.lt_or_ge (n - 248 * k) 248 with h | h
        · rw [List.take_of_length_le (by rw [List.length_drop, HL.out]; omega), List.take_of_length_le (by rw [List.length_drop, HL.out]; omega)]
        · rw [show j = 248 by omega]
      have HFIN := Lib.hid hfin
      clear hfin
      by_cases h248 : j < 248
      · have hlt1 : (m : Int) + (j : Int) < (m : Int) + 248 := by omega
        have hlt2 : ¬ (m : Int) + (j : Int) < (n : Int) := by have := HP.out; omega
        go_wp2
        go_ret
        exact ⟨_, rfl, by rw [← HFIN.out.1, ← HFIN.out.2]; exact ho, hb⟩
      · have hlt1 : ¬ (m : Int) + (j : Int) < (m : Int) + 248 := by omega
        go_wp2
        go_ret
        exact ⟨_, rfl, by rw [← HFIN.out.1, ← HFIN.out.2]; exact ho, hb⟩

set_option maxRecDepth 100000 in
set_option maxHeartbeats 1600000 in
theorem RSplit_yes (A : Option Addr) (n cap : Nat) (bs : List UInt8) (w : World) (hr : RdB w w.heap.size A n bs) (hn : n ≤ 4000) (C : Nat) (hC : cnt (n : Int) = (C : Int)) :
    Calls Tryd.prog 14 #[.slice A n cap] w fun e w' => ∃ (v : Value) (vs : List Value), e = .returned (.tuple #[v, .int .i64 0]) ∧ w'.ownsRow w.heap.size 22 1 v C vs ∧ LO w' w.heap.size vs (splitS bs C) ∧ Below w.heap.size w w' := by
  obtain ⟨j0, hj0, hy0, hy1, hy2⟩ := info_parts info_bs
  obtain ⟨C', hC', c1, c2, c3, c4, c5⟩ := cnt_nat n hn
  obtain rfl : C' = C := by rw [hC] at hC'; omega
  have HC := Lib.hid hC
  clear hC hC'
  go_enter Tryd.func14, Tryd.ntmps14
  go_wp2_with fail
  refine (RCount_any _ _ (by omega) (by omega)).mono ?_
  rintro _ _ ⟨he, rfl⟩
  rw [HC.out] at he
  subst he
  go_wp2_with fail
  go_loopw [4, 6, 7] (fun l i _ wr => ∃ (k : Nat) (vs : List Value), k ≤ C' ∧ i = .int .i64 (k : Int) ∧ wr.ownsRow w.heap.size 22 1 l k vs ∧ LO wr w.heap.size vs (splitS bs k) ∧ Below w.heap.size w wr) (fun _ i _ _ => C' - (intOf i).toNat)
  case atStart => exact ⟨0, [], by omega, rfl, ⟨by simp, .inl ⟨rfl, rfl⟩⟩, ⟨rfl, fun i v c h => by simp at h⟩, Below.refl _ _⟩
  case round =>
    obtain ⟨k, vs, hk, rfl, ho, hLO, hb⟩ := hrel
    obtain ⟨Al, capl, rfl, _, _⟩ := own_shape ho
    have hs := hb.size
    by_cases hlt : k < C'
    · have hm : (k : Int) * 248 = ((248 * k : Nat) : Int) := by omega
      have hkn : 248 * k ≤ n := by omega
      have HM := Lib.hid hm
      clear hm
      go_wp2_with fail
      rw [HM.out]
      refine (chunk_any A n cap bs (248 * k) k rfl wr ((hr.below hb).more hs) hn hkn).mono ?_
      rintro _ w2 ⟨u, rfl, hou, hb2⟩
      obtain ⟨Au, capu, rfl, _, _⟩ := own_shape hou
      have ho2 := own_over ho hb2
      have hLO2 := (hLO.over hb2).snoc (own_base hou hs)
      have hs2 := hb2.size
      have HL2 := Lib.hid hLO2
      go_wp2_with (
         at_builtin
         refine app1 w2 (by rfl) _ _ 24 (by rfl) w.heap.size 22 j0 _ 24 Tryd.underlying24 hj0 hy0 hy1 hy2 rfl _ _ _ (by rfl) ho2 _ (by rfl) (by rfl) (by simp only [maxLen]; omega) (by omega) (by omega) ?_
         intro v3 w3 ho3 hb3 hg3)
      go_roundw
      case rel =>
        refine ⟨k + 1, _, by omega, by go_num, ho3, ?_, (hb.trans (hb2.mono hs)).trans hb3⟩
        rw [splitS_succ]
        exact HL2.out.chg (Chg.of_grown hg3) (fun g ht h => absurd (ht.eq_ (own_isT ho2 h.symm)) (by decide))
      case measure => simp [intOf] <;> omega
    · obtain rfl : C' = k := by omega
      go_wp2
      go_ret2
      exact ⟨_, vs, rfl, ho, hLO, hb⟩
set_option maxHeartbeats 400000 in
theorem RSplit_no (A : Option Addr) (n cap : Nat) (w : World) (hn : 4000 < n) :
    Calls Tryd.prog 14 #[.slice A n cap] w fun e w' => e = .returned (.tuple #[.slice none 0 0, .int .i64 90]) ∧ w = w' := by
  go_enter Tryd.func14, Tryd.ntmps14
  go_wp2
  go_ret2
  exact ⟨rfl, rfl⟩
end Go.Proofs.YtgapkphkcncgeaaDoor
