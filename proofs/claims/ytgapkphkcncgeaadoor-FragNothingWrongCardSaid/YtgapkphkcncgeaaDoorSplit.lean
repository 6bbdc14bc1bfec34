/-
  frag.Split: the chunks, one behind the other in one text.
-/
import Derived.Test.YtgapkphkcncgeaaDoorHelp
import Derived.Test.YtgapkphkcncgeaaDoorSum
import Derived.Test.YtgapkphkcncgeaaDoorFCount
import Derived.Deep.Cut
namespace Go.Proofs.YtgapkphkcncgeaaDoor
open Go.RowKit

theorem cnt_nat (n : Nat) (h : n ≤ 4000) : ∃ C : Nat, cnt (n : Int) = (C : Int) ∧ 1 ≤ C ∧ C ≤ 17 ∧ n ≤ 248 * C ∧ (n = 0 → C = 1) ∧ (0 < n → 248 * C < n + 248) := by
  unfold cnt
  rw [if_neg (by omega)]
  by_cases h0 : n = 0
  · subst h0; exact ⟨1, by simp, by omega, by omega, by omega, by omega, by omega⟩
  · rw [if_neg (by omega)]
    exact ⟨(n + 247) / 248, by omega, by omega, by omega, by omega, by omega, by omega⟩
def hdr (n k s : Nat) : List UInt8 := [UInt8.ofNat (n / 256), UInt8.ofNat n, UInt8.ofNat (k / 256), UInt8.ofNat k, UInt8.ofNat (s / 16777216), UInt8.ofNat (s / 65536), UInt8.ofNat (s / 256), UInt8.ofNat s]
def chunkS (bs : List UInt8) (k : Nat) : List UInt8 := hdr bs.length (248 * k) (Crc.crc bs) ++ (bs.drop (248 * k)).take 248
def splitS (bs : List UInt8) (C : Nat) : List (List UInt8) := (List.range C).map (chunkS bs)
def chunkV (T n k : Nat) : Value := .slice (some ⟨T, 256 * k, none⟩) (8 + min 248 (n - 248 * k)) (8 + min 248 (n - 248 * k))
theorem splitS_succ (bs : List UInt8) (C : Nat) : splitS bs (C + 1) = splitS bs C ++ [chunkS bs C] := by simp [splitS, List.range_succ]
theorem chunkS_length (bs : List UInt8) (k : Nat) : (chunkS bs k).length = 8 + min 248 (bs.length - 248 * k) := by simp [chunkS, hdr]; omega
theorem splitS_len (bs : List UInt8) (k : Nat) (h : ∀ j, j < k → 248 * j ≤ bs.length) : (splitS bs k).flatten.length = 8 * k + min (248 * k) bs.length := by
  induction k with
  | zero => simp [splitS]
  | succ k ih =>
    rw [splitS_succ, List.flatten_append, List.length_append, ih (fun j hj => h j (by omega))]
    simp only [List.flatten_cons, List.flatten_nil, List.append_nil, chunkS_length]
    have := h k (by omega)
    omega

theorem info_bs : (Tryd.prog.info? 22).map (fun i => (i.zero, i.size, i.bytes)) = some (some (.slice none 0 0), 1, 24) := by kernel_rfl

theorem own_made (w : World) (base : Nat) (e : TypeId) (z : Value) (c : Nat) (hz : z.cells.size = 1) (hm : c ≤ maxLen) (hb : base ≤ w.heap.size) : (w.alloc (.cells (madeCells z.cells c) e)).ownsRow base e 1 (.slice (some ⟨w.heap.size, 0, none⟩) 0 c) 0 [] :=
  ⟨by simp, .inr ⟨w.heap.size, c, _, rfl, hb, heap_alloc_new w _, by omega, hm, by rw [size_madeCells]; simp [hz], by simp⟩⟩
theorem hdr_vals (n k s : Nat) (hn : n < 65536) (hk : 248 * k < 65536) (hs : s < 4294967296) : bvs (hdr n (248 * k) s) = [.int .u8 ((n : Int) / 256), .int .u8 ((n : Int) % 256), .int .u8 (248 * (k : Int) / 256), .int .u8 (248 * (k : Int) % 256), .int .u8 ((s : Int) / 16777216), .int .u8 ((s : Int) / 65536 % 256), .int .u8 ((s : Int) / 256 % 256), .int .u8 ((s : Int) % 256)] := by
  simp only [hdr, bvs, List.map_cons, List.map_nil, UInt8.toNat_ofNat', List.cons.injEq, Value.int.injEq, true_and, and_true]
  have e : (248 : Int) * (k : Int) = ((248 * k : Nat) : Int) := by omega
  rw [e]
  generalize 248 * k = m at *
  refine ⟨?_, ?_, ?_, ?_, ?_, ?_, ?_, ?_⟩ <;> omega
theorem eight_set (X : List Value) (z a b c d e f g h : Value) (R : Nat) (cur : Array Value) (hc : cur.toList = X ++ List.replicate (8 + R) z) {F : Nat} (hF : X.length = F) :
    ((((((((cur.setIfInBounds F a).setIfInBounds (F + 1) b).setIfInBounds (F + 2) c).setIfInBounds (F + 3) d).setIfInBounds (F + 4) e).setIfInBounds (F + 5) f).setIfInBounds (F + 6) g).setIfInBounds (F + 7) h).toList = X ++ [a, b, c, d, e, f, g, h] ++ List.replicate R z := by
  subst hF
  simp only [Array.toList_setIfInBounds, hc]
  rw [show 8 + R = R + 1 + 1 + 1 + 1 + 1 + 1 + 1 + 1 by omega]
  simp only [List.replicate_succ, List.set_append_right _ _ (Nat.le_refl _), List.set_append_right _ _ (Nat.le_add_right _ _), Nat.sub_self, Nat.add_sub_cancel_left, List.append_assoc]
  simp [List.set_cons_succ, List.set_cons_zero]
theorem splice_mid (Y P : List Value) (z : Value) (R : Nat) {k : Nat} (hk : Y.length = k) : splice (Y ++ List.replicate (P.length + R) z) k P = Y ++ P ++ List.replicate R z := by
  subst hk
  unfold splice
  rw [List.take_left, List.drop_append, List.drop_eq_nil_of_le (by omega), List.nil_append, Nat.add_sub_cancel_left, List.drop_replicate, Nat.add_sub_cancel_left, List.append_assoc]

theorem split_text {bs part : List UInt8} {cur : Array Value} {k n s C F : Nat} (hn : bs.length = n) (hs : Crc.crc bs = s) (hs' : s < 4294967296) (hk : 248 * k < 65536) (hn' : n < 65536) (hF : (bvs (splitS bs k).flatten).length = F)
    (hcur : cur.toList = bvs (splitS bs k).flatten ++ List.replicate (8 * (C - k) + (n - 248 * k)) (.int .u8 0)) (hp : part = (bs.drop (248 * k)).take 248)
    (hR : 8 * (C - k) + (n - 248 * k) = 8 + (part.length + (8 * (C - (k + 1)) + (n - 248 * (k + 1))))) :
    (splice ((((((((cur.setIfInBounds F (.int .u8 ((n : Int) / 256))).setIfInBounds (F + 1) (.int .u8 ((n : Int) % 256))).setIfInBounds (F + 2) (.int .u8 (248 * (k : Int) / 256))).setIfInBounds (F + 3) (.int .u8 (248 * (k : Int) % 256))).setIfInBounds (F + 4) (.int .u8 ((s : Int) / 16777216))).setIfInBounds (F + 5) (.int .u8 ((s : Int) / 65536 % 256))).setIfInBounds (F + 6) (.int .u8 ((s : Int) / 256 % 256))).setIfInBounds (F + 7) (.int .u8 ((s : Int) % 256))).toList (F + 8) (bvs part)).toArray.toList =
      bvs (splitS bs (k + 1)).flatten ++ List.replicate (8 * (C - (k + 1)) + (n - 248 * (k + 1))) (.int .u8 0) := by
  have e : bvs ([chunkS bs k].flatten) = bvs (hdr n (248 * k) s) ++ bvs part := by
    simp only [List.flatten_cons, List.flatten_nil, List.append_nil, chunkS, bvs_append]
    rw [hn, hs, hp]
  rw [hdr_vals n k s hn' hk hs'] at e
  have h8 := eight_set (bvs (splitS bs k).flatten) (.int .u8 0) (.int .u8 ((n : Int) / 256)) (.int .u8 ((n : Int) % 256)) (.int .u8 (248 * (k : Int) / 256)) (.int .u8 (248 * (k : Int) % 256)) (.int .u8 ((s : Int) / 16777216)) (.int .u8 ((s : Int) / 65536 % 256)) (.int .u8 ((s : Int) / 256 % 256)) (.int .u8 ((s : Int) % 256)) ((bvs part).length + (8 * (C - (k + 1)) + (n - 248 * (k + 1)))) cur (by rw [hcur, hR, bvs_length]) hF
  rw [List.toList_toArray, h8, splice_mid _ _ _ _ (by rw [List.length_append, hF]; rfl), splitS_succ, List.flatten_append, bvs_append, e]
  simp only [List.append_assoc]

set_option maxRecDepth 100000 in
set_option maxHeartbeats 3200000 in
theorem Split_some (A : Option Addr) (n cap : Nat) (bs : List UInt8) (w : World) (hr : RdB w w.heap.size A n bs) (hcap : n ≤ cap) (hcm : cap ≤ 9223372036854775807) (hn : n ≤ 4000) (hn1 : 0 < n) (ht : Nibs w) (C : Nat) (hC : cnt (n : Int) = (C : Int)) :
    Calls Tryd.prog 11 #[.slice A n cap] w fun e w' => ∃ (v : Value) (T : Nat) (cur : Array Value), e = .returned (.tuple #[v, .int .i64 0]) ∧ w'.ownsRow w.heap.size 22 1 v C ((List.range C).map (chunkV T n)) ∧ Blk w' T 5 cur ∧ cur.toList = bvs (splitS bs C).flatten ∧ w.heap.size ≤ T ∧ Below w.heap.size w w' := by
  obtain ⟨i0, hi0, hz0, hz1, hz2⟩ := info_parts info_u8
  obtain ⟨j0, hj0, hy0, hy1, hy2⟩ := info_parts info_bs
  obtain ⟨C', hC', c1, c2, c3, c4, c5⟩ := cnt_nat n hn
  obtain rfl : C' = C := by rw [hC] at hC'; omega
  have hmk := run_make_rowN (P := Tryd.prog) 22 5 i0 (.int .u8 0) u_bytes hi0 hz0 .i64 .i64 (C' * 8 + n) (C' * 8 + n) (by omega) (by rw [hz2]; omega) (by omega)
  have hmk2 := run_make_rowN (P := Tryd.prog) 24 22 j0 (.slice none 0 0) Tryd.underlying24 hj0 hy0 .i64 .i64 0 C' (by omega) (by rw [hy2]; omega) (by omega)
  have e1 : ((C' * 8 + n : Nat) : Int) = (C' : Int) * 8 + (n : Int) := by omega
  rw [hz1] at hmk
  rw [hy1] at hmk2
  simp only [e1, Nat.mul_one] at hmk
  simp only [Nat.mul_one] at hmk2
  have hmk2 : ∀ W, Sem.run Tryd.prog (Instr.makeSlice 24 (.int .i64 0) (.int .i64 (C' : Int))) W = .ok (.slice (some ⟨W.heap.size, 0, none⟩) 0 C') (W.alloc (.cells (madeCells #[.slice none 0 0] C') 22)) := hmk2
  have e0 : ((C' : Int) == 0) = false := by simp; omega
  have hl := hr.lenB
  have HL := Lib.hid hl
  have HC := Lib.hid hC
  clear e1
  have HT := Lib.hid ht
  have hs := Crc.crc_lt bs
  generalize hS : Crc.crc bs = s at hs
  have HS := Lib.hid hS
  clear hl hC hC' ht hS
  go_enter Tryd.func11, Tryd.ntmps11
  go_wp2_with fail
  refine (FCount_any _ _ (by omega) (by omega)).mono ?_
  rintro _ _ ⟨he, rfl⟩
  rw [HC.out] at he
  subst he
  go_wp2_with fail
  refine (Sum_any _ _ _ _ bs w hr (by omega) HT.out).mono ?_
  rintro _ _ ⟨he, rfl⟩
  rw [HS.out] at he
  subst he
  go_wp2_with fail
  obtain ⟨w2, hw2⟩ : ∃ w2, w2 = w.alloc (.cells (madeCells #[.int .u8 0] (C' * 8 + n)) 5) := ⟨_, rfl⟩
  obtain ⟨w3, hw3⟩ : ∃ w3, w3 = w2.alloc (.cells (madeCells #[.slice none 0 0] C') 22) := ⟨_, rfl⟩
  have hT2 : Blk w2 w.heap.size 5 (madeCells #[.int .u8 0] (C' * 8 + n)) := by rw [hw2]; exact Blk.new _ _ _
  have hb2 : Below w.heap.size w w2 := by rw [hw2]; exact one_box' _ _
  have hb3 : Below w2.heap.size w2 w3 := by rw [hw3]; exact one_box' _ _
  have hz2 : w2.heap.size = w.heap.size + 1 := by rw [hw2]; simp
  have hT3 := hT2.over hb3
  have ho3 : w3.ownsRow w.heap.size 22 1 (.slice (some ⟨w.heap.size + 1, 0, none⟩) 0 C') 0 [] := by
    rw [← hz2, hw3]
    exact own_made w2 w.heap.size 22 (.slice none 0 0) C' rfl (by simp only [maxLen]; omega) (by omega)
  have hb03 := Below.then hb2 hb3
  rw [← hw2]
  rw [← hw3]
  have HW2 := Lib.hid hw2
  have HW3 := Lib.hid hw3
  have HZ2 := Lib.hid hz2
  have HCU : Hid ((madeCells #[.int .u8 0] (C' * 8 + n)).toList = bvs (splitS bs 0).flatten ++ List.replicate (8 * (C' - 0) + (n - 248 * 0)) (.int .u8 0)) := by
    show _ = _
    rw [toList_madeCells_one, show 8 * (C' - 0) + (n - 248 * 0) = C' * 8 + n by omega]
    simp [splitS, bvs]
  generalize madeCells #[.int .u8 0] (C' * 8 + n) = cur0 at *
  clear hw2 hw3 hz2 hT2 hb2 hb3 hmk hmk2 e0
  go_loopw [7, 8, 9] (fun l a f wr => ∃ (k F : Nat) (cur : Array Value), k ≤ C' ∧ a = .int .i64 (248 * (k : Int)) ∧ f = .int .i64 (F : Int) ∧ Hid (F = 8 * k + min (248 * k) n) ∧ wr.ownsRow w.heap.size 22 1 l k ((List.range k).map (chunkV w.heap.size n)) ∧ Blk wr w.heap.size 5 cur ∧
      Hid (cur.toList = bvs (splitS bs k).flatten ++ List.replicate (8 * (C' - k) + (n - 248 * k)) (.int .u8 0)) ∧ Below w.heap.size w wr) (fun _ a _ _ => 248 * C' - (intOf a).toNat)
  case atStart => exact ⟨0, 0, cur0, by omega, rfl, rfl, by simp [Hid], by simpa using ho3, hT3, HCU, hb03⟩
  case round =>
    clear ho3 hT3 HCU hb03
    obtain ⟨k, F, cur, hk, rfl, rfl, HF, ho, hT, HCU, hb⟩ := hrel
    obtain ⟨Al, capl, rfl, _, _⟩ := own_shape ho
    by_cases hlt : k < C'
    · have hkn : 248 * k ≤ n := by omega
      have hF := HF.out
      have hFe : F = 8 * k + 248 * k := by rw [hF]; omega
      have HFE := Lib.hid hFe
      clear hF
      have hF0 : F ≤ 4352 := by omega
      clear hFe
      have hltI : (k : Int) < (C' : Int) := by omega
      have q1 : 248 * (k : Int) ≤ (n : Int) := by omega
      by_cases hfull : 248 * k + 248 ≤ n
      · have q2 : 248 * (k : Int) + 248 ≤ (n : Int) := by omega
        have q3 : (F : Int) + 8 + 248 ≤ (C' : Int) * 8 + (n : Int) := by have := HFE.out; omega
        have q4 : F + 8 + 248 - F = 8 + 248 := by omega
        have hcs : cur.size = C' * 8 + n := by rw [← Array.length_toList, HCU.out, List.length_append, bvs_length, splitS_len bs k (by intro j hj; rw [HL.out]; omega), HL.out, List.length_replicate]; omega
        have g0 : ∃ u, wr.cell? ⟨w.heap.size, F, none⟩ = some u := by rw [hT.cell]; exact ⟨_, Array.getElem?_eq_getElem (by omega)⟩
        have g1 : ∃ u, wr.cell? ⟨w.heap.size, F + 1, none⟩ = some u := by rw [hT.cell]; exact ⟨_, Array.getElem?_eq_getElem (by omega)⟩
        have g2 : ∃ u, wr.cell? ⟨w.heap.size, F + 2, none⟩ = some u := by rw [hT.cell]; exact ⟨_, Array.getElem?_eq_getElem (by omega)⟩
        have g3 : ∃ u, wr.cell? ⟨w.heap.size, F + 3, none⟩ = some u := by rw [hT.cell]; exact ⟨_, Array.getElem?_eq_getElem (by omega)⟩
        have g4 : ∃ u, wr.cell? ⟨w.heap.size, F + 4, none⟩ = some u := by rw [hT.cell]; exact ⟨_, Array.getElem?_eq_getElem (by omega)⟩
        have g5 : ∃ u, wr.cell? ⟨w.heap.size, F + 5, none⟩ = some u := by rw [hT.cell]; exact ⟨_, Array.getElem?_eq_getElem (by omega)⟩
        have g6 : ∃ u, wr.cell? ⟨w.heap.size, F + 6, none⟩ = some u := by rw [hT.cell]; exact ⟨_, Array.getElem?_eq_getElem (by omega)⟩
        have g7 : ∃ u, wr.cell? ⟨w.heap.size, F + 7, none⟩ = some u := by rw [hT.cell]; exact ⟨_, Array.getElem?_eq_getElem (by omega)⟩
        obtain ⟨u0, g0⟩ := g0
        obtain ⟨u1, g1⟩ := g1
        obtain ⟨u2, g2⟩ := g2
        obtain ⟨u3, g3⟩ := g3
        obtain ⟨u4, g4⟩ := g4
        obtain ⟨u5, g5⟩ := g5
        obtain ⟨u6, g6⟩ := g6
        obtain ⟨u7, g7⟩ := g7
        have k0 := hT.frozen F
        have k1 := hT.frozen (F + 1)
        have k2 := hT.frozen (F + 2)
        have k3 := hT.frozen (F + 3)
        have k4 := hT.frozen (F + 4)
        have k5 := hT.frozen (F + 5)
        have k6 := hT.frozen (F + 6)
        have k7 := hT.frozen (F + 7)
        have HCS := Lib.hid hcs
        clear hcs
        have hTlt := hT.lt
        have hrp := Rd.sliceB hr (lo := 248 * k) (p := 248) (by omega)
        have hbT : w.heap.size ≤ w.heap.size := Nat.le_refl _
        have em : 248 * k + 248 - 248 * k = 248 := by omega
        have hrm : RdB w w.heap.size (A.map fun x => x.add (248 * k)) (248 * k + 248 - 248 * k) ((bs.drop (248 * k)).take 248) := by rw [em]; exact hrp
        have hf8 : F + 8 + 248 ≤ C' * 8 + n := by omega
        obtain ⟨part, hpart⟩ : ∃ part, part = (bs.drop (248 * k)).take 248 := ⟨_, rfl⟩
        have HP : Hid (part = (bs.drop (248 * k)).take 248 ∧ part.length = 248) := ⟨hpart, by rw [hpart, List.length_take, List.length_drop, HL.out]; omega⟩
        rw [← hpart] at hrm
        clear hpart
        clear hrp q4 em
        go_wp2_with (first
         | (refine copyC (o := ⟨some 94, _, _, _, _, _⟩) (by rfl) _ _ _ _ (by rfl) 5 u_bytes (by rw [hi0]; simp [hz1]) _ _ _ (A.map fun x => x.add (248 * k)) (248 * k + 248 - 248 * k) _ (by rfl) (by rfl) w.heap.size (F + 8) _ 5 ((((((((hT.set_ F _).set_ (F + 1) _).set_ (F + 2) _).set_ (F + 3) _).set_ (F + 4) _).set_ (F + 5) _).set_ (F + 6) _).set_ (F + 7) _) w.heap.size (bvs part) (hrm.below ((((((((hb.setCell hbT _).setCell hbT _).setCell hbT _).setCell hbT _).setCell hbT _).setCell hbT _).setCell hbT _).setCell hbT _)) (by omega) (fun _ => by first | rfl | omega) (by simp; rw [HCS.out]; exact hf8) (bvs_one part) ?_
            intro w9 hT9 hc9
            have hcT := Chg.trans ((((((((((Chg.refl (fun x => x = w.heap.size) wr).setCell (p := ⟨w.heap.size, F, none⟩) (.inl rfl) _).setCell (p := ⟨w.heap.size, F + 1, none⟩) (.inl rfl) _).setCell (p := ⟨w.heap.size, F + 2, none⟩) (.inl rfl) _).setCell (p := ⟨w.heap.size, F + 3, none⟩) (.inl rfl) _).setCell (p := ⟨w.heap.size, F + 4, none⟩) (.inl rfl) _).setCell (p := ⟨w.heap.size, F + 5, none⟩) (.inl rfl) _).setCell (p := ⟨w.heap.size, F + 6, none⟩) (.inl rfl) _).setCell (p := ⟨w.heap.size, F + 7, none⟩) (.inl rfl) _)) hc9
            have ho9 : w9.ownsRow w.heap.size 22 1 (.slice Al k capl) k ((List.range k).map (chunkV w.heap.size n)) := own_chg ho hcT (fun x hx hxe => by
              subst hxe
              exact absurd ((own_isT ho hx).eq_ hT.isT) (by decide))
            have hb9 : Below w.heap.size wr w9 := hcT.to_below hb.size (fun x hx => by omega)
            have HT9 := Lib.hid hT9
            have HC9 := Lib.hid hcT
            have hs9 := hb9.size
            have hs0 := hb.size
            clear hT9 hc9 hcT g0 g1 g2 g3 g4 g5 g6 g7 k0 k1 k2 k3 k4 k5 k6 k7)
         | (at_builtin
            refine app1 w9 (by rfl) _ _ 24 (by rfl) w.heap.size 22 j0 _ 24 Tryd.underlying24 hj0 hy0 hy1 hy2 rfl _ _ _ (by rfl) ho9 _ (by rfl) (by rfl) (by simp only [maxLen]; omega) (by omega) (by omega) ?_
            intro v2 wa ho2 hba hga))
        go_roundw
        case rel =>
          have hTa : Blk wa w.heap.size 5 _ := HT9.out.grown hga (fun h => absurd ((own_isT ho9 h.symm).eq_ HT9.out.isT) (by decide))
          refine ⟨k + 1, F + 8 + 248, _, by omega, by go_num, by go_num, ?_, ?_, hTa, ?_, (hb.trans hb9).trans hba⟩
          · show _ = _; rw [HFE.out]; omega
          · rw [List.range_succ, List.map_append, List.map_cons, List.map_nil]
            have e : chunkV w.heap.size n k = .slice (some ⟨w.heap.size, F, none⟩) (F + 8 + 248 - F) (F + 8 + 248 - F) := by
              have h1 : 256 * k = F := by rw [HFE.out]; omega
              have h2 : 8 + min 248 (n - 248 * k) = F + 8 + 248 - F := by omega
              unfold chunkV
              rw [h1, h2]
            rw [e]
            exact ho2
          · show _ = _
            have hlen : (bvs (splitS bs k).flatten).length = F := by rw [bvs_length, splitS_len bs k (by intro j hj; rw [HL.out]; omega), HL.out, HFE.out]; omega
            exact split_text HL.out HS.out hs (by omega) (by omega) hlen HCU.out HP.out.1 (by rw [HP.out.2]; omega)
        case measure => simp [intOf]; omega
      · by_cases hn0 : 0 < n
        · have q2 : (n : Int) < 248 * (k : Int) + 248 := by omega
          have q6 : 248 * (k : Int) < (n : Int) := by omega
          have q3 : (F : Int) + 8 + ((n : Int) - 248 * (k : Int)) ≤ (C' : Int) * 8 + (n : Int) := by have := HFE.out; omega
          have q4 : F + 8 + (n - 248 * k) - F = 8 + (n - 248 * k) := by omega
          have hcs : cur.size = C' * 8 + n := by rw [← Array.length_toList, HCU.out, List.length_append, bvs_length, splitS_len bs k (by intro j hj; rw [HL.out]; omega), HL.out, List.length_replicate]; omega
          have g0 : ∃ u, wr.cell? ⟨w.heap.size, F, none⟩ = some u := by rw [hT.cell]; exact ⟨_, Array.getElem?_eq_getElem (by omega)⟩
          have g1 : ∃ u, wr.cell? ⟨w.heap.size, F + 1, none⟩ = some u := by rw [hT.cell]; exact ⟨_, Array.getElem?_eq_getElem (by omega)⟩
          have g2 : ∃ u, wr.cell? ⟨w.heap.size, F + 2, none⟩ = some u := by rw [hT.cell]; exact ⟨_, Array.getElem?_eq_getElem (by omega)⟩
          have g3 : ∃ u, wr.cell? ⟨w.heap.size, F + 3, none⟩ = some u := by rw [hT.cell]; exact ⟨_, Array.getElem?_eq_getElem (by omega)⟩
          have g4 : ∃ u, wr.cell? ⟨w.heap.size, F + 4, none⟩ = some u := by rw [hT.cell]; exact ⟨_, Array.getElem?_eq_getElem (by omega)⟩
          have g5 : ∃ u, wr.cell? ⟨w.heap.size, F + 5, none⟩ = some u := by rw [hT.cell]; exact ⟨_, Array.getElem?_eq_getElem (by omega)⟩
          have g6 : ∃ u, wr.cell? ⟨w.heap.size, F + 6, none⟩ = some u := by rw [hT.cell]; exact ⟨_, Array.getElem?_eq_getElem (by omega)⟩
          have g7 : ∃ u, wr.cell? ⟨w.heap.size, F + 7, none⟩ = some u := by rw [hT.cell]; exact ⟨_, Array.getElem?_eq_getElem (by omega)⟩
          obtain ⟨u0, g0⟩ := g0
          obtain ⟨u1, g1⟩ := g1
          obtain ⟨u2, g2⟩ := g2
          obtain ⟨u3, g3⟩ := g3
          obtain ⟨u4, g4⟩ := g4
          obtain ⟨u5, g5⟩ := g5
          obtain ⟨u6, g6⟩ := g6
          obtain ⟨u7, g7⟩ := g7
          have k0 := hT.frozen F
          have k1 := hT.frozen (F + 1)
          have k2 := hT.frozen (F + 2)
          have k3 := hT.frozen (F + 3)
          have k4 := hT.frozen (F + 4)
          have k5 := hT.frozen (F + 5)
          have k6 := hT.frozen (F + 6)
          have k7 := hT.frozen (F + 7)
          have HCS := Lib.hid hcs
          clear hcs
          have hTlt := hT.lt
          have hrp := Rd.sliceB hr (lo := 248 * k) (p := n - 248 * k) (by omega)
          have hbT : w.heap.size ≤ w.heap.size := Nat.le_refl _
          have hrm : RdB w w.heap.size (A.map fun x => x.add (248 * k)) (n - 248 * k) ((bs.drop (248 * k)).take 248) := by rw [List.take_of_length_le (by rw [List.length_drop, HL.out]; omega), ← List.take_of_length_le (i := n - 248 * k) (l := bs.drop (248 * k)) (by rw [List.length_drop, HL.out]; omega)]; exact hrp
          have hf8 : F + 8 + (n - 248 * k) ≤ C' * 8 + n := by omega
          obtain ⟨part, hpart⟩ : ∃ part, part = (bs.drop (248 * k)).take 248 := ⟨_, rfl⟩
          have HP : Hid (part = (bs.drop (248 * k)).take 248 ∧ part.length = n - 248 * k) := ⟨hpart, by rw [hpart, List.length_take, List.length_drop, HL.out]; omega⟩
          rw [← hpart] at hrm
          clear hpart
          clear hrp q4
          go_wp2_with (first
           | (refine copyC (o := ⟨some 94, _, _, _, _, _⟩) (by rfl) _ _ _ _ (by rfl) 5 u_bytes (by rw [hi0]; simp [hz1]) _ _ _ (A.map fun x => x.add (248 * k)) (n - 248 * k) _ (by rfl) (by rfl) w.heap.size (F + 8) _ 5 ((((((((hT.set_ F _).set_ (F + 1) _).set_ (F + 2) _).set_ (F + 3) _).set_ (F + 4) _).set_ (F + 5) _).set_ (F + 6) _).set_ (F + 7) _) w.heap.size (bvs part) (hrm.below ((((((((hb.setCell hbT _).setCell hbT _).setCell hbT _).setCell hbT _).setCell hbT _).setCell hbT _).setCell hbT _).setCell hbT _)) (by omega) (fun _ => by first | rfl | omega) (by simp; rw [HCS.out]; exact hf8) (bvs_one part) ?_
              intro w9 hT9 hc9
              have hcT := Chg.trans ((((((((((Chg.refl (fun x => x = w.heap.size) wr).setCell (p := ⟨w.heap.size, F, none⟩) (.inl rfl) _).setCell (p := ⟨w.heap.size, F + 1, none⟩) (.inl rfl) _).setCell (p := ⟨w.heap.size, F + 2, none⟩) (.inl rfl) _).setCell (p := ⟨w.heap.size, F + 3, none⟩) (.inl rfl) _).setCell (p := ⟨w.heap.size, F + 4, none⟩) (.inl rfl) _).setCell (p := ⟨w.heap.size, F + 5, none⟩) (.inl rfl) _).setCell (p := ⟨w.heap.size, F + 6, none⟩) (.inl rfl) _).setCell (p := ⟨w.heap.size, F + 7, none⟩) (.inl rfl) _)) hc9
              have ho9 : w9.ownsRow w.heap.size 22 1 (.slice Al k capl) k ((List.range k).map (chunkV w.heap.size n)) := own_chg ho hcT (fun x hx hxe => by
                subst hxe
                exact absurd ((own_isT ho hx).eq_ hT.isT) (by decide))
              have hb9 : Below w.heap.size wr w9 := hcT.to_below hb.size (fun x hx => by omega)
              have HT9 := Lib.hid hT9
              have HC9 := Lib.hid hcT
              have hs9 := hb9.size
              have hs0 := hb.size
              clear hT9 hc9 hcT g0 g1 g2 g3 g4 g5 g6 g7 k0 k1 k2 k3 k4 k5 k6 k7)
           | (at_builtin
              refine app1 w9 (by rfl) _ _ 24 (by rfl) w.heap.size 22 j0 _ 24 Tryd.underlying24 hj0 hy0 hy1 hy2 rfl _ _ _ (by rfl) ho9 _ (by rfl) (by rfl) (by simp only [maxLen]; omega) (by omega) (by omega) ?_
              intro v2 wa ho2 hba hga))
          go_roundw
          case rel =>
            have hTa : Blk wa w.heap.size 5 _ := HT9.out.grown hga (fun h => absurd ((own_isT ho9 h.symm).eq_ HT9.out.isT) (by decide))
            refine ⟨k + 1, F + 8 + (n - 248 * k), _, by omega, by go_num, by go_num, ?_, ?_, hTa, ?_, (hb.trans hb9).trans hba⟩
            · show _ = _; rw [HFE.out]; omega
            · rw [List.range_succ, List.map_append, List.map_cons, List.map_nil]
              have e : chunkV w.heap.size n k = .slice (some ⟨w.heap.size, F, none⟩) (F + 8 + (n - 248 * k) - F) (F + 8 + (n - 248 * k) - F) := by
                have h1 : 256 * k = F := by rw [HFE.out]; omega
                have h2 : 8 + min 248 (n - 248 * k) = F + 8 + (n - 248 * k) - F := by omega
                unfold chunkV
                rw [h1, h2]
              rw [e]
              exact ho2
            · show _ = _
              have hlen : (bvs (splitS bs k).flatten).length = F := by rw [bvs_length, splitS_len bs k (by intro j hj; rw [HL.out]; omega), HL.out, HFE.out]; omega
              exact split_text HL.out HS.out hs (by omega) (by omega) hlen HCU.out HP.out.1 (by rw [HP.out.2]; omega)
          case measure => simp [intOf]; omega
        · omega
    · obtain rfl : C' = k := by omega
      go_wp2_with fail
      go_ret2
      refine ⟨_, _, cur, rfl, ho, hT, ?_, Nat.le_refl _, hb⟩
      rw [HCU.out, show 8 * (C' - C') + (n - 248 * C') = 0 by omega]
      simp

set_option maxRecDepth 100000 in
set_option maxHeartbeats 800000 in
theorem Split_zero (A : Option Addr) (cap : Nat) (w : World) (hcm : cap ≤ 9223372036854775807) (ht : Nibs w) :
    Calls Tryd.prog 11 #[.slice A 0 cap] w fun e w' => ∃ (v : Value) (T : Nat) (cur : Array Value), e = .returned (.tuple #[v, .int .i64 0]) ∧ w'.ownsRow w.heap.size 22 1 v 1 ((List.range 1).map (chunkV T 0)) ∧ Blk w' T 5 cur ∧ cur.toList = bvs (splitS [] 1).flatten ∧ w.heap.size ≤ T ∧ Below w.heap.size w w' := by
  obtain ⟨i0, hi0, hz0, hz1, hz2⟩ := info_parts info_u8
  obtain ⟨j0, hj0, hy0, hy1, hy2⟩ := info_parts info_bs
  have hmk : ∀ W, Sem.run Tryd.prog (Instr.makeSlice 22 (.int .i64 8) (.int .i64 8)) W = .ok (.slice (some ⟨W.heap.size, 0, none⟩) 8 8) (W.alloc (.cells #[.int .u8 0, .int .u8 0, .int .u8 0, .int .u8 0, .int .u8 0, .int .u8 0, .int .u8 0, .int .u8 0] 5)) := fun _ => by kernel_rfl
  have hmk2 : ∀ W, Sem.run Tryd.prog (Instr.makeSlice 24 (.int .i64 0) (.int .i64 1)) W = .ok (.slice (some ⟨W.heap.size, 0, none⟩) 0 1) (W.alloc (.cells #[.slice none 0 0] 22)) := fun _ => by kernel_rfl
  have HT := Lib.hid ht
  clear ht
  go_enter Tryd.func11, Tryd.ntmps11
  go_wp2_with fail
  refine (FCount_any 0 _ (by omega) (by omega)).mono ?_
  rintro _ _ ⟨rfl, rfl⟩
  simp only [show cnt 0 = 1 from rfl]
  go_wp2_with fail
  refine (Sum_any A 0 cap w.heap.size [] w (Rd.nil_ _) (by omega) HT.out).mono ?_
  rintro _ _ ⟨rfl, rfl⟩
  simp only [show ((Crc.crc [] : Nat) : Int) = 0 from by decide]
  go_wp2_with fail
  refine wp_loop_rounds 2 ?_
  rw [rounds_succ]
  go_wp2_with (refine wpList_copy_nothing (o := ⟨some 94, _, _, _, _, _⟩) (by rfl) _ _ _ _ (by rfl) 5 u_bytes (by rw [hi0]; simp [hz1]) _ _ _ _ _ _ (by rfl) (by rfl) (by rfl) ?_)
  rw [rounds_succ]
  go_wp2_with fail
  go_ret2
  have hT := ((Blk.new w 5 #[.int .u8 0, .int .u8 0, .int .u8 0, .int .u8 0, .int .u8 0, .int .u8 0, .int .u8 0, .int .u8 0]).alloc (.cells #[.slice (some ⟨w.heap.size, 0, none⟩) 8 8] 22)).alloc (.cells #[.slice (some ⟨w.heap.size, 0, none⟩) 8 8] 22)
  have hL := (Blk.new (w.alloc (.cells #[.int .u8 0, .int .u8 0, .int .u8 0, .int .u8 0, .int .u8 0, .int .u8 0, .int .u8 0, .int .u8 0] 5)) 22 #[.slice (some ⟨w.heap.size, 0, none⟩) 8 8]).alloc (.cells #[.slice (some ⟨w.heap.size, 0, none⟩) 8 8] 22)
  have hz : (w.alloc (.cells #[.int .u8 0, .int .u8 0, .int .u8 0, .int .u8 0, .int .u8 0, .int .u8 0, .int .u8 0, .int .u8 0] 5)).heap.size = w.heap.size + 1 := by simp
  rw [hz] at hL
  exact ⟨_, _, _, rfl, ⟨rfl, .inr ⟨w.heap.size + 1, 1, _, rfl, by omega, hL, by omega, by simp [maxLen], rfl, rfl⟩⟩, hT, (by rw [show (splitS [] 1).flatten = [0, 0, 0, 0, 0, 0, 0, 0] by decide]; rfl), Nat.le_refl _, (((Below.refl _ _).alloc (Nat.le_refl _) _).alloc (by simp) _).alloc (by simp; omega) _⟩

theorem Split_yes (A : Option Addr) (n cap : Nat) (bs : List UInt8) (w : World) (hr : RdB w w.heap.size A n bs) (hcap : n ≤ cap) (hcm : cap ≤ 9223372036854775807) (hn : n ≤ 4000) (ht : Nibs w) (C : Nat) (hC : cnt (n : Int) = (C : Int)) :
    Calls Tryd.prog 11 #[.slice A n cap] w fun e w' => ∃ (v : Value) (T : Nat) (cur : Array Value), e = .returned (.tuple #[v, .int .i64 0]) ∧ w'.ownsRow w.heap.size 22 1 v C ((List.range C).map (chunkV T n)) ∧ Blk w' T 5 cur ∧ cur.toList = bvs (splitS bs C).flatten ∧ w.heap.size ≤ T ∧ Below w.heap.size w w' := by
  by_cases h : 0 < n
  · exact Split_some A n cap bs w hr hcap hcm hn h ht C hC
  · obtain rfl : n = 0 := by omega
    obtain rfl : bs = [] := List.eq_nil_of_length_eq_zero hr.lenB
    obtain rfl : C = 1 := by have : cnt ((0 : Nat) : Int) = 1 := rfl; omega
    exact Split_zero A cap w hcm ht
set_option maxHeartbeats 400000 in
theorem Split_no (A : Option Addr) (n cap : Nat) (w : World) (hn : 4000 < n) (hn' : n ≤ 9223372036854775807) :
    Calls Tryd.prog 11 #[.slice A n cap] w fun e w' => e = .returned (.tuple #[.slice none 0 0, .int .i64 90]) ∧ w = w' := by
  go_enter Tryd.func11, Tryd.ntmps11
  go_wp2_with fail
  refine (FCount_any _ _ (by omega) (by omega)).mono ?_
  rintro _ _ ⟨he, rfl⟩
  rw [show cnt (n : Int) = 0 by unfold cnt; rw [if_pos (.inr (by omega))]] at he
  subst he
  go_wp2
  go_ret2
  exact ⟨rfl, rfl⟩
end Go.Proofs.YtgapkphkcncgeaaDoor
