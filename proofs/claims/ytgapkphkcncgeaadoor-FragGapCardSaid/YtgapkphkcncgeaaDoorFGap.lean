/-
  FragGap, walked; what the other statements share with it.
-/
import Derived.Test.YtgapkphkcncgeaaDoorJPlays
namespace Go.Proofs.YtgapkphkcncgeaaDoor
open Go.RowKit

def SizeOk (w : World) (e : Ending) (w' : World) : Prop := ∃ N : Nat, 1 ≤ N ∧ N ≤ 16 ∧ e = .returned (.int .i64 (N : Int)) ∧ w = w'
set_option maxHeartbeats 800000 in
theorem size_any (x : Int) (w : World) : Calls Tryd.prog 20 #[.int .i64 x] w (SizeOk w) := by
  by_cases h1 : x < 1
  · go_enter Tryd.func20, Tryd.ntmps20
    go_wp2
    go_ret
    exact ⟨1, by omega, by omega, rfl, rfl⟩
  · by_cases h2 : 16 < x
    · go_enter Tryd.func20, Tryd.ntmps20
      go_wp2
      go_ret
      exact ⟨16, by omega, by omega, rfl, rfl⟩
    · obtain ⟨N, rfl⟩ := Int.eq_ofNat_of_zero_le (show 0 ≤ x by omega)
      go_enter Tryd.func20, Tryd.ntmps20
      go_wp2
      go_ret
      exact ⟨N, by omega, by omega, rfl, rfl⟩
def ShortOk (A : Option Addr) (n cap : Nat) (w : World) (e : Ending) (w' : World) : Prop := ∃ m : Nat, m = min n 4000 ∧ e = .returned (.slice A m cap) ∧ w = w'
set_option maxHeartbeats 800000 in
theorem short_any (A : Option Addr) (n cap : Nat) (w : World) (hn : n ≤ cap) (hm : cap ≤ 9223372036854775807) : Calls Tryd.prog 25 #[.slice A n cap] w (ShortOk A n cap w) := by
  by_cases h1 : 4000 < n
  · have hI : (4000 : Int) < (n : Int) := by omega
    have hc : (4000 : Int) ≤ (cap : Int) := by omega
    go_enter Tryd.func25, Tryd.ntmps25
    go_wp2
    go_ret
    exact ⟨4000, by omega, by simp, rfl⟩
  · have hI : ¬ (4000 : Int) < (n : Int) := by omega
    go_enter Tryd.func25, Tryd.ntmps25
    go_wp2
    go_ret
    exact ⟨n, by omega, rfl, rfl⟩

/-- A list of a blob's chunks, as Split gave it: nothing of it lies in F. -/
structure Cks (w : World) (F : Nat → Prop) (b o T : Nat) (C : Nat) (bs : List UInt8) : Prop where
  bl : b < w.heap.size
  tl : T < w.heap.size
  cell : ∀ k, k < C → w.cell? ⟨b, o + k, none⟩ = some (chunkV T bs.length k)
  rd : ∀ k, k < C → RdB w w.heap.size (some ⟨T, 256 * k, none⟩) (8 + min 248 (bs.length - 248 * k)) (chunkS bs k)
  bF : ¬ F b
  tF : ¬ F T
theorem Cks.moved {w w' : World} {F F' : Nat → Prop} {b o T C : Nat} {bs : List UInt8} (h : Cks w F b o T C bs) (hm : Moved w w' F F') : Cks w' F' b o T C bs := by
  have hs := hm.2.size
  refine ⟨Nat.lt_of_lt_of_le h.bl hs, Nat.lt_of_lt_of_le h.tl hs, fun k hk => (World.cell?_of_block (hm.2.block b h.bl h.bF)).trans (h.cell k hk), fun k hk => ?_, fun hb => ?_, fun hb => ?_⟩
  · exact ((h.rd k hk).chgN hm.2 (Nat.le_refl _) (fun b' o' s' e hF => by injection e with e; injection e with e; subst e; exact h.tF hF)).more hs
  · rcases hm.1 _ hb with hb | hb
    · exact h.bF hb
    · have := h.bl; omega
  · rcases hm.1 _ hb with hb | hb
    · exact h.tF hb
    · have := h.tl; omega
/-- What Split's answer is to a later Take. -/
theorem Cks.of_split {w w' : World} {F : Nat → Prop} {v : Value} {C T n : Nat} {cur : Array Value} {bs : List UInt8} (hl : bs.length = n) (hn : n ≤ 4000) (hC : cnt (n : Int) = (C : Int)) (ho : w'.ownsRow w.heap.size 22 1 v C ((List.range C).map (chunkV T n))) (hT : Blk w' T 5 cur) (hc : cur.toList = bvs (splitS bs C).flatten) (hTw : w.heap.size ≤ T) (hF : ∀ k, F k → k < w.heap.size) :
    ∃ b o cap, v = .slice (some ⟨b, o, none⟩) C cap ∧ C ≤ cap ∧ cap ≤ maxLen ∧ Cks w' F b o T C bs := by
  obtain ⟨C', hC', c1, c2, c3, c4, c5⟩ := cnt_nat n hn
  obtain rfl : C' = C := by rw [hC] at hC'; omega
  obtain ⟨g, cap, cur', hv, hg, hB, h1, h2, h3, h4⟩ := own_parts ho (by omega)
  have hLL := LL.split (C := C') hT hc hl hn (by intro j hj; omega) (by intro j hj; omega)
  subst hv
  obtain ⟨b, o, e, hlt, hcell⟩ := (Rd.of_own ho).at_ (by omega)
  injection e with e
  injection e with e1 e2
  subst e1 e2
  refine ⟨g, 0, cap, rfl, h1, h2, hB.lt, hT.lt, fun k hk => ?_, fun k hk => ?_, fun h => by have := hF g h; omega, fun h => by have := hF T h; omega⟩
  · rw [hl]; exact hcell k _ (by simp [hk])
  · obtain ⟨A2, cap2, e, _, _, hr⟩ := hLL.2 k (chunkV T n k) (chunkS bs k) (by simp [hk]) (splitS_at hk)
    unfold chunkV at e
    injection e with e1 e2 e3
    subst e1
    rw [hl]
    rw [← e2] at hr
    exact hr

/-- The program's joiner alone. -/
structure Alone (w w0 : World) (F : Nat → Prop) (N J : Nat) (st : JSt) : Prop where
  p : PJx w F N J st
  ok : PartsOk N st
  fw : ∀ k, F k → w0.heap.size ≤ k
  below : Below w0.heap.size w0 w
theorem Alone.moved {w w' w0 : World} {F F' : Nat → Prop} {N J : Nat} {st st' : JSt} (h : Alone w w0 F N J st) (hp : PJx w' F' N J st') (hok : PartsOk N st') (hm : Moved w w' F F') : Alone w' w0 F' N J st' := by
  have hs := h.below.size
  exact ⟨hp, hok, fun k hk => by
    rcases hm.1 k hk with h1 | h1
    · exact h.fw k h1
    · omega, h.below.trans (hm.2.to_below hs h.fw)⟩
theorem Alone.over {w w' w0 : World} {F : Nat → Prop} {N J : Nat} {st : JSt} (h : Alone w w0 F N J st) (hb : Below w.heap.size w w') : Alone w' w0 F N J st := h.moved (h.p.below hb) h.ok (Moved.of_below _ hb)
theorem Alone.nibs {w w0 : World} {F : Nat → Prop} {N J : Nat} {st : JSt} (h : Alone w w0 F N J st) (ht : Nibs w0) : Nibs w ∧ ¬ F 0 :=
  ⟨fun k hk => (h.below.cell (p := ⟨0, k, none⟩) ht.lt).trans (ht k hk), fun hF => by have := h.fw _ hF; have := ht.lt; omega⟩
/-- One chunk of a list that Split gave, taken. -/
theorem ck_take {w w0 : World} {F : Nat → Prop} {N J b o T C k : Nat} {st : JSt} {bs : List UInt8} (h : Alone w w0 F N J st) (ht : Nibs w0) (hN : N ≤ 16) (hck : Cks w F b o T C bs) (hk : k < C) (sd : Int) :
    Calls Tryd.prog 21 #[.pointer (some ⟨J, 0, none⟩), .int .i64 sd, chunkV T bs.length k] w (TakesP w F N J st sd (chunkS bs k)) :=
  PTake_any _ _ _ J N F st (chunkS bs k) sd w h.p hN h.ok (hck.rd k hk) (Nat.le_refl _) (by omega) (fun _ b' o' s' e hF => by injection e with e; injection e with e; subst e; exact hck.tF hF) (h.nibs ht).1 (h.nibs ht).2
/-- What a Take of known outcome leaves. -/
theorem TakesP.known {w w' w0 : World} {F : Nat → Prop} {N J : Nat} {st st' : JSt} {sd : Int} {c b : List UInt8} {ok : Bool} {er : Nat} {e : Ending} (ht : TakesP w F N J st sd c e w') (h : Alone w w0 F N J st) (hS : takeS N st sd c = ((b, ok, er), st')) :
    ∃ u F', e = .returned (.tuple #[u, .bool ok, .int .i64 (er : Int)]) ∧ RetP w w' F F' u b ok ∧ Alone w' w0 F' N J st' ∧ Moved w w' F F' := by
  obtain ⟨u, b', ok', er', st2, F', h1, h2, h3, h4, h5⟩ := ht
  rw [hS] at h1
  simp only [Prod.mk.injEq] at h1
  obtain ⟨⟨rfl, rfl, rfl⟩, rfl⟩ := h1
  have hok := takeS_ok h.ok sd c
  rw [hS] at hok
  exact ⟨u, F', h2, h3, h.moved h4 hok h5, h5⟩
theorem tmod_bd (x : Int) (C : Nat) (hC : 0 < C) : -(C : Int) < x.tmod (C : Int) ∧ x.tmod (C : Int) < (C : Int) := by
  have h1 := Int.natAbs_tmod x (C : Int)
  have h2 : x.natAbs % (C : Int).natAbs < C := by rw [Int.natAbs_natCast]; exact Nat.mod_lt _ hC
  omega

set_option maxRecDepth 100000 in
set_option maxHeartbeats 6400000 in
theorem FragGap_walk (x0 x1 : Int) (A2 : Option Addr) (n2 k2 : Nat) (bs2 : List UInt8) (x3 : Int) (w : World) (h0 : -9223372036854775808 ≤ x0) (h0' : x0 ≤ 9223372036854775807) (h1 : -9223372036854775808 ≤ x1) (h1' : x1 ≤ 9223372036854775807) (hn2 : n2 ≤ k2) (hk2 : k2 ≤ 140737488351232) (hr2 : RdB w w.heap.size A2 n2 bs2) (h3 : -9223372036854775808 ≤ x3) (h3' : x3 ≤ 9223372036854775807) (ht : Nibs w) :
    Calls Tryd.prog 7 #[.int .i64 x0, .int .i64 x1, .slice A2 n2 k2, .int .i64 x3] w fun e w' => e = .returned (.bool true) ∧ Below w.heap.size w w' := by
  go_enter Tryd.func7, Tryd.ntmps7
  go_wp2_with fail
  refine (size_any _ _).mono ?_
  rintro _ _ ⟨N, hN1, hN, rfl, rfl⟩
  go_wp2_with fail
  refine (PNew_yes N w hN1 hN).mono ?_
  rintro _ w1 ⟨J, F, rfl, hp1, hF1, hb1⟩
  have hs1 := hb1.size
  have HF1 := Lib.hid hF1
  clear hF1
  go_wp2_with fail
  refine (short_any A2 n2 k2 w1 hn2 (by omega)).mono ?_
  rintro _ _ ⟨m, hm, rfl, rfl⟩
  have hm4 : m ≤ 4000 := by omega
  have hmn : m ≤ n2 := by omega
  have hrm := (hr2.below hb1).takeB hmn
  have hr0 := hr2.takeB hmn
  generalize bs2.take m = bs at hrm hr0
  have HR0 := Lib.hid hr0
  clear hr0
  have hlb := hrm.lenB
  have HLB := Lib.hid hlb
  clear hm hlb
  have ht1 : Nibs w1 := ht.below hb1
  obtain ⟨C, hC, c1, c2, c3, c4, c5⟩ := cnt_nat m hm4
  have HC := Lib.hid hC
  clear hC
  go_wp2_with fail
  refine (Split_yes _ m k2 bs w1 (hrm.more hs1) (by omega) (by omega) hm4 ht1 C HC.out).mono ?_
  rintro _ w2 ⟨v, T, curT, rfl, hol, hT, hcT, hgT, hb2⟩
  obtain ⟨b, o, capl, rfl, hcl1, hcl2, hck⟩ := Cks.of_split HLB.out hm4 HC.out hol hT hcT hgT hp1.1
  have hal : Alone w2 w F N J (fun _ => []) := ⟨hp1.below hb2, fun s _ => Part.nil_, HF1.out, hb1.trans (hb2.mono hs1)⟩
  have HCK := Lib.hid hck
  have HAL := Lib.hid hal
  have hb02 := hal.below
  have hrb := hrm.below (hb2.mono hs1)
  clear hol hT hcT hgT hck hal hp1 hb2 hr2 hb1
  have hcl3 : capl ≤ 9223372036854775807 := by simp only [maxLen] at hcl2; omega
  have i0 : ((C : Int) == 0) = false := by simp; omega
  have k0 : 0 < C := by omega
  by_cases hx : x1 < 0 ∨ (N : Int) ≤ x1
  · have hS := takeS_arg (st := fun _ => []) (N := N) (c := chunkS bs 0) hx
    have HS := Lib.hid hS
    have hcell : w2.cell? ⟨b, o, none⟩ = some (chunkV T m 0) := by have := HCK.out.cell 0 k0; rw [HLB.out] at this; exact this
    have HK := Lib.hid (ck_take HAL.out ht hN HCK.out k0 x1)
    rw [HLB.out] at HK
    clear hS
    rcases hx with hx | hx
    · go_wp2_with fail
      refine HK.out.mono ?_
      intro e3 w3 hT
      obtain ⟨u, F', rfl, hret, hal3, hm3⟩ := hT.known HAL.out HS.out
      have hb3 := hal3.below
      go_wp2
      go_ret
      exact ⟨rfl, hb3⟩
    · have hx' : ¬ x1 < 0 := by omega
      go_wp2_with fail
      refine HK.out.mono ?_
      intro e3 w3 hT
      obtain ⟨u, F', rfl, hret, hal3, hm3⟩ := hT.known HAL.out HS.out
      have hb3 := hal3.below
      go_wp2
      go_ret
      exact ⟨rfl, hb3⟩
  · obtain ⟨s, rfl⟩ := Int.eq_ofNat_of_zero_le (show 0 ≤ x1 by omega)
    have hs1 : (s : Int) < (N : Int) := by omega
    have hs2 : ¬ (s : Int) < 0 := by omega
    have hrb0 : RdB w w.heap.size A2 m bs := HR0.out
    by_cases hC1 : C = 1
    · have hC2 : ¬ (1 : Int) < (C : Int) := by omega
      clear hC1
      go_wp2_with fail
      go_loopw [22, 23, 24, 25] (fun i _ _ _ wr => ∃ (q : Nat) (F' : Nat → Prop) (st : JSt), q ≤ C ∧ i = .int .i64 (q : Int) ∧ Hid (Alone wr w F' N J st ∧ Cks wr F' b o T C bs ∧ (q = 0 ∨ q = C ∨ st s = splitS bs q)) ∧ Below w.heap.size w wr) (fun i _ _ _ _ => C - (intOf i).toNat)
      case atStart => exact ⟨0, F, _, by omega, rfl, ⟨HAL.out, HCK.out, .inl rfl⟩, hb02⟩
      case round =>
        obtain ⟨j, F3, st3, hj, rfl, HY, hbr3⟩ := hrel
        by_cases hltj : j < C
        · have hltI : (j : Int) < (C : Int) := by omega
          have hcell : wr.cell? ⟨b, o + j, none⟩ = some (chunkV T m j) := by have := HY.out.2.1.cell j hltj; rw [HLB.out] at this; exact this
          have HK := Lib.hid (ck_take HY.out.1 ht hN HY.out.2.1 hltj (s : Int))
          rw [HLB.out] at HK
          have hst : j = 0 ∨ st3 s = splitS bs j := by
            rcases HY.out.2.2 with h | h | h
            · exact .inl h
            · omega
            · exact .inr h
          by_cases hl : j + 1 = C
          · have e1 : ((j : Int) == (C : Int) - 1) = true := by simp; omega
            have HJK := Lib.hid hl
            have hS := Lib.hid (feed_last (st := st3) (s := s) (N := N) (bs := bs) (k := j) (by omega) (by rw [HLB.out]; exact hm4) (by rw [HLB.out]; omega) (by rw [HLB.out]; omega) hst)
            clear hl hst
            go_wp2_with fail
            refine HK.out.mono ?_
            intro e3 w3 hT
            obtain ⟨u, F2, rfl, hret, hal3, hm3⟩ := hT.known HY.out.1 hS.out
            have hb3 := hal3.below
            obtain ⟨_, g', cur', rfl, hg1, hg2, _, _⟩ := hret.resolve_left (fun h => by cases h.1)
            have hrx : RdB w3 w3.heap.size (some ⟨g', 0, none⟩) bs.length bs := ⟨by rw [bvs_length]; omega, fun _ => ⟨g', 0, rfl, hg1.lt, fun i x hx => by
              rw [Nat.zero_add, hg1.cell, ← Array.getElem?_toList, hg2]
              exact hx⟩⟩
            have hrb3 : RdB w3 w.heap.size A2 m bs := hrb0.below hb3
            have HN : Hid (Alone w3 w F2 N J (upd st3 s []) ∧ Cks w3 F2 b o T C bs) := ⟨hal3, HY.out.2.1.moved hm3⟩
            clear hal3 hm3 hcell hg1 hg2
            go_wp2_with (go_at_call 16; refine (same_yes _ _ _ _ _ _ _ _ bs _ hrx hrb3).mono ?_; rintro _ _ ⟨rfl, rfl⟩)
            go_roundw
            case rel => first | exact ⟨j + 1, F2, _, by omega, by go_num, ⟨HN.out.1, HN.out.2, .inr (.inl HJK.out)⟩, hb3⟩ | ((repeat apply Exists.intro); refine And.symm ⟨?_, ?_⟩; (focus first | rfl | (simp only [show (N ≤ s) = False from eq_false (by omega), decide_false, Bool.or_false]; try rfl)); exact ⟨j + 1, F2, _, by omega, by go_num, ⟨HN.out.1, HN.out.2, .inr (.inl HJK.out)⟩, hb3⟩)
            case measure => simp [intOf] <;> omega
          · have e1 : ((j : Int) == (C : Int) - 1) = false := by simp; omega
            have hS := Lib.hid (feed_hold (st := st3) (s := s) (N := N) (bs := bs) (k := j) (by omega) (by rw [HLB.out]; exact hm4) (by rw [HLB.out]; omega) hst)
            clear hl hst
            go_wp2_with fail
            refine HK.out.mono ?_
            intro e3 w3 hT
            obtain ⟨u, F2, rfl, hret, hal3, hm3⟩ := hT.known HY.out.1 hS.out
            have hb3 := hal3.below
            have HN : Hid (Alone w3 w F2 N J (upd st3 s (splitS bs (j + 1))) ∧ Cks w3 F2 b o T C bs ∧ upd st3 s (splitS bs (j + 1)) s = splitS bs (j + 1)) := ⟨hal3, HY.out.2.1.moved hm3, upd_same _ _ _⟩
            clear hret hal3 hm3 hcell
            go_wp2
            go_roundw
            case rel => first | exact ⟨j + 1, F2, _, by omega, by go_num, ⟨HN.out.1, HN.out.2.1, .inr (.inr HN.out.2.2)⟩, hb3⟩ | ((repeat apply Exists.intro); refine And.symm ⟨?_, ?_⟩; (focus first | rfl | (simp only [show (N ≤ s) = False from eq_false (by omega), decide_false, Bool.or_false]; try rfl)); exact ⟨j + 1, F2, _, by omega, by go_num, ⟨HN.out.1, HN.out.2.1, .inr (.inr HN.out.2.2)⟩, hb3⟩)
            case measure => simp [intOf] <;> omega
        · go_wp2
          go_ret
          exact ⟨rfl, hbr3⟩
    · have hC2 : (1 : Int) < (C : Int) := by omega
      obtain ⟨t1, t2⟩ := tmod_bd x3 C k0
      by_cases hneg : x3.tmod (C : Int) < 0
      · obtain ⟨g, hg⟩ : ∃ g : Nat, x3.tmod (C : Int) + (C : Int) = (g : Int) := ⟨(x3.tmod (C : Int) + (C : Int)).toNat, by omega⟩
        have hgC : g < C := by omega
        go_wp2_with fail
        have HG := Lib.hid hg
        clear hg t1 t2 hneg
        go_loopw [18, 19, 20, 21] (fun i _ _ _ wr => ∃ (k : Nat) (F' : Nat → Prop) (st : JSt), k ≤ C ∧ i = .int .i64 (k : Int) ∧ Hid (Alone wr w F' N J st ∧ Cks wr F' b o T C bs ∧ st s = splitS bs (min k g)) ∧ Below w.heap.size w wr) (fun i _ _ _ _ => C - (intOf i).toNat)
        case atStart => exact ⟨0, F, _, by omega, rfl, ⟨HAL.out, HCK.out, by rw [Nat.zero_min]; rfl⟩, hb02⟩
        case round =>
          obtain ⟨k, F', st, hk, rfl, HX, hbr⟩ := hrel
          by_cases hlt : k < C
          · have hltI : (k : Int) < (C : Int) := by omega
            have hcell : wr.cell? ⟨b, o + k, none⟩ = some (chunkV T m k) := by have := HX.out.2.1.cell k hlt; rw [HLB.out] at this; exact this
            have HK := Lib.hid (ck_take HX.out.1 ht hN HX.out.2.1 hlt (s : Int))
            rw [HLB.out] at HK
            by_cases hkg : k = g
            · have e1 : ((k : Int) == (g : Int)) = true := by simp; omega
              have HN := Lib.hid (show st s = splitS bs (min (k + 1) g) by rw [HX.out.2.2]; congr 1; omega)
              clear hkg
              go_wp2
              go_roundw
              case rel => first | exact ⟨k + 1, F', st, by omega, by go_num, ⟨HX.out.1, HX.out.2.1, HN.out⟩, hbr⟩ | ((repeat apply Exists.intro); refine And.symm ⟨?_, ?_⟩; (focus first | rfl | (simp only [show (N ≤ s) = False from eq_false (by omega), decide_false, Bool.or_false]; try rfl)); exact ⟨k + 1, F', st, by omega, by go_num, ⟨HX.out.1, HX.out.2.1, HN.out⟩, hbr⟩)
              case measure => simp [intOf] <;> omega
            · have e1 : ((k : Int) == (g : Int)) = false := by simp; omega
              by_cases hlg : k < g
              · have e2 : (k : Int) < (g : Int) := by omega
                have hS := Lib.hid (feed_hold (st := st) (s := s) (N := N) (bs := bs) (k := k) (by omega) (by rw [HLB.out]; exact hm4) (by rw [HLB.out]; omega) (.inr (by rw [HX.out.2.2]; congr 1; omega)))
                clear hkg hlg
                go_wp2_with fail
                refine HK.out.mono ?_
                intro e3 w3 hT
                obtain ⟨u, F2, rfl, hret, hal3, hm3⟩ := hT.known HX.out.1 hS.out
                have hb3 := hal3.below
                have hu : u = .slice none 0 0 := by
                  rcases hret with ⟨_, h, _⟩ | ⟨h, _⟩
                  · exact h
                  · cases h
                subst hu
                have HN : Hid (Alone w3 w F2 N J (upd st s (splitS bs (k + 1))) ∧ Cks w3 F2 b o T C bs ∧ upd st s (splitS bs (k + 1)) s = splitS bs (min (k + 1) g)) := ⟨hal3, HX.out.2.1.moved hm3, by rw [upd_same]; congr 1; omega⟩
                clear hret hal3 hm3 hcell
                go_wp2
                go_roundw
                case rel => first | exact ⟨k + 1, F2, _, by omega, by go_num, HN.out, hb3⟩ | ((repeat apply Exists.intro); refine And.symm ⟨?_, ?_⟩; (focus first | rfl | (simp only [show (N ≤ s) = False from eq_false (by omega), decide_false, Bool.or_false]; try rfl)); exact ⟨k + 1, F2, _, by omega, by go_num, HN.out, hb3⟩)
                case measure => simp [intOf] <;> omega
              · have e2 : ¬ (k : Int) < (g : Int) := by omega
                have hS := Lib.hid (feed_bad (st := st) (s := s) (N := N) (bs := bs) (k := k) (j := g) (by omega) (by rw [HLB.out]; exact hm4) (by rw [HLB.out]; omega) (by omega) (by omega) (by rw [HX.out.2.2]; congr 1; omega))
                have HN0 := Lib.hid (show st s = splitS bs (min (k + 1) g) by rw [HX.out.2.2]; congr 1; omega)
                clear hkg hlg
                go_wp2_with fail
                refine HK.out.mono ?_
                intro e3 w3 hT
                obtain ⟨u, F2, rfl, hret, hal3, hm3⟩ := hT.known HX.out.1 hS.out
                have hb3 := hal3.below
                have hu : u = .slice none 0 0 := by
                  rcases hret with ⟨_, h, _⟩ | ⟨h, _⟩
                  · exact h
                  · cases h
                subst hu
                have HN : Hid (Alone w3 w F2 N J st ∧ Cks w3 F2 b o T C bs ∧ st s = splitS bs (min (k + 1) g)) := ⟨hal3, HX.out.2.1.moved hm3, HN0.out⟩
                clear hret hal3 hm3 hcell
                go_wp2
                go_roundw
                case rel => first | exact ⟨k + 1, F2, _, by omega, by go_num, HN.out, hb3⟩ | ((repeat apply Exists.intro); refine And.symm ⟨?_, ?_⟩; (focus first | rfl | (simp only [show (N ≤ s) = False from eq_false (by omega), decide_false, Bool.or_false]; try rfl)); exact ⟨k + 1, F2, _, by omega, by go_num, HN.out, hb3⟩)
                case measure => simp [intOf] <;> omega
          · obtain rfl : k = C := by omega
            have HX2 : Hid (Alone wr w F' N J st ∧ Cks wr F' b o T k bs) := ⟨HX.out.1, HX.out.2.1⟩
            clear HX
            go_wp2_with fail
            go_loopw [22, 23, 24, 25] (fun i _ _ _ wr => ∃ (q : Nat) (F' : Nat → Prop) (st : JSt), q ≤ k ∧ i = .int .i64 (q : Int) ∧ Hid (Alone wr w F' N J st ∧ Cks wr F' b o T k bs ∧ (q = 0 ∨ q = k ∨ st s = splitS bs q)) ∧ Below w.heap.size w wr) (fun i _ _ _ _ => k - (intOf i).toNat)
            case atStart => exact ⟨0, F', st, by omega, rfl, ⟨HX2.out.1, HX2.out.2, .inl rfl⟩, hbr⟩
            case round =>
              obtain ⟨j, F3, st3, hj, rfl, HY, hbr3⟩ := hrel
              by_cases hltj : j < k
              · have hltI : (j : Int) < (k : Int) := by omega
                have hcell : wr.cell? ⟨b, o + j, none⟩ = some (chunkV T m j) := by have := HY.out.2.1.cell j hltj; rw [HLB.out] at this; exact this
                have HK := Lib.hid (ck_take HY.out.1 ht hN HY.out.2.1 hltj (s : Int))
                rw [HLB.out] at HK
                have hst : j = 0 ∨ st3 s = splitS bs j := by
                  rcases HY.out.2.2 with h | h | h
                  · exact .inl h
                  · omega
                  · exact .inr h
                by_cases hl : j + 1 = k
                · have e1 : ((j : Int) == (k : Int) - 1) = true := by simp; omega
                  have HJK := Lib.hid hl
                  have hS := Lib.hid (feed_last (st := st3) (s := s) (N := N) (bs := bs) (k := j) (by omega) (by rw [HLB.out]; exact hm4) (by rw [HLB.out]; omega) (by rw [HLB.out]; omega) hst)
                  clear hl hst
                  go_wp2_with fail
                  refine HK.out.mono ?_
                  intro e3 w3 hT
                  obtain ⟨u, F2, rfl, hret, hal3, hm3⟩ := hT.known HY.out.1 hS.out
                  have hb3 := hal3.below
                  obtain ⟨_, g', cur', rfl, hg1, hg2, _, _⟩ := hret.resolve_left (fun h => by cases h.1)
                  have hrx : RdB w3 w3.heap.size (some ⟨g', 0, none⟩) bs.length bs := ⟨by rw [bvs_length]; omega, fun _ => ⟨g', 0, rfl, hg1.lt, fun i x hx => by
                    rw [Nat.zero_add, hg1.cell, ← Array.getElem?_toList, hg2]
                    exact hx⟩⟩
                  have hrb3 : RdB w3 w.heap.size A2 m bs := hrb0.below hb3
                  have HN : Hid (Alone w3 w F2 N J (upd st3 s []) ∧ Cks w3 F2 b o T k bs) := ⟨hal3, HY.out.2.1.moved hm3⟩
                  clear hal3 hm3 hcell hg1 hg2
                  go_wp2_with (go_at_call 16; refine (same_yes _ _ _ _ _ _ _ _ bs _ hrx hrb3).mono ?_; rintro _ _ ⟨rfl, rfl⟩)
                  go_roundw
                  case rel => first | exact ⟨j + 1, F2, _, by omega, by go_num, ⟨HN.out.1, HN.out.2, .inr (.inl HJK.out)⟩, hb3⟩ | ((repeat apply Exists.intro); refine And.symm ⟨?_, ?_⟩; (focus first | rfl | (simp only [show (N ≤ s) = False from eq_false (by omega), decide_false, Bool.or_false]; try rfl)); exact ⟨j + 1, F2, _, by omega, by go_num, ⟨HN.out.1, HN.out.2, .inr (.inl HJK.out)⟩, hb3⟩)
                  case measure => simp [intOf] <;> omega
                · have e1 : ((j : Int) == (k : Int) - 1) = false := by simp; omega
                  have hS := Lib.hid (feed_hold (st := st3) (s := s) (N := N) (bs := bs) (k := j) (by omega) (by rw [HLB.out]; exact hm4) (by rw [HLB.out]; omega) hst)
                  clear hl hst
                  go_wp2_with fail
                  refine HK.out.mono ?_
                  intro e3 w3 hT
                  obtain ⟨u, F2, rfl, hret, hal3, hm3⟩ := hT.known HY.out.1 hS.out
                  have hb3 := hal3.below
                  have HN : Hid (Alone w3 w F2 N J (upd st3 s (splitS bs (j + 1))) ∧ Cks w3 F2 b o T k bs ∧ upd st3 s (splitS bs (j + 1)) s = splitS bs (j + 1)) := ⟨hal3, HY.out.2.1.moved hm3, upd_same _ _ _⟩
                  clear hret hal3 hm3 hcell
                  go_wp2
                  go_roundw
                  case rel => first | exact ⟨j + 1, F2, _, by omega, by go_num, ⟨HN.out.1, HN.out.2.1, .inr (.inr HN.out.2.2)⟩, hb3⟩ | ((repeat apply Exists.intro); refine And.symm ⟨?_, ?_⟩; (focus first | rfl | (simp only [show (N ≤ s) = False from eq_false (by omega), decide_false, Bool.or_false]; try rfl)); exact ⟨j + 1, F2, _, by omega, by go_num, ⟨HN.out.1, HN.out.2.1, .inr (.inr HN.out.2.2)⟩, hb3⟩)
                  case measure => simp [intOf] <;> omega
              · go_wp2
                go_ret
                exact ⟨rfl, hbr3⟩
      · obtain ⟨g, hg⟩ : ∃ g : Nat, x3.tmod (C : Int) = (g : Int) := ⟨(x3.tmod (C : Int)).toNat, by omega⟩
        have hgC : g < C := by omega
        go_wp2_with fail
        have HG := Lib.hid hg
        clear hg t1 t2 hneg
        go_loopw [18, 19, 20, 21] (fun i _ _ _ wr => ∃ (k : Nat) (F' : Nat → Prop) (st : JSt), k ≤ C ∧ i = .int .i64 (k : Int) ∧ Hid (Alone wr w F' N J st ∧ Cks wr F' b o T C bs ∧ st s = splitS bs (min k g)) ∧ Below w.heap.size w wr) (fun i _ _ _ _ => C - (intOf i).toNat)
        case atStart => exact ⟨0, F, _, by omega, rfl, ⟨HAL.out, HCK.out, by rw [Nat.zero_min]; rfl⟩, hb02⟩
        case round =>
          obtain ⟨k, F', st, hk, rfl, HX, hbr⟩ := hrel
          by_cases hlt : k < C
          · have hltI : (k : Int) < (C : Int) := by omega
            have hcell : wr.cell? ⟨b, o + k, none⟩ = some (chunkV T m k) := by have := HX.out.2.1.cell k hlt; rw [HLB.out] at this; exact this
            have HK := Lib.hid (ck_take HX.out.1 ht hN HX.out.2.1 hlt (s : Int))
            rw [HLB.out] at HK
            by_cases hkg : k = g
            · have e1 : ((k : Int) == (g : Int)) = true := by simp; omega
              have HN := Lib.hid (show st s = splitS bs (min (k + 1) g) by rw [HX.out.2.2]; congr 1; omega)
              clear hkg
              go_wp2
              go_roundw
              case rel => first | exact ⟨k + 1, F', st, by omega, by go_num, ⟨HX.out.1, HX.out.2.1, HN.out⟩, hbr⟩ | ((repeat apply Exists.intro); refine And.symm ⟨?_, ?_⟩; (focus first | rfl | (simp only [show (N ≤ s) = False from eq_false (by omega), decide_false, Bool.or_false]; try rfl)); exact ⟨k + 1, F', st, by omega, by go_num, ⟨HX.out.1, HX.out.2.1, HN.out⟩, hbr⟩)
              case measure => simp [intOf] <;> omega
            · have e1 : ((k : Int) == (g : Int)) = false := by simp; omega
              by_cases hlg : k < g
              · have e2 : (k : Int) < (g : Int) := by omega
                have hS := Lib.hid (feed_hold (st := st) (s := s) (N := N) (bs := bs) (k := k) (by omega) (by rw [HLB.out]; exact hm4) (by rw [HLB.out]; omega) (.inr (by rw [HX.out.2.2]; congr 1; omega)))
                clear hkg hlg
                go_wp2_with fail
                refine HK.out.mono ?_
                intro e3 w3 hT
                obtain ⟨u, F2, rfl, hret, hal3, hm3⟩ := hT.known HX.out.1 hS.out
                have hb3 := hal3.below
                have hu : u = .slice none 0 0 := by
                  rcases hret with ⟨_, h, _⟩ | ⟨h, _⟩
                  · exact h
                  · cases h
                subst hu
                have HN : Hid (Alone w3 w F2 N J (upd st s (splitS bs (k + 1))) ∧ Cks w3 F2 b o T C bs ∧ upd st s (splitS bs (k + 1)) s = splitS bs (min (k + 1) g)) := ⟨hal3, HX.out.2.1.moved hm3, by rw [upd_same]; congr 1; omega⟩
                clear hret hal3 hm3 hcell
                go_wp2
                go_roundw
                case rel => first | exact ⟨k + 1, F2, _, by omega, by go_num, HN.out, hb3⟩ | ((repeat apply Exists.intro); refine And.symm ⟨?_, ?_⟩; (focus first | rfl | (simp only [show (N ≤ s) = False from eq_false (by omega), decide_false, Bool.or_false]; try rfl)); exact ⟨k + 1, F2, _, by omega, by go_num, HN.out, hb3⟩)
                case measure => simp [intOf] <;> omega
              · have e2 : ¬ (k : Int) < (g : Int) := by omega
                have hS := Lib.hid (feed_bad (st := st) (s := s) (N := N) (bs := bs) (k := k) (j := g) (by omega) (by rw [HLB.out]; exact hm4) (by rw [HLB.out]; omega) (by omega) (by omega) (by rw [HX.out.2.2]; congr 1; omega))
                have HN0 := Lib.hid (show st s = splitS bs (min (k + 1) g) by rw [HX.out.2.2]; congr 1; omega)
                clear hkg hlg
                go_wp2_with fail
                refine HK.out.mono ?_
                intro e3 w3 hT
                obtain ⟨u, F2, rfl, hret, hal3, hm3⟩ := hT.known HX.out.1 hS.out
                have hb3 := hal3.below
                have hu : u = .slice none 0 0 := by
                  rcases hret with ⟨_, h, _⟩ | ⟨h, _⟩
                  · exact h
                  · cases h
                subst hu
                have HN : Hid (Alone w3 w F2 N J st ∧ Cks w3 F2 b o T C bs ∧ st s = splitS bs (min (k + 1) g)) := ⟨hal3, HX.out.2.1.moved hm3, HN0.out⟩
                clear hret hal3 hm3 hcell
                go_wp2
                go_roundw
                case rel => first | exact ⟨k + 1, F2, _, by omega, by go_num, HN.out, hb3⟩ | ((repeat apply Exists.intro); refine And.symm ⟨?_, ?_⟩; (focus first | rfl | (simp only [show (N ≤ s) = False from eq_false (by omega), decide_false, Bool.or_false]; try rfl)); exact ⟨k + 1, F2, _, by omega, by go_num, HN.out, hb3⟩)
                case measure => simp [intOf] <;> omega
          · obtain rfl : k = C := by omega
            have HX2 : Hid (Alone wr w F' N J st ∧ Cks wr F' b o T k bs) := ⟨HX.out.1, HX.out.2.1⟩
            clear HX
            go_wp2_with fail
            go_loopw [22, 23, 24, 25] (fun i _ _ _ wr => ∃ (q : Nat) (F' : Nat → Prop) (st : JSt), q ≤ k ∧ i = .int .i64 (q : Int) ∧ Hid (Alone wr w F' N J st ∧ Cks wr F' b o T k bs ∧ (q = 0 ∨ q = k ∨ st s = splitS bs q)) ∧ Below w.heap.size w wr) (fun i _ _ _ _ => k - (intOf i).toNat)
            case atStart => exact ⟨0, F', st, by omega, rfl, ⟨HX2.out.1, HX2.out.2, .inl rfl⟩, hbr⟩
            case round =>
              obtain ⟨j, F3, st3, hj, rfl, HY, hbr3⟩ := hrel
              by_cases hltj : j < k
              · have hltI : (j : Int) < (k : Int) := by omega
                have hcell : wr.cell? ⟨b, o + j, none⟩ = some (chunkV T m j) := by have := HY.out.2.1.cell j hltj; rw [HLB.out] at this; exact this
                have HK := Lib.hid (ck_take HY.out.1 ht hN HY.out.2.1 hltj (s : Int))
                rw [HLB.out] at HK
                have hst : j = 0 ∨ st3 s = splitS bs j := by
                  rcases HY.out.2.2 with h | h | h
                  · exact .inl h
                  · omega
                  · exact .inr h
                by_cases hl : j + 1 = k
                · have e1 : ((j : Int) == (k : Int) - 1) = true := by simp; omega
                  have HJK := Lib.hid hl
                  have hS := Lib.hid (feed_last (st := st3) (s := s) (N := N) (bs := bs) (k := j) (by omega) (by rw [HLB.out]; exact hm4) (by rw [HLB.out]; omega) (by rw [HLB.out]; omega) hst)
                  clear hl hst
                  go_wp2_with fail
                  refine HK.out.mono ?_
                  intro e3 w3 hT
                  obtain ⟨u, F2, rfl, hret, hal3, hm3⟩ := hT.known HY.out.1 hS.out
                  have hb3 := hal3.below
                  obtain ⟨_, g', cur', rfl, hg1, hg2, _, _⟩ := hret.resolve_left (fun h => by cases h.1)
                  have hrx : RdB w3 w3.heap.size (some ⟨g', 0, none⟩) bs.length bs := ⟨by rw [bvs_length]; omega, fun _ => ⟨g', 0, rfl, hg1.lt, fun i x hx => by
                    rw [Nat.zero_add, hg1.cell, ← Array.getElem?_toList, hg2]
                    exact hx⟩⟩
                  have hrb3 : RdB w3 w.heap.size A2 m bs := hrb0.below hb3
                  have HN : Hid (Alone w3 w F2 N J (upd st3 s []) ∧ Cks w3 F2 b o T k bs) := ⟨hal3, HY.out.2.1.moved hm3⟩
                  clear hal3 hm3 hcell hg1 hg2
                  go_wp2_with (go_at_call 16; refine (same_yes _ _ _ _ _ _ _ _ bs _ hrx hrb3).mono ?_; rintro _ _ ⟨rfl, rfl⟩)
                  go_roundw
                  case rel => first | exact ⟨j + 1, F2, _, by omega, by go_num, ⟨HN.out.1, HN.out.2, .inr (.inl HJK.out)⟩, hb3⟩ | ((repeat apply Exists.intro); refine And.symm ⟨?_, ?_⟩; (focus first | rfl | (simp only [show (N ≤ s) = False from eq_false (by omega), decide_false, Bool.or_false]; try rfl)); exact ⟨j + 1, F2, _, by omega, by go_num, ⟨HN.out.1, HN.out.2, .inr (.inl HJK.out)⟩, hb3⟩)
                  case measure => simp [intOf] <;> omega
                · have e1 : ((j : Int) == (k : Int) - 1) = false := by simp; omega
                  have hS := Lib.hid (feed_hold (st := st3) (s := s) (N := N) (bs := bs) (k := j) (by omega) (by rw [HLB.out]; exact hm4) (by rw [HLB.out]; omega) hst)
                  clear hl hst
                  go_wp2_with fail
                  refine HK.out.mono ?_
                  intro e3 w3 hT
                  obtain ⟨u, F2, rfl, hret, hal3, hm3⟩ := hT.known HY.out.1 hS.out
                  have hb3 := hal3.below
                  have HN : Hid (Alone w3 w F2 N J (upd st3 s (splitS bs (j + 1))) ∧ Cks w3 F2 b o T k bs ∧ upd st3 s (splitS bs (j + 1)) s = splitS bs (j + 1)) := ⟨hal3, HY.out.2.1.moved hm3, upd_same _ _ _⟩
                  clear hret hal3 hm3 hcell
                  go_wp2
                  go_roundw
                  case rel => first | exact ⟨j + 1, F2, _, by omega, by go_num, ⟨HN.out.1, HN.out.2.1, .inr (.inr HN.out.2.2)⟩, hb3⟩ | ((repeat apply Exists.intro); refine And.symm ⟨?_, ?_⟩; (focus first | rfl | (simp only [show (N ≤ s) = False from eq_false (by omega), decide_false, Bool.or_false]; try rfl)); exact ⟨j + 1, F2, _, by omega, by go_num, ⟨HN.out.1, HN.out.2.1, .inr (.inr HN.out.2.2)⟩, hb3⟩)
                  case measure => simp [intOf] <;> omega
              · go_wp2
                go_ret
                exact ⟨rfl, hbr3⟩
end Go.Proofs.YtgapkphkcncgeaaDoor
