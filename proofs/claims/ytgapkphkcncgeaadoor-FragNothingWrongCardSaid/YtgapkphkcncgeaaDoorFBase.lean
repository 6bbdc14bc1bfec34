/-
  What the statements on a joiner alone share: size, short, a blob's chunks, a joiner of the program alone.
-/
import Derived.Test.YtgapkphkcncgeaaDoorOps
namespace Go.Proofs.YtgapkphkcncgeaaDoor
open Go.RowKit

def SizeOk (w : World) (e : Ending) (w' : World) : Prop := ∃ N : Nat, 1 ≤ N ∧ N ≤ 16 ∧ e = .returned (.int .i64 (N : Int)) ∧ w = w'
set_option maxHeartbeats 800000 in
theorem size_any (x : Int) (w : World) : Calls Tryd.prog 20 #[.int .i64 x] w (SizeOk w) := by
  by_cases h1 : x < 1
  · go_enter Tryd.func20, Tryd.ntmps20
    go_wp2
    go_ret
    exact ⟨1, by omega, by omega, rfl, rfl⟩
  · by_cases h2 : 16 < x
    · go_enter Tryd.func20, Tryd.ntmps20
      go_wp2
      go_ret
      exact ⟨16, by omega, by omega, rfl, rfl⟩
    · obtain ⟨N, rfl⟩ := Int.eq_ofNat_of_zero_le (show 0 ≤ x by omega)
      go_enter Tryd.func20, Tryd.ntmps20
      go_wp2
      go_ret
      exact ⟨N, by omega, by omega, rfl, rfl⟩
def ShortOk (A : Option Addr) (n cap : Nat) (w : World) (e : Ending) (w' : World) : Prop := ∃ m : Nat, m = min n 4000 ∧ e = .returned (.slice A m cap) ∧ w = w'
set_option maxHeartbeats 800000 in
theorem short_any (A : Option Addr) (n cap : Nat) (w : World) (hn : n ≤ cap) (hm : cap ≤ 9223372036854775807) : Calls Tryd.prog 25 #[.slice A n cap] w (ShortOk A n cap w) := by
  by_cases h1 : 4000 < n
  · have hI : (4000 : Int) < (n : Int) := by omega
    have hc : (4000 : Int) ≤ (cap : Int) := by omega
    go_enter Tryd.func25, Tryd.ntmps25
    go_wp2
    go_ret
    exact ⟨4000, by omega, by simp, rfl⟩
  · have hI : ¬ (4000 : Int) < (n : Int) := by omega
    go_enter Tryd.func25, Tryd.ntmps25
    go_wp2
    go_ret
    exact ⟨n, by omega, rfl, rfl⟩

/-- A list of a blob's chunks, as Split gave it: nothing of it lies in F. -/
structure Cks (w : World) (F : Nat → Prop) (b o T : Nat) (C : Nat) (bs : List UInt8) : Prop where
  bl : b < w.heap.size
  tl : T < w.heap.size
  cell : ∀ k, k < C → w.cell? ⟨b, o + k, none⟩ = some (chunkV T bs.length k)
  rd : ∀ k, k < C → RdB w w.heap.size (some ⟨T, 256 * k, none⟩) (8 + min 248 (bs.length - 248 * k)) (chunkS bs k)
  bF : ¬ F b
  tF : ¬ F T
theorem Cks.moved {w w' : World} {F F' : Nat → Prop} {b o T C : Nat} {bs : List UInt8} (h : Cks w F b o T C bs) (hm : Moved w w' F F') : Cks w' F' b o T C bs := by
  have hs := hm.2.size
  refine ⟨Nat.lt_of_lt_of_le h.bl hs, Nat.lt_of_lt_of_le h.tl hs, fun k hk => (World.cell?_of_block (hm.2.block b h.bl h.bF)).trans (h.cell k hk), fun k hk => ?_, fun hb => ?_, fun hb => ?_⟩
  · exact ((h.rd k hk).chgN hm.2 (Nat.le_refl _) (fun b' o' s' e hF => by injection e with e; injection e with e; subst e; exact h.tF hF)).more hs
  · rcases hm.1 _ hb with hb | hb
    · exact h.bF hb
    · have := h.bl; omega
  · rcases hm.1 _ hb with hb | hb
    · exact h.tF hb
    · have := h.tl; omega
/-- What Split's answer is to a later Take. -/
theorem Cks.of_split {w w' : World} {F : Nat → Prop} {v : Value} {C T n : Nat} {cur : Array Value} {bs : List UInt8} (hl : bs.length = n) (hn : n ≤ 4000) (hC : cnt (n : Int) = (C : Int)) (ho : w'.ownsRow w.heap.size 22 1 v C ((List.range C).map (chunkV T n))) (hT : Blk w' T 5 cur) (hc : cur.toList = bvs (splitS bs C).flatten) (hTw : w.heap.size ≤ T) (hF : ∀ k, F k → k < w.heap.size) :
    ∃ b o cap, v = .slice (some ⟨b, o, none⟩) C cap ∧ C ≤ cap ∧ cap ≤ maxLen ∧ Cks w' F b o T C bs := by
  obtain ⟨C', hC', c1, c2, c3, c4, c5⟩ := cnt_nat n hn
  obtain rfl : C' = C := by rw [hC] at hC'; omega
  obtain ⟨g, cap, cur', hv, hg, hB, h1, h2, h3, h4⟩ := own_parts ho (by omega)
  have hLL := LL.split (C := C') hT hc hl hn (by intro j hj; omega) (by intro j hj; omega)
  subst hv
  obtain ⟨b, o, e, hlt, hcell⟩ := (Rd.of_own ho).at_ (by omega)
  injection e with e
  injection e with e1 e2
  subst e1 e2
  refine ⟨g, 0, cap, rfl, h1, h2, hB.lt, hT.lt, fun k hk => ?_, fun k hk => ?_, fun h => by have := hF g h; omega, fun h => by have := hF T h; omega⟩
  · rw [hl]; exact hcell k _ (by simp [hk])
  · obtain ⟨A2, cap2, e, _, _, hr⟩ := hLL.2 k (chunkV T n k) (chunkS bs k) (by simp [hk]) (splitS_at hk)
    unfold chunkV at e
    injection e with e1 e2 e3
    subst e1
    rw [hl]
    rw [← e2] at hr
    exact hr

/-- The program's joiner alone. -/
structure Alone (w w0 : World) (F : Nat → Prop) (N J : Nat) (st : JSt) : Prop where
  p : PJx w F N J st
  ok : PartsOk N st
  fw : ∀ k, F k → w0.heap.size ≤ k
  below : Below w0.heap.size w0 w
theorem Alone.moved {w w' w0 : World} {F F' : Nat → Prop} {N J : Nat} {st st' : JSt} (h : Alone w w0 F N J st) (hp : PJx w' F' N J st') (hok : PartsOk N st') (hm : Moved w w' F F') : Alone w' w0 F' N J st' := by
  have hs := h.below.size
  exact ⟨hp, hok, fun k hk => by
    rcases hm.1 k hk with h1 | h1
    · exact h.fw k h1
    · omega, h.below.trans (hm.2.to_below hs h.fw)⟩
theorem Alone.over {w w' w0 : World} {F : Nat → Prop} {N J : Nat} {st : JSt} (h : Alone w w0 F N J st) (hb : Below w.heap.size w w') : Alone w' w0 F N J st := h.moved (h.p.below hb) h.ok (Moved.of_below _ hb)
theorem Alone.nibs {w w0 : World} {F : Nat → Prop} {N J : Nat} {st : JSt} (h : Alone w w0 F N J st) (ht : Nibs w0) : Nibs w ∧ ¬ F 0 :=
  ⟨fun k hk => (h.below.cell (p := ⟨0, k, none⟩) ht.lt).trans (ht k hk), fun hF => by have := h.fw _ hF; have := ht.lt; omega⟩
/-- One chunk of a list that Split gave, taken. -/
theorem ck_take {w w0 : World} {F : Nat → Prop} {N J b o T C k : Nat} {st : JSt} {bs : List UInt8} (h : Alone w w0 F N J st) (ht : Nibs w0) (hN : N ≤ 16) (hck : Cks w F b o T C bs) (hk : k < C) (sd : Int) :
    Calls Tryd.prog 21 #[.pointer (some ⟨J, 0, none⟩), .int .i64 sd, chunkV T bs.length k] w (TakesP w F N J st sd (chunkS bs k)) :=
  PTake_any _ _ _ J N F st (chunkS bs k) sd w h.p hN h.ok (hck.rd k hk) (Nat.le_refl _) (by omega) (fun _ b' o' s' e hF => by injection e with e; injection e with e; subst e; exact hck.tF hF) (h.nibs ht).1 (h.nibs ht).2
/-- What a Take of known outcome leaves. -/
theorem TakesP.known {w w' w0 : World} {F : Nat → Prop} {N J : Nat} {st st' : JSt} {sd : Int} {c b : List UInt8} {ok : Bool} {er : Nat} {e : Ending} (ht : TakesP w F N J st sd c e w') (h : Alone w w0 F N J st) (hS : takeS N st sd c = ((b, ok, er), st')) :
    ∃ u F', e = .returned (.tuple #[u, .bool ok, .int .i64 (er : Int)]) ∧ RetP w w' F F' u b ok ∧ Alone w' w0 F' N J st' ∧ Moved w w' F F' := by
  obtain ⟨u, b', ok', er', st2, F', h1, h2, h3, h4, h5⟩ := ht
  rw [hS] at h1
  simp only [Prod.mk.injEq] at h1
  obtain ⟨⟨rfl, rfl, rfl⟩, rfl⟩ := h1
  have hok := takeS_ok h.ok sd c
  rw [hS] at hok
  exact ⟨u, F', h2, h3, h.moved h4 hok h5, h5⟩
theorem tmod_bd (x : Int) (C : Nat) (hC : 0 < C) : -(C : Int) < x.tmod (C : Int) ∧ x.tmod (C : Int) < (C : Int) := by
  have h1 := Int.natAbs_tmod x (C : Int)
  have h2 : x.natAbs % (C : Int).natAbs < C := by rw [Int.natAbs_natCast]; exact Nat.mod_lt _ hC
  omega

end Go.Proofs.YtgapkphkcncgeaaDoor
