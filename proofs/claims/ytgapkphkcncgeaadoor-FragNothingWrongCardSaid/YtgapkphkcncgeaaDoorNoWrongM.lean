/-
  FragNothingWrong: the statement's own sixteen lists, in memory beside the joiner.
-/
import Derived.Test.YtgapkphkcncgeaaDoorFBase
import Derived.Test.YtgapkphkcncgeaaDoorNoWrongP
namespace Go.Proofs.YtgapkphkcncgeaaDoor
open Go.RowKit

theorem rd_new {w : World} {n : Nat} {t : TypeId} {fz : Nat × Nat} {cur : Array Value} {bs : List UInt8} (hc : cur.toList = bvs bs) (hl : bs.length = n) :
    RdB (w.alloc (.cells cur t fz)) (w.alloc (.cells cur t fz)).heap.size (some ⟨w.heap.size, 0, none⟩) n bs :=
  ⟨by simp [bvs_length, hl], fun _ => ⟨w.heap.size, 0, rfl, by simp, fun j u hu => by
    have e : (w.alloc (.cells cur t fz)).heap[w.heap.size]? = some (.cells cur t fz) := heap_alloc_new w _
    unfold World.cell?
    rw [e, Nat.zero_add]
    rw [← hc, Array.getElem?_toList] at hu
    simpa using hu⟩⟩

/-- One list of the statement's own. -/
structure ToldRow (w : World) (B : Nat) (F : Nat → Prop) (T : Nat) (cs : Array Value) (l : List (List UInt8)) (s : Nat) (v : Value) (t : List UInt8) : Prop where
  at_ : cs[s]? = some v
  row : w.ownsRow B 5 1 v t.length (bvs t)
  len : t.length ≤ 4000
  tell : Tell l t
  off : ∀ g, v.ownBlock = some g → ¬ F g ∧ g ≠ T
structure ToldAt (w : World) (B : Nat) (F : Nat → Prop) (T : Nat) (st : JSt) (cs : Array Value) : Prop where
  blk : Blk w T 47 cs
  size : cs.size = 16
  each : ∀ s, s < 16 → ∃ v t, ToldRow w B F T cs (st s) s v t
  sep : ∀ (i j : Nat) (v v' : Value) (g : Nat), cs[i]? = some v → cs[j]? = some v' → v.ownBlock = some g → v'.ownBlock = some g → i = j
  tF : ¬ F T
  tB : B ≤ T
section
variable {w w' : World} {B T s : Nat} {F F' S : Nat → Prop} {st st' : JSt} {cs : Array Value} {v v' : Value} {t t' : List UInt8}
theorem ToldAt.lt (h : ToldAt w B F T st cs) : T < w.heap.size := h.blk.lt
/-- A call on the joiner leaves them. -/
theorem ToldAt.moved (h : ToldAt w B F T st cs) (hm : Moved w w' F F') (hst : ∀ s, st' s = st s ∨ st' s = []) : ToldAt w' B F' T st' cs := by
  refine ⟨h.blk.chg hm.2 h.tF, h.size, fun s hs => ?_, h.sep, fun hf => ?_, h.tB⟩
  · obtain ⟨v, t, r⟩ := h.each s hs
    refine ⟨v, t, r.at_, own_chg r.row hm.2 (fun g hg => (r.off g hg).1), r.len, ?_, fun g hg => ⟨fun hf => ?_, (r.off g hg).2⟩⟩
    · rcases hst s with e | e
      · rw [e]; exact r.tell
      · exact .inl e
    · rcases hm.1 g hf with h1 | h1
      · exact (r.off g hg).1 h1
      · have := (own_block_lt r.row hg).1; omega
  · rcases hm.1 T hf with h1 | h1
    · exact h.tF h1
    · have := h.lt; omega
theorem ToldAt.below (h : ToldAt w B F T st cs) (hb : Below w.heap.size w w') : ToldAt w' B F T st cs := h.moved (Moved.of_below F hb) fun _ => .inl rfl
/-- One list set anew, in its own row or one that is new. -/
theorem ToldAt.set_ (h : ToldAt w B F T st cs) (hs : s < 16) (hB : B ≤ w.heap.size) (hF : ∀ k, F k → k < w.heap.size) (hv : cs[s]? = some v) (hc : Chg (fun k => some k = v.ownBlock) w w') (hr : w'.ownsRow B 5 1 v' t'.length (bvs t')) (hl : t'.length ≤ 4000) (ht : Tell (st' s) t')
    (hv' : v'.ownBlock = none ∨ v'.ownBlock = v.ownBlock ∨ ∃ g, v'.ownBlock = some g ∧ w.heap.size ≤ g) (hst : ∀ k, k ≠ s → st' k = st k) :
    ToldAt (w'.setCell ⟨T, s, none⟩ v') B F T st' (cs.setIfInBounds s v') := by
  have hTl := h.lt
  obtain ⟨v0, t0, r0⟩ := h.each s hs
  obtain rfl : v0 = v := by have := r0.at_; rw [hv] at this; exact (Option.some.inj this).symm
  have hS : ∀ g, v'.ownBlock = some g → ¬ F g ∧ g ≠ T := fun g hg => by
    rcases hv' with e | e | ⟨g', e, hg'⟩
    · rw [e] at hg; cases hg
    · exact r0.off g (by rw [← e]; exact hg)
    · rw [e] at hg; injection hg with hg; subst hg
      exact ⟨fun hf => by have := hF _ hf; omega, by omega⟩
  have hT : ¬ (some T = v0.ownBlock) := fun e => (r0.off T e.symm).2 rfl
  have hbT : Blk w' T 47 cs := h.blk.chg hc hT
  have h2 : Chg (fun k => k = T) w' (w'.setCell ⟨T, s, none⟩ v') := (Chg.refl (fun k => k = T) w').setCell (p := ⟨T, s, none⟩) (.inl rfl) _
  refine ⟨hbT.set_ s v', by simpa using h.size, fun k hk => ?_, fun i j a b g ha hb hga hgb => ?_, h.tF, h.tB⟩
  · by_cases e : k = s
    · subst e
      exact ⟨v', t', by simp [h.size, hk], own_chg hr h2 (fun g hg => (hS g hg).2), hl, ht, hS⟩
    · obtain ⟨u, t, r⟩ := h.each k hk
      refine ⟨u, t, by rw [Array.getElem?_setIfInBounds_ne (Ne.symm e)]; exact r.at_, own_chg (own_chg r.row hc (fun g hg hg' => ?_)) h2 (fun g hg => (r.off g hg).2), r.len, by rw [hst k e]; exact r.tell, r.off⟩
      exact e (h.sep k s u v0 g r.at_ hv hg hg'.symm)
  · have key : ∀ (i j : Nat) (a b : Value), i ≠ s → j = s → (cs.setIfInBounds s v')[i]? = some a → (cs.setIfInBounds s v')[j]? = some b → a.ownBlock = some g → b.ownBlock = some g → False := by
      clear ha hb hga hgb
      intro i j a b hi hj ka kb kga kgb
      subst hj
      rw [Array.getElem?_setIfInBounds_ne (Ne.symm hi)] at ka
      have kb' : (cs.setIfInBounds j v')[j]? = some v' := by simp [h.size, hs]
      rw [kb'] at kb
      obtain rfl : v' = b := Option.some.inj kb
      have hi16 : i < 16 := by
        rcases Nat.lt_or_ge i 16 with h1 | h1
        · exact h1
        · rw [Array.getElem?_eq_none (by rw [h.size]; exact h1)] at ka; cases ka
      obtain ⟨u, t, r⟩ := h.each i hi16
      have ru := r.at_
      rw [ka] at ru
      obtain rfl : a = u := Option.some.inj ru
      rcases hv' with e | e | ⟨g', e, hg'⟩
      · rw [e] at kgb; cases kgb
      · exact hi (h.sep i j a v0 g ka hv kga (by rw [← e]; exact kgb))
      · rw [e] at kgb; injection kgb with kgb; subst kgb
        have := (own_block_lt r.row kga).1; omega
    by_cases hi : i = s
    · by_cases hj : j = s
      · rw [hi, hj]
      · exact (key j i b a hj hi hb ha hgb hga).elim
    · by_cases hj : j = s
      · exact (key i j a b hi hj ha hb hga hgb).elim
      · rw [Array.getElem?_setIfInBounds_ne (Ne.symm hi)] at ha
        rw [Array.getElem?_setIfInBounds_ne (Ne.symm hj)] at hb
        exact h.sep i j a b g ha hb hga hgb
theorem ToldAt.nil_ (h : ToldAt w B F T st cs) (hs : s < 16) (hB : B ≤ w.heap.size) (hF : ∀ k, F k → k < w.heap.size) (ht : Tell (st' s) []) (hst : ∀ k, k ≠ s → st' k = st k) :
    ToldAt (w.setCell ⟨T, s, none⟩ (.slice none 0 0)) B F T st' (cs.setIfInBounds s (.slice none 0 0)) := by
  obtain ⟨v, t, r⟩ := h.each s hs
  exact h.set_ hs hB hF r.at_ (Chg.refl _ _) (t' := []) ⟨by simp [bvs], .inl ⟨rfl, rfl⟩⟩ (by simp) ht (.inl rfl) hst
theorem told_new (hw : B ≤ w.heap.size) (hF : ∀ k, F k → k < w.heap.size) : ToldAt (w.alloc (.cells (Array.replicate 16 (.slice none 0 0)) 47)) B F w.heap.size (fun _ => []) (Array.replicate 16 (.slice none 0 0)) := by
  have hnil : ∀ i v, (Array.replicate 16 (Value.slice none 0 0))[i]? = some v → v = Value.slice none 0 0 := fun i v hv => by
    rw [Array.getElem?_replicate] at hv
    split at hv
    · exact (Option.some.inj hv).symm
    · cases hv
  refine ⟨Blk.new w _ _, by simp, fun s hs => ⟨.slice none 0 0, [], by simp [Array.getElem?_replicate, hs], ⟨by simp [bvs], .inl ⟨rfl, rfl⟩⟩, by simp, .inl rfl, fun g hg => by simp [Value.ownBlock] at hg⟩, fun i j v v' g hi _ hg _ => ?_, fun hf => by have := hF _ hf; omega, hw⟩
  rw [hnil i v hi] at hg; simp [Value.ownBlock] at hg
end
/-- A change beside the joiner. -/
theorem Alone.side {w w' w0 : World} {F S : Nat → Prop} {N J : Nat} {st : JSt} (h : Alone w w0 F N J st) (hc : Chg S w w') (hS : ∀ k, S k → w0.heap.size ≤ k) (hd : ∀ k, F k → ¬ S k) : Alone w' w0 F N J st :=
  ⟨h.p.chg hc hd, h.ok, h.fw, h.below.trans (hc.to_below h.below.size hS)⟩
/-- The head of a chunk, byte by byte. -/
theorem head_cells {w : World} {B n : Nat} {A : Option Addr} {bs : List UInt8} (hr : RdB w B A n bs) (hn : 8 ≤ n) : ∃ b o, A = some ⟨b, o, none⟩ ∧ b < B ∧ ∀ i, i < 8 → w.cell? ⟨b, o + i, none⟩ = some (.int .u8 ((by_ bs i : Nat) : Int)) := by
  have hl := hr.lenB
  obtain ⟨b, o, e, hlt, hc⟩ := hr.at_ (by omega)
  refine ⟨b, o, e, hlt, fun i hi => ?_⟩
  obtain ⟨x, hx⟩ : ∃ x, bs[i]? = some x := ⟨_, List.getElem?_eq_getElem (by omega)⟩
  rw [by_at hx]
  exact hc i _ (by simp [bvs, hx])
/-- One chunk, taken by the program's joiner alone. -/
theorem op_take {w w0 : World} {F : Nat → Prop} {N J n cap : Nat} {A : Option Addr} {st : JSt} {bs : List UInt8} (h : Alone w w0 F N J st) (ht : Nibs w0) (hN : N ≤ 16) (hr : RdB w w0.heap.size A n bs) (hn : n ≤ cap) (hm : cap ≤ 9223372036854775807) (sd : Int) :
    Calls Tryd.prog 21 #[.pointer (some ⟨J, 0, none⟩), .int .i64 sd, .slice A n cap] w (TakesP w F N J st sd bs) :=
  PTake_any _ _ _ J N F st bs sd w h.p hN h.ok (hr.more h.below.size) hn hm (fun hp b' o' s' e hF => by
    obtain ⟨b, o, e', hlt, _⟩ := hr.at_ (by simpa using hp)
    rw [e] at e'; injection e' with e'; injection e' with e'
    have := h.fw _ hF; omega) (h.nibs ht).1 (h.nibs ht).2
theorem PHeld_q (J N : Nat) (F : Nat → Prop) (st : JSt) (s : Int) (w : World) (h : PJx w F N J st) (hok : PartsOk N st) (d : Nat) :
    Calls Tryd.prog 22 #[.pointer (some ⟨J, 0, none⟩), .int .i64 s] (w.drewN d) fun e w' => e = .returned (.int .i64 (heldS N st s : Int)) ∧ w' = w.drewN d :=
  (PHeld_any J N F st s _ (h.below (below_drewN (Below.refl _ _) d)) hok).mono fun _ _ ⟨h, h'⟩ => ⟨h, h'.symm⟩
end Go.Proofs.YtgapkphkcncgeaaDoor
