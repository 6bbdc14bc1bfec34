/-
  EtherNoneFromNothing: put, walked. And: EtherNoneFromNothing: the book in memory, and put. And: EtherNoneFromNothing: turn, walked. And: EtherNoneFromNothing: the plain book. No program text.
-/
import Derived.Test.YtgfhmfhhobhojaaERd
namespace Go.Proofs.Ytgfhmfhhobhojaa
open Go.RowKit
/-- What the book holds of a packet. -/
structure Ent where
  src : Nat
  dst : Nat
  bs : List UInt8
  come : Bool
/-- Entry k is packet k + 1; those on their way stand in it as they are, and have not come. -/
structure BInv (c : ECfg) (p : PV) (es : List Ent) : Prop where
  len : es.length = p.last
  way : ∀ f ∈ p.way, es[f.id - 1]? = some ⟨f.src, f.dst, f.bs, false⟩
  inc : ∀ k, k < c.n → 1 ≤ p.inc k
section
variable {c : ECfg} {p : PV} {m : Nat} {es : List Ent}
theorem BInv.new (c : ECfg) : BInv c PV.new [] := ⟨rfl, fun f hf => by simp [PV.new] at hf, fun _ _ => Nat.le_refl _⟩
theorem BInv.sub {p' : PV} (h : BInv c p es) (hl : p'.last = p.last) (hw : ∀ f ∈ p'.way, f ∈ p.way) (hi : ∀ k, k < c.n → 1 ≤ p'.inc k) : BInv c p' es := ⟨h.len.trans hl.symm, fun f hf => h.way f (hw f hf), hi⟩
theorem BInv.tick (h : BInv c p es) (q : Int) : BInv c (tickP c p q) es := by
  unfold tickP
  split
  · exact ⟨h.len, h.way, h.inc⟩
  · exact h
theorem BInv.crash (h : BInv c p es) (q : Int) : BInv c (crashP c p q) es := by
  unfold crashP
  split
  · exact ⟨h.len, h.way, h.inc⟩
  · exact h
theorem BInv.rest (h : BInv c p es) (q : Int) : BInv c (restP c p q) es := by
  unfold restP
  split
  · refine ⟨h.len, h.way, fun k hk => ?_⟩
    show 1 ≤ updN p.inc q.toNat _ k
    unfold updN
    split
    · omega
    · exact h.inc k hk
  · exact h
theorem BInv.add (h : BInv c p es) (hid : ∀ f ∈ p.way, 1 ≤ f.id ∧ f.id ≤ p.last) (i j due : Nat) (bs : List UInt8) : BInv c (addP p i j due bs) (es ++ [⟨i, j, bs, false⟩]) := by
  have hl := h.len
  refine ⟨by simp [addP, h.len], fun f hf => ?_, h.inc⟩
  have hf' : f ∈ p.way ++ [(⟨p.last + 1, i, j, due, bs⟩ : Flt)] := hf
  rcases List.mem_append.1 hf' with h1 | h1
  · have := hid f h1
    rw [List.getElem?_append_left (by omega)]
    exact h.way f h1
  · simp only [List.mem_cons, List.not_mem_nil, or_false] at h1
    subst h1
    rw [List.getElem?_append_right (by show es.length ≤ p.last + 1 - 1; omega)]
    simp [hl]
theorem BInv.post (h : BInv c p es) (hid : ∀ f ∈ p.way, 1 ≤ f.id ∧ f.id ≤ p.last) {a b : Int} {bs : List UInt8} {lives : Bool} (h0 : postE c p a b bs.length lives = 0) : BInv c (postP c p a b bs lives) (es ++ [⟨a.toNat, b.toNat, bs, false⟩]) := by
  unfold postP
  rw [if_pos h0]
  exact h.add hid _ _ _ _
/-- An entry is marked. -/
def mark (es : List Ent) (k : Nat) : List Ent := es.modify k fun e => { e with come := true }
theorem mark_len (es : List Ent) (k : Nat) : (mark es k).length = es.length := by simp [mark]
theorem mark_at {es : List Ent} {k j : Nat} (h : j ≠ k) : (mark es k)[j]? = es[j]? := by
  unfold mark
  rw [List.getElem?_modify]
  cases es[j]? with
  | none => rfl
  | some e => simp [Ne.symm h]
/-- Some that were on their way have come, and are so no longer. -/
theorem BInv.come (h : BInv c p es) {p' : PV} {f : Flt} (hf1 : 1 ≤ f.id) (hl : p'.last = p.last) (hw : ∀ g ∈ p'.way, g ∈ p.way ∧ g.id ≠ f.id ∧ 1 ≤ g.id) (hi : ∀ k, k < c.n → 1 ≤ p'.inc k) : BInv c p' (mark es (f.id - 1)) := by
  refine ⟨by rw [mark_len, h.len, hl], fun g hg => ?_, hi⟩
  obtain ⟨h1, h2, h3⟩ := hw g hg
  rw [mark_at (by omega)]
  exact h.way g h1
/-- Those that are about to be told. -/
structure BRest (c : ECfg) (p : PV) (es : List Ent) (rest : List Flt) : Prop where
  inv : BInv c p es
  at_ : ∀ g ∈ rest, es[g.id - 1]? = some ⟨g.src, g.dst, g.bs, false⟩
  pos : ∀ g ∈ rest, 1 ≤ g.id
  nd : rest.Pairwise fun f g => f.id ≠ g.id
  ne : ∀ g ∈ rest, ∀ f ∈ p.way, 1 ≤ f.id ∧ f.id ≠ g.id
theorem BRest.step {f : Flt} {rest : List Flt} (h : BRest c p es (f :: rest)) : BRest c p (mark es (f.id - 1)) rest := by
  obtain ⟨h1, h2⟩ := List.pairwise_cons.1 h.nd
  refine ⟨h.inv.come (h.pos f (by simp)) rfl (fun g hg => ⟨hg, (h.ne f (by simp) g hg).2, (h.ne f (by simp) g hg).1⟩) h.inv.inc, fun g hg => ?_, fun g hg => h.pos g (by simp [hg]), h2, fun g hg => h.ne g (by simp [hg])⟩
  have h3 := h1 g hg
  have h4 := h.pos g (by simp [hg])
  have h5 := h.pos f (by simp)
  rw [mark_at (by omega)]
  exact h.at_ g (by simp [hg])
theorem BInv.round (h : BInv c p es) (hi : PInv c p m) : BRest c (roundP p) es (roundL c p) := by
  have hid := hi.ids
  have hne : ∀ f g, f ∈ p.way → g ∈ p.way → f ≠ g → f.id ≠ g.id := fun f g hf hg hfg e => by
    obtain ⟨i, hi1, hi2⟩ := List.mem_iff_getElem.1 hf
    obtain ⟨j, hj1, hj2⟩ := List.mem_iff_getElem.1 hg
    have hp := List.pairwise_iff_getElem.1 hid.1
    rcases Nat.lt_trichotomy i j with h1 | h1 | h1
    · have := hp i j hi1 hj1 h1
      rw [hi2, hj2] at this; omega
    · subst h1; exact hfg (hi2.symm.trans hj2)
    · have := hp j i hj1 hi1 h1
      rw [hi2, hj2] at this; omega
  refine ⟨h.sub rfl (fun f hf => (List.mem_filter.1 hf).1) h.inc, fun g hg => h.way g (List.mem_filter.1 hg).1, fun g hg => (hid.2 g (List.mem_filter.1 hg).1).1, ?_, fun g hg f hf => ?_⟩
  · exact (hid.1.filter _).imp fun h => Nat.ne_of_lt h
  · obtain ⟨h1, h2⟩ := List.mem_filter.1 hg
    obtain ⟨h3, h4⟩ := List.mem_filter.1 hf
    refine ⟨(hid.2 f h3).1, hne f g h3 h1 fun e => ?_⟩
    subst e
    unfold hereB at h2
    rw [h4] at h2
    simp at h2
theorem BInv.take (h : BInv c p es) (hi : PInv c p m) {k : Nat} {f : Flt} (hk : p.way[k]? = some f) : BRest c { p with way := p.way.eraseIdx k } es [f] := by
  have hid := hi.ids
  have hf := List.mem_of_getElem? hk
  obtain ⟨hkl, hke⟩ := List.getElem?_eq_some_iff.1 hk
  refine ⟨h.sub rfl (fun g hg => List.mem_of_mem_eraseIdx hg) h.inc, fun g hg => ?_, fun g hg => ?_, by simp, fun g hg f' hf' => ?_⟩
  · simp only [List.mem_cons, List.not_mem_nil, or_false] at hg
    subst hg; exact h.way g hf
  · simp only [List.mem_cons, List.not_mem_nil, or_false] at hg
    subst hg; exact (hid.2 g hf).1
  · simp only [List.mem_cons, List.not_mem_nil, or_false] at hg
    subst hg
    obtain ⟨i, hi1, hi2, hi3⟩ := List.mem_eraseIdx_iff_getElem.1 hf'
    have hp := List.pairwise_iff_getElem.1 hid.1
    refine ⟨(hid.2 f' (List.mem_of_mem_eraseIdx hf')).1, fun e => ?_⟩
    rcases Nat.lt_trichotomy i k with h1 | h1 | h1
    · have := hp i k hi1 hkl h1
      rw [hi3, hke] at this; omega
    · exact hi2 h1
    · have := hp k i hkl hi1 h1
      rw [hi3, hke] at this; omega
theorem up_err (c : ECfg) (d : Nat → Bool) (q : Int) : (Tick_e c d q = 0 ↔ upA c d q = true) := by
  unfold Tick_e upA
  cases hasB c q <;> cases d q.toNat <;> simp
end
end Go.Proofs.Ytgfhmfhhobhojaa
namespace Go.Proofs.Ytgfhmfhhobhojaa
open Go.ChangeShapes Go.WideShapes Go.ChangeAt Go.RowKit
section
variable {w : World} {B : Nat} {c : ECfg} {D m : Nat} {p : PV} {F : Nat → Prop}
theorem tick_vals {a : Int} (h : upA c p.down a = true) : Tick_e c p.down a = 0 ∧ Tick_r c p.down p.tk a = numA c p.tk a + 1 ∧ numA c (tickP c p a).tk a = numA c p.tk a + 1 ∧ numA c (tickP c p a).inc a = numA c p.inc a := by
  have e := (up_err c p.down a).2 h
  have hb : hasB c a = true := by
    unfold upA at h
    cases hb : hasB c a with
    | true => rfl
    | false => rw [hb] at h; simp at h
  refine ⟨e, ?_, ?_, ?_⟩
  · unfold Tick_r numA; rw [if_pos e, if_pos hb]
  · unfold tickP numA; rw [if_pos e, if_pos hb, if_pos hb]; simp [updN]
  · unfold tickP; rw [if_pos e]
theorem tick_none {a : Int} (h : upA c p.down a = false) : Tick_e c p.down a ≠ 0 ∧ tickP c p a = p := by
  have e : Tick_e c p.down a ≠ 0 := fun e => by rw [(up_err c p.down a).1 e] at h; cases h
  exact ⟨e, (tick_zero e).2⟩
theorem crash_vals {a : Int} (h : upA c p.down a = true) : Tick_e c p.down a = 0 ∧ upA c (crashP c p a).down a = false ∧ numA c (crashP c p a).inc a = numA c p.inc a ∧ numA c (crashP c p a).tk a = numA c p.tk a := by
  have e := (up_err c p.down a).2 h
  refine ⟨e, ?_, ?_, ?_⟩
  · unfold crashP upA; rw [if_pos e]; simp [updB]
  · unfold crashP; rw [if_pos e]
  · unfold crashP; rw [if_pos e]
theorem rest_none {a : Int} (h : upA c p.down a = true ∨ numA c p.inc a = 0) (hi : ∀ k, k < c.n → 1 ≤ p.inc k) : Rest_e c p.down a ≠ 0 ∧ restP c p a = p := by
  have e : Rest_e c p.down a ≠ 0 := by
    unfold Rest_e
    rcases hasB_cases c a with ⟨k, rfl, hk, hb⟩ | hb
    · rw [if_pos hb]
      rcases h with h | h
      · unfold upA at h
        rw [hb] at h
        cases hd : p.down ((k : Int).toNat) with
        | true => rw [hd] at h; simp at h
        | false => simp
      · unfold numA at h
        rw [if_pos hb, Int.toNat_natCast] at h
        have := hi k hk
        omega
    · rw [if_neg (by simp [hb])]; decide
  exact ⟨e, (rest_zero e).2⟩
theorem rest_vals {a : Int} (h : upA c p.down a = false) (h0 : numA c p.inc a ≠ 0) : Rest_e c p.down a = 0 ∧ Rest_r c p.down p.inc a = numA c p.inc a + 1 ∧ numA c (restP c p a).inc a = numA c p.inc a + 1 ∧ numA c (restP c p a).tk a = 0 ∧ upA c (restP c p a).down a = true := by
  have hb : hasB c a = true := by
    unfold numA at h0
    cases hb : hasB c a with
    | true => rfl
    | false => rw [if_neg (by simp [hb])] at h0; exact absurd rfl h0
  have e : Rest_e c p.down a = 0 := by
    unfold Rest_e
    unfold upA at h
    rw [hb] at h
    rw [if_pos hb, if_pos (by simpa using h)]
  refine ⟨e, ?_, ?_, ?_, ?_⟩
  · unfold Rest_r numA; rw [if_pos e, if_pos hb]
  · unfold restP numA; rw [if_pos e, if_pos hb, if_pos hb]; simp [updN]
  · unfold restP numA; rw [if_pos e, if_pos hb]; simp [updN]
  · unfold restP upA; rw [if_pos e, hb]; simp [updB]
set_option maxRecDepth 100000 in
set_option maxHeartbeats 1600000 in
theorem turn_5y (h : LiveP w B c D m p F) (hB : B ≤ w.heap.size) (hm : m ≤ 4398046511104) (bb : Nat) (a b n : Int) (BA SA : Option Addr) (bn bc sn sc : Nat) (hu1 : upA c p.down a = true) : Calls Try.prog 50 #[.pointer (some ⟨bb, 0, none⟩), .pointer (some ⟨D, 0, none⟩), .agg #[.int .i64 5, .int .i64 a, .int .i64 b, .int .i64 n, .slice BA bn bc, .slice SA sn sc]] w fun e w' => e = .returned (.bool true) ∧ LiveC w F B c D m (tickP c p a) w' := by
  have hb0 := one_box' w (.cells #[.int .i64 5, .int .i64 a, .int .i64 b, .int .i64 n, .slice BA bn bc, .slice SA sn sc] 33)
  have hE := Blk.new w 33 #[.int .i64 5, .int .i64 a, .int .i64 b, .int .i64 n, .slice BA bn bc, .slice SA sn sc]
  obtain ⟨w0, hw0⟩ : ∃ w0, w0 = w.alloc (.cells #[.int .i64 5, .int .i64 a, .int .i64 b, .int .i64 n, .slice BA bn bc, .slice SA sn sc] 33) := ⟨_, rfl⟩
  rw [← hw0] at hb0 hE
  have hL := h.below hb0
  have hB0 : B ≤ w0.heap.size := Nat.le_trans hB hb0.size
  have HW0 := Lib.hid hw0
  have HB0 := Lib.hid hb0
  have HE := Lib.hid hE
  have HNF : Hid (¬ F w.heap.size) := Lib.hid fun hf => Nat.lt_irrefl _ (h.pn.1 _ hf)
  have x0 : w0.cell? ⟨w.heap.size, 0, none⟩ = some (.int .i64 5) := hE.cell 0
  have x1 : w0.cell? ⟨w.heap.size, 1, none⟩ = some (.int .i64 a) := hE.cell 1
  have hi := Inc_any hL.pn a
  have ht := Ticks_any hL.pn a
  have hu := Up_any hL.pn a
  have hp := CTick hL hB0 hm a
  obtain ⟨i1, hi1⟩ : ∃ i1, i1 = numA c p.inc a := ⟨_, rfl⟩
  obtain ⟨t1, ht1⟩ : ∃ t1, t1 = numA c p.tk a := ⟨_, rfl⟩
  have ei : (i1 == i1) = true := by simp
  have et : (t1 == t1) = true := by simp
  have et2 : (t1 + 1 == t1 + 1) = true := by simp
  have ei2 : (i1 + 1 == i1 + 1) = true := by simp
  rw [← hi1] at hi
  rw [← ht1] at ht
  have htb : -1 ≤ t1 ∧ t1 ≤ 4398046511105 := by
    rw [ht1]; unfold numA
    have := h.inv.tks a.toNat
    split <;> omega
  have hib : -1 ≤ i1 ∧ i1 ≤ 4398046511106 := by
    rw [hi1]; unfold numA
    have := h.inv.incs a.toNat
    split <;> omega
  have wt : IntKind.i64.wrap (t1 + 1) = t1 + 1 := IntWalk.i64_in _ (by omega)
  have wi : IntKind.i64.wrap (i1 + 1) = i1 + 1 := IntWalk.i64_in _ (by omega)
  have hv := tick_vals (p := p) hu1
  rw [hu1] at hu
  rw [hv.1, hv.2.1, ← ht1] at hp
  have HV : Hid (numA c (tickP c p a).tk a = t1 + 1 ∧ numA c (tickP c p a).inc a = i1) := Lib.hid ⟨by rw [hv.2.2.1, ht1], by rw [hv.2.2.2, hi1]⟩
  clear hv hu1 hi1 ht1 htb hib
  have HI := Lib.hid hi
  have HT := Lib.hid ht
  have HU := Lib.hid hu
  have HP := Lib.hid hp
  clear hw0 hb0 hE hL h hB0 hB hm hi ht hu hp
  go_enter Try.func50, Try.ntmps50
  go_upto_region 1 with fail
  rw [← HW0.out]
  go_upto_region 4 with (first
    | (go_at_call 32; refine HI.out.mono ?_; rintro _ _ ⟨rfl, rfl⟩)
    | (go_at_call 56; refine HT.out.mono ?_; rintro _ _ ⟨rfl, rfl⟩)
    | (go_at_call 18; refine HU.out.mono ?_; rintro _ _ ⟨rfl, rfl⟩))
  clear HI HT HU
  go_wp2_with (first
    | (go_at_call 36; refine HP.out.mono ?_; rintro _ w1 ⟨rfl, hn⟩; have HN := Lib.hid hn; clear hn; obtain ⟨G, hg, _, hch⟩ := HN.out; have hE1 := HE.out.chg hch HNF.out; have x1' : w1.cell? ⟨w.heap.size, 1, none⟩ = some (.int .i64 a) := hE1.cell 1; clear x0 x1 hch hE1; have hi := Inc_any hg.pn a; have ht := Ticks_any hg.pn a; have hu := Up_any hg.pn a; clear hg; rw [HV.out.2] at hi; rw [HV.out.1] at ht; have HI := Lib.hid hi; have HT := Lib.hid ht; have HU := Lib.hid hu; clear hi ht hu)
    | (go_at_call 32; refine HI.out.mono ?_; rintro _ _ ⟨rfl, rfl⟩)
    | (go_at_call 56; refine HT.out.mono ?_; rintro _ _ ⟨rfl, rfl⟩)
    | (go_at_call 18; refine HU.out.mono ?_; rintro _ _ ⟨rfl, rfl⟩))
  go_ret
  exact ⟨rfl, HN.out.behind HB0.out⟩
set_option maxRecDepth 100000 in
set_option maxHeartbeats 1600000 in
theorem turn_5n (h : LiveP w B c D m p F) (hB : B ≤ w.heap.size) (hm : m ≤ 4398046511104) (bb : Nat) (a b n : Int) (BA SA : Option Addr) (bn bc sn sc : Nat) (hu1 : upA c p.down a = false) : Calls Try.prog 50 #[.pointer (some ⟨bb, 0, none⟩), .pointer (some ⟨D, 0, none⟩), .agg #[.int .i64 5, .int .i64 a, .int .i64 b, .int .i64 n, .slice BA bn bc, .slice SA sn sc]] w fun e w' => e = .returned (.bool true) ∧ LiveC w F B c D m (tickP c p a) w' := by
  have hb0 := one_box' w (.cells #[.int .i64 5, .int .i64 a, .int .i64 b, .int .i64 n, .slice BA bn bc, .slice SA sn sc] 33)
  have hE := Blk.new w 33 #[.int .i64 5, .int .i64 a, .int .i64 b, .int .i64 n, .slice BA bn bc, .slice SA sn sc]
  obtain ⟨w0, hw0⟩ : ∃ w0, w0 = w.alloc (.cells #[.int .i64 5, .int .i64 a, .int .i64 b, .int .i64 n, .slice BA bn bc, .slice SA sn sc] 33) := ⟨_, rfl⟩
  rw [← hw0] at hb0 hE
  have hL := h.below hb0
  have hB0 : B ≤ w0.heap.size := Nat.le_trans hB hb0.size
  have HW0 := Lib.hid hw0
  have HB0 := Lib.hid hb0
  have HE := Lib.hid hE
  have HNF : Hid (¬ F w.heap.size) := Lib.hid fun hf => Nat.lt_irrefl _ (h.pn.1 _ hf)
  have x0 : w0.cell? ⟨w.heap.size, 0, none⟩ = some (.int .i64 5) := hE.cell 0
  have x1 : w0.cell? ⟨w.heap.size, 1, none⟩ = some (.int .i64 a) := hE.cell 1
  have hi := Inc_any hL.pn a
  have ht := Ticks_any hL.pn a
  have hu := Up_any hL.pn a
  have hp := CTick hL hB0 hm a
  obtain ⟨i1, hi1⟩ : ∃ i1, i1 = numA c p.inc a := ⟨_, rfl⟩
  obtain ⟨t1, ht1⟩ : ∃ t1, t1 = numA c p.tk a := ⟨_, rfl⟩
  have ei : (i1 == i1) = true := by simp
  have et : (t1 == t1) = true := by simp
  have et2 : (t1 + 1 == t1 + 1) = true := by simp
  have ei2 : (i1 + 1 == i1 + 1) = true := by simp
  rw [← hi1] at hi
  rw [← ht1] at ht
  have hv := tick_none (p := p) hu1
  rw [hu1] at hu
  obtain ⟨y, hy⟩ : ∃ y, y = Tick_e c p.down a := ⟨_, rfl⟩
  rw [← hy] at hp
  have ey : (y == 0) = false := by simpa [hy] using hv.1
  have HV : Hid (numA c (tickP c p a).tk a = t1 ∧ numA c (tickP c p a).inc a = i1) := Lib.hid ⟨by rw [hv.2, ht1], by rw [hv.2, hi1]⟩
  clear hv hu1 hi1 ht1 hy
  have HI := Lib.hid hi
  have HT := Lib.hid ht
  have HU := Lib.hid hu
  have HP := Lib.hid hp
  clear hw0 hb0 hE hL h hB0 hB hm hi ht hu hp
  go_enter Try.func50, Try.ntmps50
  go_upto_region 1 with fail
  rw [← HW0.out]
  go_upto_region 4 with (first
    | (go_at_call 32; refine HI.out.mono ?_; rintro _ _ ⟨rfl, rfl⟩)
    | (go_at_call 56; refine HT.out.mono ?_; rintro _ _ ⟨rfl, rfl⟩)
    | (go_at_call 18; refine HU.out.mono ?_; rintro _ _ ⟨rfl, rfl⟩))
  clear HI HT HU
  go_wp2_with (first
    | (go_at_call 36; refine HP.out.mono ?_; rintro _ w1 ⟨rfl, hn⟩; have HN := Lib.hid hn; clear hn; obtain ⟨G, hg, _, hch⟩ := HN.out; have hE1 := HE.out.chg hch HNF.out; have x1' : w1.cell? ⟨w.heap.size, 1, none⟩ = some (.int .i64 a) := hE1.cell 1; clear x0 x1 hch hE1; have hi := Inc_any hg.pn a; have ht := Ticks_any hg.pn a; have hu := Up_any hg.pn a; clear hg; rw [HV.out.2] at hi; rw [HV.out.1] at ht; have HI := Lib.hid hi; have HT := Lib.hid ht; have HU := Lib.hid hu; clear hi ht hu)
    | (go_at_call 32; refine HI.out.mono ?_; rintro _ _ ⟨rfl, rfl⟩)
    | (go_at_call 56; refine HT.out.mono ?_; rintro _ _ ⟨rfl, rfl⟩)
    | (go_at_call 18; refine HU.out.mono ?_; rintro _ _ ⟨rfl, rfl⟩))
  go_ret
  exact ⟨rfl, HN.out.behind HB0.out⟩
set_option maxRecDepth 100000 in
set_option maxHeartbeats 1600000 in
theorem turn_6y (h : LiveP w B c D m p F) (hB : B ≤ w.heap.size) (_hm : m ≤ 4398046511104) (bb : Nat) (a b n : Int) (BA SA : Option Addr) (bn bc sn sc : Nat) (hu1 : upA c p.down a = true) : Calls Try.prog 50 #[.pointer (some ⟨bb, 0, none⟩), .pointer (some ⟨D, 0, none⟩), .agg #[.int .i64 6, .int .i64 a, .int .i64 b, .int .i64 n, .slice BA bn bc, .slice SA sn sc]] w fun e w' => e = .returned (.bool true) ∧ LiveC w F B c D m (crashP c p a) w' := by
  have hb0 := one_box' w (.cells #[.int .i64 6, .int .i64 a, .int .i64 b, .int .i64 n, .slice BA bn bc, .slice SA sn sc] 33)
  have hE := Blk.new w 33 #[.int .i64 6, .int .i64 a, .int .i64 b, .int .i64 n, .slice BA bn bc, .slice SA sn sc]
  obtain ⟨w0, hw0⟩ : ∃ w0, w0 = w.alloc (.cells #[.int .i64 6, .int .i64 a, .int .i64 b, .int .i64 n, .slice BA bn bc, .slice SA sn sc] 33) := ⟨_, rfl⟩
  rw [← hw0] at hb0 hE
  have hL := h.below hb0
  have hB0 : B ≤ w0.heap.size := Nat.le_trans hB hb0.size
  have HW0 := Lib.hid hw0
  have HB0 := Lib.hid hb0
  have HE := Lib.hid hE
  have HNF : Hid (¬ F w.heap.size) := Lib.hid fun hf => Nat.lt_irrefl _ (h.pn.1 _ hf)
  have x0 : w0.cell? ⟨w.heap.size, 0, none⟩ = some (.int .i64 6) := hE.cell 0
  have x1 : w0.cell? ⟨w.heap.size, 1, none⟩ = some (.int .i64 a) := hE.cell 1
  have hi := Inc_any hL.pn a
  have ht := Ticks_any hL.pn a
  have hu := Up_any hL.pn a
  have hp := CCrash hL hB0 a
  obtain ⟨i1, hi1⟩ : ∃ i1, i1 = numA c p.inc a := ⟨_, rfl⟩
  obtain ⟨t1, ht1⟩ : ∃ t1, t1 = numA c p.tk a := ⟨_, rfl⟩
  have ei : (i1 == i1) = true := by simp
  have et : (t1 == t1) = true := by simp
  have et2 : (t1 + 1 == t1 + 1) = true := by simp
  have ei2 : (i1 + 1 == i1 + 1) = true := by simp
  rw [← hi1] at hi
  rw [← ht1] at ht
  have hv := crash_vals (p := p) hu1
  rw [hu1] at hu
  rw [hv.1] at hp
  have HV : Hid (upA c (crashP c p a).down a = false ∧ numA c (crashP c p a).inc a = i1 ∧ numA c (crashP c p a).tk a = t1) := Lib.hid ⟨hv.2.1, by rw [hv.2.2.1, hi1], by rw [hv.2.2.2, ht1]⟩
  clear hv hu1 hi1 ht1
  have HI := Lib.hid hi
  have HT := Lib.hid ht
  have HU := Lib.hid hu
  have HP := Lib.hid hp
  clear hw0 hb0 hE hL h hB0 hB _hm hi ht hu hp
  go_enter Try.func50, Try.ntmps50
  go_upto_region 1 with fail
  rw [← HW0.out]
  go_upto_region 4 with (first
    | (go_at_call 32; refine HI.out.mono ?_; rintro _ _ ⟨rfl, rfl⟩)
    | (go_at_call 56; refine HT.out.mono ?_; rintro _ _ ⟨rfl, rfl⟩)
    | (go_at_call 18; refine HU.out.mono ?_; rintro _ _ ⟨rfl, rfl⟩))
  clear HI HT HU
  go_wp2_with (first
    | (go_at_call 37; refine HP.out.mono ?_; rintro _ w1 ⟨rfl, hn⟩; have HN := Lib.hid hn; clear hn; obtain ⟨G, hg, _, hch⟩ := HN.out; have hE1 := HE.out.chg hch HNF.out; have x1' : w1.cell? ⟨w.heap.size, 1, none⟩ = some (.int .i64 a) := hE1.cell 1; clear x0 x1 hch hE1; have hi := Inc_any hg.pn a; have ht := Ticks_any hg.pn a; have hu := Up_any hg.pn a; clear hg; rw [HV.out.1] at hu; rw [HV.out.2.1] at hi; rw [HV.out.2.2] at ht; have HI := Lib.hid hi; have HT := Lib.hid ht; have HU := Lib.hid hu; clear hi ht hu)
    | (go_at_call 32; refine HI.out.mono ?_; rintro _ _ ⟨rfl, rfl⟩)
    | (go_at_call 56; refine HT.out.mono ?_; rintro _ _ ⟨rfl, rfl⟩)
    | (go_at_call 18; refine HU.out.mono ?_; rintro _ _ ⟨rfl, rfl⟩))
  go_ret
  exact ⟨rfl, HN.out.behind HB0.out⟩
set_option maxRecDepth 100000 in
set_option maxHeartbeats 1600000 in
theorem turn_6n (h : LiveP w B c D m p F) (hB : B ≤ w.heap.size) (_hm : m ≤ 4398046511104) (bb : Nat) (a b n : Int) (BA SA : Option Addr) (bn bc sn sc : Nat) (hu1 : upA c p.down a = false) : Calls Try.prog 50 #[.pointer (some ⟨bb, 0, none⟩), .pointer (some ⟨D, 0, none⟩), .agg #[.int .i64 6, .int .i64 a, .int .i64 b, .int .i64 n, .slice BA bn bc, .slice SA sn sc]] w fun e w' => e = .returned (.bool true) ∧ LiveC w F B c D m (crashP c p a) w' := by
  have hb0 := one_box' w (.cells #[.int .i64 6, .int .i64 a, .int .i64 b, .int .i64 n, .slice BA bn bc, .slice SA sn sc] 33)
  have hE := Blk.new w 33 #[.int .i64 6, .int .i64 a, .int .i64 b, .int .i64 n, .slice BA bn bc, .slice SA sn sc]
  obtain ⟨w0, hw0⟩ : ∃ w0, w0 = w.alloc (.cells #[.int .i64 6, .int .i64 a, .int .i64 b, .int .i64 n, .slice BA bn bc, .slice SA sn sc] 33) := ⟨_, rfl⟩
  rw [← hw0] at hb0 hE
  have hL := h.below hb0
  have hB0 : B ≤ w0.heap.size := Nat.le_trans hB hb0.size
  have HW0 := Lib.hid hw0
  have HB0 := Lib.hid hb0
  have HE := Lib.hid hE
  have HNF : Hid (¬ F w.heap.size) := Lib.hid fun hf => Nat.lt_irrefl _ (h.pn.1 _ hf)
  have x0 : w0.cell? ⟨w.heap.size, 0, none⟩ = some (.int .i64 6) := hE.cell 0
  have x1 : w0.cell? ⟨w.heap.size, 1, none⟩ = some (.int .i64 a) := hE.cell 1
  have hi := Inc_any hL.pn a
  have ht := Ticks_any hL.pn a
  have hu := Up_any hL.pn a
  have hp := CCrash hL hB0 a
  obtain ⟨i1, hi1⟩ : ∃ i1, i1 = numA c p.inc a := ⟨_, rfl⟩
  obtain ⟨t1, ht1⟩ : ∃ t1, t1 = numA c p.tk a := ⟨_, rfl⟩
  have ei : (i1 == i1) = true := by simp
  have et : (t1 == t1) = true := by simp
  have et2 : (t1 + 1 == t1 + 1) = true := by simp
  have ei2 : (i1 + 1 == i1 + 1) = true := by simp
  rw [← hi1] at hi
  rw [← ht1] at ht
  have hv := crash_zero (p := p) (tick_none (p := p) hu1).1
  obtain ⟨y, hy⟩ : ∃ y, y = Tick_e c p.down a := ⟨_, rfl⟩
  have ey : (y == 0) = false := by simpa [hy] using (tick_none (p := p) hu1).1
  rw [← hy] at hp
  have HV : Hid (upA c (crashP c p a).down a = false ∧ numA c (crashP c p a).inc a = i1 ∧ numA c (crashP c p a).tk a = t1) := Lib.hid ⟨by rw [hv]; exact hu1, by rw [hv, hi1], by rw [hv, ht1]⟩
  rw [hu1] at hu
  clear hv hu1 hi1 ht1 hy
  have HI := Lib.hid hi
  have HT := Lib.hid ht
  have HU := Lib.hid hu
  have HP := Lib.hid hp
  clear hw0 hb0 hE hL h hB0 hB _hm hi ht hu hp
  go_enter Try.func50, Try.ntmps50
  go_upto_region 1 with fail
  rw [← HW0.out]
  go_upto_region 4 with (first
    | (go_at_call 32; refine HI.out.mono ?_; rintro _ _ ⟨rfl, rfl⟩)
    | (go_at_call 56; refine HT.out.mono ?_; rintro _ _ ⟨rfl, rfl⟩)
    | (go_at_call 18; refine HU.out.mono ?_; rintro _ _ ⟨rfl, rfl⟩))
  clear HI HT HU
  go_wp2_with (first
    | (go_at_call 37; refine HP.out.mono ?_; rintro _ w1 ⟨rfl, hn⟩; have HN := Lib.hid hn; clear hn; obtain ⟨G, hg, _, hch⟩ := HN.out; have hE1 := HE.out.chg hch HNF.out; have x1' : w1.cell? ⟨w.heap.size, 1, none⟩ = some (.int .i64 a) := hE1.cell 1; clear x0 x1 hch hE1; have hi := Inc_any hg.pn a; have ht := Ticks_any hg.pn a; have hu := Up_any hg.pn a; clear hg; rw [HV.out.1] at hu; rw [HV.out.2.1] at hi; rw [HV.out.2.2] at ht; have HI := Lib.hid hi; have HT := Lib.hid ht; have HU := Lib.hid hu; clear hi ht hu)
    | (go_at_call 32; refine HI.out.mono ?_; rintro _ _ ⟨rfl, rfl⟩)
    | (go_at_call 56; refine HT.out.mono ?_; rintro _ _ ⟨rfl, rfl⟩)
    | (go_at_call 18; refine HU.out.mono ?_; rintro _ _ ⟨rfl, rfl⟩))
  go_ret
  exact ⟨rfl, HN.out.behind HB0.out⟩
set_option maxRecDepth 100000 in
set_option maxHeartbeats 1600000 in
theorem turn_7u (h : LiveP w B c D m p F) (hB : B ≤ w.heap.size) (hm : m ≤ 4398046511104) (bb : Nat) (a b n : Int) (BA SA : Option Addr) (bn bc sn sc : Nat) (hu1 : upA c p.down a = true) (hinc : ∀ k, k < c.n → 1 ≤ p.inc k) : Calls Try.prog 50 #[.pointer (some ⟨bb, 0, none⟩), .pointer (some ⟨D, 0, none⟩), .agg #[.int .i64 7, .int .i64 a, .int .i64 b, .int .i64 n, .slice BA bn bc, .slice SA sn sc]] w fun e w' => e = .returned (.bool true) ∧ LiveC w F B c D m (restP c p a) w' := by
  have hb0 := one_box' w (.cells #[.int .i64 7, .int .i64 a, .int .i64 b, .int .i64 n, .slice BA bn bc, .slice SA sn sc] 33)
  have hE := Blk.new w 33 #[.int .i64 7, .int .i64 a, .int .i64 b, .int .i64 n, .slice BA bn bc, .slice SA sn sc]
  obtain ⟨w0, hw0⟩ : ∃ w0, w0 = w.alloc (.cells #[.int .i64 7, .int .i64 a, .int .i64 b, .int .i64 n, .slice BA bn bc, .slice SA sn sc] 33) := ⟨_, rfl⟩
  rw [← hw0] at hb0 hE
  have hL := h.below hb0
  have hB0 : B ≤ w0.heap.size := Nat.le_trans hB hb0.size
  have HW0 := Lib.hid hw0
  have HB0 := Lib.hid hb0
  have HE := Lib.hid hE
  have HNF : Hid (¬ F w.heap.size) := Lib.hid fun hf => Nat.lt_irrefl _ (h.pn.1 _ hf)
  have x0 : w0.cell? ⟨w.heap.size, 0, none⟩ = some (.int .i64 7) := hE.cell 0
  have x1 : w0.cell? ⟨w.heap.size, 1, none⟩ = some (.int .i64 a) := hE.cell 1
  have hi := Inc_any hL.pn a
  have ht := Ticks_any hL.pn a
  have hu := Up_any hL.pn a
  have hp := CRest hL hB0 hm a
  obtain ⟨i1, hi1⟩ : ∃ i1, i1 = numA c p.inc a := ⟨_, rfl⟩
  obtain ⟨t1, ht1⟩ : ∃ t1, t1 = numA c p.tk a := ⟨_, rfl⟩
  have ei : (i1 == i1) = true := by simp
  have et : (t1 == t1) = true := by simp
  have et2 : (t1 + 1 == t1 + 1) = true := by simp
  have ei2 : (i1 + 1 == i1 + 1) = true := by simp
  rw [← hi1] at hi
  rw [← ht1] at ht
  have hv := rest_none (p := p) (.inl hu1) hinc
  obtain ⟨y, hy⟩ : ∃ y, y = Rest_e c p.down a := ⟨_, rfl⟩
  have ey : (y == 0) = false := by simpa [hy] using hv.1
  have ey2 : (y != 0) = true := by simpa [hy] using hv.1
  rw [← hy] at hp
  have HV : Hid (upA c (restP c p a).down a = true ∧ numA c (restP c p a).inc a = i1 ∧ numA c (restP c p a).tk a = t1) := Lib.hid ⟨by rw [hv.2]; exact hu1, by rw [hv.2, hi1], by rw [hv.2, ht1]⟩
  rw [hu1] at hu
  clear hv hu1 hi1 ht1 hy
  have HI := Lib.hid hi
  have HT := Lib.hid ht
  have HU := Lib.hid hu
  have HP := Lib.hid hp
  clear hw0 hb0 hE hL h hB0 hB hm hi ht hu hp
  go_enter Try.func50, Try.ntmps50
  go_upto_region 1 with fail
  rw [← HW0.out]
  go_upto_region 4 with (first
    | (go_at_call 32; refine HI.out.mono ?_; rintro _ _ ⟨rfl, rfl⟩)
    | (go_at_call 56; refine HT.out.mono ?_; rintro _ _ ⟨rfl, rfl⟩)
    | (go_at_call 18; refine HU.out.mono ?_; rintro _ _ ⟨rfl, rfl⟩))
  clear HI HT HU
  go_wp2_with (first
    | (go_at_call 17; refine HP.out.mono ?_; rintro _ w1 ⟨rfl, hn⟩; have HN := Lib.hid hn; clear hn; obtain ⟨G, hg, _, hch⟩ := HN.out; have hE1 := HE.out.chg hch HNF.out; have x1' : w1.cell? ⟨w.heap.size, 1, none⟩ = some (.int .i64 a) := hE1.cell 1; clear x0 x1 hch hE1; have hi := Inc_any hg.pn a; have ht := Ticks_any hg.pn a; have hu := Up_any hg.pn a; clear hg; rw [HV.out.1] at hu; rw [HV.out.2.1] at hi; rw [HV.out.2.2] at ht; have HI := Lib.hid hi; have HT := Lib.hid ht; have HU := Lib.hid hu; clear hi ht hu)
    | (go_at_call 32; refine HI.out.mono ?_; rintro _ _ ⟨rfl, rfl⟩)
    | (go_at_call 56; refine HT.out.mono ?_; rintro _ _ ⟨rfl, rfl⟩)
    | (go_at_call 18; refine HU.out.mono ?_; rintro _ _ ⟨rfl, rfl⟩))
  go_ret
  exact ⟨rfl, HN.out.behind HB0.out⟩
set_option maxRecDepth 100000 in
set_option maxHeartbeats 1600000 in
theorem turn_7z (h : LiveP w B c D m p F) (hB : B ≤ w.heap.size) (hm : m ≤ 4398046511104) (bb : Nat) (a b n : Int) (BA SA : Option Addr) (bn bc sn sc : Nat) (hu1 : upA c p.down a = false) (hz : numA c p.inc a = 0) (hinc : ∀ k, k < c.n → 1 ≤ p.inc k) : Calls Try.prog 50 #[.pointer (some ⟨bb, 0, none⟩), .pointer (some ⟨D, 0, none⟩), .agg #[.int .i64 7, .int .i64 a, .int .i64 b, .int .i64 n, .slice BA bn bc, .slice SA sn sc]] w fun e w' => e = .returned (.bool true) ∧ LiveC w F B c D m (restP c p a) w' := by
  have hb0 := one_box' w (.cells #[.int .i64 7, .int .i64 a, .int .i64 b, .int .i64 n, .slice BA bn bc, .slice SA sn sc] 33)
  have hE := Blk.new w 33 #[.int .i64 7, .int .i64 a, .int .i64 b, .int .i64 n, .slice BA bn bc, .slice SA sn sc]
  obtain ⟨w0, hw0⟩ : ∃ w0, w0 = w.alloc (.cells #[.int .i64 7, .int .i64 a, .int .i64 b, .int .i64 n, .slice BA bn bc, .slice SA sn sc] 33) := ⟨_, rfl⟩
  rw [← hw0] at hb0 hE
  have hL := h.below hb0
  have hB0 : B ≤ w0.heap.size := Nat.le_trans hB hb0.size
  have HW0 := Lib.hid hw0
  have HB0 := Lib.hid hb0
  have HE := Lib.hid hE
  have HNF : Hid (¬ F w.heap.size) := Lib.hid fun hf => Nat.lt_irrefl _ (h.pn.1 _ hf)
  have x0 : w0.cell? ⟨w.heap.size, 0, none⟩ = some (.int .i64 7) := hE.cell 0
  have x1 : w0.cell? ⟨w.heap.size, 1, none⟩ = some (.int .i64 a) := hE.cell 1
  have hi := Inc_any hL.pn a
  have ht := Ticks_any hL.pn a
  have hu := Up_any hL.pn a
  have hp := CRest hL hB0 hm a
  have hv := rest_none (p := p) (.inr hz) hinc
  obtain ⟨y, hy⟩ : ∃ y, y = Rest_e c p.down a := ⟨_, rfl⟩
  have ey2 : (y != 0) = true := by simpa [hy] using hv.1
  rw [← hy] at hp
  have HV : Hid (upA c (restP c p a).down a = false ∧ numA c (restP c p a).inc a = 0) := Lib.hid ⟨by rw [hv.2]; exact hu1, by rw [hv.2, hz]⟩
  rw [hu1] at hu
  rw [hz] at hi
  clear hv hu1 hz hy
  have HI := Lib.hid hi
  have HT := Lib.hid ht
  have HU := Lib.hid hu
  have HP := Lib.hid hp
  clear hw0 hb0 hE hL h hB0 hB hm hi ht hu hp
  go_enter Try.func50, Try.ntmps50
  go_upto_region 1 with fail
  rw [← HW0.out]
  go_upto_region 4 with (first
    | (go_at_call 32; refine HI.out.mono ?_; rintro _ _ ⟨rfl, rfl⟩)
    | (go_at_call 56; refine HT.out.mono ?_; rintro _ _ ⟨rfl, rfl⟩)
    | (go_at_call 18; refine HU.out.mono ?_; rintro _ _ ⟨rfl, rfl⟩))
  clear HI HT HU
  go_wp2_with (first
    | (go_at_call 17; refine HP.out.mono ?_; rintro _ w1 ⟨rfl, hn⟩; have HN := Lib.hid hn; clear hn; obtain ⟨G, hg, _, hch⟩ := HN.out; have hE1 := HE.out.chg hch HNF.out; have x1' : w1.cell? ⟨w.heap.size, 1, none⟩ = some (.int .i64 a) := hE1.cell 1; clear x0 x1 hch hE1; have hi := Inc_any hg.pn a; have ht := Ticks_any hg.pn a; have hu := Up_any hg.pn a; clear hg; rw [HV.out.1] at hu; rw [HV.out.2] at hi; have HI := Lib.hid hi; have HT := Lib.hid ht; have HU := Lib.hid hu; clear hi ht hu)
    | (go_at_call 32; refine HI.out.mono ?_; rintro _ _ ⟨rfl, rfl⟩)
    | (go_at_call 56; refine HT.out.mono ?_; rintro _ _ ⟨rfl, rfl⟩)
    | (go_at_call 18; refine HU.out.mono ?_; rintro _ _ ⟨rfl, rfl⟩))
  go_ret
  exact ⟨rfl, HN.out.behind HB0.out⟩
set_option maxRecDepth 100000 in
set_option maxHeartbeats 1600000 in
theorem turn_7y (h : LiveP w B c D m p F) (hB : B ≤ w.heap.size) (hm : m ≤ 4398046511104) (bb : Nat) (a b n : Int) (BA SA : Option Addr) (bn bc sn sc : Nat) (hu1 : upA c p.down a = false) (hz : numA c p.inc a ≠ 0) : Calls Try.prog 50 #[.pointer (some ⟨bb, 0, none⟩), .pointer (some ⟨D, 0, none⟩), .agg #[.int .i64 7, .int .i64 a, .int .i64 b, .int .i64 n, .slice BA bn bc, .slice SA sn sc]] w fun e w' => e = .returned (.bool true) ∧ LiveC w F B c D m (restP c p a) w' := by
  have hb0 := one_box' w (.cells #[.int .i64 7, .int .i64 a, .int .i64 b, .int .i64 n, .slice BA bn bc, .slice SA sn sc] 33)
  have hE := Blk.new w 33 #[.int .i64 7, .int .i64 a, .int .i64 b, .int .i64 n, .slice BA bn bc, .slice SA sn sc]
  obtain ⟨w0, hw0⟩ : ∃ w0, w0 = w.alloc (.cells #[.int .i64 7, .int .i64 a, .int .i64 b, .int .i64 n, .slice BA bn bc, .slice SA sn sc] 33) := ⟨_, rfl⟩
  rw [← hw0] at hb0 hE
  have hL := h.below hb0
  have hB0 : B ≤ w0.heap.size := Nat.le_trans hB hb0.size
  have HW0 := Lib.hid hw0
  have HB0 := Lib.hid hb0
  have HE := Lib.hid hE
  have HNF : Hid (¬ F w.heap.size) := Lib.hid fun hf => Nat.lt_irrefl _ (h.pn.1 _ hf)
  have x0 : w0.cell? ⟨w.heap.size, 0, none⟩ = some (.int .i64 7) := hE.cell 0
  have x1 : w0.cell? ⟨w.heap.size, 1, none⟩ = some (.int .i64 a) := hE.cell 1
  have hi := Inc_any hL.pn a
  have ht := Ticks_any hL.pn a
  have hu := Up_any hL.pn a
  have hp := CRest hL hB0 hm a
  obtain ⟨i1, hi1⟩ : ∃ i1, i1 = numA c p.inc a := ⟨_, rfl⟩
  obtain ⟨t1, ht1⟩ : ∃ t1, t1 = numA c p.tk a := ⟨_, rfl⟩
  have ei : (i1 == i1) = true := by simp
  have et : (t1 == t1) = true := by simp
  have et2 : (t1 + 1 == t1 + 1) = true := by simp
  have ei2 : (i1 + 1 == i1 + 1) = true := by simp
  rw [← hi1] at hi
  rw [← ht1] at ht
  have htb : -1 ≤ t1 ∧ t1 ≤ 4398046511105 := by
    rw [ht1]; unfold numA
    have := h.inv.tks a.toNat
    split <;> omega
  have hib : -1 ≤ i1 ∧ i1 ≤ 4398046511106 := by
    rw [hi1]; unfold numA
    have := h.inv.incs a.toNat
    split <;> omega
  have wt : IntKind.i64.wrap (t1 + 1) = t1 + 1 := IntWalk.i64_in _ (by omega)
  have wi : IntKind.i64.wrap (i1 + 1) = i1 + 1 := IntWalk.i64_in _ (by omega)
  have hv := rest_vals (p := p) hu1 hz
  have ez : (i1 == 0) = false := by simpa [hi1] using hz
  rw [hu1] at hu
  rw [hv.1, hv.2.1, ← hi1] at hp
  have HV : Hid (upA c (restP c p a).down a = true ∧ numA c (restP c p a).inc a = i1 + 1 ∧ numA c (restP c p a).tk a = 0) := Lib.hid ⟨hv.2.2.2.2, by rw [hv.2.2.1, hi1], hv.2.2.2.1⟩
  clear hv hu1 hi1 ht1 htb hib hz
  have HI := Lib.hid hi
  have HT := Lib.hid ht
  have HU := Lib.hid hu
  have HP := Lib.hid hp
  clear hw0 hb0 hE hL h hB0 hB hm hi ht hu hp
  go_enter Try.func50, Try.ntmps50
  go_upto_region 1 with fail
  rw [← HW0.out]
  go_upto_region 4 with (first
    | (go_at_call 32; refine HI.out.mono ?_; rintro _ _ ⟨rfl, rfl⟩)
    | (go_at_call 56; refine HT.out.mono ?_; rintro _ _ ⟨rfl, rfl⟩)
    | (go_at_call 18; refine HU.out.mono ?_; rintro _ _ ⟨rfl, rfl⟩))
  clear HI HT HU
  go_wp2_with (first
    | (go_at_call 17; refine HP.out.mono ?_; rintro _ w1 ⟨rfl, hn⟩; have HN := Lib.hid hn; clear hn; obtain ⟨G, hg, _, hch⟩ := HN.out; have hE1 := HE.out.chg hch HNF.out; have x1' : w1.cell? ⟨w.heap.size, 1, none⟩ = some (.int .i64 a) := hE1.cell 1; clear x0 x1 hch hE1; have hi := Inc_any hg.pn a; have ht := Ticks_any hg.pn a; have hu := Up_any hg.pn a; clear hg; rw [HV.out.1] at hu; rw [HV.out.2.1] at hi; rw [HV.out.2.2] at ht; have HI := Lib.hid hi; have HT := Lib.hid ht; have HU := Lib.hid hu; clear hi ht hu)
    | (go_at_call 32; refine HI.out.mono ?_; rintro _ _ ⟨rfl, rfl⟩)
    | (go_at_call 56; refine HT.out.mono ?_; rintro _ _ ⟨rfl, rfl⟩)
    | (go_at_call 18; refine HU.out.mono ?_; rintro _ _ ⟨rfl, rfl⟩))
  go_ret
  exact ⟨rfl, HN.out.behind HB0.out⟩
end
end Go.Proofs.Ytgfhmfhhobhojaa
namespace Go.Proofs.Ytgfhmfhhobhojaa
open Go.ChangeShapes Go.WideShapes Go.ChangeAt Go.RowKit
/-- The book's four rows, each with a length of its own; all its blocks are in FB. -/
structure BookQ (w : World) (FB : Nat → Prop) (b : Nat) (S T : List Nat) (L : List (List UInt8)) (C : List Bool) (v0 v1 v2 v3 : Value) (Y : List Value) : Prop where
  blk : Blk w b 55 #[v0, v1, v2, v3]
  src : w.ownsRow 0 3 1 v0 S.length (S.map fun x : Nat => .int .i64 (x : Int))
  dst : w.ownsRow 0 3 1 v1 T.length (T.map fun x : Nat => .int .i64 (x : Int))
  bytes : w.ownsRow 0 30 1 v2 L.length Y
  come : w.ownsRow 0 4 1 v3 C.length (C.map fun x => .bool x)
  row : ∀ (k : Nat) (bs : List UInt8), L[k]? = some bs → ∃ u, Y[k]? = some u ∧ w.ownsRow 0 5 1 u bs.length (bvs bs)
  apart : ∀ (j k : Nat) u u' g, Y[j]? = some u → Y[k]? = some u' → u.ownBlock = some g → u'.ownBlock = some g → j = k
  sd : ∀ g, v0.ownBlock = some g → v1.ownBlock ≠ some g
  fb : FB b
  f0 : ∀ g, v0.ownBlock = some g → FB g
  f1 : ∀ g, v1.ownBlock = some g → FB g
  f2 : ∀ g, v2.ownBlock = some g → FB g
  f3 : ∀ g, v3.ownBlock = some g → FB g
  fy : ∀ u ∈ Y, ∀ g, u.ownBlock = some g → FB g
  lt : ∀ k, FB k → k < w.heap.size
section
variable {w w' w1 : World} {FB : Nat → Prop} {b : Nat} {S T : List Nat} {L : List (List UInt8)} {C : List Bool} {v0 v1 v2 v3 : Value} {Y : List Value}
theorem own_ty {base e size n : Nat} {v : Value} {xs : List Value} (h : w.ownsRow base e size v n xs) {g : Nat} (hg : v.ownBlock = some g) {t : TypeId} {cs : Array Value} (hB : Blk w g t cs) : e = t := by
  obtain ⟨_, h1 | ⟨g', cap, cur, rfl, _, h2, _⟩⟩ := h
  · rw [h1.1] at hg; cases hg
  · simp only [Value.ownBlock, Option.some.injEq] at hg
    subst hg
    unfold Blk at hB
    rw [h2] at hB
    simp only [Option.some.injEq, Obj.cells.injEq] at hB
    exact hB.2.1
theorem own_apart {e e' n n' z z' : Nat} {v v' : Value} {xs xs' : List Value} (h : w.ownsRow 0 e z v n xs) (h' : w.ownsRow 0 e' z' v' n' xs') (hne : e ≠ e') {g : Nat} (hg : v.ownBlock = some g) : v'.ownBlock ≠ some g := fun hg' => by
  obtain ⟨_, h1 | ⟨g', cap, cur, rfl, _, h2, _⟩⟩ := h'
  · rw [h1.1] at hg'; cases hg'
  · simp only [Value.ownBlock, Option.some.injEq] at hg'
    subst hg'
    exact hne (own_ty h hg h2)
/-- The book stands behind a change elsewhere. -/
theorem BookQ.chg {S' : Nat → Prop} (h : BookQ w FB b S T L C v0 v1 v2 v3 Y) (hc : Chg S' w w') (hS : ∀ k, FB k → ¬ S' k) : BookQ w' FB b S T L C v0 v1 v2 v3 Y :=
  ⟨h.blk.chg hc (hS b h.fb), own_chg h.src hc fun g hg => hS g (h.f0 g hg), own_chg h.dst hc fun g hg => hS g (h.f1 g hg), own_chg h.bytes hc fun g hg => hS g (h.f2 g hg), own_chg h.come hc fun g hg => hS g (h.f3 g hg), fun k bs hk => by
    obtain ⟨u, h1, h2⟩ := h.row k bs hk
    exact ⟨u, h1, own_chg h2 hc fun g hg => hS g (h.fy u (List.mem_of_getElem? h1) g hg)⟩, h.apart, h.sd, h.fb, h.f0, h.f1, h.f2, h.f3, h.fy, fun k hk => Nat.lt_of_lt_of_le (h.lt k hk) hc.size⟩
theorem BookQ.below (h : BookQ w FB b S T L C v0 v1 v2 v3 Y) (hb : Below w.heap.size w w') : BookQ w' FB b S T L C v0 v1 v2 v3 Y := h.chg (Chg.of_below hb fun _ => False) fun _ _ h => h
/-- A row is put anew: what an append of that row leaves (w'), and its store. -/
def FBn (FB : Nat → Prop) (B0 : Nat) (w1 : World) : Nat → Prop := fun k => FB k ∨ (B0 ≤ k ∧ k < w1.heap.size)
theorem grown_chg {v : Value} (hg : w.grownBy w' v.ownBlock) (i : Nat) (u : Value) : Chg (fun k => v.ownBlock = some k ∨ k = b) w (w'.setCell ⟨b, i, none⟩ u) :=
  ((Chg.of_grown hg).mono fun _k _ hk => .inl hk.symm).setCell (p := ⟨b, i, none⟩) (.inl (.inr rfl)) u
theorem BookQ.src_put (h : BookQ w FB b S T L C v0 v1 v2 v3 Y) {B0 : Nat} (hB0 : B0 ≤ w.heap.size) {v : Value} {x : Nat} (ho : w'.ownsRow 0 3 1 v (S.length + 1) (S.map (fun x : Nat => .int .i64 (x : Int)) ++ [.int .i64 (x : Int)])) (hg : w.grownBy w' v0.ownBlock) (hat : v.ownBlock = v0.ownBlock ∨ ∃ z, v.ownBlock = some z ∧ w.heap.size ≤ z) : BookQ (w'.setCell ⟨b, 0, none⟩ v) (FBn FB B0 (w'.setCell ⟨b, 0, none⟩ v)) b (S ++ [x]) T L C v v1 v2 v3 Y ∧ Chg FB w (w'.setCell ⟨b, 0, none⟩ v) ∧ w'.cell? ⟨b, 0, none⟩ = some v0 ∧ w'.frozen? ⟨b, 0, none⟩ = false := by
  have hc := grown_chg (b := b) hg 0 v
  have hbl := h.lt b h.fb
  have hb0 : v0.ownBlock ≠ some b := fun e => by have := own_ty h.src e h.blk; exact absurd this (by decide)
  have hB' : Blk w' b 55 #[v0, v1, v2, v3] := h.blk.chg (Chg.of_grown hg) fun e => hb0 e.symm
  have hsz := hc.size
  have hvb : v.ownBlock ≠ some b := fun e => by
    rcases hat with h1 | ⟨z, h1, h2⟩
    · exact hb0 (h1 ▸ e)
    · rw [h1] at e; injection e with e; omega
  have nb : ∀ {e n : Nat} {u : Value} {xs : List Value}, w.ownsRow 0 e 1 u n xs → e ≠ 55 → ∀ g, u.ownBlock = some g → g ≠ b := fun hu hne g hg e => by subst e; exact hne (own_ty hu hg h.blk)
  have own1 : ∀ {e n : Nat} {u : Value} {xs : List Value}, w.ownsRow 0 e 1 u n xs → e ≠ 55 → (∀ g, u.ownBlock = some g → v0.ownBlock ≠ some g) → (w'.setCell ⟨b, 0, none⟩ v).ownsRow 0 e 1 u n xs := fun hu hne hd => own_chg hu hc fun g hg => fun h3 => h3.elim (hd g hg) (nb hu hne g hg)
  have ho' : (w'.setCell ⟨b, 0, none⟩ v).ownsRow 0 3 1 v (S.length + 1) (S.map (fun x : Nat => .int .i64 (x : Int)) ++ [.int .i64 (x : Int)]) := own_far ho fun g hg e => hvb (by rw [hg, e])
  have hvl : ∀ g, v.ownBlock = some g → g < (w'.setCell ⟨b, 0, none⟩ v).heap.size := fun g hg => (own_block_lt ho' hg).1
  refine ⟨⟨?_, ?_, own1 h.dst (by decide) fun g hg e => h.sd g e hg, own1 h.bytes (by decide) fun g hg => own_apart h.bytes h.src (by decide) hg, own1 h.come (by decide) fun g hg => own_apart h.come h.src (by decide) hg, fun k bs2 hk2 => ?_, h.apart, fun g hg e => ?_, .inl h.fb, fun g hg => ?_, fun g hg => .inl (h.f1 g hg), fun g hg => .inl (h.f2 g hg), fun g hg => .inl (h.f3 g hg), fun u hu g hg => .inl (h.fy u hu g hg), fun k hk2 => ?_⟩, ?_, by rw [hB'.cell]; rfl, hB'.frozen 0⟩
  · have := hB'.set_ 0 v
    simpa using this
  · rw [List.length_append, List.map_append]; exact ho'
  · obtain ⟨u, h1, h2⟩ := h.row k bs2 hk2
    exact ⟨u, h1, own1 h2 (by decide) fun g hg => own_apart h2 h.src (by decide) hg⟩
  · rcases hat with h1 | ⟨z, h1, h2⟩
    · exact h.sd g (h1 ▸ hg) e
    · rw [h1] at hg; injection hg with hg
      have := h.lt g (h.f1 g e)
      omega
  · rcases hat with h1 | ⟨z, h1, h2⟩
    · exact .inl (h.f0 g (h1 ▸ hg))
    · have h3 := hvl g hg
      rw [h1] at hg; injection hg with hg
      exact .inr ⟨by omega, h3⟩
  · rcases hk2 with h1 | h1
    · have := h.lt k h1; omega
    · exact h1.2
  · exact hc.mono fun k _ h3 => h3.elim (h.f0 k) fun e => e ▸ h.fb
theorem BookQ.dst_put (h : BookQ w FB b S T L C v0 v1 v2 v3 Y) {B0 : Nat} (hB0 : B0 ≤ w.heap.size) {v : Value} {x : Nat} (ho : w'.ownsRow 0 3 1 v (T.length + 1) (T.map (fun x : Nat => .int .i64 (x : Int)) ++ [.int .i64 (x : Int)])) (hg : w.grownBy w' v1.ownBlock) (hat : v.ownBlock = v1.ownBlock ∨ ∃ z, v.ownBlock = some z ∧ w.heap.size ≤ z) : BookQ (w'.setCell ⟨b, 1, none⟩ v) (FBn FB B0 (w'.setCell ⟨b, 1, none⟩ v)) b S (T ++ [x]) L C v0 v v2 v3 Y ∧ Chg FB w (w'.setCell ⟨b, 1, none⟩ v) ∧ w'.cell? ⟨b, 1, none⟩ = some v1 ∧ w'.frozen? ⟨b, 1, none⟩ = false := by
  have hc := grown_chg (b := b) hg 1 v
  have hbl := h.lt b h.fb
  have hb0 : v1.ownBlock ≠ some b := fun e => by have := own_ty h.dst e h.blk; exact absurd this (by decide)
  have hB' : Blk w' b 55 #[v0, v1, v2, v3] := h.blk.chg (Chg.of_grown hg) fun e => hb0 e.symm
  have hsz := hc.size
  have hvb : v.ownBlock ≠ some b := fun e => by
    rcases hat with h1 | ⟨z, h1, h2⟩
    · exact hb0 (h1 ▸ e)
    · rw [h1] at e; injection e with e; omega
  have nb : ∀ {e n : Nat} {u : Value} {xs : List Value}, w.ownsRow 0 e 1 u n xs → e ≠ 55 → ∀ g, u.ownBlock = some g → g ≠ b := fun hu hne g hg e => by subst e; exact hne (own_ty hu hg h.blk)
  have own1 : ∀ {e n : Nat} {u : Value} {xs : List Value}, w.ownsRow 0 e 1 u n xs → e ≠ 55 → (∀ g, u.ownBlock = some g → v1.ownBlock ≠ some g) → (w'.setCell ⟨b, 1, none⟩ v).ownsRow 0 e 1 u n xs := fun hu hne hd => own_chg hu hc fun g hg => fun h3 => h3.elim (hd g hg) (nb hu hne g hg)
  have ho' : (w'.setCell ⟨b, 1, none⟩ v).ownsRow 0 3 1 v (T.length + 1) (T.map (fun x : Nat => .int .i64 (x : Int)) ++ [.int .i64 (x : Int)]) := own_far ho fun g hg e => hvb (by rw [hg, e])
  have hvl : ∀ g, v.ownBlock = some g → g < (w'.setCell ⟨b, 1, none⟩ v).heap.size := fun g hg => (own_block_lt ho' hg).1
  refine ⟨⟨?_, own1 h.src (by decide) fun g hg e => h.sd g hg e, ?_, own1 h.bytes (by decide) fun g hg => own_apart h.bytes h.dst (by decide) hg, own1 h.come (by decide) fun g hg => own_apart h.come h.dst (by decide) hg, fun k bs2 hk2 => ?_, h.apart, fun g hg e => ?_, .inl h.fb, fun g hg => .inl (h.f0 g hg), fun g hg => ?_, fun g hg => .inl (h.f2 g hg), fun g hg => .inl (h.f3 g hg), fun u hu g hg => .inl (h.fy u hu g hg), fun k hk2 => ?_⟩, ?_, by rw [hB'.cell]; rfl, hB'.frozen 1⟩
  · have := hB'.set_ 1 v
    simpa using this
  · rw [List.length_append, List.map_append]; exact ho'
  · obtain ⟨u, h1, h2⟩ := h.row k bs2 hk2
    exact ⟨u, h1, own1 h2 (by decide) fun g hg => own_apart h2 h.dst (by decide) hg⟩
  · rcases hat with h1 | ⟨z, h1, h2⟩
    · exact h.sd g hg (h1 ▸ e)
    · rw [h1] at e; injection e with e
      have := h.lt g (h.f0 g hg)
      omega
  · rcases hat with h1 | ⟨z, h1, h2⟩
    · exact .inl (h.f1 g (h1 ▸ hg))
    · have h3 := hvl g hg
      rw [h1] at hg; injection hg with hg
      exact .inr ⟨by omega, h3⟩
  · rcases hk2 with h1 | h1
    · have := h.lt k h1; omega
    · exact h1.2
  · exact hc.mono fun k _ h3 => h3.elim (h.f1 k) fun e => e ▸ h.fb
theorem BookQ.bytes_put (h : BookQ w FB b S T L C v0 v1 v2 v3 Y) {B0 : Nat} (hB0 : B0 ≤ w.heap.size) {v : Value} {u : Value} {bs : List UInt8} (ho : w'.ownsRow 0 30 1 v (L.length + 1) (Y ++ [u])) (hg : w.grownBy w' v2.ownBlock) (hat : v.ownBlock = v2.ownBlock ∨ ∃ z, v.ownBlock = some z ∧ w.heap.size ≤ z) (hu : w.ownsRow 0 5 1 u bs.length (bvs bs)) (hun : ∀ g, u.ownBlock = some g → ¬ FB g ∧ B0 ≤ g) : BookQ (w'.setCell ⟨b, 2, none⟩ v) (FBn FB B0 (w'.setCell ⟨b, 2, none⟩ v)) b S T (L ++ [bs]) C v0 v1 v v3 (Y ++ [u]) ∧ Chg FB w (w'.setCell ⟨b, 2, none⟩ v) ∧ w'.cell? ⟨b, 2, none⟩ = some v2 ∧ w'.frozen? ⟨b, 2, none⟩ = false := by
  have hc := grown_chg (b := b) hg 2 v
  have hbl := h.lt b h.fb
  have hb0 : v2.ownBlock ≠ some b := fun e => by have := own_ty h.bytes e h.blk; exact absurd this (by decide)
  have hB' : Blk w' b 55 #[v0, v1, v2, v3] := h.blk.chg (Chg.of_grown hg) fun e => hb0 e.symm
  have hsz := hc.size
  have hvb : v.ownBlock ≠ some b := fun e => by
    rcases hat with h1 | ⟨z, h1, h2⟩
    · exact hb0 (h1 ▸ e)
    · rw [h1] at e; injection e with e; omega
  have nb : ∀ {e n : Nat} {u : Value} {xs : List Value}, w.ownsRow 0 e 1 u n xs → e ≠ 55 → ∀ g, u.ownBlock = some g → g ≠ b := fun hu hne g hg e => by subst e; exact hne (own_ty hu hg h.blk)
  have own1 : ∀ {e n : Nat} {u : Value} {xs : List Value}, w.ownsRow 0 e 1 u n xs → e ≠ 55 → (∀ g, u.ownBlock = some g → v2.ownBlock ≠ some g) → (w'.setCell ⟨b, 2, none⟩ v).ownsRow 0 e 1 u n xs := fun hu hne hd => own_chg hu hc fun g hg => fun h3 => h3.elim (hd g hg) (nb hu hne g hg)
  have ho' : (w'.setCell ⟨b, 2, none⟩ v).ownsRow 0 30 1 v (L.length + 1) (Y ++ [u]) := own_far ho fun g hg e => hvb (by rw [hg, e])
  have hvl : ∀ g, v.ownBlock = some g → g < (w'.setCell ⟨b, 2, none⟩ v).heap.size := fun g hg => (own_block_lt ho' hg).1
  refine ⟨⟨?_, own1 h.src (by decide) fun g hg => own_apart h.src h.bytes (by decide) hg, own1 h.dst (by decide) fun g hg => own_apart h.dst h.bytes (by decide) hg, ?_, own1 h.come (by decide) fun g hg => own_apart h.come h.bytes (by decide) hg, fun k bs2 hk2 => ?_, fun j k q q' g hj hk2 hq hq' => ?_, h.sd, .inl h.fb, fun g hg => .inl (h.f0 g hg), fun g hg => .inl (h.f1 g hg), fun g hg => ?_, fun g hg => .inl (h.f3 g hg), fun u2 hu2 g hg => ?_, fun k hk2 => ?_⟩, ?_, by rw [hB'.cell]; rfl, hB'.frozen 2⟩
  · have := hB'.set_ 2 v
    simpa using this
  · rw [List.length_append]; exact ho'
  · rcases Nat.lt_or_ge k L.length with hlt | hge
    · rw [List.getElem?_append_left hlt] at hk2
      obtain ⟨q, h1, h2⟩ := h.row k bs2 hk2
      have hyl := h.bytes.1
      refine ⟨q, by rw [List.getElem?_append_left (List.getElem?_eq_some_iff.1 h1).1]; exact h1, own1 h2 (by decide) fun g hg => own_apart h2 h.bytes (by decide) hg⟩
    · rw [List.getElem?_append_right hge] at hk2
      have hlt := (List.getElem?_eq_some_iff.1 hk2).1
      simp only [List.length_cons, List.length_nil] at hlt
      obtain rfl : k = L.length := by omega
      simp only [Nat.sub_self, List.getElem?_cons_zero, Option.some.injEq] at hk2
      subst hk2
      have hyl := h.bytes.1
      rw [Nat.mul_one] at hyl
      refine ⟨u, by rw [List.getElem?_append_right (by omega), hyl, Nat.sub_self]; rfl, own1 hu (by decide) fun g hg => own_apart hu h.bytes (by decide) hg⟩
  · have hnew : ∀ (i : Nat) (q : Value), (Y ++ [u])[i]? = some q → (i < Y.length ∧ Y[i]? = some q) ∨ (i = Y.length ∧ q = u) := fun i q hi => by
      rcases Nat.lt_or_ge i Y.length with hlt | hge
      · rw [List.getElem?_append_left hlt] at hi; exact .inl ⟨hlt, hi⟩
      · rw [List.getElem?_append_right hge] at hi
        have hlt := (List.getElem?_eq_some_iff.1 hi).1
        simp only [List.length_cons, List.length_nil] at hlt
        obtain rfl : i = Y.length := by omega
        simp only [Nat.sub_self, List.getElem?_cons_zero, Option.some.injEq] at hi
        exact .inr ⟨rfl, hi.symm⟩
    rcases hnew j q hj with ⟨h1, h2⟩ | ⟨h1, h2⟩
    · rcases hnew k q' hk2 with ⟨h3, h4⟩ | ⟨h3, h4⟩
      · exact h.apart j k q q' g h2 h4 hq hq'
      · rw [h4] at hq'
        exact absurd (h.fy q (List.mem_of_getElem? h2) g hq) (hun g hq').1
    · rcases hnew k q' hk2 with ⟨h3, h4⟩ | ⟨h3, h4⟩
      · rw [h2] at hq
        exact absurd (h.fy q' (List.mem_of_getElem? h4) g hq') (hun g hq).1
      · omega
  · rcases hat with h1 | ⟨z, h1, h2⟩
    · exact .inl (h.f2 g (h1 ▸ hg))
    · have h3 := hvl g hg
      rw [h1] at hg; injection hg with hg
      exact .inr ⟨by omega, h3⟩
  · rcases List.mem_append.1 hu2 with h1 | h1
    · exact .inl (h.fy u2 h1 g hg)
    · simp only [List.mem_cons, List.not_mem_nil, or_false] at h1
      subst h1
      have := (own_block_lt hu hg).1
      exact .inr ⟨(hun g hg).2, by omega⟩
  · rcases hk2 with h1 | h1
    · have := h.lt k h1; omega
    · exact h1.2
  · exact hc.mono fun k _ h3 => h3.elim (h.f2 k) fun e => e ▸ h.fb
theorem BookQ.come_put (h : BookQ w FB b S T L C v0 v1 v2 v3 Y) {B0 : Nat} (hB0 : B0 ≤ w.heap.size) {v : Value} {x : Bool} (ho : w'.ownsRow 0 4 1 v (C.length + 1) (C.map (fun x => .bool x) ++ [.bool x])) (hg : w.grownBy w' v3.ownBlock) (hat : v.ownBlock = v3.ownBlock ∨ ∃ z, v.ownBlock = some z ∧ w.heap.size ≤ z) : BookQ (w'.setCell ⟨b, 3, none⟩ v) (FBn FB B0 (w'.setCell ⟨b, 3, none⟩ v)) b S T L (C ++ [x]) v0 v1 v2 v Y ∧ Chg FB w (w'.setCell ⟨b, 3, none⟩ v) ∧ w'.cell? ⟨b, 3, none⟩ = some v3 ∧ w'.frozen? ⟨b, 3, none⟩ = false := by
  have hc := grown_chg (b := b) hg 3 v
  have hbl := h.lt b h.fb
  have hb0 : v3.ownBlock ≠ some b := fun e => by have := own_ty h.come e h.blk; exact absurd this (by decide)
  have hB' : Blk w' b 55 #[v0, v1, v2, v3] := h.blk.chg (Chg.of_grown hg) fun e => hb0 e.symm
  have hsz := hc.size
  have hvb : v.ownBlock ≠ some b := fun e => by
    rcases hat with h1 | ⟨z, h1, h2⟩
    · exact hb0 (h1 ▸ e)
    · rw [h1] at e; injection e with e; omega
  have nb : ∀ {e n : Nat} {u : Value} {xs : List Value}, w.ownsRow 0 e 1 u n xs → e ≠ 55 → ∀ g, u.ownBlock = some g → g ≠ b := fun hu hne g hg e => by subst e; exact hne (own_ty hu hg h.blk)
  have own1 : ∀ {e n : Nat} {u : Value} {xs : List Value}, w.ownsRow 0 e 1 u n xs → e ≠ 55 → (∀ g, u.ownBlock = some g → v3.ownBlock ≠ some g) → (w'.setCell ⟨b, 3, none⟩ v).ownsRow 0 e 1 u n xs := fun hu hne hd => own_chg hu hc fun g hg => fun h3 => h3.elim (hd g hg) (nb hu hne g hg)
  have ho' : (w'.setCell ⟨b, 3, none⟩ v).ownsRow 0 4 1 v (C.length + 1) (C.map (fun x => .bool x) ++ [.bool x]) := own_far ho fun g hg e => hvb (by rw [hg, e])
  have hvl : ∀ g, v.ownBlock = some g → g < (w'.setCell ⟨b, 3, none⟩ v).heap.size := fun g hg => (own_block_lt ho' hg).1
  refine ⟨⟨?_, own1 h.src (by decide) fun g hg => own_apart h.src h.come (by decide) hg, own1 h.dst (by decide) fun g hg => own_apart h.dst h.come (by decide) hg, own1 h.bytes (by decide) fun g hg => own_apart h.bytes h.come (by decide) hg, ?_, fun k bs2 hk2 => ?_, h.apart, h.sd, .inl h.fb, fun g hg => .inl (h.f0 g hg), fun g hg => .inl (h.f1 g hg), fun g hg => .inl (h.f2 g hg), fun g hg => ?_, fun u hu g hg => .inl (h.fy u hu g hg), fun k hk2 => ?_⟩, ?_, by rw [hB'.cell]; rfl, hB'.frozen 3⟩
  · have := hB'.set_ 3 v
    simpa using this
  · rw [List.length_append, List.map_append]; exact ho'
  · obtain ⟨u, h1, h2⟩ := h.row k bs2 hk2
    exact ⟨u, h1, own1 h2 (by decide) fun g hg => own_apart h2 h.come (by decide) hg⟩
  · rcases hat with h1 | ⟨z, h1, h2⟩
    · exact .inl (h.f3 g (h1 ▸ hg))
    · have h3 := hvl g hg
      rw [h1] at hg; injection hg with hg
      exact .inr ⟨by omega, h3⟩
  · rcases hk2 with h1 | h1
    · have := h.lt k h1; omega
    · exact h1.2
  · exact hc.mono fun k _ h3 => h3.elim (h.f3 k) fun e => e ▸ h.fb
end
end Go.Proofs.Ytgfhmfhhobhojaa
namespace Go.Proofs.Ytgfhmfhhobhojaa
open Go.ChangeShapes Go.WideShapes Go.ChangeAt Go.RowKit
/-- 'append(l, x)' at a step of a drawn region. -/
theorem stepN2 {P : Program} {ops : Array Oper} {o : Oper} {a : Act} {K : Act → World → Prop} {Q : Exit → Act → World → Prop} {E : Prop} (W : World) (hgd : o.guard = none) (s x : Operand) (t : TypeId)
    (ho : o.op = .call { callee := .builtin .append, args := #[s, x], argTypes := #[t, t] })
    (base : Nat) (e : TypeId) (i : TypeInfo) (z : Value) (size bytes : Nat) (ht : P.underlying t = some (.slice e)) (hi : P.info? e = some i) (hz : i.zero = some z)
    (hsize : i.size = size) (hby : i.bytes = bytes) (hzs : z.cells.size = size) (hsz : 0 < size)
    (v : Value) (n : Nat) (xs : List Value) (hs : a.eval s = v) (hown : W.ownsRow base e size v n xs)
    (us : Array Value) (hu : us.size = size) (hx : a.eval x = .slice (some ⟨W.heap.size, 0, none⟩) 1 1) (h1 : ∀ u ∈ us.toList, u.oneCell' = true)
    (h63 : n + 1 ≤ maxLen) (hbytes : (n + 1) * bytes ≤ 140737488355328) (hbase : base ≤ W.heap.size)
    (h : ∀ v' w', w'.ownsRow base e size v' (n + 1) (xs ++ us.toList) → W.grownBy w' v.ownBlock → (v'.ownBlock = v.ownBlock ∨ v'.ownBlock = some (W.heap.size + 1)) → K (a.put o.dst v') w') :
    if Region.wanted o (yielded ops a.tmps) = true then Oper.wp P o a (W.alloc (.cells us e)) K Q else E := by
  have hown2 : (W.alloc (.cells us e)).ownsRow base e size v n xs := hown.alloc _
  refine step_append_any (P := P) _ hgd s x t ho base e i z size bytes ht hi hz hsize hby hzs hsz v n xs hs hown2 (W.heap.size + 1) (some ⟨W.heap.size, 0, none⟩) 1 1 us.toList hx ?_ h1 h63 hbytes (by simp; omega) ?_
  · refine ⟨by simp [hu], fun _ => ⟨W.heap.size, 0, rfl, by omega, fun j y hj => ?_⟩⟩
    rw [Nat.zero_add, (Blk.new W e us).cell j, ← Array.getElem?_toList]
    exact hj
  · intro v' w' h2 h3 h4
    have hal : W.grownBy (W.alloc (.cells us e)) v.ownBlock := ⟨rfl, rfl, rfl, by simp, fun k hk _ => Below.heap_alloc _ _ _ hk⟩
    exact h v' w' h2 ⟨h3.os.trans hal.os, h3.tape.trans hal.tape, h3.output.trans hal.output, Nat.le_trans hal.size h3.size, fun k hk hn => (h3.block k (by simp; omega) hn).trans (hal.block k hk hn)⟩ (by simpa using h4)
theorem info_bool : (Try.prog.info? 4).map (fun i => (i.zero, i.size, i.bytes)) = some (some (.bool false), 1, 1) := by kernel_rfl
theorem info_bytes : (Try.prog.info? 30).map (fun i => (i.zero, i.size, i.bytes)) = some (some (.slice none 0 0), 1, 24) := by kernel_rfl
theorem u_boolsB : Try.prog.underlying 53 = some (.slice 4) := Try.underlying53
theorem u_bytesB : Try.prog.underlying 52 = some (.slice 30) := Try.underlying52
def PutR (w : World) (FB : Nat → Prop) (b : Nat) (S T : List Nat) (L : List (List UInt8)) (C : List Bool) (id : Int) (x y : Nat) (bs : List UInt8) (e : Ending) (w' : World) : Prop :=
  e = .returned (.bool (id == ((S.length + 1 : Nat) : Int))) ∧ ∃ FB' u0 u1 u2 u3 Z, BookQ w' FB' b (S ++ [x]) (T ++ [y]) (L ++ [bs]) (C ++ [false]) u0 u1 u2 u3 Z ∧ (∀ k, FB' k → FB k ∨ w.heap.size ≤ k) ∧ Chg FB w w'
theorem FBn.sub {FB : Nat → Prop} {B0 : Nat} {w2 : World} {FC : Nat → Prop} (h : ∀ k, FC k → FB k ∨ B0 ≤ k) : ∀ k, FBn FC B0 w2 k → FB k ∨ B0 ≤ k := fun k hk => hk.elim (h k) fun e => .inr e.1
set_option maxRecDepth 100000 in
set_option maxHeartbeats 6400000 in
theorem bput_any {w : World} {FB : Nat → Prop} {b : Nat} {S T : List Nat} {L : List (List UInt8)} {C : List Bool} {v0 v1 v2 v3 : Value} {Y : List Value} (h : BookQ w FB b S T L C v0 v1 v2 v3 Y) (hT : T.length = S.length) (hL : L.length = S.length) (hC : C.length = S.length) (hS : S.length ≤ 4398046511104) (idn : Int) (x y : Nat) (A : Option Addr) (cap : Nat) (bs : List UInt8) (hr : RdB w w.heap.size A bs.length bs) (hbn : bs.length ≤ 140737488351232) (hA : 0 < bs.length → ∀ q o s, A = some ⟨q, o, s⟩ → ¬ FB q) :
    Calls Try.prog 25 #[.pointer (some ⟨b, 0, none⟩), .int .i64 idn, .int .i64 (x : Int), .int .i64 (y : Int), .slice A bs.length cap] w (PutR w FB b S T L C idn x y bs) := by
  obtain ⟨i0, hi0, hz0, hz1, hz2⟩ := info_parts info_int
  obtain ⟨i1, hi1, hy0, hy1, hy2⟩ := info_parts info_bytes
  obtain ⟨i2, hi2, hb0, hb1, hb2⟩ := info_parts info_bool
  obtain ⟨i3, hi3, hc0, hc1, hc2⟩ := info_parts info_u8
  have H := Lib.hid h
  have HR := Lib.hid hr
  have HA := Lib.hid hA
  have HLN : Hid (T.length = S.length ∧ L.length = S.length ∧ C.length = S.length) := Lib.hid ⟨hT, hL, hC⟩
  have c0 : w.cell? ⟨b, 0, none⟩ = some v0 := h.blk.cell 0
  clear h hr hA hT hL hC
  go_enter Try.func25, Try.ntmps25
  go_upto_region 2 with (at_builtin; refine appN2 w (by rfl) _ _ 31 (by rfl) 0 3 i0 _ 1 8 u_ints hi0 hz0 hz1 hz2 rfl (by decide) _ S.length _ (by rfl) H.out.src #[.int .i64 (x : Int)] rfl (by rfl) (by simp; rfl) (by simp only [maxLen]; omega) (by omega) (Nat.zero_le _) ?_; intro u0 w1 how _ hg hat; obtain ⟨A8, cap8, rfl, _, _⟩ := own_shape how; have hQ := H.out.src_put (B0 := w.heap.size) (Nat.le_refl _) how hg (hat.imp id fun e => ⟨_, e, by omega⟩); have d0 := hQ.2.2.1; have f0 := hQ.2.2.2; have HQ := Lib.hid (And.intro hQ.1 hQ.2.1); clear how hg hat hQ)
  obtain ⟨w2, hw2⟩ : ∃ w2, w2 = w1.setCell ⟨b, 0, none⟩ (.slice A8 (S.length + 1) cap8) := ⟨_, rfl⟩
  rw [← hw2] at HQ ⊢
  have hs2 := HQ.out.2.size
  have c1 : w2.cell? ⟨b, 1, none⟩ = some v1 := HQ.out.1.blk.cell 1
  clear hw2 d0 f0 c0
  go_upto_region 3 with (at_builtin; refine appN2 w2 (by rfl) _ _ 31 (by rfl) 0 3 i0 _ 1 8 u_ints hi0 hz0 hz1 hz2 rfl (by decide) _ T.length _ (by rfl) HQ.out.1.dst #[.int .i64 (y : Int)] rfl (by rfl) (by simp; rfl) (by have := HLN.out; simp only [maxLen]; omega) (by have := HLN.out; omega) (Nat.zero_le _) ?_; intro u1 w3 how _ hg hat; obtain ⟨A9, cap9, rfl, _, _⟩ := own_shape how; have hQ := HQ.out.1.dst_put (B0 := w.heap.size) hs2 how hg (hat.imp id fun e => ⟨_, e, by omega⟩); have d0 := hQ.2.2.1; have f0 := hQ.2.2.2; have HQ2 := Lib.hid (And.intro hQ.1 (HQ.out.2.thenS hQ.2.1 fun i hi hk => hk.elim (fun e => e) (fun e => by omega))); clear how hg hat hQ)
  obtain ⟨w4, hw4⟩ : ∃ w4, w4 = w3.setCell ⟨b, 1, none⟩ (.slice A9 (T.length + 1) cap9) := ⟨_, rfl⟩
  rw [← hw4] at HQ2 ⊢
  have hs4 := HQ2.out.2.size
  clear hw4 d0 f0 c1 HQ
  obtain ⟨wd, hwd⟩ : ∃ wd, wd = w4.drew := ⟨_, rfl⟩
  have hbd : Below w4.heap.size w4 wd := by rw [hwd]; exact below_drewN (Below.refl _ _) 1
  have HQD := Lib.hid (And.intro (HQ2.out.1.below hbd) (HQ2.out.2.thenS (Chg.of_below hbd (fun _ => False)) fun _ _ h => h.elim))
  have hSd : wd.cell? ⟨b, 2, none⟩ = some v2 := HQD.out.1.blk.cell 2
  have hrd := rd_clear HR.out HQD.out.2 (Nat.le_refl _) fun hn q o s e => HA.out hn q o s e
  have HRD := Lib.hid hrd
  have hsd := HQD.out.2.size
  have HWD := Lib.hid hwd
  clear hwd hbd hrd HQ2
  refine wp_region_held_drew (S := fun _ => True) (by kernel_rfl) trivial (fun _ => ?_)
  rw [← HWD.out]
  refine wpAnyH_take (i := 0) (oi := ?oi0a) (v := ?v0a) ?hi0a (by kernel_rfl) (by kernel_rfl) (by kernel_rfl) ?hq0a ?hy0a (by assumption) ?rest0a
  case hi0a => (simp only [List.getElem?_toArray, List.getElem?_cons_zero]; rfl)
  case hy0a => (refine Or.inl ⟨by rfl, ?_⟩; intro w hSw; (try dsimp only at hSw); go_simp; try with_reducible rfl)
  case hq0a => exact fun _ _ _ h => h
  try simp only [Act.put, List.setIfInBounds_toArray, List.set_cons_zero, List.set_cons_succ]
  refine wpAnyH_take (i := 1) (oi := ?oi1a) (v := ?v1a) ?hi1a (by kernel_rfl) (by kernel_rfl) (by kernel_rfl) ?hq1a ?hy1a (by assumption) ?rest1a
  case hi1a => (simp only [List.getElem?_toArray, List.getElem?_cons_zero, List.getElem?_cons_succ]; rfl)
  case hy1a => (refine Or.inl ⟨by rfl, ?_⟩; intro w hSw; (try dsimp only at hSw); go_simp; try with_reducible rfl)
  case hq1a => exact fun _ _ _ h => h
  try simp only [Act.put, List.setIfInBounds_toArray, List.set_cons_zero, List.set_cons_succ]
  refine wpAnyH_take (i := 2) (oi := ?oi2a) (v := ?v2a) ?hi2a (by kernel_rfl) (by kernel_rfl) (by kernel_rfl) ?hq2a ?hy2a (by assumption) ?rest2a
  case hi2a => (simp only [List.getElem?_toArray, List.getElem?_cons_zero, List.getElem?_cons_succ]; rfl)
  case hy2a => (refine Or.inl ⟨by rfl, ?_⟩; intro w hSw; (try dsimp only at hSw); go_simp; try with_reducible rfl)
  case hq2a => exact fun _ _ _ h => h
  try simp only [Act.put, List.setIfInBounds_toArray, List.set_cons_zero, List.set_cons_succ]
  refine wpAnyH_take (i := 3) (oi := ?oi3a) (v := ?v3a) ?hi3a (by kernel_rfl) (by kernel_rfl) (by kernel_rfl) ?hq3a ?hy3a (by assumption) ?rest3a
  case hi3a => (simp only [List.getElem?_toArray, List.getElem?_cons_zero, List.getElem?_cons_succ]; rfl)
  case hy3a => (refine Or.inl ⟨by rfl, ?_⟩; intro w hSw; (try dsimp only at hSw); go_simp; try with_reducible rfl)
  case hq3a => exact fun _ _ _ h => h
  try simp only [Act.put, List.setIfInBounds_toArray, List.set_cons_zero, List.set_cons_succ]
  refine wpAnyH_take (i := 6) (oi := ?oi6a) (v := ?v6a) ?hi6a (by kernel_rfl) (by kernel_rfl) (by kernel_rfl) ?hq6a ?hy6a (by assumption) ?rest6a
  case hi6a => (simp only [List.getElem?_toArray, List.getElem?_cons_zero, List.getElem?_cons_succ]; rfl)
  case hy6a => (refine Or.inl ⟨by rfl, ?_⟩; intro w hSw; (try dsimp only at hSw); go_simp; try with_reducible rfl)
  case hq6a => exact fun _ _ _ h => h
  try simp only [Act.put, List.setIfInBounds_toArray, List.set_cons_zero, List.set_cons_succ]
  refine wpAnyH_ready (rs := [4, 5]) (by kernel_rfl) (by simp) ?_
  refine AllReadyH.cons (o := ?o4p1) ?ho4p1 (fun K hK => ?st4p1) ?mo4p1
  case ho4p1 => (simp only [List.getElem?_toArray, List.getElem?_cons_zero, List.getElem?_cons_succ]; rfl)
  · skip
    go_simp
    refine hK.out _ _ trivial (fun _ => ?_)
    clear hK K
    try simp only [Act.put, List.setIfInBounds_toArray, List.set_cons_zero, List.set_cons_succ]
    refine wpAnyH_ready (rs := [5]) (by kernel_rfl) (by simp) ?_
    refine AllReadyH.cons (o := ?o5p2) ?ho5p2 (fun K hK => ?st5p2) ?mo5p2
    case ho5p2 => (simp only [List.getElem?_toArray, List.getElem?_cons_zero, List.getElem?_cons_succ]; rfl)
    · skip
      go_simp
      have hba := one_box' wd (.cells #[] 5)
      have hEm := ownsRow_empty wd 0 5 1 (Nat.zero_le _)
      have hrd5 := (HRD.out.below (hba.mono hsd))
      obtain ⟨w5, hw5⟩ : ∃ w5, w5 = wd.alloc (.cells #[] 5) := ⟨_, rfl⟩
      rw [← hw5] at hba hEm hrd5 ⊢
      have hs5 := hba.size
      have hS5 : w5.cell? ⟨b, 2, none⟩ = some v2 := (HQD.out.1.below hba).blk.cell 2
      have HQ5 := Lib.hid (HQD.out.1.below hba)
      have HB5 := Lib.hid hba
      have HEM := Lib.hid hEm
      have HRD5 := Lib.hid hrd5
      clear hw5 hba hEm hrd5 hSd
      refine hK.out _ _ trivial (fun _ => ?_)
      clear hK K
      try simp only [Act.put, List.setIfInBounds_toArray, List.set_cons_zero, List.set_cons_succ]
      refine wpAnyH_ready (rs := [7]) (by kernel_rfl) (by simp) ?_
      refine AllReadyH.cons (o := ?o7p3) ?ho7p3 (fun K hK => ?st7p3) ?mo7p3
      case ho7p3 => (simp only [List.getElem?_toArray, List.getElem?_cons_zero, List.getElem?_cons_succ]; rfl)
      · skip
        refine step_append_any w5 (by rfl) _ _ 30 (by rfl) 0 5 i3 _ 1 1 u_bytes hi3 hc0 hc1 hc2 rfl (by decide) _ 0 [] (by rfl) HEM.out _ A bs.length cap (bvs bs) (by rfl) HRD5.out (bvs_one bs) (by simp only [maxLen]; omega) (by omega) (Nat.zero_le _) ?_
        intro u w6 hou hgu hatu
        rw [Nat.zero_add, List.nil_append] at hou
        have hlt : ∀ k, FBn (FBn FB w.heap.size w2) w.heap.size w4 k → k < wd.heap.size := HQD.out.1.lt
        have hcg := Chg.of_grown hgu
        have hun : ∀ g, u.ownBlock = some g → ¬ FBn (FBn FB w.heap.size w2) w.heap.size w4 g ∧ w.heap.size ≤ g := fun g hg => by
          have hge : wd.heap.size ≤ g := by
            rcases hatu with e | e
            · rw [e] at hg
              simp only [Value.ownBlock, Option.some.injEq] at hg
              omega
            · rw [e] at hg; injection hg with hg; omega
          exact ⟨fun hf => by have := hlt g hf; omega, by omega⟩
        have HQ6 := Lib.hid (HQ5.out.chg hcg fun k hk e => by
          have := hlt k hk
          simp only [Value.ownBlock, Option.some.injEq] at e
          omega)
        have HC6 : Hid (Chg FB w w6) := Lib.hid ((HQD.out.2.thenS (Chg.of_below HB5.out (fun _ => False)) fun _ _ h => h.elim).thenS hcg fun k hk e => by
          simp only [Value.ownBlock, Option.some.injEq] at e
          omega)
        have hs6 := hcg.size
        have HU := Lib.hid (And.intro hou hun)
        obtain ⟨A7, cap7, rfl, _, _⟩ := own_shape hou
        have hS6 : w6.cell? ⟨b, 2, none⟩ = some v2 := HQ6.out.blk.cell 2
        clear hou hgu hatu hcg hun hlt hS5
        refine hK.out _ _ trivial (fun _ => ?_)
        clear hK K
        try simp only [Act.put, List.setIfInBounds_toArray, List.set_cons_zero, List.set_cons_succ]
        refine wpAnyH_ready (rs := [8]) (by kernel_rfl) (by simp) ?_
        refine AllReadyH.cons (o := ?o8p4) ?ho8p4 (fun K hK => ?st8p4) ?mo8p4
        case ho8p4 => (simp only [List.getElem?_toArray, List.getElem?_cons_zero, List.getElem?_cons_succ]; rfl)
        · skip
          go_simp
          have hS7 : (w6.alloc (.cells #[.slice A7 bs.length cap7] 30)).cell? ⟨b, 2, none⟩ = some v2 := (HQ6.out.below (one_box' w6 _)).blk.cell 2
          clear hS6
          refine hK.out _ _ trivial (fun _ => ?_)
          clear hK K
          try simp only [Act.put, List.setIfInBounds_toArray, List.set_cons_zero, List.set_cons_succ]
          refine wpAnyH_ready (rs := [9]) (by kernel_rfl) (by simp) ?_
          refine AllReadyH.cons (o := ?o9p5) ?ho9p5 (fun K hK => ?st9p5) ?mo9p5
          case ho9p5 => (simp only [List.getElem?_toArray, List.getElem?_cons_zero, List.getElem?_cons_succ]; rfl)
          · skip
            refine stepN2 w6 (by rfl) _ _ 52 (by rfl) 0 30 i1 _ 1 24 u_bytesB hi1 hy0 hy1 hy2 rfl (by decide) _ L.length _ (by rfl) HQ6.out.bytes #[.slice A7 bs.length cap7] rfl (by rfl) (by simp; rfl) (by have := HLN.out; simp only [maxLen]; omega) (by have := HLN.out; omega) (Nat.zero_le _) ?_
            intro u2 w7 how hg hat
            obtain ⟨A10, cap10, rfl, _, _⟩ := own_shape how
            have hQ := HQ6.out.bytes_put (B0 := w.heap.size) (by omega) how hg (hat.imp id fun e => ⟨_, e, by omega⟩) HU.out.1 HU.out.2
            have d0 := hQ.2.2.1
            have f0 := hQ.2.2.2
            have HQ7 := Lib.hid (And.intro hQ.1 (HC6.out.thenS hQ.2.1 fun i hi hk => (FBn.sub (FBn.sub (fun k h => .inl h)) i hk).elim (fun e => e) (fun e => by omega)))
            clear how hg hat hQ hS7
            refine hK.out _ _ trivial (fun _ => ?_)
            clear hK K
            try simp only [Act.put, List.setIfInBounds_toArray, List.set_cons_zero, List.set_cons_succ]
            refine wpAnyH_take (i := 10) (oi := ?oi10c5) (v := ?v10c5) ?hi10c5 (by kernel_rfl) (by kernel_rfl) (by kernel_rfl) ?hq10c5 ?hy10c5 (by assumption) ?rest10c5
            case hi10c5 => (simp only [List.getElem?_toArray, List.getElem?_cons_zero, List.getElem?_cons_succ]; rfl)
            case hy10c5 => (refine Or.inl ⟨by rfl, ?_⟩; intro w hSw; (try dsimp only at hSw); go_simp; try with_reducible rfl)
            case hq10c5 => exact fun _ _ _ h => h
            try simp only [Act.put, List.setIfInBounds_toArray, List.set_cons_zero, List.set_cons_succ]
            refine wpAnyH_take (i := 11) (oi := ?oi11c5) (v := ?v11c5) ?hi11c5 (by kernel_rfl) (by kernel_rfl) (by kernel_rfl) ?hq11c5 ?hy11c5 (by assumption) ?rest11c5
            case hi11c5 => (simp only [List.getElem?_toArray, List.getElem?_cons_zero, List.getElem?_cons_succ]; rfl)
            case hy11c5 => (refine Or.inl ⟨by rfl, ?_⟩; intro w hSw; (try dsimp only at hSw); go_simp; try with_reducible rfl)
            case hq11c5 => exact fun _ _ _ h => h
            try simp only [Act.put, List.setIfInBounds_toArray, List.set_cons_zero, List.set_cons_succ]
            refine wpAnyH_ready (rs := [12]) (by kernel_rfl) (by simp) ?_
            obtain ⟨w8, hw8⟩ : ∃ w8, w8 = w7.setCell ⟨b, 2, none⟩ (.slice A10 (L.length + 1) cap10) := ⟨_, rfl⟩
            have HW8 := Lib.hid hw8
            rw [← hw8] at HQ7
            clear hw8
            refine AllReadyH.cons (o := ?o12p6) ?ho12p6 (fun K hK => ?st12p6) ?mo12p6
            case ho12p6 => (simp only [List.getElem?_toArray, List.getElem?_cons_zero, List.getElem?_cons_succ]; rfl)
            · skip
              go_simp
              rw [← HW8.out]
              refine hK.out _ _ trivial (fun _ => ?_)
              clear hK K
              try simp only [Act.put, List.setIfInBounds_toArray, List.set_cons_zero, List.set_cons_succ]
              refine wpAnyH_done (by kernel_rfl) ?_ _
              have c3 : w8.cell? ⟨b, 3, none⟩ = some v3 := HQ7.out.1.blk.cell 3
              have hs8 := HQ7.out.2.size
              clear d0 f0 HW8
              go_upto_region 5 with (at_builtin; refine appN2 w8 (by rfl) _ _ 53 (by rfl) 0 4 i2 _ 1 1 u_boolsB hi2 hb0 hb1 hb2 rfl (by decide) _ C.length _ (by rfl) HQ7.out.1.come #[.bool false] rfl (by rfl) (by simp; rfl) (by have := HLN.out; simp only [maxLen]; omega) (by have := HLN.out; omega) (Nat.zero_le _) ?_; intro u3 w9 how _ hg hat; obtain ⟨A11, cap11, rfl, _, _⟩ := own_shape how; have hQ := HQ7.out.1.come_put (B0 := w.heap.size) hs8 how hg (hat.imp id fun e => ⟨_, e, by omega⟩); have d0 := hQ.2.2.1; have f0 := hQ.2.2.2; have HQ9 := Lib.hid (And.intro hQ.1 (HQ7.out.2.thenS hQ.2.1 fun i hi hk => (FBn.sub (FBn.sub (FBn.sub (fun k h => .inl h))) i hk).elim (fun e => e) (fun e => by omega))); clear how hg hat hQ)
              obtain ⟨w10, hw10⟩ : ∃ w10, w10 = w9.setCell ⟨b, 3, none⟩ (.slice A11 (C.length + 1) cap11) := ⟨_, rfl⟩
              rw [← hw10] at HQ9 ⊢
              have c0 : w10.cell? ⟨b, 0, none⟩ = some (.slice A8 (S.length + 1) cap8) := HQ9.out.1.blk.cell 0
              have HFIN : Hid (PutR w FB b S T L C idn x y bs (.returned (.bool (idn == ((S.length : Int) + 1)))) w10) := Lib.hid ⟨by rw [show (((S.length + 1 : Nat) : Int)) = (S.length : Int) + 1 by omega], _, _, _, _, _, _, HQ9.out.1, FBn.sub (FBn.sub (FBn.sub (FBn.sub (fun k h => .inl h)))), HQ9.out.2⟩
              clear hw10 d0 f0 c3
              go_wp2
              go_ret
              exact HFIN.out
            exact AllReadyH.nil
          exact AllReadyH.nil
        exact AllReadyH.nil
      exact AllReadyH.nil
    exact AllReadyH.nil
  refine AllReadyH.cons (o := ?o5p7) ?ho5p7 (fun K hK => ?st5p7) ?mo5p7
  case ho5p7 => (simp only [List.getElem?_toArray, List.getElem?_cons_zero, List.getElem?_cons_succ]; rfl)
  · skip
    go_simp
    have hba := one_box' wd (.cells #[] 5)
    have hEm := ownsRow_empty wd 0 5 1 (Nat.zero_le _)
    have hrd5 := (HRD.out.below (hba.mono hsd))
    obtain ⟨w5, hw5⟩ : ∃ w5, w5 = wd.alloc (.cells #[] 5) := ⟨_, rfl⟩
    rw [← hw5] at hba hEm hrd5 ⊢
    have hs5 := hba.size
    have hS5 : w5.cell? ⟨b, 2, none⟩ = some v2 := (HQD.out.1.below hba).blk.cell 2
    have HQ5 := Lib.hid (HQD.out.1.below hba)
    have HB5 := Lib.hid hba
    have HEM := Lib.hid hEm
    have HRD5 := Lib.hid hrd5
    clear hw5 hba hEm hrd5 hSd
    refine hK.out _ _ trivial (fun _ => ?_)
    clear hK K
    try simp only [Act.put, List.setIfInBounds_toArray, List.set_cons_zero, List.set_cons_succ]
    refine wpAnyH_ready (rs := [4, 7]) (by kernel_rfl) (by simp) ?_
    refine AllReadyH.cons (o := ?o4p8) ?ho4p8 (fun K hK => ?st4p8) ?mo4p8
    case ho4p8 => (simp only [List.getElem?_toArray, List.getElem?_cons_zero, List.getElem?_cons_succ]; rfl)
    · skip
      go_simp
      refine hK.out _ _ trivial (fun _ => ?_)
      clear hK K
      try simp only [Act.put, List.setIfInBounds_toArray, List.set_cons_zero, List.set_cons_succ]
      refine wpAnyH_ready (rs := [7]) (by kernel_rfl) (by simp) ?_
      refine AllReadyH.cons (o := ?o7p9) ?ho7p9 (fun K hK => ?st7p9) ?mo7p9
      case ho7p9 => (simp only [List.getElem?_toArray, List.getElem?_cons_zero, List.getElem?_cons_succ]; rfl)
      · skip
        refine step_append_any w5 (by rfl) _ _ 30 (by rfl) 0 5 i3 _ 1 1 u_bytes hi3 hc0 hc1 hc2 rfl (by decide) _ 0 [] (by rfl) HEM.out _ A bs.length cap (bvs bs) (by rfl) HRD5.out (bvs_one bs) (by simp only [maxLen]; omega) (by omega) (Nat.zero_le _) ?_
        intro u w6 hou hgu hatu
        rw [Nat.zero_add, List.nil_append] at hou
        have hlt : ∀ k, FBn (FBn FB w.heap.size w2) w.heap.size w4 k → k < wd.heap.size := HQD.out.1.lt
        have hcg := Chg.of_grown hgu
        have hun : ∀ g, u.ownBlock = some g → ¬ FBn (FBn FB w.heap.size w2) w.heap.size w4 g ∧ w.heap.size ≤ g := fun g hg => by
          have hge : wd.heap.size ≤ g := by
            rcases hatu with e | e
            · rw [e] at hg
              simp only [Value.ownBlock, Option.some.injEq] at hg
              omega
            · rw [e] at hg; injection hg with hg; omega
          exact ⟨fun hf => by have := hlt g hf; omega, by omega⟩
        have HQ6 := Lib.hid (HQ5.out.chg hcg fun k hk e => by
          have := hlt k hk
          simp only [Value.ownBlock, Option.some.injEq] at e
          omega)
        have HC6 : Hid (Chg FB w w6) := Lib.hid ((HQD.out.2.thenS (Chg.of_below HB5.out (fun _ => False)) fun _ _ h => h.elim).thenS hcg fun k hk e => by
          simp only [Value.ownBlock, Option.some.injEq] at e
          omega)
        have hs6 := hcg.size
        have HU := Lib.hid (And.intro hou hun)
        obtain ⟨A7, cap7, rfl, _, _⟩ := own_shape hou
        have hS6 : w6.cell? ⟨b, 2, none⟩ = some v2 := HQ6.out.blk.cell 2
        clear hou hgu hatu hcg hun hlt hS5
        refine hK.out _ _ trivial (fun _ => ?_)
        clear hK K
        try simp only [Act.put, List.setIfInBounds_toArray, List.set_cons_zero, List.set_cons_succ]
        refine wpAnyH_ready (rs := [8]) (by kernel_rfl) (by simp) ?_
        refine AllReadyH.cons (o := ?o8p10) ?ho8p10 (fun K hK => ?st8p10) ?mo8p10
        case ho8p10 => (simp only [List.getElem?_toArray, List.getElem?_cons_zero, List.getElem?_cons_succ]; rfl)
        · skip
          go_simp
          have hS7 : (w6.alloc (.cells #[.slice A7 bs.length cap7] 30)).cell? ⟨b, 2, none⟩ = some v2 := (HQ6.out.below (one_box' w6 _)).blk.cell 2
          clear hS6
          refine hK.out _ _ trivial (fun _ => ?_)
          clear hK K
          try simp only [Act.put, List.setIfInBounds_toArray, List.set_cons_zero, List.set_cons_succ]
          refine wpAnyH_ready (rs := [9]) (by kernel_rfl) (by simp) ?_
          refine AllReadyH.cons (o := ?o9p11) ?ho9p11 (fun K hK => ?st9p11) ?mo9p11
          case ho9p11 => (simp only [List.getElem?_toArray, List.getElem?_cons_zero, List.getElem?_cons_succ]; rfl)
          · skip
            refine stepN2 w6 (by rfl) _ _ 52 (by rfl) 0 30 i1 _ 1 24 u_bytesB hi1 hy0 hy1 hy2 rfl (by decide) _ L.length _ (by rfl) HQ6.out.bytes #[.slice A7 bs.length cap7] rfl (by rfl) (by simp; rfl) (by have := HLN.out; simp only [maxLen]; omega) (by have := HLN.out; omega) (Nat.zero_le _) ?_
            intro u2 w7 how hg hat
            obtain ⟨A10, cap10, rfl, _, _⟩ := own_shape how
            have hQ := HQ6.out.bytes_put (B0 := w.heap.size) (by omega) how hg (hat.imp id fun e => ⟨_, e, by omega⟩) HU.out.1 HU.out.2
            have d0 := hQ.2.2.1
            have f0 := hQ.2.2.2
            have HQ7 := Lib.hid (And.intro hQ.1 (HC6.out.thenS hQ.2.1 fun i hi hk => (FBn.sub (FBn.sub (fun k h => .inl h)) i hk).elim (fun e => e) (fun e => by omega)))
            clear how hg hat hQ hS7
            refine hK.out _ _ trivial (fun _ => ?_)
            clear hK K
            try simp only [Act.put, List.setIfInBounds_toArray, List.set_cons_zero, List.set_cons_succ]
            refine wpAnyH_take (i := 10) (oi := ?oi10c11) (v := ?v10c11) ?hi10c11 (by kernel_rfl) (by kernel_rfl) (by kernel_rfl) ?hq10c11 ?hy10c11 (by assumption) ?rest10c11
            case hi10c11 => (simp only [List.getElem?_toArray, List.getElem?_cons_zero, List.getElem?_cons_succ]; rfl)
            case hy10c11 => (refine Or.inl ⟨by rfl, ?_⟩; intro w hSw; (try dsimp only at hSw); go_simp; try with_reducible rfl)
            case hq10c11 => exact fun _ _ _ h => h
            try simp only [Act.put, List.setIfInBounds_toArray, List.set_cons_zero, List.set_cons_succ]
            refine wpAnyH_take (i := 11) (oi := ?oi11c11) (v := ?v11c11) ?hi11c11 (by kernel_rfl) (by kernel_rfl) (by kernel_rfl) ?hq11c11 ?hy11c11 (by assumption) ?rest11c11
            case hi11c11 => (simp only [List.getElem?_toArray, List.getElem?_cons_zero, List.getElem?_cons_succ]; rfl)
            case hy11c11 => (refine Or.inl ⟨by rfl, ?_⟩; intro w hSw; (try dsimp only at hSw); go_simp; try with_reducible rfl)
            case hq11c11 => exact fun _ _ _ h => h
            try simp only [Act.put, List.setIfInBounds_toArray, List.set_cons_zero, List.set_cons_succ]
            refine wpAnyH_ready (rs := [12]) (by kernel_rfl) (by simp) ?_
            obtain ⟨w8, hw8⟩ : ∃ w8, w8 = w7.setCell ⟨b, 2, none⟩ (.slice A10 (L.length + 1) cap10) := ⟨_, rfl⟩
            have HW8 := Lib.hid hw8
            rw [← hw8] at HQ7
            clear hw8
            refine AllReadyH.cons (o := ?o12p12) ?ho12p12 (fun K hK => ?st12p12) ?mo12p12
            case ho12p12 => (simp only [List.getElem?_toArray, List.getElem?_cons_zero, List.getElem?_cons_succ]; rfl)
            · skip
              go_simp
              rw [← HW8.out]
              refine hK.out _ _ trivial (fun _ => ?_)
              clear hK K
              try simp only [Act.put, List.setIfInBounds_toArray, List.set_cons_zero, List.set_cons_succ]
              refine wpAnyH_done (by kernel_rfl) ?_ _
              have c3 : w8.cell? ⟨b, 3, none⟩ = some v3 := HQ7.out.1.blk.cell 3
              have hs8 := HQ7.out.2.size
              clear d0 f0 HW8
              go_upto_region 5 with (at_builtin; refine appN2 w8 (by rfl) _ _ 53 (by rfl) 0 4 i2 _ 1 1 u_boolsB hi2 hb0 hb1 hb2 rfl (by decide) _ C.length _ (by rfl) HQ7.out.1.come #[.bool false] rfl (by rfl) (by simp; rfl) (by have := HLN.out; simp only [maxLen]; omega) (by have := HLN.out; omega) (Nat.zero_le _) ?_; intro u3 w9 how _ hg hat; obtain ⟨A11, cap11, rfl, _, _⟩ := own_shape how; have hQ := HQ7.out.1.come_put (B0 := w.heap.size) hs8 how hg (hat.imp id fun e => ⟨_, e, by omega⟩); have d0 := hQ.2.2.1; have f0 := hQ.2.2.2; have HQ9 := Lib.hid (And.intro hQ.1 (HQ7.out.2.thenS hQ.2.1 fun i hi hk => (FBn.sub (FBn.sub (FBn.sub (fun k h => .inl h))) i hk).elim (fun e => e) (fun e => by omega))); clear how hg hat hQ)
              obtain ⟨w10, hw10⟩ : ∃ w10, w10 = w9.setCell ⟨b, 3, none⟩ (.slice A11 (C.length + 1) cap11) := ⟨_, rfl⟩
              rw [← hw10] at HQ9 ⊢
              have c0 : w10.cell? ⟨b, 0, none⟩ = some (.slice A8 (S.length + 1) cap8) := HQ9.out.1.blk.cell 0
              have HFIN : Hid (PutR w FB b S T L C idn x y bs (.returned (.bool (idn == ((S.length : Int) + 1)))) w10) := Lib.hid ⟨by rw [show (((S.length + 1 : Nat) : Int)) = (S.length : Int) + 1 by omega], _, _, _, _, _, _, HQ9.out.1, FBn.sub (FBn.sub (FBn.sub (FBn.sub (fun k h => .inl h)))), HQ9.out.2⟩
              clear hw10 d0 f0 c3
              go_wp2
              go_ret
              exact HFIN.out
            exact AllReadyH.nil
          exact AllReadyH.nil
        exact AllReadyH.nil
      exact AllReadyH.nil
    refine AllReadyH.cons (o := ?o7p13) ?ho7p13 (fun K hK => ?st7p13) ?mo7p13
    case ho7p13 => (simp only [List.getElem?_toArray, List.getElem?_cons_zero, List.getElem?_cons_succ]; rfl)
    · skip
      refine step_append_any w5 (by rfl) _ _ 30 (by rfl) 0 5 i3 _ 1 1 u_bytes hi3 hc0 hc1 hc2 rfl (by decide) _ 0 [] (by rfl) HEM.out _ A bs.length cap (bvs bs) (by rfl) HRD5.out (bvs_one bs) (by simp only [maxLen]; omega) (by omega) (Nat.zero_le _) ?_
      intro u w6 hou hgu hatu
      rw [Nat.zero_add, List.nil_append] at hou
      have hlt : ∀ k, FBn (FBn FB w.heap.size w2) w.heap.size w4 k → k < wd.heap.size := HQD.out.1.lt
      have hcg := Chg.of_grown hgu
      have hun : ∀ g, u.ownBlock = some g → ¬ FBn (FBn FB w.heap.size w2) w.heap.size w4 g ∧ w.heap.size ≤ g := fun g hg => by
        have hge : wd.heap.size ≤ g := by
          rcases hatu with e | e
          · rw [e] at hg
            simp only [Value.ownBlock, Option.some.injEq] at hg
            omega
          · rw [e] at hg; injection hg with hg; omega
        exact ⟨fun hf => by have := hlt g hf; omega, by omega⟩
      have HQ6 := Lib.hid (HQ5.out.chg hcg fun k hk e => by
        have := hlt k hk
        simp only [Value.ownBlock, Option.some.injEq] at e
        omega)
      have HC6 : Hid (Chg FB w w6) := Lib.hid ((HQD.out.2.thenS (Chg.of_below HB5.out (fun _ => False)) fun _ _ h => h.elim).thenS hcg fun k hk e => by
        simp only [Value.ownBlock, Option.some.injEq] at e
        omega)
      have hs6 := hcg.size
      have HU := Lib.hid (And.intro hou hun)
      obtain ⟨A7, cap7, rfl, _, _⟩ := own_shape hou
      have hS6 : w6.cell? ⟨b, 2, none⟩ = some v2 := HQ6.out.blk.cell 2
      clear hou hgu hatu hcg hun hlt hS5
      refine hK.out _ _ trivial (fun _ => ?_)
      clear hK K
      try simp only [Act.put, List.setIfInBounds_toArray, List.set_cons_zero, List.set_cons_succ]
      refine wpAnyH_ready (rs := [4, 8]) (by kernel_rfl) (by simp) ?_
      refine AllReadyH.cons (o := ?o4p14) ?ho4p14 (fun K hK => ?st4p14) ?mo4p14
      case ho4p14 => (simp only [List.getElem?_toArray, List.getElem?_cons_zero, List.getElem?_cons_succ]; rfl)
      · skip
        go_simp
        refine hK.out _ _ trivial (fun _ => ?_)
        clear hK K
        try simp only [Act.put, List.setIfInBounds_toArray, List.set_cons_zero, List.set_cons_succ]
        refine wpAnyH_ready (rs := [8]) (by kernel_rfl) (by simp) ?_
        refine AllReadyH.cons (o := ?o8p15) ?ho8p15 (fun K hK => ?st8p15) ?mo8p15
        case ho8p15 => (simp only [List.getElem?_toArray, List.getElem?_cons_zero, List.getElem?_cons_succ]; rfl)
        · skip
          go_simp
          have hS7 : (w6.alloc (.cells #[.slice A7 bs.length cap7] 30)).cell? ⟨b, 2, none⟩ = some v2 := (HQ6.out.below (one_box' w6 _)).blk.cell 2
          clear hS6
          refine hK.out _ _ trivial (fun _ => ?_)
          clear hK K
          try simp only [Act.put, List.setIfInBounds_toArray, List.set_cons_zero, List.set_cons_succ]
          refine wpAnyH_ready (rs := [9]) (by kernel_rfl) (by simp) ?_
          refine AllReadyH.cons (o := ?o9p16) ?ho9p16 (fun K hK => ?st9p16) ?mo9p16
          case ho9p16 => (simp only [List.getElem?_toArray, List.getElem?_cons_zero, List.getElem?_cons_succ]; rfl)
          · skip
            refine stepN2 w6 (by rfl) _ _ 52 (by rfl) 0 30 i1 _ 1 24 u_bytesB hi1 hy0 hy1 hy2 rfl (by decide) _ L.length _ (by rfl) HQ6.out.bytes #[.slice A7 bs.length cap7] rfl (by rfl) (by simp; rfl) (by have := HLN.out; simp only [maxLen]; omega) (by have := HLN.out; omega) (Nat.zero_le _) ?_
            intro u2 w7 how hg hat
            obtain ⟨A10, cap10, rfl, _, _⟩ := own_shape how
            have hQ := HQ6.out.bytes_put (B0 := w.heap.size) (by omega) how hg (hat.imp id fun e => ⟨_, e, by omega⟩) HU.out.1 HU.out.2
            have d0 := hQ.2.2.1
            have f0 := hQ.2.2.2
            have HQ7 := Lib.hid (And.intro hQ.1 (HC6.out.thenS hQ.2.1 fun i hi hk => (FBn.sub (FBn.sub (fun k h => .inl h)) i hk).elim (fun e => e) (fun e => by omega)))
            clear how hg hat hQ hS7
            refine hK.out _ _ trivial (fun _ => ?_)
            clear hK K
            try simp only [Act.put, List.setIfInBounds_toArray, List.set_cons_zero, List.set_cons_succ]
            refine wpAnyH_take (i := 10) (oi := ?oi10c16) (v := ?v10c16) ?hi10c16 (by kernel_rfl) (by kernel_rfl) (by kernel_rfl) ?hq10c16 ?hy10c16 (by assumption) ?rest10c16
            case hi10c16 => (simp only [List.getElem?_toArray, List.getElem?_cons_zero, List.getElem?_cons_succ]; rfl)
            case hy10c16 => (refine Or.inl ⟨by rfl, ?_⟩; intro w hSw; (try dsimp only at hSw); go_simp; try with_reducible rfl)
            case hq10c16 => exact fun _ _ _ h => h
            try simp only [Act.put, List.setIfInBounds_toArray, List.set_cons_zero, List.set_cons_succ]
            refine wpAnyH_take (i := 11) (oi := ?oi11c16) (v := ?v11c16) ?hi11c16 (by kernel_rfl) (by kernel_rfl) (by kernel_rfl) ?hq11c16 ?hy11c16 (by assumption) ?rest11c16
            case hi11c16 => (simp only [List.getElem?_toArray, List.getElem?_cons_zero, List.getElem?_cons_succ]; rfl)
            case hy11c16 => (refine Or.inl ⟨by rfl, ?_⟩; intro w hSw; (try dsimp only at hSw); go_simp; try with_reducible rfl)
            case hq11c16 => exact fun _ _ _ h => h
            try simp only [Act.put, List.setIfInBounds_toArray, List.set_cons_zero, List.set_cons_succ]
            refine wpAnyH_ready (rs := [12]) (by kernel_rfl) (by simp) ?_
            obtain ⟨w8, hw8⟩ : ∃ w8, w8 = w7.setCell ⟨b, 2, none⟩ (.slice A10 (L.length + 1) cap10) := ⟨_, rfl⟩
            have HW8 := Lib.hid hw8
            rw [← hw8] at HQ7
            clear hw8
            refine AllReadyH.cons (o := ?o12p17) ?ho12p17 (fun K hK => ?st12p17) ?mo12p17
            case ho12p17 => (simp only [List.getElem?_toArray, List.getElem?_cons_zero, List.getElem?_cons_succ]; rfl)
            · skip
              go_simp
              rw [← HW8.out]
              refine hK.out _ _ trivial (fun _ => ?_)
              clear hK K
              try simp only [Act.put, List.setIfInBounds_toArray, List.set_cons_zero, List.set_cons_succ]
              refine wpAnyH_done (by kernel_rfl) ?_ _
              have c3 : w8.cell? ⟨b, 3, none⟩ = some v3 := HQ7.out.1.blk.cell 3
              have hs8 := HQ7.out.2.size
              clear d0 f0 HW8
              go_upto_region 5 with (at_builtin; refine appN2 w8 (by rfl) _ _ 53 (by rfl) 0 4 i2 _ 1 1 u_boolsB hi2 hb0 hb1 hb2 rfl (by decide) _ C.length _ (by rfl) HQ7.out.1.come #[.bool false] rfl (by rfl) (by simp; rfl) (by have := HLN.out; simp only [maxLen]; omega) (by have := HLN.out; omega) (Nat.zero_le _) ?_; intro u3 w9 how _ hg hat; obtain ⟨A11, cap11, rfl, _, _⟩ := own_shape how; have hQ := HQ7.out.1.come_put (B0 := w.heap.size) hs8 how hg (hat.imp id fun e => ⟨_, e, by omega⟩); have d0 := hQ.2.2.1; have f0 := hQ.2.2.2; have HQ9 := Lib.hid (And.intro hQ.1 (HQ7.out.2.thenS hQ.2.1 fun i hi hk => (FBn.sub (FBn.sub (FBn.sub (fun k h => .inl h))) i hk).elim (fun e => e) (fun e => by omega))); clear how hg hat hQ)
              obtain ⟨w10, hw10⟩ : ∃ w10, w10 = w9.setCell ⟨b, 3, none⟩ (.slice A11 (C.length + 1) cap11) := ⟨_, rfl⟩
              rw [← hw10] at HQ9 ⊢
              have c0 : w10.cell? ⟨b, 0, none⟩ = some (.slice A8 (S.length + 1) cap8) := HQ9.out.1.blk.cell 0
              have HFIN : Hid (PutR w FB b S T L C idn x y bs (.returned (.bool (idn == ((S.length : Int) + 1)))) w10) := Lib.hid ⟨by rw [show (((S.length + 1 : Nat) : Int)) = (S.length : Int) + 1 by omega], _, _, _, _, _, _, HQ9.out.1, FBn.sub (FBn.sub (FBn.sub (FBn.sub (fun k h => .inl h)))), HQ9.out.2⟩
              clear hw10 d0 f0 c3
              go_wp2
              go_ret
              exact HFIN.out
            exact AllReadyH.nil
          exact AllReadyH.nil
        exact AllReadyH.nil
      refine AllReadyH.cons (o := ?o8p18) ?ho8p18 (fun K hK => ?st8p18) ?mo8p18
      case ho8p18 => (simp only [List.getElem?_toArray, List.getElem?_cons_zero, List.getElem?_cons_succ]; rfl)
      · skip
        go_simp
        have hS7 : (w6.alloc (.cells #[.slice A7 bs.length cap7] 30)).cell? ⟨b, 2, none⟩ = some v2 := (HQ6.out.below (one_box' w6 _)).blk.cell 2
        clear hS6
        refine hK.out _ _ trivial (fun _ => ?_)
        clear hK K
        try simp only [Act.put, List.setIfInBounds_toArray, List.set_cons_zero, List.set_cons_succ]
        refine wpAnyH_ready (rs := [4]) (by kernel_rfl) (by simp) ?_
        refine AllReadyH.cons (o := ?o4p19) ?ho4p19 (fun K hK => ?st4p19) ?mo4p19
        case ho4p19 => (simp only [List.getElem?_toArray, List.getElem?_cons_zero, List.getElem?_cons_succ]; rfl)
        · skip
          go_simp
          refine hK.out _ _ trivial (fun _ => ?_)
          clear hK K
          try simp only [Act.put, List.setIfInBounds_toArray, List.set_cons_zero, List.set_cons_succ]
          refine wpAnyH_ready (rs := [9]) (by kernel_rfl) (by simp) ?_
          refine AllReadyH.cons (o := ?o9p20) ?ho9p20 (fun K hK => ?st9p20) ?mo9p20
          case ho9p20 => (simp only [List.getElem?_toArray, List.getElem?_cons_zero, List.getElem?_cons_succ]; rfl)
          · skip
            refine stepN2 w6 (by rfl) _ _ 52 (by rfl) 0 30 i1 _ 1 24 u_bytesB hi1 hy0 hy1 hy2 rfl (by decide) _ L.length _ (by rfl) HQ6.out.bytes #[.slice A7 bs.length cap7] rfl (by rfl) (by simp; rfl) (by have := HLN.out; simp only [maxLen]; omega) (by have := HLN.out; omega) (Nat.zero_le _) ?_
            intro u2 w7 how hg hat
            obtain ⟨A10, cap10, rfl, _, _⟩ := own_shape how
            have hQ := HQ6.out.bytes_put (B0 := w.heap.size) (by omega) how hg (hat.imp id fun e => ⟨_, e, by omega⟩) HU.out.1 HU.out.2
            have d0 := hQ.2.2.1
            have f0 := hQ.2.2.2
            have HQ7 := Lib.hid (And.intro hQ.1 (HC6.out.thenS hQ.2.1 fun i hi hk => (FBn.sub (FBn.sub (fun k h => .inl h)) i hk).elim (fun e => e) (fun e => by omega)))
            clear how hg hat hQ hS7
            refine hK.out _ _ trivial (fun _ => ?_)
            clear hK K
            try simp only [Act.put, List.setIfInBounds_toArray, List.set_cons_zero, List.set_cons_succ]
            refine wpAnyH_take (i := 10) (oi := ?oi10c20) (v := ?v10c20) ?hi10c20 (by kernel_rfl) (by kernel_rfl) (by kernel_rfl) ?hq10c20 ?hy10c20 (by assumption) ?rest10c20
            case hi10c20 => (simp only [List.getElem?_toArray, List.getElem?_cons_zero, List.getElem?_cons_succ]; rfl)
            case hy10c20 => (refine Or.inl ⟨by rfl, ?_⟩; intro w hSw; (try dsimp only at hSw); go_simp; try with_reducible rfl)
            case hq10c20 => exact fun _ _ _ h => h
            try simp only [Act.put, List.setIfInBounds_toArray, List.set_cons_zero, List.set_cons_succ]
            refine wpAnyH_take (i := 11) (oi := ?oi11c20) (v := ?v11c20) ?hi11c20 (by kernel_rfl) (by kernel_rfl) (by kernel_rfl) ?hq11c20 ?hy11c20 (by assumption) ?rest11c20
            case hi11c20 => (simp only [List.getElem?_toArray, List.getElem?_cons_zero, List.getElem?_cons_succ]; rfl)
            case hy11c20 => (refine Or.inl ⟨by rfl, ?_⟩; intro w hSw; (try dsimp only at hSw); go_simp; try with_reducible rfl)
            case hq11c20 => exact fun _ _ _ h => h
            try simp only [Act.put, List.setIfInBounds_toArray, List.set_cons_zero, List.set_cons_succ]
            refine wpAnyH_ready (rs := [12]) (by kernel_rfl) (by simp) ?_
            obtain ⟨w8, hw8⟩ : ∃ w8, w8 = w7.setCell ⟨b, 2, none⟩ (.slice A10 (L.length + 1) cap10) := ⟨_, rfl⟩
            have HW8 := Lib.hid hw8
            rw [← hw8] at HQ7
            clear hw8
            refine AllReadyH.cons (o := ?o12p21) ?ho12p21 (fun K hK => ?st12p21) ?mo12p21
            case ho12p21 => (simp only [List.getElem?_toArray, List.getElem?_cons_zero, List.getElem?_cons_succ]; rfl)
            · skip
              go_simp
              rw [← HW8.out]
              refine hK.out _ _ trivial (fun _ => ?_)
              clear hK K
              try simp only [Act.put, List.setIfInBounds_toArray, List.set_cons_zero, List.set_cons_succ]
              refine wpAnyH_done (by kernel_rfl) ?_ _
              have c3 : w8.cell? ⟨b, 3, none⟩ = some v3 := HQ7.out.1.blk.cell 3
              have hs8 := HQ7.out.2.size
              clear d0 f0 HW8
              go_upto_region 5 with (at_builtin; refine appN2 w8 (by rfl) _ _ 53 (by rfl) 0 4 i2 _ 1 1 u_boolsB hi2 hb0 hb1 hb2 rfl (by decide) _ C.length _ (by rfl) HQ7.out.1.come #[.bool false] rfl (by rfl) (by simp; rfl) (by have := HLN.out; simp only [maxLen]; omega) (by have := HLN.out; omega) (Nat.zero_le _) ?_; intro u3 w9 how _ hg hat; obtain ⟨A11, cap11, rfl, _, _⟩ := own_shape how; have hQ := HQ7.out.1.come_put (B0 := w.heap.size) hs8 how hg (hat.imp id fun e => ⟨_, e, by omega⟩); have d0 := hQ.2.2.1; have f0 := hQ.2.2.2; have HQ9 := Lib.hid (And.intro hQ.1 (HQ7.out.2.thenS hQ.2.1 fun i hi hk => (FBn.sub (FBn.sub (FBn.sub (fun k h => .inl h))) i hk).elim (fun e => e) (fun e => by omega))); clear how hg hat hQ)
              obtain ⟨w10, hw10⟩ : ∃ w10, w10 = w9.setCell ⟨b, 3, none⟩ (.slice A11 (C.length + 1) cap11) := ⟨_, rfl⟩
              rw [← hw10] at HQ9 ⊢
              have c0 : w10.cell? ⟨b, 0, none⟩ = some (.slice A8 (S.length + 1) cap8) := HQ9.out.1.blk.cell 0
              have HFIN : Hid (PutR w FB b S T L C idn x y bs (.returned (.bool (idn == ((S.length : Int) + 1)))) w10) := Lib.hid ⟨by rw [show (((S.length + 1 : Nat) : Int)) = (S.length : Int) + 1 by omega], _, _, _, _, _, _, HQ9.out.1, FBn.sub (FBn.sub (FBn.sub (FBn.sub (fun k h => .inl h)))), HQ9.out.2⟩
              clear hw10 d0 f0 c3
              go_wp2
              go_ret
              exact HFIN.out
            exact AllReadyH.nil
          exact AllReadyH.nil
        exact AllReadyH.nil
      exact AllReadyH.nil
    exact AllReadyH.nil
  exact AllReadyH.nil
end Go.Proofs.Ytgfhmfhhobhojaa
