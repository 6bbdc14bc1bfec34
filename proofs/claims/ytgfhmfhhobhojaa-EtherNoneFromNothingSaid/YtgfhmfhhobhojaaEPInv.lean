/-
  What stays true of the program's network, whatever is called: bounds, numbers that rise, room. No program text.
-/
import Derived.Test.YtgfhmfhhobhojaaELaw4
namespace Go.Proofs.Ytgfhmfhhobhojaa
open Go.RowKit
/-- The packets' numbers, from s on. -/
def IdF (s : Nat) (a : List (Flt × Bool)) : Prop := ∀ i x, a[i]? = some x → x.1.id = s + i + 1
theorem IdF.way {s : Nat} {a : List (Flt × Bool)} (h : IdF s a) : (wayOf a).Pairwise (fun f g => f.id < g.id) ∧ ∀ f ∈ wayOf a, s + 1 ≤ f.id ∧ f.id ≤ s + a.length := by
  induction a generalizing s with
  | nil => simp [wayOf]
  | cons x t ih =>
    have h0 : x.1.id = s + 1 := by simpa using h 0 x (by simp)
    have ht : IdF (s + 1) t := fun i y hy => by
      have := h (i + 1) y (by simpa using hy)
      omega
    obtain ⟨h1, h2⟩ := ih ht
    have h3 : ∀ f ∈ wayOf t, s + 1 ≤ f.id ∧ f.id ≤ s + (x :: t).length := fun f hf => by
      have := h2 f hf
      simp only [List.length_cons]
      omega
    simp only [wayOf]
    split
    · exact ⟨h1, h3⟩
    · refine ⟨List.pairwise_cons.2 ⟨fun f hf => by have := h2 f hf; omega, h1⟩, fun f hf => ?_⟩
      rcases List.mem_cons.1 hf with rfl | hf
      · simp only [List.length_cons]; omega
      · exact h3 f hf
theorem IdF.put {s : Nat} {a : List (Flt × Bool)} (h : IdF s a) {f : Flt} {b : Bool} (hf : f.id = s + a.length + 1) : IdF s (a ++ [(f, b)]) := fun i x hx => by
  rcases Nat.lt_or_ge i a.length with hi | hi
  · rw [List.getElem?_append_left hi] at hx
    exact h i x hx
  · rw [List.getElem?_append_right hi] at hx
    have hlt := (List.getElem?_eq_some_iff.1 hx).1
    simp only [List.length_cons, List.length_nil] at hlt
    obtain rfl : i = a.length := by omega
    simp only [Nat.sub_self, List.getElem?_cons_zero, Option.some.injEq] at hx
    subst hx
    exact hf
theorem IdF.set_ {s i : Nat} {a : List (Flt × Bool)} (h : IdF s a) {f g : Flt} {b b' : Bool} (hi : a[i]? = some (f, b)) (hg : g.id = f.id) : IdF s (a.set i (g, b')) := fun j x hx => by
  by_cases e : i = j
  · subst e
    have hlt := (List.getElem?_eq_some_iff.1 hi).1
    rw [List.getElem?_set_self hlt] at hx
    simp only [Option.some.injEq] at hx
    subst hx
    exact hg.trans (h i _ hi)
  · rw [List.getElem?_set_ne e] at hx
    exact h j x hx
theorem IdF.rnd_ {s t : Nat} {a : List (Flt × Bool)} (h : IdF s a) : IdF s (a.map (rnd t)) := fun j x hx => by
  rw [List.getElem?_map, Option.map_eq_some_iff] at hx
  obtain ⟨y, hy, rfl⟩ := hx
  rw [rnd_fst]
  exact h j y hy
/-- What stays true. -/
structure PInv (c : ECfg) (p : PV) (m : Nat) : Prop where
  ex : ∃ r, TwinS c p r m ∧ IdF 0 r.all
  room : p.way.length ≤ c.room
section
variable {c : ECfg} {p : PV} {m : Nat}
theorem PInv.new (hc : c.Ok) : PInv c PV.new 0 := ⟨⟨RV.new, TwinS.new c hc, fun i x hx => by simp [RV.new, RV.newB] at hx⟩, by simp [PV.new]⟩
theorem PInv.more (h : PInv c p m) {m' : Nat} (hm : m ≤ m') : PInv c p m' := by
  obtain ⟨r, h1, h2⟩ := h.ex
  exact ⟨⟨r, h1.more hm, h2⟩, h.room⟩
theorem PInv.fine (h : PInv c p m) (hc : c.Ok) (hm : m ≤ 4398046511104) : Fine p m := by
  obtain ⟨r, h1, _⟩ := h.ex
  have hr := h.room
  have hn := hc.2.2.2
  refine ⟨by omega, by omega, by rw [h1.last]; have := h1.many; omega, by rw [h1.clk]; have := h1.now; omega, fun i j hi hj => (h1.slo i j hi hj).1, fun f hf => ?_⟩
  rw [h1.way] at hf
  obtain ⟨_, _, _, h4, h5⟩ := h1.ends _ (wayOf_mem hf)
  dsimp only at h4 h5
  omega
theorem PInv.incs (h : PInv c p m) : ∀ k, p.inc k ≤ m + 1 := by
  obtain ⟨r, h1, _⟩ := h.ex
  exact fun k => (h1.incm k).1
theorem PInv.tks (h : PInv c p m) : ∀ k, p.tk k ≤ m := by
  obtain ⟨r, h1, _⟩ := h.ex
  exact fun k => (h1.tkm k).1
theorem PInv.lasts (h : PInv c p m) : p.last ≤ m := by
  obtain ⟨r, h1, _⟩ := h.ex
  rw [h1.last]; exact h1.many
theorem PInv.clks (h : PInv c p m) : p.clock ≤ m := by
  obtain ⟨r, h1, _⟩ := h.ex
  rw [h1.clk]; exact h1.now
/-- Numbers rise. -/
theorem PInv.ids (h : PInv c p m) : p.way.Pairwise (fun f g => f.id < g.id) ∧ ∀ f ∈ p.way, 1 ≤ f.id ∧ f.id ≤ p.last := by
  obtain ⟨r, h1, h2⟩ := h.ex
  obtain ⟨h3, h4⟩ := h2.way
  rw [h1.way, h1.last]
  exact ⟨h3, fun f hf => by have := h4 f hf; omega⟩
theorem PInv.due (h : PInv c p m) : ∀ f ∈ p.way, p.clock < f.due := by
  obtain ⟨r, h1, h2⟩ := h.ex
  rw [h1.way, h1.clk]
  exact h1.due
theorem PInv.ends (h : PInv c p m) : ∀ f ∈ p.way, f.src < c.n ∧ f.dst < c.n ∧ f.src ≠ f.dst ∧ f.bs.length ≤ 40000 ∧ f.due ≤ 100 * (m + 1) := by
  obtain ⟨r, h1, h2⟩ := h.ex
  rw [h1.way]
  intro f hf
  exact h1.ends _ (wayOf_mem hf)
theorem PInv.tick (h : PInv c p m) (q : Int) : PInv c (tickP c p q) (m + 1) := by
  obtain ⟨r, h1, h2⟩ := h.ex
  refine ⟨⟨tickR c r q, (h1.tick q).2, ?_⟩, ?_⟩
  · unfold tickR; split <;> exact h2
  · unfold tickP; split <;> exact h.room
theorem PInv.crash (h : PInv c p m) (q : Int) : PInv c (crashP c p q) (m + 1) := by
  obtain ⟨r, h1, h2⟩ := h.ex
  refine ⟨⟨crashR c r q, h1.crash q, ?_⟩, ?_⟩
  · unfold crashR; split <;> exact h2
  · unfold crashP; split <;> exact h.room
theorem PInv.rest (h : PInv c p m) (q : Int) : PInv c (restP c p q) (m + 1) := by
  obtain ⟨r, h1, h2⟩ := h.ex
  refine ⟨⟨restR c r q, (h1.rest q).2, ?_⟩, ?_⟩
  · unfold restR; split <;> exact h2
  · unfold restP; split <;> exact h.room
theorem IdF.putR {r : RV} (h : IdF 0 r.all) (i j due : Nat) (bs : List UInt8) : IdF 0 (putR r i j due bs).all := h.put (by show r.all.length + 1 = 0 + r.all.length + 1; omega)
theorem post_room {a b : Int} {n : Nat} {lives : Bool} (h : postE c p a b n lives = 0) : p.way.length < c.room := by
  unfold postE at h
  split at h
  · split at h
    · cases h
    · unfold launchE at h
      split at h
      · cases h
      · split at h
        · cases h
        · omega
  · cases h
theorem post_len {a b : Int} {bs : List UInt8} {lives : Bool} (h : p.way.length ≤ c.room) : (postP c p a b bs lives).way.length ≤ c.room := by
  unfold postP
  split
  · rename_i h0
    have := post_room h0
    simp only [addP, List.length_append, List.length_cons, List.length_nil]
    omega
  · exact h
theorem PInv.post (hc : c.Ok) (h : PInv c p m) (a b : Int) (bs : List UInt8) (lives : Bool) : PInv c (postP c p a b bs lives) (m + 1) := by
  obtain ⟨r, h1, h2⟩ := h.ex
  refine ⟨⟨postRP c r a b bs lives, (h1.post hc a b bs lives).2.2, ?_⟩, post_len h.room⟩
  unfold postRP
  split
  · exact h2.putR _ _ _ _
  · exact h2
theorem PInv.round (h : PInv c p m) : PInv c (roundP p) (m + 1) := by
  obtain ⟨r, h1, h2⟩ := h.ex
  exact ⟨⟨roundRP r, h1.round.2, h2.rnd_⟩, Nat.le_trans (List.length_filter_le _ _) h.room⟩
theorem PInv.gone (h : PInv c p m) {k : Nat} {f : Flt} (hk : p.way[k]? = some f) : PInv c { p with way := p.way.eraseIdx k } (m + 1) := by
  obtain ⟨r, h1, h2⟩ := h.ex
  obtain ⟨i, hki, hfi⟩ := h1.at_some hk
  exact ⟨⟨_, h1.gone hki hfi, h2.set_ hfi rfl⟩, Nat.le_trans (List.length_eraseIdx_le _ _) h.room⟩
theorem touch_len (h : p.way.length ≤ c.room) (k : Nat) (f : Flt) (kd n : Int) : (touchD c p k f kd n).2.way.length ≤ c.room := by
  unfold touchD
  split
  · exact Nat.le_trans (List.length_eraseIdx_le _ _) h
  · split
    · split
      · exact h
      · simp only [addP, List.length_append, List.length_cons, List.length_nil]
        omega
    · split
      · split
        · simpa using h
        · exact h
      · split
        · simpa using h
        · exact h
theorem pkt_ids {r : RV} (h : IdF 0 r.all) {i : Nat} {f : Flt} (hfi : r.all[i]? = some (f, false)) (kd n : Int) : IdF 0 (pktD c r i f kd n).2.all := by
  unfold pktD
  split
  · exact h.set_ hfi rfl
  · split
    · split
      · exact h
      · exact h.putR _ _ _ _
    · split
      · split
        · exact h.set_ (b' := false) hfi rfl
        · exact h
      · split
        · exact h.set_ (b' := false) hfi rfl
        · exact h
theorem do_len (h : p.way.length ≤ c.room) (e : Evt) : (doD c p e).2.way.length ≤ c.room := by
  unfold doD
  split
  · split
    · unfold turnD
      repeat' split
      all_goals exact h
    · exact h
  · split
    · split <;> exact h
    · split
      · split
        · split
          · exact touch_len h _ _ _ _
          · exact h
        · exact h
      · split
        · exact post_len h
        · exact h
theorem do_ids {r : RV} (h : IdF 0 r.all) (e : Evt) : IdF 0 (rdoD c r e).2.all := by
  unfold rdoD
  split
  · split
    · unfold pathD
      repeat' split
      all_goals exact h
    · exact h
  · split
    · split <;> exact h
    · split
      · split
        · unfold atD
          split
          · exact h
          · rename_i i hi
            obtain ⟨f, h1, _⟩ := idx_at hi
            rw [h1]
            exact pkt_ids h h1 _ _
        · exact h
      · split
        · show IdF 0 (postRP c r e.a e.b e.bs false).all
          unfold postRP
          split
          · exact h.putR _ _ _ _
          · exact h
        · exact h
theorem PInv.do_ (hc : c.Ok) (h : PInv c p m) (e : Evt) : PInv c (doD c p e).2 (m + 1) := by
  obtain ⟨r, h1, h2⟩ := h.ex
  exact ⟨⟨(rdoD c r e).2, (h1.do_ hc e).2, do_ids h2 e⟩, do_len h.room e⟩
/-- Take. -/
def takeD (c : ECfg) (p : PV) (a : Int) : Int × Flt × PV :=
  if 0 ≤ a then (match p.way[a.toNat]? with | some f => if goneE c p f = 0 then (0, f, { p with way := p.way.eraseIdx a.toNat }) else (goneE c p f, Flt.zero, p) | none => (34, Flt.zero, p)) else (34, Flt.zero, p)
theorem PInv.take (h : PInv c p m) (a : Int) : PInv c (takeD c p a).2.2 (m + 1) := by
  unfold takeD
  split
  · split
    · rename_i f hk
      split
      · exact h.gone hk
      · exact h.more (Nat.le_succ m)
    · exact h.more (Nat.le_succ m)
  · exact h.more (Nat.le_succ m)
end
section
variable {w : World} {F : Nat → Prop} {c : ECfg} {D m : Nat} {p : PV}
theorem Take_any (hc : c.Ok) (h : PNx w F c D p m) (hf : Fine p m) (a : Int) : Calls Try.prog 38 #[.pointer (some ⟨D, 0, none⟩), .int .i64 a] w (TakeA w F c D m (takeD c p a).2.2 (takeD c p a).2.1 (takeD c p a).1) := by
  unfold takeD
  by_cases ha : 0 ≤ a
  · rw [if_pos ha]
    cases hk : p.way[a.toNat]? with
    | none =>
      have h2 := List.getElem?_eq_none_iff.1 hk
      exact (Take_none hc h hf a (.inr (by omega))).mono fun _ _ => TakeA.no
    | some f =>
      have haN : a = ((a.toNat : Nat) : Int) := by omega
      dsimp only
      unfold goneE
      cases ho : openB c p.shut (f.src : Int) (f.dst : Int) with
      | false => exact (Take_shut hc h hf a hk haN ho).mono fun _ _ => TakeA.no
      | true =>
        cases hu : upA c p.down (f.dst : Int) with
        | false => exact (Take_down hc h hf a hk haN ho hu).mono fun _ _ => TakeA.no
        | true =>
          exact (Take_yes hc h hf a hk haN ho hu).mono fun _ _ => TakeA.yes h.1
  · rw [if_neg ha]
    exact (Take_none hc h hf a (.inl (by omega))).mono fun _ _ => TakeA.no
end
end Go.Proofs.Ytgfhmfhhobhojaa
