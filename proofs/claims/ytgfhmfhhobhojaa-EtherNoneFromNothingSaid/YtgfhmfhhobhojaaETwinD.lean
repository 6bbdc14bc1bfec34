/-
  The program's network and the document's tell the same: Do. And: The program's network and the document's tell the same.
-/
import Derived.Test.YtgfhmfhhobhojaaERNew
namespace Go.Proofs.Ytgfhmfhhobhojaa
open Go.RowKit
structure TwinS (c : ECfg) (p : PV) (r : RV) (m : Nat) : Prop where
  clk : p.clock = r.now
  down : ∀ k, k < c.n → p.down k = !r.up k
  inc : ∀ k, k < c.n → p.inc k = r.inc k
  tk : ∀ k, k < c.n → p.tk k = r.tk k
  shut : ∀ i j, i < c.n → j < c.n → p.shut i j = r.shut i j
  slow : ∀ i j, i < c.n → j < c.n → max 1 (p.slow i j) = r.slow i j
  way : p.way = wayOf r.all
  last : p.last = r.all.length
  due : ∀ f ∈ wayOf r.all, r.now < f.due
  ends : ∀ x ∈ r.all, x.1.src < c.n ∧ x.1.dst < c.n ∧ x.1.src ≠ x.1.dst ∧ x.1.bs.length ≤ 40000 ∧ x.1.due ≤ 100 * (m + 1)
  many : r.all.length ≤ m
  now : r.now ≤ m
  slo : ∀ i j, i < 16 → j < 16 → p.slow i j ≤ 16 ∧ r.slow i j ≤ 16
  incm : ∀ k, p.inc k ≤ m + 1 ∧ r.inc k ≤ m + 1
  tkm : ∀ k, p.tk k ≤ m ∧ r.tk k ≤ m
theorem wayOf_mem {a : List (Flt × Bool)} {f : Flt} (h : f ∈ wayOf a) : (f, false) ∈ a := by
  induction a with
  | nil => simp [wayOf] at h
  | cons x t ih =>
    obtain ⟨g, b⟩ := x
    cases b with
    | true => simp only [wayOf, if_true] at h; exact List.mem_cons_of_mem _ (ih h)
    | false =>
      simp only [wayOf, Bool.false_eq_true, if_false, List.mem_cons] at h
      rcases h with rfl | h
      · exact List.mem_cons_self
      · exact List.mem_cons_of_mem _ (ih h)
theorem joinB_nat {c : ECfg} {i j : Nat} (hi : i < c.n) (hj : j < c.n) (hij : i ≠ j) : joinB c (i : Int) (j : Int) = true := by
  simp [joinB, hasB, hi, hj]
  omega
section
variable {c : ECfg} {p : PV} {r : RV} {m : Nat}
theorem TwinS.fine (h : TwinS c p r m) (hm : m ≤ 4294967295 / 100) {M : Nat} (hM : M ≤ m) : Fine p M ∧ RFine r ∨ ¬ c.Ok := by
  by_cases hc : c.Ok
  · left
    have hn := hc.2.1
    refine ⟨⟨by omega, ?_, by rw [h.last]; have := h.many; omega, by rw [h.clk]; have := h.now; omega, fun i j hi hj => (h.slo i j hi hj).1, fun f hf => ?_⟩, ⟨by have := h.many; omega, by have := h.now; omega, fun i j hi hj => (h.slo i j hi hj).2, fun x hx => ?_⟩⟩
    · rw [h.way]
      have := wayOf_le r.all
      have := h.many
      omega
    · rw [h.way] at hf
      obtain ⟨_, _, _, h4, h5⟩ := h.ends _ (wayOf_mem hf)
      dsimp only at h4 h5
      omega
    · obtain ⟨h1, h2, _, h4, h5⟩ := h.ends _ hx
      omega
  · exact .inr hc
theorem TwinS.more (h : TwinS c p r m) {m' : Nat} (hm : m ≤ m') : TwinS c p r m' :=
  ⟨h.clk, h.down, h.inc, h.tk, h.shut, h.slow, h.way, h.last, h.due, fun x hx => by
    obtain ⟨h1, h2, h3, h4, h5⟩ := h.ends x hx
    exact ⟨h1, h2, h3, h4, by omega⟩, Nat.le_trans h.many hm, Nat.le_trans h.now hm, h.slo, fun k => by have := h.incm k; omega, fun k => by have := h.tkm k; omega⟩
theorem TwinS.upA (h : TwinS c p r m) (q : Int) : Go.Proofs.Ytgfhmfhhobhojaa.upA c p.down q = upR c r.up q := by
  unfold Go.Proofs.Ytgfhmfhhobhojaa.upA upR
  rcases hasB_cases c q with ⟨k, rfl, hk, hb⟩ | hb
  · rw [hb, Int.toNat_natCast, h.down k hk]; simp
  · rw [hb]; rfl
theorem TwinS.incA (h : TwinS c p r m) (q : Int) : numA c p.inc q = numA c r.inc q := by
  unfold numA
  rcases hasB_cases c q with ⟨k, rfl, hk, hb⟩ | hb
  · rw [hb, Int.toNat_natCast, h.inc k hk]
  · rw [hb]; rfl
theorem TwinS.tkA (h : TwinS c p r m) (q : Int) : numA c p.tk q = numA c r.tk q := by
  unfold numA
  rcases hasB_cases c q with ⟨k, rfl, hk, hb⟩ | hb
  · rw [hb, Int.toNat_natCast, h.tk k hk]
  · rw [hb]; rfl
theorem TwinS.openA (h : TwinS c p r m) (a b : Int) : openB c p.shut a b = ropenB c r.shut a b := by
  unfold openB ropenB
  rcases joinB_cases c a b with ⟨i, j, rfl, rfl, hi, hj, _, hb⟩ | hb
  · rw [hb, Int.toNat_natCast, Int.toNat_natCast, h.shut i j hi hj]
  · rw [hb]; rfl
theorem TwinS.delayA (h : TwinS c p r m) (a b : Int) : Go.Proofs.Ytgfhmfhhobhojaa.delayA c p.slow a b = rdelayA c r.slow a b := by
  unfold Go.Proofs.Ytgfhmfhhobhojaa.delayA rdelayA
  rcases joinB_cases c a b with ⟨i, j, rfl, rfl, hi, hj, _, hb⟩ | hb
  · rw [if_pos hb, if_pos hb, Int.toNat_natCast, Int.toNat_natCast, h.slow i j hi hj]
  · rw [if_neg (by simp [hb]), if_neg (by simp [hb])]
theorem TwinS.tick_e (h : TwinS c p r m) (q : Int) : Tick_e c p.down q = RTick_e c r.up q := by
  unfold Tick_e RTick_e
  rcases hasB_cases c q with ⟨k, rfl, hk, hb⟩ | hb
  · rw [if_pos hb, if_pos hb, Int.toNat_natCast, h.down k hk]
    cases r.up k <;> rfl
  · rw [if_neg (by simp [hb]), if_neg (by simp [hb])]
theorem TwinS.rest_e (h : TwinS c p r m) (q : Int) : Rest_e c p.down q = RRest_e c r.up q := by
  unfold Rest_e RRest_e
  rcases hasB_cases c q with ⟨k, rfl, hk, hb⟩ | hb
  · rw [if_pos hb, if_pos hb, Int.toNat_natCast, h.down k hk]
    cases r.up k <;> rfl
  · rw [if_neg (by simp [hb]), if_neg (by simp [hb])]
theorem tick_has {q : Int} {d : Nat → Bool} (h : Tick_e c d q = 0) : ∃ k : Nat, q = (k : Int) ∧ k < c.n := by
  rcases hasB_cases c q with ⟨k, rfl, hk, hb⟩ | hb
  · exact ⟨k, rfl, hk⟩
  · unfold Tick_e at h
    rw [if_neg (by simp [hb])] at h
    cases h
theorem rest_has {q : Int} {d : Nat → Bool} (h : Rest_e c d q = 0) : ∃ k : Nat, q = (k : Int) ∧ k < c.n := by
  rcases hasB_cases c q with ⟨k, rfl, hk, hb⟩ | hb
  · exact ⟨k, rfl, hk⟩
  · unfold Rest_e at h
    rw [if_neg (by simp [hb])] at h
    cases h
theorem TwinS.tick (h : TwinS c p r m) (q : Int) : Tick_r c p.down p.tk q = RTick_r c r.up r.tk q ∧ TwinS c (tickP c p q) (tickR c r q) (m + 1) := by
  unfold Tick_r RTick_r tickP tickR
  rw [← h.tick_e q]
  by_cases h0 : Tick_e c p.down q = 0
  · rw [if_pos h0, if_pos h0, if_pos h0, if_pos h0]
    obtain ⟨k, rfl, hk⟩ := tick_has h0
    rw [Int.toNat_natCast, h.tk k hk]
    have h1 := h.more (Nat.le_succ m)
    refine ⟨rfl, ⟨h1.clk, h1.down, h1.inc, fun j hj => ?_, h1.shut, h1.slow, h1.way, h1.last, h1.due, h1.ends, h1.many, h1.now, h1.slo, h1.incm, fun j => ?_⟩⟩
    · simp only [updN]
      split
      · rfl
      · exact h.tk j hj
    · have h2 := h.tkm j
      have h3 := h.tkm k
      simp only [updN]
      split <;> omega
  · rw [if_neg h0, if_neg h0, if_neg h0, if_neg h0]
    exact ⟨rfl, h.more (Nat.le_succ m)⟩
theorem TwinS.crash (h : TwinS c p r m) (q : Int) : TwinS c (crashP c p q) (crashR c r q) (m + 1) := by
  unfold crashP crashR
  rw [← h.tick_e q]
  have h1 := h.more (Nat.le_succ m)
  by_cases h0 : Tick_e c p.down q = 0
  · rw [if_pos h0, if_pos h0]
    refine ⟨h1.clk, fun j hj => ?_, h1.inc, h1.tk, h1.shut, h1.slow, h1.way, h1.last, h1.due, h1.ends, h1.many, h1.now, h1.slo, h1.incm, h1.tkm⟩
    simp only [updB]
    split
    · rfl
    · exact h.down j hj
  · rw [if_neg h0, if_neg h0]
    exact h1
theorem TwinS.rest (h : TwinS c p r m) (q : Int) : Rest_r c p.down p.inc q = RRest_r c r.up r.inc q ∧ TwinS c (restP c p q) (restR c r q) (m + 1) := by
  unfold Rest_r RRest_r restP restR
  rw [← h.rest_e q]
  have h1 := h.more (Nat.le_succ m)
  by_cases h0 : Rest_e c p.down q = 0
  · rw [if_pos h0, if_pos h0, if_pos h0, if_pos h0]
    obtain ⟨k, rfl, hk⟩ := rest_has h0
    rw [Int.toNat_natCast, h.inc k hk]
    refine ⟨rfl, ⟨h1.clk, fun j hj => ?_, fun j hj => ?_, fun j hj => ?_, h1.shut, h1.slow, h1.way, h1.last, h1.due, h1.ends, h1.many, h1.now, h1.slo, fun j => ?_, fun j => ?_⟩⟩
    · simp only [updB]
      split
      · rfl
      · exact h.down j hj
    · simp only [updN]
      split
      · rfl
      · exact h.inc j hj
    · simp only [updN]
      split
      · rfl
      · exact h.tk j hj
    · have h2 := h.incm j
      have h3 := h.incm k
      simp only [updN]
      split <;> omega
    · have h2 := h.tkm j
      simp only [updN]
      split <;> omega
  · rw [if_neg h0, if_neg h0, if_neg h0, if_neg h0]
    exact ⟨rfl, h1⟩
/-- A packet joins both. -/
theorem TwinS.add (h : TwinS c p r m) {i j due : Nat} {bs : List UInt8} (hi : i < c.n) (hj : j < c.n) (hij : i ≠ j) (hb : bs.length ≤ 40000) (hd : r.now < due) (hd2 : due ≤ 100 * (m + 2)) : TwinS c (addP p i j due bs) (putR r i j due bs) (m + 1) := by
  have h1 := h.more (Nat.le_succ m)
  have e : wayOf [((⟨r.all.length + 1, i, j, due, bs⟩ : Flt), false)] = [⟨r.all.length + 1, i, j, due, bs⟩] := by simp [wayOf]
  refine ⟨h.clk, h.down, h.inc, h.tk, h.shut, h.slow, ?_, ?_, fun f hf => ?_, fun x hx => ?_, ?_, h1.now, h.slo, h1.incm, h1.tkm⟩
  · show p.way ++ [_] = wayOf (r.all ++ [_])
    rw [wayOf_append, e, h.way, h.last]
  · show p.last + 1 = (r.all ++ [_]).length
    rw [List.length_append, h.last]; rfl
  · have hf' : f ∈ wayOf (r.all ++ [((⟨r.all.length + 1, i, j, due, bs⟩ : Flt), false)]) := hf
    rw [wayOf_append, e] at hf'
    rcases List.mem_append.1 hf' with h2 | h2
    · exact h.due f h2
    · simp only [List.mem_cons, List.not_mem_nil, or_false] at h2
      subst h2
      exact hd
  · have hx' : x ∈ r.all ++ [((⟨r.all.length + 1, i, j, due, bs⟩ : Flt), false)] := hx
    rcases List.mem_append.1 hx' with h2 | h2
    · exact h1.ends x h2
    · simp only [List.mem_cons, List.not_mem_nil, or_false] at h2
      subst h2
      exact ⟨hi, hj, hij, hb, hd2⟩
  · show (r.all ++ [_]).length ≤ m + 1
    rw [List.length_append]
    have := h.many
    simp only [List.length_cons, List.length_nil]
    omega
theorem TwinS.post (hc : c.Ok) (h : TwinS c p r m) (a b : Int) (bs : List UInt8) (lives : Bool) : postE c p a b bs.length lives = postRE c r a b bs.length lives ∧ postR c p a b bs.length lives = postRR c r a b bs.length lives ∧ TwinS c (postP c p a b bs lives) (postRP c r a b bs lives) (m + 1) := by
  have h1 := h.more (Nat.le_succ m)
  have hE : postE c p a b bs.length lives = postRE c r a b bs.length lives := by
    unfold postE postRE
    rcases joinB_cases c a b with ⟨i, j, rfl, rfl, hi, hj, _, hb⟩ | hb
    · rw [Int.toNat_natCast, Int.toNat_natCast, h.down i hi]
      have e : launchE c p i j = launchRE c r i j := by
        unfold launchE launchRE
        rw [h.shut i j hi hj, h.way]
      rw [e]
      have e2 : ((!r.up i) = true) = (r.up i = false) := by cases r.up i <;> simp
      simp only [e2]
    · rw [if_neg (by simp [hb]), if_neg (by simp [hb])]
  refine ⟨hE, ?_, ?_⟩
  · unfold postR postRR
    rw [hE, h.last]
  · unfold postP postRP
    rw [hE]
    by_cases h0 : postRE c r a b bs.length lives = 0
    · rw [if_pos h0, if_pos h0]
      unfold postRE at h0
      rcases joinB_cases c a b with ⟨i, j, rfl, rfl, hi, hj, hij, hb⟩ | hb
      · by_cases hl : bs.length ≤ 40000
        · rw [Int.toNat_natCast, Int.toNat_natCast, h.clk, h.slow i j hi hj]
          have h2 := (h.slo i j (by have := hc.2.1; omega) (by have := hc.2.1; omega)).2
          have h3 := h.slow i j hi hj
          have h4 := h.now
          exact h.add hi hj hij hl (by omega) (by omega)
        · rw [if_neg (fun e => hl e.2)] at h0; cases h0
      · rw [if_neg (by simp [hb])] at h0; cases h0
    · rw [if_neg h0, if_neg h0]
      exact h1
theorem rnd_fst (t : Nat) (x : Flt × Bool) : (rnd t x).1 = x.1 := by
  unfold rnd; split <;> rfl
theorem TwinS.okB (h : TwinS c p r m) {f : Flt} (hf : f ∈ wayOf r.all) : Go.Proofs.Ytgfhmfhhobhojaa.okB c p f = okR r f := by
  obtain ⟨h1, h2, h3, _⟩ := h.ends _ (wayOf_mem hf)
  dsimp only at h1 h2 h3
  unfold Go.Proofs.Ytgfhmfhhobhojaa.okB okR openB Go.Proofs.Ytgfhmfhhobhojaa.upA hasB
  rw [joinB_nat h1 h2 h3, Int.toNat_natCast, Int.toNat_natCast, h.shut _ _ h1 h2, h.down _ h2]
  have e : decide (0 ≤ (f.dst : Int) ∧ (f.dst : Int) < (c.n : Int)) = true := by simp [h2]
  rw [e]
  simp
theorem TwinS.round (h : TwinS c p r m) : roundL c p = roundRL r ∧ TwinS c (roundP p) (roundRP r) (m + 1) := by
  have h1 := h.more (Nat.le_succ m)
  have hd : ∀ f ∈ wayOf r.all, r.now + 1 ≤ f.due := fun f hf => h.due f hf
  have hw := wayOf_rnd (r.now + 1) r.all hd
  refine ⟨?_, ⟨?_, h.down, h.inc, h.tk, h.shut, h.slow, ?_, ?_, fun f hf => ?_, fun x hx => ?_, ?_, ?_, h.slo, h1.incm, h1.tkm⟩⟩
  · unfold roundL roundRL
    rw [out_rnd (r.now + 1) (okR r) r.all hd, h.way, h.clk]
    refine List.filter_congr fun f hf => ?_
    unfold hereB stayB
    rw [h.okB hf]
  · show p.clock + 1 = r.now + 1
    rw [h.clk]
  · show p.way.filter _ = wayOf (r.all.map (rnd (r.now + 1)))
    rw [hw, h.way, h.clk]
    rfl
  · show p.last = (r.all.map _).length
    rw [List.length_map, h.last]
  · have hf' : f ∈ wayOf (r.all.map (rnd (r.now + 1))) := hf
    rw [hw] at hf'
    exact of_decide_eq_true (List.mem_filter.1 hf').2
  · have hx' : x ∈ r.all.map (rnd (r.now + 1)) := hx
    obtain ⟨y, hy, rfl⟩ := List.mem_map.1 hx'
    rw [rnd_fst]
    exact h1.ends y hy
  · show (r.all.map _).length ≤ m + 1
    rw [List.length_map]
    exact h1.many
  · show r.now + 1 ≤ m + 1
    have := h.now; omega
/-- A packet is gone, or turned. -/
theorem TwinS.gone (h : TwinS c p r m) {k i : Nat} {f : Flt} (hki : (idxOf r.all)[k]? = some i) (hfi : r.all[i]? = some (f, false)) : TwinS c { p with way := p.way.eraseIdx k } { r with all := r.all.set i (f, true) } (m + 1) := by
  have h1 := h.more (Nat.le_succ m)
  obtain ⟨_, _, _, _, h5⟩ := idx_at hki
  refine ⟨h.clk, h.down, h.inc, h.tk, h.shut, h.slow, ?_, ?_, fun g hg => ?_, fun x hx => ?_, ?_, h1.now, h.slo, h1.incm, h1.tkm⟩
  · show p.way.eraseIdx k = wayOf (r.all.set i (f, true))
    rw [h5 f, h.way]
  · show p.last = (r.all.set i _).length
    rw [List.length_set, h.last]
  · have hg' : g ∈ wayOf (r.all.set i (f, true)) := hg
    rw [h5 f] at hg'
    exact h.due g (List.mem_of_mem_eraseIdx hg')
  · rcases List.mem_or_eq_of_mem_set (show x ∈ r.all.set i (f, true) from hx) with h2 | rfl
    · exact h1.ends x h2
    · exact h1.ends (f, false) (List.mem_of_getElem? hfi)
  · show (r.all.set i _).length ≤ m + 1
    rw [List.length_set]; exact h1.many
theorem TwinS.turn (h : TwinS c p r m) {k i : Nat} {f g : Flt} (hki : (idxOf r.all)[k]? = some i) (hfi : r.all[i]? = some (f, false)) (h1s : g.src = f.src) (h1d : g.dst = f.dst) (hb : g.bs.length = f.bs.length) (hd : f.due ≤ g.due) (hd2 : g.due ≤ f.due + 16) : TwinS c { p with way := p.way.set k g } { r with all := r.all.set i (g, false) } (m + 1) := by
  have h1 := h.more (Nat.le_succ m)
  obtain ⟨f', h2', h3', h4, _⟩ := idx_at hki
  obtain ⟨e1, e2, e3, e4, e5⟩ := h.ends _ (List.mem_of_getElem? hfi)
  dsimp only at e1 e2 e3 e4 e5
  have hff : f' = f := by
    rw [h2'] at hfi
    simp only [Option.some.injEq, Prod.mk.injEq] at hfi
    exact hfi.1
  subst hff
  refine ⟨h.clk, h.down, h.inc, h.tk, h.shut, h.slow, ?_, ?_, fun x hx => ?_, fun x hx => ?_, ?_, h1.now, h.slo, h1.incm, h1.tkm⟩
  · show p.way.set k g = wayOf (r.all.set i (g, false))
    rw [h4 g, h.way]
  · show p.last = (r.all.set i _).length
    rw [List.length_set, h.last]
  · have hx' : x ∈ wayOf (r.all.set i (g, false)) := hx
    rw [h4 g] at hx'
    rcases List.mem_or_eq_of_mem_set hx' with h6 | rfl
    · exact h.due x h6
    · exact Nat.lt_of_lt_of_le (h.due f' (List.mem_of_getElem? h3')) hd
  · rcases List.mem_or_eq_of_mem_set (show x ∈ r.all.set i (g, false) from hx) with h2 | rfl
    · exact h1.ends x h2
    · exact ⟨by rw [h1s]; exact e1, by rw [h1d]; exact e2, by rw [h1s, h1d]; exact e3, by rw [hb]; exact e4, by show g.due ≤ 100 * (m + 1 + 1); omega⟩
  · show (r.all.set i _).length ≤ m + 1
    rw [List.length_set]; exact h1.many
theorem TwinS.goneE (h : TwinS c p r m) {f : Flt} (hf : f ∈ wayOf r.all) : Go.Proofs.Ytgfhmfhhobhojaa.goneE c p f = goneRE r f := by
  obtain ⟨h1, h2, h3, _⟩ := h.ends _ (wayOf_mem hf)
  dsimp only at h1 h2 h3
  unfold Go.Proofs.Ytgfhmfhhobhojaa.goneE goneRE openB Go.Proofs.Ytgfhmfhhobhojaa.upA hasB
  rw [joinB_nat h1 h2 h3, Int.toNat_natCast, Int.toNat_natCast, h.shut _ _ h1 h2, h.down _ h2]
  have e : decide (0 ≤ (f.dst : Int) ∧ (f.dst : Int) < (c.n : Int)) = true := by simp [h2]
  rw [e]
  cases r.shut f.src f.dst <;> cases r.up f.dst <;> simp
theorem TwinS.new (c : ECfg) (hc : c.Ok) : TwinS c PV.new RV.new 0 := by
  have hn := hc.2.1
  refine ⟨rfl, fun k hk => ?_, fun k hk => ?_, fun _ _ => rfl, fun _ _ _ _ => rfl, fun i j hi hj => ?_, rfl, rfl, fun f hf => absurd hf (by simp [RV.new, RV.newB, wayOf]), fun x hx => absurd hx (by simp [RV.new, RV.newB]), Nat.le_refl _, Nat.le_refl _, fun i j hi hj => ?_, fun k => ?_, fun k => ⟨Nat.le_refl _, Nat.le_refl _⟩⟩
  · have : k < 16 := by omega
    simp [PV.new, RV.new, RV.newB, this]
  · have : k < 16 := by omega
    simp [PV.new, RV.new, RV.newB, this]
  · have h1 : i < 16 := by omega
    have h2 : j < 16 := by omega
    simp [PV.new, RV.new, RV.newB, h1, h2]
  · simp [PV.new, RV.new, RV.newB, hi, hj]
  · simp only [PV.new, RV.new, RV.newB]
    split <;> omega
end
end Go.Proofs.Ytgfhmfhhobhojaa
namespace Go.Proofs.Ytgfhmfhhobhojaa
open Go.RowKit
section
variable {c : ECfg} {p : PV} {r : RV} {m : Nat}
theorem TwinS.path (_hc : c.Ok) (h : TwinS c p r m) {i j : Nat} (_hi : i < c.n) (_hj : j < c.n) (kd n : Int) : (turnD c p i j kd n).1 = (pathD r i j kd n).1 ∧ TwinS c (turnD c p i j kd n).2 (pathD r i j kd n).2 (m + 1) := by
  have h1 := h.more (Nat.le_succ m)
  unfold turnD pathD
  have hS : ∀ x : Bool, TwinS c { p with shut := updS p.shut i j x } { r with shut := updS r.shut i j x } (m + 1) := fun x =>
    ⟨h1.clk, h1.down, h1.inc, h1.tk, fun a b ha hb => by
      simp only [updS]
      split
      · rfl
      · exact h.shut a b ha hb, h1.slow, h1.way, h1.last, h1.due, h1.ends, h1.many, h1.now, h1.slo, h1.incm, h1.tkm⟩
  by_cases h8 : kd = 8
  · rw [if_pos h8, if_pos h8]
    exact ⟨rfl, hS true⟩
  · rw [if_neg h8, if_neg h8]
    by_cases h9 : kd = 9
    · rw [if_pos h9, if_pos h9]
      exact ⟨rfl, hS false⟩
    · rw [if_neg h9, if_neg h9]
      by_cases hn : 1 ≤ n ∧ n ≤ 16
      · rw [if_pos hn, if_pos hn]
        obtain ⟨d, hd⟩ : ∃ d, d = n.toNat := ⟨_, rfl⟩
        rw [← hd]
        have hd1 : 1 ≤ d ∧ d ≤ 16 := by omega
        refine ⟨rfl, ⟨h1.clk, h1.down, h1.inc, h1.tk, h1.shut, fun a b ha hb => ?_, h1.way, h1.last, h1.due, h1.ends, h1.many, h1.now, fun a b ha hb => ?_, h1.incm, h1.tkm⟩⟩
        · simp only [upd2]
          split
          · unfold slowV
            split <;> omega
          · exact h.slow a b ha hb
        · have h2 := h.slo a b ha hb
          simp only [upd2]
          split
          · unfold slowV
            constructor
            · split <;> omega
            · omega
          · exact h2
      · rw [if_neg hn, if_neg hn]
        exact ⟨rfl, h1⟩
theorem TwinS.split (h : TwinS c p r m) (sides : List Int) : TwinS c (splitP c p sides) (splitRP c r sides) (m + 1) := by
  have h1 := h.more (Nat.le_succ m)
  refine ⟨h1.clk, h1.down, h1.inc, h1.tk, fun a b ha hb => ?_, h1.slow, h1.way, h1.last, h1.due, h1.ends, h1.many, h1.now, h1.slo, h1.incm, h1.tkm⟩
  show splitS c sides a b = splitK c r sides c.n 0 a b
  unfold splitS splitK
  rw [if_pos ⟨.inl ha, hb⟩]
  simp [ha, hb]
theorem TwinS.pkt (h : TwinS c p r m) {k i : Nat} {f : Flt} (hki : (idxOf r.all)[k]? = some i) (hfi : r.all[i]? = some (f, false)) (kd n : Int) : (touchD c p k f kd n).1 = (pktD c r i f kd n).1 ∧ TwinS c (touchD c p k f kd n).2 (pktD c r i f kd n).2 (m + 1) := by
  have h1 := h.more (Nat.le_succ m)
  obtain ⟨e1, e2, e3, e4, e5⟩ := h.ends _ (List.mem_of_getElem? hfi)
  dsimp only at e1 e2 e3 e4 e5
  obtain ⟨f', h2', h3', _, _⟩ := idx_at hki
  have hff : f' = f := by
    rw [h2'] at hfi
    simp only [Option.some.injEq, Prod.mk.injEq] at hfi
    exact hfi.1
  subst hff
  have hdue := h.due f' (List.mem_of_getElem? h3')
  unfold touchD pktD
  by_cases h12 : kd = 12
  · rw [if_pos h12, if_pos h12]
    exact ⟨rfl, h.gone hki hfi⟩
  · rw [if_neg h12, if_neg h12]
    by_cases h13 : kd = 13
    · rw [if_pos h13, if_pos h13, h.way]
      by_cases hr : c.room ≤ (wayOf r.all).length
      · rw [if_pos hr, if_pos hr]
        exact ⟨rfl, h1⟩
      · rw [if_neg hr, if_neg hr]
        exact ⟨rfl, h.add e1 e2 e3 e4 hdue (by omega)⟩
    · rw [if_neg h13, if_neg h13]
      by_cases h15 : kd = 15
      · rw [if_pos h15, if_pos h15]
        by_cases hn : 1 ≤ n ∧ n ≤ 16
        · rw [if_pos hn, if_pos hn]
          exact ⟨rfl, h.turn hki hfi rfl rfl rfl (Nat.le_add_right _ _) (by show f'.due + n.toNat ≤ f'.due + 16; omega)⟩
        · rw [if_neg hn, if_neg hn]
          exact ⟨rfl, h1⟩
      · rw [if_neg h15, if_neg h15]
        by_cases hn : 0 ≤ n ∧ n.toNat / 8 < f'.bs.length
        · rw [if_pos hn, if_pos hn]
          exact ⟨rfl, h.turn hki hfi rfl rfl (by simp [flipF]) (Nat.le_refl _) (Nat.le_add_right _ _)⟩
        · rw [if_neg hn, if_neg hn]
          exact ⟨rfl, h1⟩
theorem TwinS.at_some (h : TwinS c p r m) {k : Nat} {f : Flt} (hk : p.way[k]? = some f) : ∃ i, (idxOf r.all)[k]? = some i ∧ r.all[i]? = some (f, false) := by
  rw [h.way] at hk
  have hlt : k < (idxOf r.all).length := by rw [idxOf_length]; exact (List.getElem?_eq_some_iff.1 hk).1
  have hki : (idxOf r.all)[k]? = some (idxOf r.all)[k] := List.getElem?_eq_getElem hlt
  obtain ⟨f', h2, h3, _, _⟩ := idx_at hki
  rw [hk] at h3
  injection h3 with h3
  subst h3
  exact ⟨_, hki, h2⟩
theorem TwinS.do_ (hc : c.Ok) (h : TwinS c p r m) (e : Evt) : (doD c p e).1 = (rdoD c r e).1 ∧ TwinS c (doD c p e).2 (rdoD c r e).2 (m + 1) := by
  have h1 := h.more (Nat.le_succ m)
  unfold doD rdoD
  by_cases hp : e.kd = 8 ∨ e.kd = 9 ∨ e.kd = 10
  · rw [if_pos hp, if_pos hp]
    rcases joinB_cases c e.a e.b with ⟨i, j, ha, hb, hi, hj, _, hJ⟩ | hJ
    · rw [if_pos hJ, if_pos hJ, ha, hb, Int.toNat_natCast, Int.toNat_natCast]
      exact h.path hc hi hj e.kd e.n
    · rw [if_neg (by simp [hJ]), if_neg (by simp [hJ])]
      exact ⟨rfl, h1⟩
  · rw [if_neg hp, if_neg hp]
    by_cases h11 : e.kd = 11
    · rw [if_pos h11, if_pos h11]
      by_cases hs : splitB c e.sides = true
      · rw [if_pos hs, if_pos hs]
        exact ⟨rfl, h.split e.sides⟩
      · rw [if_neg hs, if_neg hs]
        exact ⟨rfl, h1⟩
    · rw [if_neg h11, if_neg h11]
      by_cases ht : e.kd = 12 ∨ e.kd = 13 ∨ e.kd = 15 ∨ e.kd = 16
      · rw [if_pos ht, if_pos ht]
        by_cases ha : 0 ≤ e.a
        · rw [if_pos ha, if_pos ha]
          unfold atD
          cases hk : p.way[e.a.toNat]? with
          | none =>
            have hn : (idxOf r.all)[e.a.toNat]? = none := by
              rw [List.getElem?_eq_none_iff] at hk ⊢
              rw [idxOf_length, ← h.way]
              exact hk
            rw [hn]
            exact ⟨rfl, h1⟩
          | some f =>
            obtain ⟨i, hki, hfi⟩ := h.at_some hk
            rw [hki]
            dsimp only
            rw [hfi]
            exact h.pkt hki hfi e.kd e.n
        · rw [if_neg ha, if_neg ha]
          exact ⟨rfl, h1⟩
      · rw [if_neg ht, if_neg ht]
        by_cases h17 : e.kd = 17
        · rw [if_pos h17, if_pos h17]
          obtain ⟨h2, _, h3⟩ := h.post hc e.a e.b e.bs false
          exact ⟨h2, h3⟩
        · rw [if_neg h17, if_neg h17]
          exact ⟨rfl, h1⟩
end
/-! The calls of Do, each network's ways put together. -/
section
variable {w : World} {F : Nat → Prop} {c : ECfg} {D : Nat} {p : PV} {r : RV} {m : Nat}
open Go.ChangeShapes Go.WideShapes Go.ChangeAt
theorem kd_cases (kd : Int) : (kd = 8 ∨ kd = 9 ∨ kd = 10) ∨ kd = 11 ∨ (kd = 12 ∨ kd = 13 ∨ kd = 15 ∨ kd = 16) ∨ kd = 17 ∨ (kd < 8 ∨ kd = 14 ∨ 17 < kd) := by omega
theorem RDo_any (hc : c.Ok) (h : RNx w F c D r) (hf : RFine r) (kd a b n : Int) (BA SA : Option Addr) (bc sn sc : Nat) (bs : List UInt8) (sides : List Int) (hn : n ≤ 9223372036854775807) (hr : RdB w w.heap.size BA bs.length bs) (hbn : bs.length ≤ 140737488351232) (hs : RdI w w.heap.size SA sn sides) (hsn : sn ≤ 140737488351232) (hSA : 0 < sn → ∀ b o s, SA = some ⟨b, o, s⟩ → ¬ F b) : Calls Try.prog 76 #[.pointer (some ⟨D, 0, none⟩), .agg #[.int .i64 kd, .int .i64 a, .int .i64 b, .int .i64 n, .slice BA bs.length bc, .int .i64 0, .int .i64 0, .int .i64 0, .int .i64 0, .string ByteArray.empty, .string ByteArray.empty, .string ByteArray.empty, .slice SA sn sc]] w (StepR w F c D (.int .i64 (rdoD c r ⟨kd, a, b, n, bs, sides⟩).1) (rdoD c r ⟨kd, a, b, n, bs, sides⟩).2) := by
  unfold rdoD
  dsimp only
  rcases kd_cases kd with hk | rfl | hk | rfl | hk
  · rw [if_pos hk]
    exact RDo_path hc h hf a b n BA SA bc sn sc bs sides kd hk
  · rw [if_neg (by omega), if_pos rfl]
    cases hb : splitB c sides with
    | true =>
      rw [if_pos rfl]
      exact RDo_split_yes hc h hf a b n BA SA bc sn sc bs sides hb hs hsn hSA
    | false =>
      rw [if_neg (by simp)]
      exact RDo_split_no hc h hf a b n BA SA bc sn sc bs sides hb hs hsn hSA
  · rw [if_neg (by omega), if_neg (by omega), if_pos hk]
    by_cases ha : 0 ≤ a
    · rw [if_pos ha]
      unfold atD
      cases hki : (idxOf r.all)[a.toNat]? with
      | none =>
        have h2 := List.getElem?_eq_none_iff.1 hki
        rw [idxOf_length] at h2
        exact RDo_none hc h hf a b n BA SA bc sn sc bs sides kd hk (.inr (by omega))
      | some i =>
        obtain ⟨f, hfi, _, _, _⟩ := idx_at hki
        dsimp only
        rw [hfi]
        exact RDo_pkt hc h hf a b n BA SA bc sn sc bs sides kd hk hn hki hfi (by omega)
    · rw [if_neg ha]
      exact RDo_none hc h hf a b n BA SA bc sn sc bs sides kd hk (.inl (by omega))
  · rw [if_neg (by omega), if_neg (by omega), if_neg (by omega), if_pos rfl]
    exact RDo_inj hc h hf a b n BA SA bc sn sc bs sides hr hbn
  · rw [if_neg (by omega), if_neg (by omega), if_neg (by omega), if_neg (by omega)]
    exact RDo_else hc h hf a b n BA SA bc sn sc bs sides kd hk
theorem Do_any (hc : c.Ok) (h : PNx w F c D p m) (hf : Fine p m) (kd a b n : Int) (BA SA : Option Addr) (bc sn sc : Nat) (bs : List UInt8) (sides : List Int) (hn : n ≤ 9223372036854775807) (hr : RdB w w.heap.size BA bs.length bs) (hbn : bs.length ≤ 140737488351232) (hAD : 0 < bs.length → ∀ b o s, BA = some ⟨b, o, s⟩ → b ≠ D) (hs : RdI w w.heap.size SA sn sides) (hsn : sn ≤ 140737488351232) (hSA : 0 < sn → ∀ b o s, SA = some ⟨b, o, s⟩ → ¬ F b) : Calls Try.prog 19 #[.pointer (some ⟨D, 0, none⟩), .agg #[.int .i64 kd, .int .i64 a, .int .i64 b, .int .i64 n, .slice BA bs.length bc, .int .i64 0, .int .i64 0, .int .i64 0, .int .i64 0, .string ByteArray.empty, .string ByteArray.empty, .string ByteArray.empty, .slice SA sn sc]] w (StepP w F c D (m + 1) (.int .i64 (doD c p ⟨kd, a, b, n, bs, sides⟩).1) (doD c p ⟨kd, a, b, n, bs, sides⟩).2) := by
  unfold doD
  dsimp only
  rcases kd_cases kd with hk | rfl | hk | rfl | hk
  · rw [if_pos hk]
    rcases joinB_cases c a b with ⟨i, j, rfl, rfl, hi, hj, hij, hJ⟩ | hJ
    · rw [if_pos hJ]
      simp only [Int.toNat_natCast]
      rcases hk with rfl | rfl | rfl
      · exact Do_turn_8 hc h hf _ _ n BA SA bc sn sc bs sides hi hj hJ rfl rfl
      · exact Do_turn_9 hc h hf _ _ n BA SA bc sn sc bs sides hi hj hJ rfl rfl
      · simp only [turnD, Int.reduceEq, if_false]
        by_cases hn : 1 ≤ n ∧ n ≤ 16
        · rw [if_pos hn]
          exact Do_turn_10yes hc h hf _ _ n BA SA bc sn sc bs sides hi hj hJ rfl rfl n.toNat (by omega) (by omega) (by omega)
        · rw [if_neg hn]
          exact Do_turn_10no hc h hf _ _ n BA SA bc sn sc bs sides hi hj hJ rfl rfl (by omega)
    · rw [if_neg (by simp [hJ])]
      exact Do_turn_none hc h hf kd a b n BA SA bc sn sc bs sides hk hJ
  · rw [if_neg (by omega), if_pos rfl]
    cases hb : splitB c sides with
    | true =>
      rw [if_pos rfl]
      exact Do_split_yes hc h hf a b n BA SA bc sn sc bs sides ((splitB_iff c sides).1 hb) hs hsn hSA
    | false =>
      rw [if_neg (by simp)]
      exact Do_split_no hc h hf a b n BA SA bc sn sc bs sides (fun e => by rw [(splitB_iff c sides).2 e] at hb; cases hb) hs hsn hSA
  · rw [if_neg (by omega), if_neg (by omega), if_pos hk]
    by_cases ha : 0 ≤ a
    · rw [if_pos ha]
      cases hki : p.way[a.toNat]? with
      | none =>
        have h2 := List.getElem?_eq_none_iff.1 hki
        exact Do_touch_none hc h hf kd a b n BA SA bc sn sc bs sides hk (.inr (by omega))
      | some f =>
        dsimp only
        have haN : a = ((a.toNat : Nat) : Int) := by omega
        rcases hk with rfl | rfl | rfl | rfl
        · exact Do_touch_12 hc h hf a b n BA SA bc sn sc bs sides hki haN
        · simp only [touchD, Int.reduceEq, if_false, if_true]
          by_cases hrm : c.room ≤ p.way.length
          · rw [if_pos hrm]; exact Do_touch_13no hc h hf a b n BA SA bc sn sc bs sides hki haN hrm
          · rw [if_neg hrm]; exact Do_touch_13yes hc h hf a b n BA SA bc sn sc bs sides hki haN hrm
        · simp only [touchD, Int.reduceEq, if_false, if_true]
          by_cases hq : 1 ≤ n ∧ n ≤ 16
          · rw [if_pos hq]; exact Do_touch_15yes hc h hf a b n BA SA bc sn sc bs sides hki haN n.toNat (by omega) (by omega) (by omega)
          · rw [if_neg hq]; exact Do_touch_15no hc h hf a b n BA SA bc sn sc bs sides hki haN (by omega)
        · simp only [touchD, Int.reduceEq, if_false]
          by_cases hq : 0 ≤ n ∧ n.toNat / 8 < f.bs.length
          · rw [if_pos hq]; exact Do_touch_16yes hc h hf a b n BA SA bc sn sc bs sides hki haN n.toNat (by omega) (by omega) hq.2
          · rw [if_neg hq]
            by_cases h0 : n < 0
            · exact Do_touch_16neg hc h hf a b n BA SA bc sn sc bs sides hki haN h0
            · exact Do_touch_16big hc h hf a b n BA SA bc sn sc bs sides hki haN n.toNat (by omega) (by omega) (by omega)
    · rw [if_neg ha]
      exact Do_touch_none hc h hf kd a b n BA SA bc sn sc bs sides hk (.inl (by omega))
  · rw [if_neg (by omega), if_neg (by omega), if_neg (by omega), if_pos rfl]
    rcases joinB_cases c a b with ⟨i, j, rfl, rfl, hi, hj, hij, hJ⟩ | hJ
    · by_cases hl : bs.length ≤ 40000
      · have h1 := Do_inj hc h hf (i : Int) (j : Int) n BA SA bc sn sc bs sides hi hj hJ rfl rfl hl hr hbn hAD
        have e1 : postE c p (i : Int) (j : Int) bs.length false = launchE c p i j := by
          unfold postE
          rw [if_pos ⟨hJ, hl⟩, if_neg (by simp)]
          simp only [Int.toNat_natCast]
        have e2 : postP c p (i : Int) (j : Int) bs false = launchP c p i j (p.clock + max 1 (p.slow i j)) bs := by
          unfold postP launchP
          rw [e1]
          simp only [Int.toNat_natCast]
        rw [e1, e2]
        exact h1
      · have h1 := Do_inj_big hc h hf (i : Int) (j : Int) n BA SA bc sn sc bs sides hi hj hJ rfl rfl (by omega)
        have e1 : postE c p (i : Int) (j : Int) bs.length false = 1 := by unfold postE; rw [if_neg (fun e => hl e.2)]
        have e2 : postP c p (i : Int) (j : Int) bs false = p := by unfold postP; rw [e1]; rfl
        rw [e1, e2]
        exact h1
    · have h1 := Do_inj_none hc h hf a b n BA SA bc sn sc bs sides hJ
      have e1 : postE c p a b bs.length false = 1 := by unfold postE; rw [if_neg (by simp [hJ])]
      have e2 : postP c p a b bs false = p := by unfold postP; rw [e1]; rfl
      rw [e1, e2]
      exact h1
  · rw [if_neg (by omega), if_neg (by omega), if_neg (by omega), if_neg (by omega)]
    exact Do_else hc h hf kd a b n BA SA bc sn sc bs sides hk
end
end Go.Proofs.Ytgfhmfhhobhojaa
