/-
  The failure detector, plainly: what it knows of a node, by all that has happened. No program text.
-/
import Derived.Test.YtfjpmoigpnmeoaaTy
namespace Go.Proofs.Ytfjpmoigpnmeoaa
open Go.RowKit

structure Cfg where
  n : Nat
  self : Nat
  inc : Int
  base : Int
  step : Int
  lim : Int
def Cfg.Ok (c : Cfg) : Prop := 1 ≤ c.n ∧ c.n ≤ 16 ∧ c.self < c.n ∧ 1 ≤ c.inc ∧ c.inc ≤ 4611686018427387904 ∧ 1 ≤ c.lim ∧ c.lim ≤ 64 ∧ 1 ≤ c.base ∧ c.base ≤ c.lim ∧ 1 ≤ c.step ∧ c.step ≤ 64
/-- What is known of another node. -/
structure Pr where
  known : Int
  last : Int
  age : Int
  tmo : Int
  wrong : Int
  heard : Bool
  mutl : Bool
structure DSt where
  tick : Int
  left : Bool
  pr : Nat → Pr
def Pr.new (c : Cfg) : Pr := ⟨0, 0, 0, c.base, 0, false, false⟩
def DSt.new (c : Cfg) : DSt := ⟨0, false, fun _ => Pr.new c⟩
def tickP (p : Pr) : Pr := if p.heard = true then { p with age := p.age + 1, heard := decide (p.age + 1 ≤ p.tmo) } else p
def leaveP (p : Pr) : Pr := { p with heard := false }
def beatP (c : Cfg) (left : Bool) (p : Pr) (inc tick : Int) (m : Bool) : Pr :=
  { known := if p.known < inc then inc else p.known
    last := tick
    age := 0
    tmo := if p.known < inc then p.tmo else if p.heard = false ∧ left = false then min c.lim (p.tmo + c.step) else p.tmo
    wrong := if p.known < inc then p.wrong else if p.heard = false ∧ left = false then p.wrong + 1 else p.wrong
    heard := !left
    mutl := m }
def tickD (d : DSt) : DSt := { tick := min (d.tick + 1) 4611686018427387904, left := d.left, pr := fun q => tickP (d.pr q) }
def leaveD (d : DSt) : DSt := { d with left := true, pr := fun q => leaveP (d.pr q) }
def beatD (c : Cfg) (d : DSt) (q inc tick : Int) (m : Bool) : DSt := { d with pr := fun j => if (j : Int) = q then beatP c d.left (d.pr j) inc tick m else d.pr j }

/-- One thing that has happened (1 a tick, 2 a beat taken, 3 the leave). -/
structure Ev where
  kind : Int
  q : Int
  inc : Int
  tick : Int
  mutl : Bool
def stepD (c : Cfg) (d : DSt) (x : Ev) : DSt := if x.kind = 1 then tickD d else if x.kind = 3 then leaveD d else if x.kind = 2 then beatD c d x.q x.inc x.tick x.mutl else d
def dOf (c : Cfg) (l : List Ev) : DSt := l.foldl (stepD c) (DSt.new c)
theorem dOf_snoc (c : Cfg) (l : List Ev) (x : Ev) : dOf c (l ++ [x]) = stepD c (dOf c l) x := by simp [dOf]
/-- The document's way: one node's part, with whether the node has left. -/
def refStep (c : Cfg) (q : Nat) (s : Pr × Bool) (x : Ev) : Pr × Bool :=
  if x.kind = 3 then (leaveP s.1, true)
  else if x.kind = 1 ∧ s.1.heard = true then ({ s.1 with age := s.1.age + 1, heard := decide (s.1.age + 1 ≤ s.1.tmo) }, s.2)
  else if x.kind = 2 ∧ x.q = (q : Int) then (beatP c s.2 s.1 x.inc x.tick x.mutl, s.2)
  else s
def refOf (c : Cfg) (q : Nat) (l : List Ev) : Pr × Bool := l.foldl (refStep c q) (Pr.new c, false)
theorem refOf_snoc (c : Cfg) (q : Nat) (l : List Ev) (x : Ev) : refOf c q (l ++ [x]) = refStep c q (refOf c q l) x := by simp [refOf]
theorem refStep_eq (c : Cfg) (q : Nat) (d : DSt) (x : Ev) : refStep c q (d.pr q, d.left) x = ((stepD c d x).pr q, (stepD c d x).left) := by
  unfold refStep stepD
  by_cases h3 : x.kind = 3
  · rw [if_pos h3, if_neg (by omega), if_pos h3]; rfl
  · rw [if_neg h3]
    by_cases h1 : x.kind = 1
    · rw [if_pos h1]
      by_cases hh : (d.pr q).heard = true
      · rw [if_pos ⟨h1, hh⟩]
        simp [tickD, tickP, hh]
      · rw [if_neg (by simp [hh]), if_neg (by omega)]
        simp [tickD, tickP, hh]
    · rw [if_neg (by simp [h1]), if_neg h1, if_neg h3]
      by_cases h2 : x.kind = 2
      · rw [if_pos h2]
        by_cases hq : x.q = (q : Int)
        · rw [if_pos ⟨h2, hq⟩]
          simp [beatD, hq]
        · rw [if_neg (by simp [hq])]
          simp [beatD, Ne.symm hq]
      · rw [if_neg (by simp [h2]), if_neg h2]
theorem refOf_eq (c : Cfg) (q : Nat) (l : List Ev) : refOf c q l = ((dOf c l).pr q, (dOf c l).left) := by
  have h : ∀ (l : List Ev) (d : DSt), l.foldl (refStep c q) (d.pr q, d.left) = ((l.foldl (stepD c) d).pr q, (l.foldl (stepD c) d).left) := by
    intro l
    induction l with
    | nil => intro d; rfl
    | cons x l ih => intro d; rw [List.foldl_cons, List.foldl_cons, refStep_eq]; exact ih _
  exact h l (DSt.new c)

/-- Bounds. -/
structure Pr.Ok (c : Cfg) (m : Nat) (p : Pr) : Prop where
  k0 : 0 ≤ p.known
  k1 : p.known ≤ 4611686018427387904
  l0 : 0 ≤ p.last
  l1 : p.last ≤ 4611686018427387904
  a0 : 0 ≤ p.age
  a1 : p.age ≤ 65
  ah : p.heard = true → p.age ≤ p.tmo
  t1 : 1 ≤ p.tmo
  tl : p.tmo ≤ c.lim
  w0 : 0 ≤ p.wrong
  w1 : p.wrong ≤ m
structure DSt.Ok (c : Cfg) (m : Nat) (d : DSt) : Prop where
  t0 : 0 ≤ d.tick
  t1 : d.tick ≤ 4611686018427387904
  p : ∀ q, (d.pr q).Ok c m
  left : d.left = true → ∀ q, (d.pr q).heard = false
section
variable {c : Cfg} {m : Nat} {p : Pr} {d : DSt}
theorem Pr.new_ok (hc : c.Ok) (m : Nat) : (Pr.new c).Ok c m := by
  obtain ⟨_, _, _, _, _, h1, h2, h3, h4, _, _⟩ := hc
  constructor <;> simp [Pr.new] <;> omega
theorem DSt.new_ok (hc : c.Ok) (m : Nat) : (DSt.new c).Ok c m := ⟨by simp [DSt.new], by simp [DSt.new], fun _ => Pr.new_ok hc m, fun _ _ => rfl⟩
theorem Pr.Ok.tick (hc : c.Ok) (h : p.Ok c m) : (tickP p).Ok c m := by
  obtain ⟨_, _, _, _, _, h1, h2, h3, h4, _, _⟩ := hc
  obtain ⟨a1, a2, a3, a4, a5, a6, a7, a8, a9, b1, b2⟩ := h
  unfold tickP
  split
  · rename_i hh
    have := a7 hh
    constructor <;> simp <;> omega
  · exact ⟨a1, a2, a3, a4, a5, a6, a7, a8, a9, b1, b2⟩
theorem Pr.Ok.leave (h : p.Ok c m) : (leaveP p).Ok c m := by
  obtain ⟨a1, a2, a3, a4, a5, a6, a7, a8, a9, b1, b2⟩ := h
  exact ⟨a1, a2, a3, a4, a5, a6, fun h => by simp [leaveP] at h, a8, a9, b1, b2⟩
theorem Pr.Ok.mono {m' : Nat} (h : p.Ok c m) (hm : m ≤ m') : p.Ok c m' := by
  obtain ⟨a1, a2, a3, a4, a5, a6, a7, a8, a9, b1, b2⟩ := h
  exact ⟨a1, a2, a3, a4, a5, a6, a7, a8, a9, b1, by omega⟩
theorem DSt.Ok.mono {m' : Nat} (h : d.Ok c m) (hm : m ≤ m') : d.Ok c m' := ⟨h.t0, h.t1, fun q => (h.p q).mono hm, h.left⟩
theorem Pr.Ok.beat (hc : c.Ok) (h : p.Ok c m) (l : Bool) (inc tick : Int) (mu : Bool) (h1 : 1 ≤ inc) (h2 : inc ≤ 4611686018427387904) (h3 : 0 ≤ tick) (h4 : tick ≤ 4611686018427387904) : (beatP c l p inc tick mu).Ok c (m + 1) := by
  obtain ⟨_, _, _, _, _, c1, c2, c3, c4, c5, c6⟩ := hc
  obtain ⟨a1, a2, a3, a4, a5, a6, a7, a8, a9, b1, b2⟩ := h
  have ht : 1 ≤ (if p.known < inc then p.tmo else if p.heard = false ∧ l = false then min c.lim (p.tmo + c.step) else p.tmo) ∧ (if p.known < inc then p.tmo else if p.heard = false ∧ l = false then min c.lim (p.tmo + c.step) else p.tmo) ≤ c.lim := by
    split
    · omega
    · split <;> omega
  have hw : 0 ≤ (if p.known < inc then p.wrong else if p.heard = false ∧ l = false then p.wrong + 1 else p.wrong) ∧ (if p.known < inc then p.wrong else if p.heard = false ∧ l = false then p.wrong + 1 else p.wrong) ≤ ((m + 1 : Nat) : Int) := by
    split
    · omega
    · split <;> omega
  have hk : 0 ≤ (if p.known < inc then inc else p.known) ∧ (if p.known < inc then inc else p.known) ≤ 4611686018427387904 := by split <;> omega
  exact ⟨hk.1, hk.2, h3, h4, Int.le_refl 0, by simp [beatP], fun _ => by have := ht.1; simp only [beatP]; omega, ht.1, ht.2, hw.1, hw.2⟩
theorem DSt.Ok.tick (hc : c.Ok) (h : d.Ok c m) : (tickD d).Ok c m := by
  have h0 := h.t0
  refine ⟨?_, ?_, fun q => (h.p q).tick hc, fun hl q => ?_⟩
  · simp only [tickD]; omega
  · simp only [tickD]; omega
  · have := h.left hl q
    simp [tickD, tickP, this]
theorem DSt.Ok.leave (h : d.Ok c m) : (leaveD d).Ok c m := ⟨h.t0, h.t1, fun q => (h.p q).leave, fun _ _ => rfl⟩
theorem DSt.Ok.beat (hc : c.Ok) (h : d.Ok c m) (q inc tick : Int) (mu : Bool) (h1 : 1 ≤ inc) (h2 : inc ≤ 4611686018427387904) (h3 : 0 ≤ tick) (h4 : tick ≤ 4611686018427387904) : (beatD c d q inc tick mu).Ok c (m + 1) := by
  refine ⟨h.t0, h.t1, fun j => ?_, fun hl j => ?_⟩
  · simp only [beatD]
    split
    · exact (h.p j).beat hc d.left inc tick mu h1 h2 h3 h4
    · exact (h.p j).mono (by omega)
  · simp only [beatD]
    split
    · have : d.left = true := hl
      simp [beatP, this]
    · exact h.left hl j
end
/-- An event as the reference makes them. -/
def Ev.Ok (x : Ev) : Prop := (x.kind = 1 ∨ x.kind = 2 ∨ x.kind = 3) ∧ (x.kind = 2 → 1 ≤ x.inc ∧ x.inc ≤ 4611686018427387904 ∧ 0 ≤ x.tick ∧ x.tick ≤ 4611686018427387904)
theorem DSt.Ok.step {c : Cfg} {m : Nat} {d : DSt} (hc : c.Ok) (h : d.Ok c m) {x : Ev} (hx : x.Ok) : (stepD c d x).Ok c (m + 1) := by
  unfold stepD
  split
  · exact (h.tick hc).mono (by omega)
  · split
    · exact h.leave.mono (by omega)
    · split
      · rename_i h2
        obtain ⟨a, b, c', e⟩ := hx.2 h2
        exact h.beat hc _ _ _ _ a b c' e
      · exact h.mono (by omega)
theorem dOf_ok {c : Cfg} (hc : c.Ok) {l : List Ev} (hl : ∀ x ∈ l, x.Ok) : (dOf c l).Ok c l.length := by
  have h : ∀ (l : List Ev) (d : DSt) (m : Nat), d.Ok c m → (∀ x ∈ l, x.Ok) → (l.foldl (stepD c) d).Ok c (m + l.length) := by
    intro l
    induction l with
    | nil => intro d m h _; simpa using h
    | cons x l ih =>
      intro d m h hl
      have := ih (stepD c d x) (m + 1) (h.step hc (hl x (by simp))) (fun y hy => hl y (by simp [hy]))
      rw [List.foldl_cons, List.length_cons, show m + (l.length + 1) = m + 1 + l.length by omega]
      exact this
  have := h l (DSt.new c) 0 (DSt.new_ok hc 0) hl
  rwa [Nat.zero_add] at this

/-- Ticks, and whether the node has left, as the document counts them. -/
def cntT (l : List Ev) : Nat := (l.filter fun x => decide (x.kind = 1)).length
theorem cntT_le (l : List Ev) : cntT l ≤ l.length := List.length_filter_le _ _
theorem cntT_snoc (l : List Ev) (x : Ev) : cntT (l ++ [x]) = cntT l + if x.kind = 1 then 1 else 0 := by
  unfold cntT
  rw [List.filter_append, List.length_append]
  by_cases h : x.kind = 1 <;> simp [h]
theorem dOf_tick (c : Cfg) (l : List Ev) (hl : l.length ≤ 4611686018427387904) : (dOf c l).tick = (cntT l : Int) := by
  have h : ∀ (l : List Ev) (d : DSt), 0 ≤ d.tick → d.tick + l.length ≤ 4611686018427387904 → (l.foldl (stepD c) d).tick = d.tick + (cntT l : Int) := by
    intro l
    induction l with
    | nil => intro d _ _; simp [cntT]
    | cons x l ih =>
      intro d h0 hd
      rw [List.length_cons] at hd
      have hs : (stepD c d x).tick = d.tick + if x.kind = 1 then 1 else 0 := by
        unfold stepD
        split
        · simp only [tickD]; omega
        · split
          · simp [leaveD]
          · split <;> simp [beatD]
      have hc : cntT (x :: l) = (if x.kind = 1 then 1 else 0) + cntT l := by
        unfold cntT
        by_cases h : x.kind = 1 <;> simp [h] <;> omega
      rw [List.foldl_cons, ih (stepD c d x) (by rw [hs]; split <;> omega) (by rw [hs]; split <;> omega), hs, hc]
      split <;> simp <;> omega
  have := h l (DSt.new c) (by simp [DSt.new]) (by simp only [DSt.new]; omega)
  simpa [dOf, DSt.new] using this
theorem dOf_left (c : Cfg) (l : List Ev) : (dOf c l).left = l.any fun x => decide (x.kind = 3) := by
  have h : ∀ (l : List Ev) (d : DSt), (l.foldl (stepD c) d).left = (d.left || l.any fun x => decide (x.kind = 3)) := by
    intro l
    induction l with
    | nil => intro d; simp
    | cons x l ih =>
      intro d
      rw [List.foldl_cons, ih, List.any_cons]
      unfold stepD
      by_cases h1 : x.kind = 1
      · have h3 : ¬ x.kind = 3 := by omega
        simp [h1, tickD]
      · by_cases h3 : x.kind = 3
        · simp [h3, leaveD]
        · by_cases h2 : x.kind = 2 <;> simp [h1, h3, h2, beatD]
  simpa [DSt.new, dOf] using h l (DSt.new c)

/-- Whether a beat has the form that is asked. -/
def fits (c : Cfg) (q inc tick : Int) (hs : List Int) : Bool :=
  decide (0 ≤ q ∧ q < (c.n : Int) ∧ q ≠ (c.self : Int)) && decide (1 ≤ inc ∧ inc ≤ 4611686018427387904) && decide (0 ≤ tick ∧ tick ≤ 4611686018427387904) && decide (hs.length = c.n) && hs.all fun v => decide (0 ≤ v ∧ v ≤ 4611686018427387904)
/-- What Heard answers, and what it does. -/
def hearE (c : Cfg) (d : DSt) (q inc tick : Int) (hs : List Int) : Int :=
  if fits c q inc tick hs = false then 1 else if inc < (d.pr q.toNat).known then 50 else if inc = (d.pr q.toNat).known ∧ tick ≤ (d.pr q.toNat).last then 51 else 0
def hearD (c : Cfg) (d : DSt) (q inc tick : Int) (hs : List Int) : DSt := if hearE c d q inc tick hs = 0 then beatD c d q inc tick (hs.getD c.self 0 == c.inc) else d
/-- The queries. -/
def otherB (c : Cfg) (q : Int) : Bool := decide (0 ≤ q ∧ q < (c.n : Int) ∧ q ≠ (c.self : Int))
def hearsAt (c : Cfg) (d : DSt) (q : Nat) : Int := if q = c.self then (if d.left = true then 0 else c.inc) else if (d.pr q).heard = true then (d.pr q).known else 0
def estAt (c : Cfg) (d : DSt) (q : Nat) : Int := if q = c.self then c.inc else if (d.pr q).heard = true ∧ (d.pr q).mutl = true then (d.pr q).known else 0
def hearsL (c : Cfg) (d : DSt) : List Int := (List.range c.n).map (hearsAt c d)
def estL (c : Cfg) (d : DSt) : List Int := (List.range c.n).map (estAt c d)
def susp (c : Cfg) (d : DSt) (q : Nat) : Bool := !(decide (q = c.self)) && !(d.pr q).heard && !((d.pr q).known == 0)
def suspL (c : Cfg) (d : DSt) (k : Nat) : List Int := ((List.range k).filter (susp c d)).map fun (q : Nat) => (q : Int)
theorem suspL_succ (c : Cfg) (d : DSt) (k : Nat) : suspL c d (k + 1) = suspL c d k ++ if susp c d k = true then [(k : Int)] else [] := by
  unfold suspL
  rw [List.range_succ, List.filter_append, List.map_append]
  by_cases h : susp c d k = true <;> simp [h]
theorem suspL_len (c : Cfg) (d : DSt) (k : Nat) : (suspL c d k).length ≤ k := by
  unfold suspL
  rw [List.length_map]
  exact Nat.le_trans (List.length_filter_le _ _) (by simp)
def knownQ (c : Cfg) (d : DSt) (q : Int) : Int := if q = (c.self : Int) then c.inc else if otherB c q = true then (d.pr q.toNat).known else 0
def timeoutQ (c : Cfg) (d : DSt) (q : Int) : Int := if otherB c q = true then (d.pr q.toNat).tmo else 0
def wrongQ (c : Cfg) (d : DSt) (q : Int) : Int := if otherB c q = true then (d.pr q.toNat).wrong else 0
end Go.Proofs.Ytfjpmoigpnmeoaa
