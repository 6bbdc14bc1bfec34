/-
  The document's detector in memory; beat, Of.
-/
import Derived.Test.YtfjpmoigpnmeoaaDHeard
namespace Go.Proofs.Ytfjpmoigpnmeoaa
open Go.RowKit

def evC (x : Ev) : List Value := [.int .i64 x.kind, .int .i64 x.q, .int .i64 x.inc, .int .i64 x.tick, .bool x.mutl]
def evV (l : List Ev) : List Value := l.flatMap evC
theorem evV_len (l : List Ev) : (evV l).length = l.length * 5 := by
  induction l with
  | nil => rfl
  | cons x l ih => simp only [evV, List.flatMap_cons, List.length_append, List.length_cons] at ih ⊢; rw [ih]; simp [evC]; omega
theorem evV_at {l : List Ev} {k : Nat} {x : Ev} (h : l[k]? = some x) (j : Nat) (hj : j < 5) : (evV l)[k * 5 + j]? = (evC x)[j]? := by
  induction l generalizing k with
  | nil => simp at h
  | cons y l ih =>
    have hy : (evC y).length = 5 := rfl
    match k, h with
    | 0, h =>
      simp only [List.getElem?_cons_zero, Option.some.injEq] at h
      subst h
      simp only [evV, List.flatMap_cons]
      rw [List.getElem?_append_left (by rw [hy]; omega), Nat.zero_mul, Nat.zero_add]
    | k + 1, h =>
      simp only [List.getElem?_cons_succ] at h
      simp only [evV, List.flatMap_cons]
      rw [List.getElem?_append_right (by rw [hy]; omega), hy, show (k + 1) * 5 + j - 5 = k * 5 + j by omega]
      exact ih h
theorem evV_snoc (l : List Ev) (x : Ev) : evV (l ++ [x]) = evV l ++ evC x := by simp [evV]
def refC (c : Cfg) (v : Value) : Array Value := #[.int .i64 (c.n : Int), .int .i64 (c.self : Int), .int .i64 c.inc, .int .i64 c.base, .int .i64 c.step, .int .i64 c.lim, v]
/-- The document's detector in block K, with all it owns in F. -/
structure RD (w : World) (F : Nat → Prop) (c : Cfg) (K : Nat) (l : List Ev) (v : Value) : Prop where
  blk : Blk w K 107 (refC c v)
  row : w.ownsRow 0 113 5 v l.length (evV l)
  fk : F K
  fr : ∀ g, v.ownBlock = some g → F g
def RDx (w : World) (F : Nat → Prop) (c : Cfg) (K : Nat) (l : List Ev) : Prop := (∀ k, F k → k < w.heap.size) ∧ (∀ x ∈ l, x.Ok) ∧ ∃ v, RD w F c K l v
section
variable {w w' : World} {F S : Nat → Prop} {c : Cfg} {K : Nat} {l : List Ev} {v : Value}
theorem RD.chg (h : RD w F c K l v) (hc : Chg S w w') (hS : ∀ k, F k → ¬ S k) : RD w' F c K l v := ⟨h.blk.chg hc (hS _ h.fk), own_chg h.row hc fun g hg => hS g (h.fr g hg), h.fk, h.fr⟩
theorem RD.below (h : RD w F c K l v) (_hF : ∀ k, F k → k < w.heap.size) (hb : Below w.heap.size w w') : RD w' F c K l v := h.chg (Chg.of_below hb fun _ => False) fun _ _ h => h
theorem RDx.chg (h : RDx w F c K l) (hc : Chg S w w') (hS : ∀ k, F k → ¬ S k) : RDx w' F c K l := by
  obtain ⟨h0, ho, v, h⟩ := h
  exact ⟨fun k hk => Nat.lt_of_lt_of_le (h0 k hk) hc.size, ho, v, h.chg hc hS⟩
theorem RDx.below (h : RDx w F c K l) (hb : Below w.heap.size w w') : RDx w' F c K l := h.chg (Chg.of_below hb fun _ => False) fun _ _ h => h
theorem RD.cell (h : RD w F c K l v) : w.cell? ⟨K, 0, none⟩ = some (.int .i64 (c.n : Int)) ∧ w.cell? ⟨K, 1, none⟩ = some (.int .i64 (c.self : Int)) ∧ w.cell? ⟨K, 2, none⟩ = some (.int .i64 c.inc) ∧ w.cell? ⟨K, 3, none⟩ = some (.int .i64 c.base) ∧ w.cell? ⟨K, 4, none⟩ = some (.int .i64 c.step) ∧ w.cell? ⟨K, 5, none⟩ = some (.int .i64 c.lim) ∧ w.cell? ⟨K, 6, none⟩ = some v :=
  ⟨h.blk.cell 0, h.blk.cell 1, h.blk.cell 2, h.blk.cell 3, h.blk.cell 4, h.blk.cell 5, h.blk.cell 6⟩
/-- The cells of what happened k-th. -/
theorem RD.ev {g n cap : Nat} (h : RD w F c K l (.slice (some ⟨g, 0, none⟩) n cap)) {k : Nat} {x : Ev} (hk : l[k]? = some x) : w.cell? ⟨g, k * 5, none⟩ = some (.int .i64 x.kind) ∧ w.cell? ⟨g, k * 5 + 1, none⟩ = some (.int .i64 x.q) ∧ w.cell? ⟨g, k * 5 + 2, none⟩ = some (.int .i64 x.inc) ∧ w.cell? ⟨g, k * 5 + 3, none⟩ = some (.int .i64 x.tick) ∧ w.cell? ⟨g, k * 5 + 4, none⟩ = some (.bool x.mutl) := by
  have hc : ∀ j u, (evV l)[j]? = some u → w.cell? ⟨g, j, none⟩ = some u := fun j u hu => by
    have := h.row.cells (g := g) rfl j u hu
    rw [addr_add, Nat.zero_add] at this
    exact this
  exact ⟨hc _ _ (evV_at hk 0 (by omega)), hc _ _ (evV_at hk 1 (by omega)), hc _ _ (evV_at hk 2 (by omega)), hc _ _ (evV_at hk 3 (by omega)), hc _ _ (evV_at hk 4 (by omega))⟩
end

def peerC (s : Pr × Bool) : Array Value := #[.int .i64 s.1.known, .int .i64 s.1.last, .int .i64 s.1.age, .int .i64 s.1.tmo, .int .i64 s.1.wrong, .bool s.1.heard, .bool s.1.mutl, .bool s.2]
theorem Blk.eq_ {w : World} {g : Nat} {t : TypeId} {cs cs' : Array Value} (h : Blk w g t cs) (e : cs = cs') : Blk w g t cs' := e ▸ h
def BeatsP (w : World) (P : Nat) (s : Pr × Bool) (e : Ending) (w' : World) : Prop := e = .returned (.tuple #[]) ∧ Blk w' P 116 (peerC s) ∧ Chg (fun k => k = P) w w'
set_option maxRecDepth 100000 in
set_option maxHeartbeats 3200000 in
theorem beat_any (c : Cfg) (P : Nat) (s : Pr × Bool) (kd qq inc tick : Int) (mu : Bool) (w : World) (hB : Blk w P 116 (peerC s)) (hc1 : c.step ≤ 64) (hc0 : 1 ≤ c.step) (hl : c.lim ≤ 64) (m : Nat) (hok : s.1.Ok c m) (hm : m < 4611686018427387904) :
    Calls Try.prog 66 #[.pointer (some ⟨P, 0, none⟩), .agg #[.int .i64 kd, .int .i64 qq, .int .i64 inc, .int .i64 tick, .bool mu], .int .i64 c.step, .int .i64 c.lim] w (BeatsP w P (beatP c s.2 s.1 inc tick mu, s.2)) := by
  obtain ⟨p, lf⟩ := s
  simp only at hok
  obtain ⟨p0, p1, p2, p3, p4, p5, p6, p7, p8, p9, pa⟩ := hok
  have hb0 := one_box' w (.cells #[.int .i64 kd, .int .i64 qq, .int .i64 inc, .int .i64 tick, .bool mu] 113)
  have hX := Blk.new w 113 #[.int .i64 kd, .int .i64 qq, .int .i64 inc, .int .i64 tick, .bool mu]
  have hP0 := hB.over hb0
  have hPl := hB.lt
  obtain ⟨w0, hw0⟩ : ∃ w0, w0 = w.alloc (.cells #[.int .i64 kd, .int .i64 qq, .int .i64 inc, .int .i64 tick, .bool mu] 113) := ⟨_, rfl⟩
  rw [← hw0] at hb0 hX hP0
  have HW := Lib.hid hw0
  clear hw0 p6 p2 p3 p4 p5 hB
  have HX : Hid (∀ k, Blk (w0.drewN k) w.heap.size 113 #[.int .i64 kd, .int .i64 qq, .int .i64 inc, .int .i64 tick, .bool mu] ∧ Blk (w0.drewN k) P 116 (peerC (p, lf)) ∧ Chg (fun k => k = P) w (w0.drewN k)) := Lib.hid fun k => ⟨hX.drewN k, hP0.drewN k, (Chg.of_below hb0 _).drewN k⟩
  have x2 : w0.cell? ⟨w.heap.size, 2, none⟩ = some (.int .i64 inc) := hX.cell 2
  have q0 : w0.cell? ⟨P, 0, none⟩ = some (.int .i64 p.known) := hP0.cell 0
  clear hX hP0
  go_enter Try.func66, Try.ntmps66
  go_upto_region 1 with fail
  rw [← HW.out]
  by_cases hk : p.known < inc
  · have hkg : inc > p.known := hk
    have hR : beatP c lf p inc tick mu = ⟨inc, tick, 0, p.tmo, p.wrong, !lf, mu⟩ := by simp only [beatP]; rw [if_pos hk, if_pos hk, if_pos hk]
    have HR := Lib.hid hR
    clear hR
    go_quiet (fail)
    obtain ⟨hX1, hP1, hC1⟩ := HX.out nq
    generalize w0.drewN nq = w1 at *
    have f := fun i => hP1.frozen i
    have f0 := f 0; have f1 := f 1; have f2 := f 2; have f3 := f 3; have f4 := f 4; have f5 := f 5; have f6 := f 6
    have g0 : w1.cell? ⟨P, 0, none⟩ = some (.int .i64 p.known) := hP1.cell 0
    have g1 : w1.cell? ⟨P, 1, none⟩ = some (.int .i64 p.last) := hP1.cell 1
    have g2 : w1.cell? ⟨P, 2, none⟩ = some (.int .i64 p.age) := hP1.cell 2
    have g3 : w1.cell? ⟨P, 3, none⟩ = some (.int .i64 p.tmo) := hP1.cell 3
    have g4 : w1.cell? ⟨P, 4, none⟩ = some (.int .i64 p.wrong) := hP1.cell 4
    have g5 : w1.cell? ⟨P, 5, none⟩ = some (.bool p.heard) := hP1.cell 5
    have g6 : w1.cell? ⟨P, 6, none⟩ = some (.bool p.mutl) := hP1.cell 6
    have g7 : w1.cell? ⟨P, 7, none⟩ = some (.bool lf) := hP1.cell 7
    have x2' : w1.cell? ⟨w.heap.size, 2, none⟩ = some (.int .i64 inc) := hX1.cell 2
    have x3' : w1.cell? ⟨w.heap.size, 3, none⟩ = some (.int .i64 tick) := hX1.cell 3
    have x4' : w1.cell? ⟨w.heap.size, 4, none⟩ = some (.bool mu) := hX1.cell 4
    have HP1 := Lib.hid hP1
    have HC1 := Lib.hid hC1
    have hne : w.heap.size ≠ P := by omega
    clear f hX1 hP1 hC1 x2 q0
    go_wp2
    go_end0
    exact ⟨rfl, Blk.eq_ (((((HP1.out.set_ 0 _).set_ 5 _).set_ 1 _).set_ 2 _).set_ 6 _) (by rw [HR.out]; rfl), (((((HC1.out.setCell (p := ⟨P, 0, none⟩) (.inl rfl) _).setCell (p := ⟨P, 5, none⟩) (.inl rfl) _).setCell (p := ⟨P, 1, none⟩) (.inl rfl) _).setCell (p := ⟨P, 2, none⟩) (.inl rfl) _).setCell (p := ⟨P, 6, none⟩) (.inl rfl) _)⟩
  · have hkg : ¬ inc > p.known := hk
    cases hh : p.heard with
    | true =>
      have HH := Lib.hid hh
      have HL : Hid (True) := Lib.hid trivial
      have hR : beatP c lf p inc tick mu = ⟨p.known, tick, 0, p.tmo, p.wrong, !lf, mu⟩ := by simp only [beatP, hh]; rw [if_neg hk, if_neg hk, if_neg hk]; simp
      have HR := Lib.hid hR
      clear hR
      go_quiet (fail)
      obtain ⟨hX1, hP1, hC1⟩ := HX.out nq
      generalize w0.drewN nq = w1 at *
      have f := fun i => hP1.frozen i
      have f0 := f 0; have f1 := f 1; have f2 := f 2; have f3 := f 3; have f4 := f 4; have f5 := f 5; have f6 := f 6
      have g0 : w1.cell? ⟨P, 0, none⟩ = some (.int .i64 p.known) := hP1.cell 0
      have g1 : w1.cell? ⟨P, 1, none⟩ = some (.int .i64 p.last) := hP1.cell 1
      have g2 : w1.cell? ⟨P, 2, none⟩ = some (.int .i64 p.age) := hP1.cell 2
      have g3 : w1.cell? ⟨P, 3, none⟩ = some (.int .i64 p.tmo) := hP1.cell 3
      have g4 : w1.cell? ⟨P, 4, none⟩ = some (.int .i64 p.wrong) := hP1.cell 4
      have g5 : w1.cell? ⟨P, 5, none⟩ = some (.bool p.heard) := hP1.cell 5
      have g6 : w1.cell? ⟨P, 6, none⟩ = some (.bool p.mutl) := hP1.cell 6
      have g7 : w1.cell? ⟨P, 7, none⟩ = some (.bool lf) := hP1.cell 7
      rw [HH.out] at g5
      clear hh
      have x2' : w1.cell? ⟨w.heap.size, 2, none⟩ = some (.int .i64 inc) := hX1.cell 2
      have x3' : w1.cell? ⟨w.heap.size, 3, none⟩ = some (.int .i64 tick) := hX1.cell 3
      have x4' : w1.cell? ⟨w.heap.size, 4, none⟩ = some (.bool mu) := hX1.cell 4
      have HP1 := Lib.hid hP1
      have HC1 := Lib.hid hC1
      have hne : w.heap.size ≠ P := by omega
      clear f hX1 hP1 hC1 x2 q0
      go_wp2
      go_end0
      exact ⟨rfl, Blk.eq_ ((((HP1.out.set_ 5 _).set_ 1 _).set_ 2 _).set_ 6 _) (by rw [HR.out]; rfl), ((((HC1.out.setCell (p := ⟨P, 5, none⟩) (.inl rfl) _).setCell (p := ⟨P, 1, none⟩) (.inl rfl) _).setCell (p := ⟨P, 2, none⟩) (.inl rfl) _).setCell (p := ⟨P, 6, none⟩) (.inl rfl) _)⟩
    | false =>
      cases hl : lf with
      | true =>
        have HH := Lib.hid hh
        have HL := Lib.hid hl
        have hR : beatP c lf p inc tick mu = ⟨p.known, tick, 0, p.tmo, p.wrong, !lf, mu⟩ := by simp only [beatP, hh, hl]; rw [if_neg hk, if_neg hk, if_neg hk]; simp
        have HR := Lib.hid hR
        clear hR
        go_quiet (fail)
        obtain ⟨hX1, hP1, hC1⟩ := HX.out nq
        generalize w0.drewN nq = w1 at *
        have f := fun i => hP1.frozen i
        have f0 := f 0; have f1 := f 1; have f2 := f 2; have f3 := f 3; have f4 := f 4; have f5 := f 5; have f6 := f 6
        have g0 : w1.cell? ⟨P, 0, none⟩ = some (.int .i64 p.known) := hP1.cell 0
        have g1 : w1.cell? ⟨P, 1, none⟩ = some (.int .i64 p.last) := hP1.cell 1
        have g2 : w1.cell? ⟨P, 2, none⟩ = some (.int .i64 p.age) := hP1.cell 2
        have g3 : w1.cell? ⟨P, 3, none⟩ = some (.int .i64 p.tmo) := hP1.cell 3
        have g4 : w1.cell? ⟨P, 4, none⟩ = some (.int .i64 p.wrong) := hP1.cell 4
        have g5 : w1.cell? ⟨P, 5, none⟩ = some (.bool p.heard) := hP1.cell 5
        have g6 : w1.cell? ⟨P, 6, none⟩ = some (.bool p.mutl) := hP1.cell 6
        have g7 : w1.cell? ⟨P, 7, none⟩ = some (.bool lf) := hP1.cell 7
        rw [HH.out] at g5
        rw [HL.out] at g7
        clear hh hl
        have x2' : w1.cell? ⟨w.heap.size, 2, none⟩ = some (.int .i64 inc) := hX1.cell 2
        have x3' : w1.cell? ⟨w.heap.size, 3, none⟩ = some (.int .i64 tick) := hX1.cell 3
        have x4' : w1.cell? ⟨w.heap.size, 4, none⟩ = some (.bool mu) := hX1.cell 4
        have HP1 := Lib.hid hP1
        have HC1 := Lib.hid hC1
        have hne : w.heap.size ≠ P := by omega
        clear f hX1 hP1 hC1 x2 q0
        go_wp2
        go_end0
        exact ⟨rfl, Blk.eq_ ((((HP1.out.set_ 5 _).set_ 1 _).set_ 2 _).set_ 6 _) (by rw [HR.out, HL.out]; rfl), ((((HC1.out.setCell (p := ⟨P, 5, none⟩) (.inl rfl) _).setCell (p := ⟨P, 1, none⟩) (.inl rfl) _).setCell (p := ⟨P, 2, none⟩) (.inl rfl) _).setCell (p := ⟨P, 6, none⟩) (.inl rfl) _)⟩
      | false =>
        by_cases hg : c.lim < p.tmo + c.step
        · have HH := Lib.hid hh
          have HL := Lib.hid hl
          have hg2 : p.tmo + c.step > c.lim := hg
          have hR : beatP c lf p inc tick mu = ⟨p.known, tick, 0, c.lim, p.wrong + 1, !lf, mu⟩ := by simp only [beatP, hh, hl]; rw [if_neg hk, if_neg hk, if_neg hk]; simp <;> omega
          have HR := Lib.hid hR
          clear hR
          go_quiet (fail)
          obtain ⟨hX1, hP1, hC1⟩ := HX.out nq
          generalize w0.drewN nq = w1 at *
          have f := fun i => hP1.frozen i
          have f0 := f 0; have f1 := f 1; have f2 := f 2; have f3 := f 3; have f4 := f 4; have f5 := f 5; have f6 := f 6
          have g0 : w1.cell? ⟨P, 0, none⟩ = some (.int .i64 p.known) := hP1.cell 0
          have g1 : w1.cell? ⟨P, 1, none⟩ = some (.int .i64 p.last) := hP1.cell 1
          have g2 : w1.cell? ⟨P, 2, none⟩ = some (.int .i64 p.age) := hP1.cell 2
          have g3 : w1.cell? ⟨P, 3, none⟩ = some (.int .i64 p.tmo) := hP1.cell 3
          have g4 : w1.cell? ⟨P, 4, none⟩ = some (.int .i64 p.wrong) := hP1.cell 4
          have g5 : w1.cell? ⟨P, 5, none⟩ = some (.bool p.heard) := hP1.cell 5
          have g6 : w1.cell? ⟨P, 6, none⟩ = some (.bool p.mutl) := hP1.cell 6
          have g7 : w1.cell? ⟨P, 7, none⟩ = some (.bool lf) := hP1.cell 7
          rw [HH.out] at g5
          rw [HL.out] at g7
          clear hh hl
          have x2' : w1.cell? ⟨w.heap.size, 2, none⟩ = some (.int .i64 inc) := hX1.cell 2
          have x3' : w1.cell? ⟨w.heap.size, 3, none⟩ = some (.int .i64 tick) := hX1.cell 3
          have x4' : w1.cell? ⟨w.heap.size, 4, none⟩ = some (.bool mu) := hX1.cell 4
          have HP1 := Lib.hid hP1
          have HC1 := Lib.hid hC1
          have hne : w.heap.size ≠ P := by omega
          clear f hX1 hP1 hC1 x2 q0
          go_wp2
          go_end0
          exact ⟨rfl, Blk.eq_ (((((((HP1.out.set_ 4 _).set_ 3 _).set_ 3 _).set_ 5 _).set_ 1 _).set_ 2 _).set_ 6 _) (by rw [HR.out, HL.out]; rfl), (((((((HC1.out.setCell (p := ⟨P, 4, none⟩) (.inl rfl) _).setCell (p := ⟨P, 3, none⟩) (.inl rfl) _).setCell (p := ⟨P, 3, none⟩) (.inl rfl) _).setCell (p := ⟨P, 5, none⟩) (.inl rfl) _).setCell (p := ⟨P, 1, none⟩) (.inl rfl) _).setCell (p := ⟨P, 2, none⟩) (.inl rfl) _).setCell (p := ⟨P, 6, none⟩) (.inl rfl) _)⟩
        · have HH := Lib.hid hh
          have HL := Lib.hid hl
          have hg2 : ¬ p.tmo + c.step > c.lim := hg
          have hR : beatP c lf p inc tick mu = ⟨p.known, tick, 0, p.tmo + c.step, p.wrong + 1, !lf, mu⟩ := by simp only [beatP, hh, hl]; rw [if_neg hk, if_neg hk, if_neg hk]; simp <;> omega
          have HR := Lib.hid hR
          clear hR
          go_quiet (fail)
          obtain ⟨hX1, hP1, hC1⟩ := HX.out nq
          generalize w0.drewN nq = w1 at *
          have f := fun i => hP1.frozen i
          have f0 := f 0; have f1 := f 1; have f2 := f 2; have f3 := f 3; have f4 := f 4; have f5 := f 5; have f6 := f 6
          have g0 : w1.cell? ⟨P, 0, none⟩ = some (.int .i64 p.known) := hP1.cell 0
          have g1 : w1.cell? ⟨P, 1, none⟩ = some (.int .i64 p.last) := hP1.cell 1
          have g2 : w1.cell? ⟨P, 2, none⟩ = some (.int .i64 p.age) := hP1.cell 2
          have g3 : w1.cell? ⟨P, 3, none⟩ = some (.int .i64 p.tmo) := hP1.cell 3
          have g4 : w1.cell? ⟨P, 4, none⟩ = some (.int .i64 p.wrong) := hP1.cell 4
          have g5 : w1.cell? ⟨P, 5, none⟩ = some (.bool p.heard) := hP1.cell 5
          have g6 : w1.cell? ⟨P, 6, none⟩ = some (.bool p.mutl) := hP1.cell 6
          have g7 : w1.cell? ⟨P, 7, none⟩ = some (.bool lf) := hP1.cell 7
          rw [HH.out] at g5
          rw [HL.out] at g7
          clear hh hl
          have x2' : w1.cell? ⟨w.heap.size, 2, none⟩ = some (.int .i64 inc) := hX1.cell 2
          have x3' : w1.cell? ⟨w.heap.size, 3, none⟩ = some (.int .i64 tick) := hX1.cell 3
          have x4' : w1.cell? ⟨w.heap.size, 4, none⟩ = some (.bool mu) := hX1.cell 4
          have HP1 := Lib.hid hP1
          have HC1 := Lib.hid hC1
          have hne : w.heap.size ≠ P := by omega
          clear f hX1 hP1 hC1 x2 q0
          go_wp2
          go_end0
          exact ⟨rfl, Blk.eq_ ((((((HP1.out.set_ 4 _).set_ 3 _).set_ 5 _).set_ 1 _).set_ 2 _).set_ 6 _) (by rw [HR.out, HL.out]; rfl), ((((((HC1.out.setCell (p := ⟨P, 4, none⟩) (.inl rfl) _).setCell (p := ⟨P, 3, none⟩) (.inl rfl) _).setCell (p := ⟨P, 5, none⟩) (.inl rfl) _).setCell (p := ⟨P, 1, none⟩) (.inl rfl) _).setCell (p := ⟨P, 2, none⟩) (.inl rfl) _).setCell (p := ⟨P, 6, none⟩) (.inl rfl) _)⟩
end Go.Proofs.Ytfjpmoigpnmeoaa
