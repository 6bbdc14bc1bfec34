/-
  The program's detector in memory; what of it turns with each store.
-/
import Derived.Test.YtfjpmoigpnmeoaaDPure
import Derived.Test.YtfjpmoigpnmeoaaProg
namespace Go.Proofs.Ytfjpmoigpnmeoaa
open Go.RowKit

theorem one_box' (w : World) (o : Obj) : Below w.heap.size w (w.alloc o) := (Below.refl _ _).alloc (Nat.le_refl _) o
theorem info_int : (Try.prog.info? 3).map (fun i => (i.zero, i.size, i.bytes)) = some (some (.int .i64 0), 1, 8) := by kernel_rfl
theorem u_ints : Try.prog.underlying 22 = some (.slice 3) := Try.underlying22
/-- A block of n cells, by place. -/
def rg (n : Nat) (f : Nat → Value) : Array Value := ((List.range n).map f).toArray
theorem rg_size (n : Nat) (f : Nat → Value) : (rg n f).size = n := by simp [rg]
theorem rg_at {n : Nat} (f : Nat → Value) {k : Nat} (h : k < n) : (rg n f)[k]? = some (f k) := by simp [rg, h]
theorem rg_set {n : Nat} (f : Nat → Value) (k : Nat) (u : Value) : (rg n f).setIfInBounds k u = rg n fun j => if j = k then u else f j := by
  apply Array.ext_getElem?
  intro i
  rw [Array.getElem?_setIfInBounds]
  by_cases hi : i < n
  · by_cases hk : k = i
    · subst hk
      rw [if_pos rfl, if_pos (by rw [rg_size]; exact hi), rg_at _ hi, if_pos rfl]
    · rw [if_neg hk, rg_at f hi, rg_at _ hi, if_neg (Ne.symm hk)]
  · have h1 : ∀ g, (rg n g)[i]? = none := fun g => by rw [Array.getElem?_eq_none (by rw [rg_size]; omega)]
    rw [h1, h1]
    split <;> simp [rg_size] <;> omega
theorem rg_congr {n : Nat} {f g : Nat → Value} (h : ∀ k, k < n → f k = g k) : rg n f = rg n g := by
  apply Array.ext_getElem?
  intro i
  by_cases hi : i < n
  · rw [rg_at f hi, rg_at g hi, h i hi]
  · have h1 : ∀ g, (rg n g)[i]? = none := fun g => by rw [Array.getElem?_eq_none (by rw [rg_size]; omega)]
    rw [h1, h1]
theorem rg_replicate (n : Nat) (u : Value) : Array.replicate n u = rg n fun _ => u := by
  apply Array.ext_getElem?
  intro i
  by_cases hi : i < n
  · rw [rg_at _ hi]; simp [hi]
  · rw [Array.getElem?_eq_none (by rw [Array.size_replicate]; omega), Array.getElem?_eq_none (by rw [rg_size]; omega)]

def othC (p : Pr) (C : Nat) : Array Value := #[.int .i64 p.known, .bool p.heard, .bool p.mutl, .int .i64 p.last, .int .i64 p.age, .iface 109 (.pointer (some ⟨C, 0, none⟩)), .int .i64 p.wrong]
def capC (c : Cfg) (p : Pr) : Array Value := #[.int .i64 p.tmo, .int .i64 c.step, .int .i64 c.lim]
def detC (c : Cfg) (t : Int) (l : Bool) (O : Nat) : Array Value := #[.int .i64 (c.self : Int), .int .i64 c.inc, .int .i64 t, .bool l, .slice (some ⟨O, 0, none⟩) c.n c.n]
def lstV (c : Cfg) (Q : Nat → Nat) (q : Nat) : Value := if q = c.self then .pointer none else .pointer (some ⟨Q q, 0, none⟩)
/-- The program's detector in block D: its list O, of each other node its block Q and its patience C; all of it in F. -/
structure PD (w : World) (F : Nat → Prop) (c : Cfg) (D : Nat) (d : DSt) (O : Nat) (Q C : Nat → Nat) : Prop where
  blk : Blk w D 97 (detC c d.tick d.left O)
  list : Blk w O 86 (rg c.n (lstV c Q))
  oth : ∀ q, q < c.n → q ≠ c.self → Blk w (Q q) 94 (othC (d.pr q) (C q))
  cap : ∀ q, q < c.n → q ≠ c.self → Blk w (C q) 111 (capC c (d.pr q))
  qj : ∀ q r, q < c.n → r < c.n → q ≠ c.self → r ≠ c.self → Q q = Q r → q = r
  cj : ∀ q r, q < c.n → r < c.n → q ≠ c.self → r ≠ c.self → C q = C r → q = r
  fd : F D
  fo : F O
  fq : ∀ q, q < c.n → q ≠ c.self → F (Q q) ∧ F (C q)
def PDx (w : World) (F : Nat → Prop) (c : Cfg) (D : Nat) (d : DSt) : Prop := (∀ k, F k → k < w.heap.size) ∧ ∃ O Q C, PD w F c D d O Q C
def updP (f : Nat → Pr) (q : Nat) (p : Pr) : Nat → Pr := fun j => if j = q then p else f j
theorem updP_same (f : Nat → Pr) (q : Nat) (p : Pr) : updP f q p q = p := by simp [updP]
theorem updP_other {f : Nat → Pr} {q j : Nat} (p : Pr) (h : j ≠ q) : updP f q p j = f j := by simp [updP, h]
section
variable {w w' : World} {F S : Nat → Prop} {c : Cfg} {D O : Nat} {d : DSt} {Q C : Nat → Nat} {q : Nat}
theorem PD.chg (h : PD w F c D d O Q C) (hc : Chg S w w') (hS : ∀ k, F k → ¬ S k) : PD w' F c D d O Q C :=
  ⟨h.blk.chg hc (hS _ h.fd), h.list.chg hc (hS _ h.fo), fun q hq hs => (h.oth q hq hs).chg hc (hS _ (h.fq q hq hs).1), fun q hq hs => (h.cap q hq hs).chg hc (hS _ (h.fq q hq hs).2), h.qj, h.cj, h.fd, h.fo, h.fq⟩
theorem PDx.chg (h : PDx w F c D d) (hc : Chg S w w') (hS : ∀ k, F k → ¬ S k) : PDx w' F c D d := by
  obtain ⟨h0, O, Q, C, h⟩ := h
  exact ⟨fun k hk => Nat.lt_of_lt_of_le (h0 k hk) hc.size, O, Q, C, h.chg hc hS⟩
theorem PD.below (h : PD w F c D d O Q C) (_hF : ∀ k, F k → k < w.heap.size) (hb : Below w.heap.size w w') : PD w' F c D d O Q C := h.chg (Chg.of_below hb fun _ => False) fun _ _ h => h
theorem PDx.below (h : PDx w F c D d) (hb : Below w.heap.size w w') : PDx w' F c D d := h.chg (Chg.of_below hb fun _ => False) fun _ _ h => h
theorem PD.congr {d' : DSt} (h : PD w F c D d O Q C) (ht : d'.tick = d.tick) (hl : d'.left = d.left) (hp : ∀ q, q < c.n → q ≠ c.self → d'.pr q = d.pr q) : PD w F c D d' O Q C :=
  ⟨by rw [ht, hl]; exact h.blk, h.list, fun q hq hs => by rw [hp q hq hs]; exact h.oth q hq hs, fun q hq hs => by rw [hp q hq hs]; exact h.cap q hq hs, h.qj, h.cj, h.fd, h.fo, h.fq⟩
/-- A store into the detector's own block. -/
theorem PD.setD {d' : DSt} {i : Nat} {u : Value} (h : PD w F c D d O Q C) (he : (detC c d.tick d.left O).setIfInBounds i u = detC c d'.tick d'.left O) (hp : ∀ q, d'.pr q = d.pr q) : PD (w.setCell ⟨D, i, none⟩ u) F c D d' O Q C :=
  ⟨by rw [← he]; exact h.blk.set_ i u, h.list.far (h.list.ne_ h.blk (by decide)) u, fun q hq hs => by rw [hp]; exact (h.oth q hq hs).far ((h.oth q hq hs).ne_ h.blk (by decide)) u, fun q hq hs => by rw [hp]; exact (h.cap q hq hs).far ((h.cap q hq hs).ne_ h.blk (by decide)) u, h.qj, h.cj, h.fd, h.fo, h.fq⟩
/-- A store into a node's block. -/
theorem PD.setQ {p' : Pr} {i : Nat} {u : Value} (h : PD w F c D d O Q C) (hq : q < c.n) (hs : q ≠ c.self) (he : (othC (d.pr q) (C q)).setIfInBounds i u = othC p' (C q)) (hc : capC c p' = capC c (d.pr q)) : PD (w.setCell ⟨Q q, i, none⟩ u) F c D ⟨d.tick, d.left, updP d.pr q p'⟩ O Q C :=
  ⟨h.blk.far (h.blk.ne_ (h.oth q hq hs) (by decide)) u, h.list.far (h.list.ne_ (h.oth q hq hs) (by decide)) u, fun r hr hs' => by
    by_cases e : r = q
    · subst e
      simp only [updP_same]
      rw [← he]; exact (h.oth r hr hs').set_ i u
    · simp only [updP_other p' e]
      exact (h.oth r hr hs').far (fun e' => e (h.qj r q hr hq hs' hs e')) u, fun r hr hs' => by
    have hx : capC c (updP d.pr q p' r) = capC c (d.pr r) := by
      by_cases e : r = q
      · subst e; rw [updP_same]; exact hc
      · rw [updP_other p' e]
    simp only [hx]
    exact (h.cap r hr hs').far ((h.cap r hr hs').ne_ (h.oth q hq hs) (by decide)) u, h.qj, h.cj, h.fd, h.fo, h.fq⟩
/-- A store into a node's patience. -/
theorem PD.setC {p' : Pr} {i : Nat} {u : Value} (h : PD w F c D d O Q C) (hq : q < c.n) (hs : q ≠ c.self) (he : (capC c (d.pr q)).setIfInBounds i u = capC c p') (hc : othC p' (C q) = othC (d.pr q) (C q)) : PD (w.setCell ⟨C q, i, none⟩ u) F c D ⟨d.tick, d.left, updP d.pr q p'⟩ O Q C :=
  ⟨h.blk.far (h.blk.ne_ (h.cap q hq hs) (by decide)) u, h.list.far (h.list.ne_ (h.cap q hq hs) (by decide)) u, fun r hr hs' => by
    have hx : othC (updP d.pr q p' r) (C r) = othC (d.pr r) (C r) := by
      by_cases e : r = q
      · subst e; rw [updP_same]; exact hc
      · rw [updP_other p' e]
    simp only [hx]
    exact (h.oth r hr hs').far ((h.oth r hr hs').ne_ (h.cap q hq hs) (by decide)) u, fun r hr hs' => by
    by_cases e : r = q
    · subst e
      simp only [updP_same]
      rw [← he]; exact (h.cap r hr hs').set_ i u
    · simp only [updP_other p' e]
      exact (h.cap r hr hs').far (fun e' => e (h.cj r q hr hq hs' hs e')) u, h.qj, h.cj, h.fd, h.fo, h.fq⟩
/-- What the walk reads. -/
theorem PD.cell (h : PD w F c D d O Q C) : w.cell? ⟨D, 0, none⟩ = some (.int .i64 (c.self : Int)) ∧ w.cell? ⟨D, 1, none⟩ = some (.int .i64 c.inc) ∧ w.cell? ⟨D, 2, none⟩ = some (.int .i64 d.tick) ∧ w.cell? ⟨D, 3, none⟩ = some (.bool d.left) ∧ w.cell? ⟨D, 4, none⟩ = some (.slice (some ⟨O, 0, none⟩) c.n c.n) :=
  ⟨h.blk.cell 0, h.blk.cell 1, h.blk.cell 2, h.blk.cell 3, h.blk.cell 4⟩
theorem PD.ptr (h : PD w F c D d O Q C) (hq : q < c.n) (hs : q ≠ c.self) : w.cell? ⟨O, q, none⟩ = some (.pointer (some ⟨Q q, 0, none⟩)) := by
  rw [h.list.cell, rg_at _ hq, lstV, if_neg hs]
theorem PD.nil_ (h : PD w F c D d O Q C) (hq : c.self < c.n) : w.cell? ⟨O, c.self, none⟩ = some (.pointer none) := by
  rw [h.list.cell, rg_at _ hq, lstV, if_pos rfl]
theorem PD.ocell (h : PD w F c D d O Q C) (hq : q < c.n) (hs : q ≠ c.self) : w.cell? ⟨Q q, 0, none⟩ = some (.int .i64 (d.pr q).known) ∧ w.cell? ⟨Q q, 1, none⟩ = some (.bool (d.pr q).heard) ∧ w.cell? ⟨Q q, 2, none⟩ = some (.bool (d.pr q).mutl) ∧ w.cell? ⟨Q q, 3, none⟩ = some (.int .i64 (d.pr q).last) ∧ w.cell? ⟨Q q, 4, none⟩ = some (.int .i64 (d.pr q).age) ∧
    w.cell? ⟨Q q, 5, none⟩ = some (.iface 109 (.pointer (some ⟨C q, 0, none⟩))) ∧ w.cell? ⟨Q q, 6, none⟩ = some (.int .i64 (d.pr q).wrong) :=
  have hb := h.oth q hq hs
  ⟨hb.cell 0, hb.cell 1, hb.cell 2, hb.cell 3, hb.cell 4, hb.cell 5, hb.cell 6⟩
theorem PD.ccell (h : PD w F c D d O Q C) (hq : q < c.n) (hs : q ≠ c.self) : w.cell? ⟨C q, 0, none⟩ = some (.int .i64 (d.pr q).tmo) ∧ w.cell? ⟨C q, 1, none⟩ = some (.int .i64 c.step) ∧ w.cell? ⟨C q, 2, none⟩ = some (.int .i64 c.lim) :=
  have hb := h.cap q hq hs
  ⟨hb.cell 0, hb.cell 1, hb.cell 2⟩
/-- What a call turned of a detector, seen from outside. -/
theorem PDx.of (h : PD w F c D d O Q C) (hF : ∀ k, F k → k < w.heap.size) : PDx w F c D d := ⟨hF, O, Q, C, h⟩
end
end Go.Proofs.Ytfjpmoigpnmeoaa
