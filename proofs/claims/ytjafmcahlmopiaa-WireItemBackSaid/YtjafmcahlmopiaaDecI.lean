/-
  DecodeItem.
-/
import Derived.Test.YtjafmcahlmopiaaCatch
import Derived.Test.YtjafmcahlmopiaaEncItem
namespace Go.Proofs.Ytjafmcahlmopiaa
open Go.RowKit

structure ItemD where
  k : Int
  s : Int
  q : Int
  t : Int
  l : List UInt8
  p : Int
  st : Int
  a : Int
  c : Int
def ItemD.zero : ItemD := ⟨0, 0, 0, 0, [], 0, 0, 0, 0⟩
def ItemD.v (d : ItemD) (A : Option Addr) (cap : Nat) : Value := itemV d.k d.s d.q d.t A d.l.length cap d.p d.st d.a d.c
/-- What DecodeItem comes to. -/
def decItem (bs : List UInt8) : ItemD × Int :=
  if 300 < bs.length then (.zero, 17) else
  match bs with
  | [] => (.zero, 10)
  | b :: _ =>
    if b = 1 then
      match dataP bs 1 with
      | .inl er => (.zero, er)
      | .inr ((s, q, t, l), nx) => if nx < bs.length then (.zero, 15) else (⟨1, s, q, t, l, 0, 0, 0, 0⟩, 0)
    else if b = 2 then
      match numP bs 1 1 4611686018427387904 with
      | .inl er => (.zero, er)
      | .inr (p, p1) => match numP bs p1 0 ((p : Int) - 1) with
        | .inl er => (.zero, er)
        | .inr (st, p2) => match numP bs p2 0 15 with
          | .inl er => (.zero, er)
          | .inr (a, p3) => match numP bs p3 1 4611686018427387904 with
            | .inl er => (.zero, er)
            | .inr (c, p4) => if p4 < bs.length then (.zero, 15) else (⟨2, 0, 0, 0, [], p, st, a, c⟩, 0)
    else (.zero, 12)
def DecAns (w : World) (r : ItemD × Int) (e : Ending) (w' : World) : Prop :=
  ∃ A cap, e = .returned (.tuple #[r.1.v A cap, .int .i64 r.2]) ∧ w'.ownsRow w.heap.size 5 1 (.slice A r.1.l.length cap) r.1.l.length (bvs r.1.l) ∧ Below w.heap.size w w'

theorem cell_eq {w w' : World} {g : Nat} (h : w'.heap[g]? = w.heap[g]?) (o : Nat) : w'.cell? ⟨g, o, none⟩ = w.cell? ⟨g, o, none⟩ := by
  simp only [World.cell?, h]
theorem b_wrap (b : UInt8) : wrap64 (b.toNat : Int) = (b.toNat : Int) := by
  have := b.toNat_lt
  unfold wrap64
  omega
theorem b_ne (b k : UInt8) (h : b ≠ k) : ((b.toNat : Int) == (k.toNat : Int)) = false := by
  simp only [beq_eq_false_iff_ne, ne_eq]
  intro e
  exact h (UInt8.toNat_inj.1 (by omega))
theorem itemResults (t2 t3 : Nat) (tmps : Array Value) (w : World) (cp : Array Value) (er : Int) (h2 : tmps.getD 2 undef = .pointer (some ⟨t2, 0, none⟩)) (h3 : tmps.getD 3 undef = .pointer (some ⟨t3, 0, none⟩))
    (hp : Blk w t2 52 cp) (hz : cp.size = 9) (hq : Blk w t3 23 #[.int .i64 er]) :
    (results Try.f29 tmps).run Try.prog w = .ok (.tuple #[.agg cp, .int .i64 er]) w := by
  obtain ⟨l⟩ := cp
  match l, hz with
  | [a0, a1, a2, a3, a4, a5, a6, a7, a8], _ =>
    have c0 : w.cell? ⟨t2, 0, none⟩ = some a0 := by rw [hp.cell]; rfl
    have c1 : w.cell? ⟨t2, 1, none⟩ = some a1 := by rw [hp.cell]; rfl
    have c2 : w.cell? ⟨t2, 2, none⟩ = some a2 := by rw [hp.cell]; rfl
    have c3 : w.cell? ⟨t2, 3, none⟩ = some a3 := by rw [hp.cell]; rfl
    have c4 : w.cell? ⟨t2, 4, none⟩ = some a4 := by rw [hp.cell]; rfl
    have c5 : w.cell? ⟨t2, 5, none⟩ = some a5 := by rw [hp.cell]; rfl
    have c6 : w.cell? ⟨t2, 6, none⟩ = some a6 := by rw [hp.cell]; rfl
    have c7 : w.cell? ⟨t2, 7, none⟩ = some a7 := by rw [hp.cell]; rfl
    have c8 : w.cell? ⟨t2, 8, none⟩ = some a8 := by rw [hp.cell]; rfl
    have d0 : w.cell? ⟨t3, 0, none⟩ = some (.int .i64 er) := by rw [hq.cell]; rfl
    simp only [results]
    rw [show Try.f29.results = #[.cell 2 52, .cell 3 23] from rfl]
    rw [Array.getD_eq_getD_getElem?] at h2 h3
    simp [h2, h3, c0, c1, c2, c3, c4, c5, c6, c7, c8, d0, go_sem]
theorem itemCaught (w w' : World) (t2 t3 : Nat) (tmps : Array Value) (cp cq : Array Value) (er : Int) (h2 : tmps.getD 2 undef = .pointer (some ⟨t2, 0, none⟩)) (h3 : tmps.getD 3 undef = .pointer (some ⟨t3, 0, none⟩))
    (hp : Blk w' t2 52 cp) (hz : cp.size = 9) (hq : Blk w' t3 23 cq) (hqz : cq.size = 1) (hne : t2 ≠ t3) (hb : Below w.heap.size w w') (hl2 : w.heap.size ≤ t2) (hl3 : w.heap.size ≤ t3) :
    bodyPostD Try.prog Try.f29 (DecAns w (.zero, er)) (.panic [{ v := .iface 23 (.int .i64 er), recovered := false }])
      { tmps := tmps, defers := [{ target := .fn (.func 57) #[.pointer (some ⟨t2, 0, none⟩), .pointer (some ⟨t3, 0, none⟩)], args := #[] }] } w' := by
  refine leaves_cons (f := 57) (args := #[.pointer (some ⟨t2, 0, none⟩), .pointer (some ⟨t3, 0, none⟩)]) (by simp) (by simp [go_sem]) ?_
  refine (catchI_panicking t2 t3 cp cq er w' hp hq hz hqz hne []).mono ?_
  rintro e u' w2 ⟨rfl, rfl, hp2, hq2, hc2⟩
  refine ⟨_, itemResults t2 t3 tmps w2 itemZ er h2 h3 hp2 rfl hq2, none, 0, rfl, ⟨rfl, .inl ⟨rfl, rfl⟩⟩, ?_⟩
  exact hb.trans (hc2.to_below hb.size (fun k hk => by omega))
theorem itemDone (w w' : World) (t2 t3 : Nat) (tmps : Array Value) (cp : Array Value) (d : ItemD) (A : Option Addr) (cap : Nat) (er : Int) (h2 : tmps.getD 2 undef = .pointer (some ⟨t2, 0, none⟩)) (h3 : tmps.getD 3 undef = .pointer (some ⟨t3, 0, none⟩))
    (hp : Blk w' t2 52 cp) (hz : cp.size = 9) (hv : .agg cp = d.v A cap) (hq : Blk w' t3 23 #[.int .i64 er]) (hb : Below w.heap.size w w') (ho : w'.ownsRow w.heap.size 5 1 (.slice A d.l.length cap) d.l.length (bvs d.l)) :
    bodyPostD Try.prog Try.f29 (DecAns w (d, er)) .ret
      { tmps := tmps, defers := [{ target := .fn (.func 57) #[.pointer (some ⟨t2, 0, none⟩), .pointer (some ⟨t3, 0, none⟩)], args := #[] }] } w' := by
  refine leaves_cons (f := 57) (args := #[.pointer (some ⟨t2, 0, none⟩), .pointer (some ⟨t3, 0, none⟩)]) (by simp) (by simp [go_sem]) ?_
  refine (catchI_idle ⟨t2, 0, none⟩ ⟨t3, 0, none⟩ w').mono ?_
  rintro e u' w2 ⟨rfl, rfl, rfl⟩
  refine ⟨_, itemResults t2 t3 tmps w2 cp er h2 h3 hp hz hq, A, cap, by rw [hv], ho, hb⟩
theorem itemEarly (w w' : World) (t2 t3 : Nat) (tmps : Array Value) (er : Int) (h2 : tmps.getD 2 undef = .pointer (some ⟨t2, 0, none⟩)) (h3 : tmps.getD 3 undef = .pointer (some ⟨t3, 0, none⟩))
    (hp : Blk w' t2 52 itemZ) (hq : Blk w' t3 23 #[.int .i64 er]) (hb : Below w.heap.size w w') :
    bodyPostD Try.prog Try.f29 (DecAns w (.zero, er)) .ret { tmps := tmps, defers := [] } w' :=
  ⟨_, itemResults t2 t3 tmps w' itemZ er h2 h3 hp rfl hq, none, 0, rfl, ⟨rfl, .inl ⟨rfl, rfl⟩⟩, hb⟩
def decW (w : World) (k er : Int) (sl : Value) : World :=
  ((w.alloc (.cells #[.int .i64 k, .int .i64 0, .int .i64 0, .int .i64 0, .slice none 0 0, .int .i64 0, .int .i64 0, .int .i64 0, .int .i64 0] 52)).alloc (.cells #[.int .i64 er] 23)).alloc (.cells #[sl, .int .i64 1] 115)
theorem decW_facts (w : World) (k er : Int) (sl : Value) : Blk (decW w k er sl) w.heap.size 52 #[.int .i64 k, .int .i64 0, .int .i64 0, .int .i64 0, .slice none 0 0, .int .i64 0, .int .i64 0, .int .i64 0, .int .i64 0] ∧
    Blk (decW w k er sl) (w.heap.size + 1) 23 #[.int .i64 er] ∧ Blk (decW w k er sl) (w.heap.size + 1 + 1) 115 #[sl, .int .i64 1] ∧ Below w.heap.size w (decW w k er sl) := by
  have h1 := Blk.new w 52 #[.int .i64 k, .int .i64 0, .int .i64 0, .int .i64 0, .slice none 0 0, .int .i64 0, .int .i64 0, .int .i64 0, .int .i64 0]
  have hz1 : (w.alloc (.cells #[.int .i64 k, .int .i64 0, .int .i64 0, .int .i64 0, .slice none 0 0, .int .i64 0, .int .i64 0, .int .i64 0, .int .i64 0] 52)).heap.size = w.heap.size + 1 := by simp
  have h2 := Blk.new (w.alloc (.cells #[.int .i64 k, .int .i64 0, .int .i64 0, .int .i64 0, .slice none 0 0, .int .i64 0, .int .i64 0, .int .i64 0, .int .i64 0] 52)) 23 #[.int .i64 er]
  rw [hz1] at h2
  have h3 := Blk.new ((w.alloc (.cells #[.int .i64 k, .int .i64 0, .int .i64 0, .int .i64 0, .slice none 0 0, .int .i64 0, .int .i64 0, .int .i64 0, .int .i64 0] 52)).alloc (.cells #[.int .i64 er] 23)) 115 #[sl, .int .i64 1]
  have hz2 : ((w.alloc (.cells #[.int .i64 k, .int .i64 0, .int .i64 0, .int .i64 0, .slice none 0 0, .int .i64 0, .int .i64 0, .int .i64 0, .int .i64 0] 52)).alloc (.cells #[.int .i64 er] 23)).heap.size = w.heap.size + 1 + 1 := by simp
  rw [hz2] at h3
  refine ⟨(h1.alloc _).alloc _, h2.alloc _, h3, ?_⟩
  exact Chg.to_below (S := fun _ => False) (((((Chg.refl (fun _ => False) w).alloc _).alloc _).alloc _)) (Nat.le_refl _) (fun k h => h.elim)
theorem decW_byte (w : World) (k er : Int) (sl : Value) (g off : Nat) (v : Value) (hg : g < w.heap.size) (h : w.cell? ⟨g, off, none⟩ = some v) : (decW w k er sl).cell? ⟨g, off, none⟩ = some v := by
  rw [← h]; exact cell_eq ((decW_facts w k er sl).2.2.2.block g hg) _

set_option maxRecDepth 100000 in
set_option maxHeartbeats 1600000 in
theorem DecodeItem_else (A : Option Addr) (n cap : Nat) (b : UInt8) (bs : List UInt8) (w : World) (hr : RdB w w.heap.size A n (b :: bs)) (hn : n ≤ cap) (hc : n ≤ 140737488351232) (h3 : n ≤ 300) (h1 : b ≠ 1) (h2 : b ≠ 2) :
    Calls Try.prog 29 #[.slice A n cap] w (DecAns w (.zero, 12)) := by
  have hl := hr.lenB
  simp only [List.length_cons] at hl
  have hmf : ∀ (fn : Fn) (first cap : Array Value) (w : World), (Instr.makeFunc fn first cap).run Try.prog w = .ok (.func fn first cap) w := fun _ _ _ _ => rfl
  obtain ⟨g, off, c0, rfl, hg, hc1, hc2⟩ := hr.byte (k := 0) (by omega)
  simp only [List.getElem?_cons_zero, Option.some.injEq] at hc1
  subst hc1
  have hn0 : ((n : Int) == 0) = false := by simp; omega
  have n0 : (0 : Int) < (n : Int) := by omega
  have cB := decW_byte w 0 0 (.slice (some ⟨g, off, none⟩) n cap) g off _ hg hc2
  unfold decW at cB
  have hbv := b_wrap b
  have hb1 : ((b.toNat : Int) == 1) = false := b_ne b 1 h1
  have hb2 : ((b.toNat : Int) == 2) = false := b_ne b 2 h2
  obtain ⟨hI, hE, hR, hbl⟩ := decW_facts w (b.toNat : Int) 0 (.slice (some ⟨g, off, none⟩) n cap)
  have HI := Lib.hid hI
  have HE := Lib.hid hE
  have HB := Lib.hid hbl
  clear hI hE hR hbl
  go_enter_defers Try.func29, Try.ntmps29
  go_wp2_with fail
  exact itemCaught w (decW w (b.toNat : Int) 0 (.slice (some ⟨g, off, none⟩) n cap)) w.heap.size (w.heap.size + 1) _ _ _ 12 rfl rfl HI.out rfl HE.out rfl (by omega) HB.out (Nat.le_refl _) (by omega)
end Go.Proofs.Ytjafmcahlmopiaa
