/-
  The program's begin: a file's first bytes.
-/
import Derived.Test.YtpkdalpjfcopbaaDoorKFrame
import Derived.Test.YtpkdalpjfcopbaaDoorKRead
namespace Go.Proofs.YtpkdalpjfcopbaaDoor
open Go.RowKit
theorem Rd.chgF {w w' : World} {B sz n : Nat} {A : Option Addr} {xs : List Value} {S : Nat → Prop} (h : Rd w B sz A n xs) (hc : Chg S w w') (hB : B ≤ w.heap.size) (hS : 0 < n → ∀ b o s, A = some ⟨b, o, s⟩ → ¬ S b) : Rd w' B sz A n xs :=
  ⟨h.len, fun hn => by
    obtain ⟨b, off, e, hb, hcl⟩ := h.at_ hn
    exact ⟨b, off, e, hb, fun j u hu => (World.cell?_of_block (hc.block b (by omega) (hS hn _ _ _ e))).trans (hcl j u hu)⟩⟩
/-- A list of records in memory; none of it lies in F. -/
structure RcRd (w : World) (F : Nat → Prop) (A : Option Addr) (n : Nat) (rs : List Rc) : Prop where
  len : n = rs.length
  at_ : ∀ k r, rs[k]? = some r → ∃ g o bA bc, A = some ⟨g, o, none⟩ ∧ g < w.heap.size ∧ ¬ F g ∧ w.cell? ⟨g, o + k * 2, none⟩ = some (.int .i64 r.kind) ∧ w.cell? ⟨g, o + k * 2 + 1, none⟩ = some (.slice bA r.body.length bc) ∧ RdB w w.heap.size bA r.body.length r.body ∧ r.body.length ≤ bc ∧ (0 < r.body.length → ∀ b o s, bA = some ⟨b, o, s⟩ → ¬ F b)
section
variable {w w' : World} {F F' S : Nat → Prop} {n : Nat} {A : Option Addr} {rs : List Rc}
theorem RcRd.chg (h : RcRd w F A n rs) (hc : Chg S w w') (hS : ∀ k, k < w.heap.size → S k → F k) : RcRd w' F A n rs := by
  refine ⟨h.len, fun k x hx => ?_⟩
  obtain ⟨g, o, bA, bc, e, hg, hF, c0, c1, hr, hcp, hb⟩ := h.at_ k x hx
  have hn : ¬ S g := fun hs => hF (hS g hg hs)
  refine ⟨g, o, bA, bc, e, Nat.lt_of_lt_of_le hg hc.size, hF, (World.cell?_of_block (hc.block g hg hn)).trans c0, (World.cell?_of_block (hc.block g hg hn)).trans c1, (hr.chgF hc (Nat.le_refl _) fun h0 b o s e hs => ?_).more hc.size, hcp, hb⟩
  obtain ⟨b', o', e', hlt, _⟩ := hr.at_ h0
  rw [e] at e'
  injection e' with e'
  injection e' with e1 _
  subst e1
  exact hb h0 _ _ _ e (hS _ hlt hs)
theorem RcRd.below (h : RcRd w F A n rs) (hb : Below w.heap.size w w') : RcRd w' F A n rs := h.chg (Chg.of_below hb (fun _ => False)) fun _ _ h => h.elim
theorem RcRd.mono (h : RcRd w F A n rs) (hF : ∀ k, k < w.heap.size → F' k → F k) : RcRd w F' A n rs := by
  refine ⟨h.len, fun k x hx => ?_⟩
  obtain ⟨g, o, bA, bc, e, hg, hn, c0, c1, hr, hcp, hb⟩ := h.at_ k x hx
  refine ⟨g, o, bA, bc, e, hg, fun h => hn (hF g hg h), c0, c1, hr, hcp, fun h0 b o s e hs => ?_⟩
  obtain ⟨b', o', e', hlt, _⟩ := hr.at_ h0
  rw [e] at e'
  injection e' with e'
  injection e' with e1 _
  subst e1
  exact hb h0 _ _ _ e (hF _ hlt hs)
theorem RcRd.nil (A : Option Addr) : RcRd w F A 0 [] := ⟨rfl, fun k x h => by simp at h⟩
end
theorem Rc.ok_k {r : Rc} (h : r.ok = true) : ∃ k : Nat, r.kind = (k : Int) ∧ 1 ≤ k ∧ k ≤ 4 ∧ r.body.length ≤ 4200 := by
  simp only [Rc.ok, decide_eq_true_eq] at h
  exact ⟨r.kind.toNat, by omega, by omega, by omega, h.2.2⟩
theorem bodies_take {rs : List Rc} {k : Nat} {r : Rc} (h : rs[k]? = some r) : bodies (rs.take (k + 1)) = bodies (rs.take k) + (8 + r.body.length) := by
  rw [List.take_add_one, h]
  simp [bodies]
theorem textB_take {rs : List Rc} {k g c : Nat} {r : Rc} (h : rs[k]? = some r) : textB g c (rs.take (k + 1)) = textB g c (rs.take k) ++ frameB (last4 (textB g c (rs.take k))) r := by
  rw [List.take_add_one, h]
  exact textB_snoc g c (rs.take k) r
theorem bodies_take_le (rs : List Rc) (k : Nat) : bodies (rs.take k) ≤ bodies rs := by
  unfold bodies
  rw [List.map_take]
  conv => rhs; rw [← List.take_append_drop k (rs.map fun r => 8 + r.body.length), List.sum_append]
  omega
theorem last4_frame (t s : List UInt8) (r : Rc) : last4 (t ++ frameB s r) = last4 (frameB s r) := by
  rw [frameB, ← List.append_assoc, last4_append (beN_length _ _), last4_append (beN_length _ _)]
/-- A slice that begins in the midst of what is owned. -/
theorem own_from {base e n m cap : Nat} {g : Nat} {xs : List Value} {w : World} (h : w.ownsRow base e 1 (.slice (some ⟨g, 0, none⟩) (m + n) cap) (m + n) xs) (hn : 0 < n) : Rd w w.heap.size 1 (some ⟨g, m, none⟩) n (xs.drop m) := by
  have hl := h.1
  obtain ⟨g', cap', cur, hv, hb, hB, hle, _, _, ht⟩ := own_parts h (by omega)
  simp only [Value.slice.injEq, Option.some.injEq, Addr.mk.injEq, and_true, true_and] at hv
  obtain ⟨rfl, rfl⟩ := hv
  refine ⟨by rw [List.length_drop]; omega, fun _ => ⟨g, m, rfl, hB.lt, fun j u hu => ?_⟩⟩
  rw [hB.cell, ← Array.getElem?_toList]
  rw [List.getElem?_drop] at hu
  rw [← ht, List.getElem?_take] at hu
  split at hu
  · exact hu
  · cases hu
/-- A begin under way, with k records behind the head. -/
structure Bgn (w : World) (jg : Nat) (fl gn sz : Int) (t : List UInt8) (v : Value) (wr : World) : Prop where
  own : wr.ownsRow w.heap.size 5 1 v t.length (bvs t)
  blk : ∃ s, Blk wr jg 96 (jcs fl gn sz s) ∧ last4 t = sl s
  chg : Chg (fun k => k = jg) w wr
theorem Bgn.box {w wr : World} {jg : Nat} {fl gn sz : Int} {t : List UInt8} {v : Value} (h : Bgn w jg fl gn sz t v wr) {o : Obj} : Bgn w jg fl gn sz t v (wr.alloc o) := by
  obtain ⟨s, h1, h2⟩ := h.blk
  exact ⟨h.own.alloc _, ⟨s, h1.alloc _, h2⟩, h.chg.alloc _⟩
theorem bgn_off {wr : World} {jg base n : Nat} {v : Value} {xs : List Value} {cs : Array Value} (ho : wr.ownsRow base 5 1 v n xs) (hB : Blk wr jg 96 cs) : ∀ g, v.ownBlock = some g → ¬ g = jg := fun g hg e => by
  obtain ⟨_, _, cur, hC⟩ := own_block_lt ho hg
  subst e
  exact hC.ne_ hB (by decide) rfl
theorem frm_rd {w : World} {base g n c : Nat} {s : UInt8 × UInt8 × UInt8 × UInt8} {l : List UInt8} (h : w.ownsRow base 5 1 (.slice (some ⟨g, 0, none⟩) (12 + n) (c + 4)) (12 + n) (bvs (sl s ++ l))) : RdB w w.heap.size (some ⟨g, 4, none⟩) (8 + n) l := by
  have e : 12 + n = 4 + (8 + n) := by omega
  rw [e] at h
  have := own_from h (by omega)
  rwa [bvs_append, List.drop_left' (by simp [bvs, sl])] at this
theorem len_own {w : World} {base m : Nat} {v : Value} {l : List UInt8} (hl : l.length = m) (h : w.ownsRow base 5 1 v l.length (bvs l)) : w.ownsRow base 5 1 v m (bvs l) := hl ▸ h
theorem row_apart7 {w : World} {base n : Nat} {v : Value} {xs : List Value} (ho : w.ownsRow base 5 1 v n xs) {g t : Nat} {cs : Array Value} (hB : Blk w g t cs) (ht : t ≠ 5) : ¬ some g = v.ownBlock := fun e => by
  obtain ⟨_, _, cur, hC⟩ := own_block_lt ho e.symm
  exact hB.ne_ hC ht rfl
theorem Bgn.next {w wa w7 w8 : World} {jg : Nat} {fl gn sz : Int} {t : List UInt8} {v v8 : Value} {s7 : UInt8 × UInt8 × UInt8 × UInt8} {a : List UInt8} {r : Rc} (h : Bgn w jg fl gn sz t v wa) (hc : Chg (fun k => k = jg) wa w7) (hj : Blk w7 jg 96 (jcs fl gn sz s7)) (hl : last4 (frameB a r) = sl s7) {m : Nat} {xs : List Value}
    (ho : w7.ownsRow w.heap.size 5 1 v m xs) (h8 : w8.ownsRow w.heap.size 5 1 v8 (t.length + (frameB a r).length) (bvs t ++ bvs (frameB a r))) (hg : w7.grownBy w8 v.ownBlock) : Bgn w jg fl gn sz (t ++ frameB a r) v8 w8 := by
  refine ⟨by rw [List.length_append, bvs_append]; exact h8, ⟨s7, hj.chg (Chg.of_grown hg) (row_apart7 ho hj (by decide)), by rw [last4_frame]; exact hl⟩, ?_⟩
  refine (h.chg.trans hc).thenS (Chg.of_grown hg) fun i hi e => ?_
  have := (own_block_lt ho e.symm).2.1
  omega
theorem pair2_le {a b : UInt8} : bvs [a, b] = [.int .u8 (a.toNat : Int), .int .u8 (b.toNat : Int)] := rfl
theorem own_lit {w : World} {base : Nat} (hb : base ≤ w.heap.size) : (w.alloc (.cells #[.int .u8 113, .int .u8 106] 5)).ownsRow base 5 1 (.slice (some ⟨w.heap.size, 0, none⟩) 2 2) 2 (bvs [113, 106]) :=
  ⟨by simp [bvs], .inr ⟨w.heap.size, 2, _, rfl, hb, heap_alloc_new w _, by omega, by simp [maxLen], by simp, by simp [bvs]⟩⟩
end Go.Proofs.YtpkdalpjfcopbaaDoor
