/-
  The outright laws' desk in memory: the journal, its disk, the book of its records.
-/
import Derived.Test.YtpkdalpjfcopbaaDoorMHelp
import Derived.Test.YtpkdalpjfcopbaaDoorAAppP
import Derived.Test.YtpkdalpjfcopbaaDoorMBook
namespace Go.Proofs.YtpkdalpjfcopbaaDoor
open Go.RowKit
/-- A list of records with rows of its own; none of it lies in F. -/
structure RcB (w : World) (F : Nat → Prop) (v : Value) (K : List Rk) : Prop where
  own : w.ownsRow 0 34 2 v K.length (rowsK K)
  off : ∀ g, v.ownBlock = some g → ¬ F g
  bod : ∀ (k : Nat) (r : Rk), K[k]? = some r → ∃ bA bc, r.v = .slice bA r.rc.body.length bc ∧ RdB w w.heap.size bA r.rc.body.length r.rc.body ∧ r.rc.body.length ≤ bc ∧ (0 < r.rc.body.length → ∀ b o s, bA = some ⟨b, o, s⟩ → ¬ F b)
theorem rd_lt {w : World} {B sz n : Nat} {A : Option Addr} {xs : List Value} (h : Rd w B sz A n xs) (hn : 0 < n) {b o : Nat} {s : Option Nat} (e : A = some ⟨b, o, s⟩) : b < B := by
  obtain ⟨b', o', e', hlt, _⟩ := h.at_ hn
  rw [e] at e'
  injection e' with e'
  injection e' with e1 _
  omega
section
variable {w w' : World} {F F' S : Nat → Prop} {v : Value} {K : List Rk} {A : Option Addr} {cap : Nat}
theorem RcB.nil (w : World) (F : Nat → Prop) : RcB w F (.slice none 0 0) [] := ⟨⟨by simp [rowsK], .inl ⟨rfl, rfl⟩⟩, fun g h => by simp [Value.ownBlock] at h, fun k r h => by simp at h⟩
theorem RcB.mono (h : RcB w F v K) (hF : ∀ k, k < w.heap.size → F' k → F k) : RcB w F' v K :=
  ⟨h.own, fun g hg hf => h.off g hg (hF g (own_block_lt h.own hg).1 hf), fun k r hk => by
    obtain ⟨bA, bc, e, hr, hle, hn⟩ := h.bod k r hk
    exact ⟨bA, bc, e, hr, hle, fun h0 b o s e2 hf => hn h0 b o s e2 (hF b (rd_lt hr h0 e2) hf)⟩⟩
theorem RcB.chg (h : RcB w F v K) (hc : Chg S w w') (hS : ∀ k, k < w.heap.size → S k → F k) : RcB w' F v K :=
  ⟨own_chg h.own hc fun g hg hs => h.off g hg (hS g (own_block_lt h.own hg).1 hs), h.off, fun k r hk => by
    obtain ⟨bA, bc, e, hr, hle, hn⟩ := h.bod k r hk
    exact ⟨bA, bc, e, (hr.chgF hc (Nat.le_refl _) fun h0 b o s e2 hs => hn h0 b o s e2 (hS b (rd_lt hr h0 e2) hs)).more hc.size, hle, hn⟩⟩
theorem RcB.over (h : RcB w F v K) (hb : Below w.heap.size w w') : RcB w' F v K := h.chg (Chg.of_below hb (fun _ => False)) fun _ _ h => h.elim
theorem RcB.shape (h : RcB w F v K) {recs : List Rc} (hm : K.map Rk.rc = recs) : ∃ A cap, v = .slice A recs.length cap ∧ recs.length ≤ cap ∧ cap ≤ maxLen := by
  obtain ⟨A, cap, e, h1, h2⟩ := own_shape h.own
  subst hm
  rw [List.length_map]
  exact ⟨A, cap, e, h1, h2⟩
theorem RcB.rd (h : RcB w F (.slice A K.length cap) K) : RcRd w F A K.length (K.map Rk.rc) := by
  refine ⟨by simp, fun k r hk => ?_⟩
  rw [List.getElem?_map, Option.map_eq_some_iff] at hk
  obtain ⟨x, hk, rfl⟩ := hk
  have hlt := (List.getElem?_eq_some_iff.1 hk).1
  obtain ⟨q, cap', cur, hv, hb, hB, _, _, h1, h2⟩ := own_parts h.own (by omega)
  simp only [Value.slice.injEq, true_and] at hv
  obtain ⟨rfl, rfl⟩ := hv
  have key : ∀ j, j < 2 → w.cell? ⟨q, k * 2 + j, none⟩ = x.cells[j]? := fun j hj => by
    rw [hB.cell, ← rowsK_at hk j hj, ← h2, List.getElem?_take, if_pos (by omega), Array.getElem?_toList]
  obtain ⟨bA, bc, e, hr, hle, hn⟩ := h.bod k x hk
  have hk1 := key 1 (by omega)
  have hk0 := key 0 (by omega)
  simp only [Rk.cells, List.getElem?_cons_zero, List.getElem?_cons_succ] at hk0 hk1
  rw [e] at hk1
  exact ⟨q, 0, bA, bc, rfl, hB.lt, h.off q rfl, by rw [Nat.zero_add]; exact hk0, by rw [Nat.zero_add]; exact hk1, hr, hle, hn⟩
theorem RcB.rdN {recs : List Rc} (h : RcB w F (.slice A recs.length cap) K) (hm : K.map Rk.rc = recs) : RcRd w F A recs.length recs := by
  subst hm
  rw [List.length_map] at h ⊢
  exact h.rd
/-- Its rows, for an append. -/
theorem RcB.rows (h : RcB w F (.slice A K.length cap) K) : Rd w w.heap.size 2 A K.length (rowsK K) := Rd.of_own h.own
theorem rowsK_one (K : List Rk) : ∀ u ∈ rowsK K, u.oneCell' = true → True := fun _ _ _ => trivial
theorem RcB.one (h : RcB w F v K) : ∀ u ∈ rowsK K, u.oneCell' = true := fun u hu => by
  obtain ⟨l, hl, hu⟩ := List.mem_flatten.1 hu
  obtain ⟨r, hr, rfl⟩ := List.mem_map.1 hl
  obtain ⟨k, hk⟩ := List.mem_iff_getElem?.1 hr
  obtain ⟨bA, bc, e, _⟩ := h.bod k r hk
  simp only [Rk.cells, e, List.mem_cons, List.not_mem_nil, or_false] at hu
  rcases hu with rfl | rfl <;> rfl
/-- A list that was made of rows and one record more. -/
theorem RcB.snoc (h : RcB w F v K) (hb : Below w.heap.size w w') {x : Rk} {v2 : Value} {base : Nat} (hbase : w.heap.size ≤ base) (hF : ∀ g, F g → g < w.heap.size) (ho : w'.ownsRow base 34 2 v2 (K.length + 1) (rowsK K ++ x.cells))
    {bA : Option Addr} {bc : Nat} (hx : x.v = .slice bA x.rc.body.length bc) (hr : w'.ownsRow base 5 1 x.v x.rc.body.length (bvs x.rc.body)) : RcB w' F v2 (K ++ [x]) := by
  refine ⟨by rw [rowsK_snoc, List.length_append]; exact own_base ho (Nat.zero_le _), fun g hg hf => ?_, fun k r hk => ?_⟩
  · have := (own_block_lt ho hg).2.1
    have := hF g hf
    omega
  · rcases Nat.lt_or_ge k K.length with hlt | hge
    · rw [List.getElem?_append_left hlt] at hk
      exact (h.over hb).bod k r hk
    · rw [List.getElem?_append_right hge] at hk
      have hk0 : k - K.length = 0 := by
        have := (List.getElem?_eq_some_iff.1 hk).1
        simp at this
        omega
      rw [hk0] at hk
      simp at hk
      subst hk
      have hr2 := hr
      rw [hx] at hr2
      obtain ⟨_, _, e3, hle, _⟩ := own_shape hr2
      injection e3 with _ _ e3
      subst e3
      refine ⟨bA, bc, hx, Rd.of_own hr2, hle, fun h0 b o s e hf => ?_⟩
      obtain ⟨g, cap', cur, hv, hb2, _⟩ := own_parts hr2 h0
      injection hv with hv
      rw [e] at hv
      injection hv with hv
      injection hv with hv _
      have := hF b hf
      omega
end
/-- The desk: its journal, disk, book, file. -/
structure DAt (w : World) (tg jg : Nat) (A0 : Option Addr) (c0 : Nat) (A1 : Option Addr) (c1 : Nat) (vb : Value) (K : List Rk) (j : JP) (f : Fls) (file : Int) : Prop where
  blk : Blk w tg 63 #[.pointer (some ⟨jg, 0, none⟩), .slice A0 f.a.length c0, .slice A1 f.b.length c1, vb, .int .i64 file]
  pj : PJAt w jg j
  o0 : w.ownsRow 0 5 1 (.slice A0 f.a.length c0) f.a.length (bvs f.a)
  o1 : w.ownsRow 0 5 1 (.slice A1 f.b.length c1) f.b.length (bvs f.b)
  bk : RcB w (fun g => g = tg ∨ g = jg) vb K
section
variable {w w' w2 : World} {tg jg : Nat} {A0 A1 : Option Addr} {c0 c1 : Nat} {vb : Value} {K : List Rk} {j : JP} {f : Fls} {file : Int}
theorem own_ne {w : World} {base n g t : Nat} {v : Value} {xs : List Value} {cs : Array Value} (ho : w.ownsRow base 5 1 v n xs) (hB : Blk w g t cs) (ht : 5 ≠ t) : ∀ q, v.ownBlock = some q → ¬ q = g := fun q hq e => by
  obtain ⟨_, _, cur, hC⟩ := own_block_lt ho hq
  exact hC.ne_ hB ht e
theorem DAt.over (h : DAt w tg jg A0 c0 A1 c1 vb K j f file) (hb : Below w.heap.size w w') : DAt w' tg jg A0 c0 A1 c1 vb K j f file :=
  ⟨h.blk.over hb, h.pj.below hb, own_over h.o0 hb, own_over h.o1 hb, h.bk.over hb⟩
theorem DAt.ne (h : DAt w tg jg A0 c0 A1 c1 vb K j f file) : tg ≠ jg := by
  obtain ⟨s, hB, _⟩ := h.pj.blk
  exact h.blk.ne_ hB (by decide)
/-- The journal turned. -/
theorem DAt.jour (h : DAt w tg jg A0 c0 A1 c1 vb K j f file) {j' : JP} (hc : Chg (fun k => k = jg) w w') (hp : PJAt w' jg j') : DAt w' tg jg A0 c0 A1 c1 vb K j' f file := by
  obtain ⟨s, hB, _⟩ := h.pj.blk
  exact ⟨h.blk.chg hc h.ne, hp, own_chg h.o0 hc (own_ne h.o0 hB (by decide)), own_chg h.o1 hc (own_ne h.o1 hB (by decide)), h.bk.chg hc fun k _ e => .inr e⟩
/-- A new disk. -/
theorem DAt.disk (h : DAt w tg jg A0 c0 A1 c1 vb K j f file) {f2 : Fls} {B0 B1 : Option Addr} {e0 e1 : Nat} (hb : Below w.heap.size w w2) (o0 : w2.ownsRow w.heap.size 5 1 (.slice B0 f2.a.length e0) f2.a.length (bvs f2.a)) (o1 : w2.ownsRow w.heap.size 5 1 (.slice B1 f2.b.length e1) f2.b.length (bvs f2.b)) :
    DAt ((w2.setCell ⟨tg, 1, none⟩ (.slice B0 f2.a.length e0)).setCell ⟨tg, 2, none⟩ (.slice B1 f2.b.length e1)) tg jg B0 e0 B1 e1 vb K j f2 file ∧ Chg (fun k => k = tg) w ((w2.setCell ⟨tg, 1, none⟩ (.slice B0 f2.a.length e0)).setCell ⟨tg, 2, none⟩ (.slice B1 f2.b.length e1)) := by
  have hc : Chg (fun k => k = tg) w2 ((w2.setCell ⟨tg, 1, none⟩ (.slice B0 f2.a.length e0)).setCell ⟨tg, 2, none⟩ (.slice B1 f2.b.length e1)) := ((Chg.refl (fun k => k = tg) w2).setCell (p := ⟨tg, 1, none⟩) (.inl rfl) _).setCell (p := ⟨tg, 2, none⟩) (.inl rfl) _
  have h2 := h.over hb
  have hlt := h.blk.lt
  exact ⟨⟨(h2.blk.set_ 1 _).set_ 2 _, h2.pj.chg hc h.ne.symm, own_chg (own_base o0 (Nat.zero_le _)) hc fun g hg e => by have := (own_block_lt o0 hg).2.1; omega, own_chg (own_base o1 (Nat.zero_le _)) hc fun g hg e => by have := (own_block_lt o1 hg).2.1; omega, h2.bk.chg hc fun k _ e => .inl e⟩, (Chg.of_below hb _).trans hc⟩
/-- Another book. -/
theorem DAt.book (h : DAt w tg jg A0 c0 A1 c1 vb K j f file) {v' : Value} {K' : List Rk} (hk : RcB w (fun g => g = tg ∨ g = jg) v' K') : DAt (w.setCell ⟨tg, 3, none⟩ v') tg jg A0 c0 A1 c1 v' K' j f file ∧ Chg (fun k => k = tg) w (w.setCell ⟨tg, 3, none⟩ v') := by
  have hc : Chg (fun k => k = tg) w (w.setCell ⟨tg, 3, none⟩ v') := (Chg.refl (fun k => k = tg) w).setCell (p := ⟨tg, 3, none⟩) (.inl rfl) _
  exact ⟨⟨h.blk.set_ 3 _, h.pj.chg hc h.ne.symm, own_chg h.o0 hc (own_ne h.o0 h.blk (by decide)), own_chg h.o1 hc (own_ne h.o1 h.blk (by decide)), hk.chg hc fun k _ e => .inl e⟩, hc⟩
/-- Another file. -/
theorem DAt.filed (h : DAt w tg jg A0 c0 A1 c1 vb K j f file) (x : Int) : DAt (w.setCell ⟨tg, 4, none⟩ (.int .i64 x)) tg jg A0 c0 A1 c1 vb K j f x ∧ Chg (fun k => k = tg) w (w.setCell ⟨tg, 4, none⟩ (.int .i64 x)) := by
  have hc : Chg (fun k => k = tg) w (w.setCell ⟨tg, 4, none⟩ (.int .i64 x)) := (Chg.refl (fun k => k = tg) w).setCell (p := ⟨tg, 4, none⟩) (.inl rfl) _
  exact ⟨⟨h.blk.set_ 4 _, h.pj.chg hc h.ne.symm, own_chg h.o0 hc (own_ne h.o0 h.blk (by decide)), own_chg h.o1 hc (own_ne h.o1 h.blk (by decide)), h.bk.chg hc fun k _ e => .inl e⟩, hc⟩
/-- Another journal, new since w. -/
theorem DAt.opened (h : DAt w tg jg A0 c0 A1 c1 vb K j f file) {jg' : Nat} {j' : JP} (hb : Below w.heap.size w w2) (hp : PJAt w2 jg' j') (hj : w.heap.size ≤ jg') : DAt (w2.setCell ⟨tg, 0, none⟩ (.pointer (some ⟨jg', 0, none⟩))) tg jg' A0 c0 A1 c1 vb K j' f file ∧ Chg (fun k => k = tg) w (w2.setCell ⟨tg, 0, none⟩ (.pointer (some ⟨jg', 0, none⟩))) := by
  have hc : Chg (fun k => k = tg) w2 (w2.setCell ⟨tg, 0, none⟩ (.pointer (some ⟨jg', 0, none⟩))) := (Chg.refl (fun k => k = tg) w2).setCell (p := ⟨tg, 0, none⟩) (.inl rfl) _
  have h2 := h.over hb
  have hlt := h.blk.lt
  have hbk : RcB w2 (fun g => g = tg ∨ g = jg') vb K := (h.bk.mono (F' := fun g => g = tg ∨ g = jg') fun k hk e => e.elim .inl fun e => by omega).over hb
  exact ⟨⟨h2.blk.set_ 0 _, hp.chg hc (fun e => by omega), own_chg h2.o0 hc (own_ne h2.o0 h2.blk (by decide)), own_chg h2.o1 hc (own_ne h2.o1 h2.blk (by decide)), hbk.chg hc fun k _ e => .inl e⟩, (Chg.of_below hb _).trans hc⟩
theorem DAt.lens (h : DAt w tg jg A0 c0 A1 c1 vb K j f file) : f.a.length ≤ c0 ∧ f.b.length ≤ c1 ∧ c0 ≤ maxLen ∧ c1 ≤ maxLen := by
  obtain ⟨_, _, e, h1, h2⟩ := own_shape h.o0
  obtain ⟨_, _, e', h3, h4⟩ := own_shape h.o1
  injection e with _ _ e
  injection e' with _ _ e'
  subst e e'
  exact ⟨h1, h3, h2, h4⟩
end
theorem two_sets' (w : World) (pg : Nat) (u v : Value) : Chg (fun k => k = pg) w ((w.setCell ⟨pg, 0, none⟩ u).setCell ⟨pg, 1, none⟩ v) := ((Chg.refl (fun k => k = pg) w).setCell (p := ⟨pg, 0, none⟩) (.inl rfl) u).setCell (p := ⟨pg, 1, none⟩) (.inl rfl) v
/-- The file that a call's writes begin last. -/
def lastF (ws : List Wr) (file : Int) : Int := ws.foldl (fun a x => if x.start = true then x.file else a) file
/-- A desk that stands: the disk is whole, the book is the journal's. -/
def Desk (w : World) (tg jg : Nat) (j : JP) (f : Fls) : Prop := ∃ A0 c0 A1 c1 vb K, DAt w tg jg A0 c0 A1 c1 vb K j f (j.file : Int) ∧ K.map Rk.rc = j.recs ∧ Good f j
end Go.Proofs.YtpkdalpjfcopbaaDoor
