/-
  JournalOpens: what both Opens give, by cases; the two copies written full.
-/
import Derived.Test.YtpkdalpjfcopbaaDoorMHelp
import Derived.Test.YtpkdalpjfcopbaaDoorALawB
namespace Go.Proofs.YtpkdalpjfcopbaaDoor
open Go.RowKit
/-- No journal, but an error. -/
def NilO (w : World) (er : Int) (e : Ending) (w' : World) : Prop := e = .returned (.tuple #[.pointer none, .slice none 0 0, .slice none 0 0, .int .i64 er]) ∧ Below w.heap.size w w'
/-- A journal, perhaps lists, no error. -/
def SomeO (w : World) (e : Ending) (w' : World) : Prop := ∃ g vl vw, e = .returned (.tuple #[.pointer (some ⟨g, 0, none⟩), vl, vw, .int .i64 0]) ∧ Below w.heap.size w w'
theorem or_cases (o : OR) : (∃ er : Int, (er != 0) = true ∧ (∀ w e w', Opened w o e w' → NilO w er e w') ∧ ∀ w e w', ROpened w o e w' → NilO w er e w') ∨ ∃ j recs ws, o = .ok j recs ws := by
  cases o with
  | bad => exact .inl ⟨122, by decide, fun w e w' h => ⟨h.2, h.1⟩, fun w e w' h => ⟨h.2, h.1⟩⟩
  | spent => exact .inl ⟨3, by decide, fun w e w' h => ⟨h.2, h.1⟩, fun w e w' h => ⟨h.2, h.1⟩⟩
  | ok j recs ws => exact .inr ⟨j, recs, ws, rfl⟩
theorem opened_some {j : JP} {recs : List Rc} {ws : List Wr} {w w' : World} {e : Ending} (h : Opened w (.ok j recs ws) e w') : SomeO w e w' := by
  obtain ⟨hb, jg, vl, vw, K, he, _⟩ := h
  exact ⟨jg, vl, vw, he, hb⟩
theorem ropened_some {j : JP} {recs : List Rc} {ws : List Wr} {w w' : World} {e : Ending} (h : ROpened w (.ok j recs ws) e w') : SomeO w e w' := by
  obtain ⟨hb, jg, vl, vw, K, F, he, _⟩ := h
  exact ⟨jg, vl, vw, he, hb⟩
theorem Open_ee {w : World} {ga gb pa pb n m : Nat} (h1 : FuAt w ga n) (h2 : FuAt w gb m) (n0 : n ≤ pa) (n1 : m ≤ pb) (m0 : pa ≤ 9223372036854775807) (m1 : pb ≤ 9223372036854775807) (ht : Nibs w) :
    Calls Tryd.prog 17 #[.agg #[.slice (some ⟨ga, 0, none⟩) n pa, .slice (some ⟨gb, 0, none⟩) m pb]] w (Opened w (openR ⟨ee n, ee m⟩)) := by
  have h := Open_any (w := w) (f := ⟨ee n, ee m⟩) (A0 := some ⟨ga, 0, none⟩) (A1 := some ⟨gb, 0, none⟩) (c0 := pa) (c1 := pb) (by rw [ee_length]; exact h1.rd) (by rw [ee_length]; exact h2.rd) (by rw [ee_length]; exact n0) (by rw [ee_length]; exact n1) m0 m1 ht
  simp only [ee_length] at h
  exact h
theorem ROpen_ee {w : World} {ga gb pa pb n m : Nat} (h1 : FuAt w ga n) (h2 : FuAt w gb m) (n0 : n ≤ pa) (n1 : m ≤ pb) (m0 : pa ≤ 9223372036854775807) (m1 : pb ≤ 9223372036854775807) :
    Calls Tryd.prog 19 #[.agg #[.slice (some ⟨ga, 0, none⟩) n pa, .slice (some ⟨gb, 0, none⟩) m pb]] w (ROpened w (openR ⟨ee n, ee m⟩)) := by
  have h := ROpen_any (w := w) (f := ⟨ee n, ee m⟩) (A0 := some ⟨ga, 0, none⟩) (A1 := some ⟨gb, 0, none⟩) (c0 := pa) (c1 := pb) (by rw [ee_length]; exact h1.rd) (by rw [ee_length]; exact h2.rd) (by rw [ee_length]; exact n0) (by rw [ee_length]; exact n1) m0 m1
  simp only [ee_length] at h
  exact h
/-- The law's own behind both 'full's. -/
structure Pf (w : World) (DA DB : Option Addr) (ca cb : Nat) (f : Fls) (C ga gb pa pb : Nat) (wr : World) : Prop where
  x0 : Blk wr w.heap.size 24 #[.slice DA f.a.length ca, .slice DB f.b.length cb]
  c : Blk wr C 24 #[.slice (some ⟨ga, 0, none⟩) f.a.length pa, .slice (some ⟨gb, 0, none⟩) f.b.length pb]
  fa : FuAt wr ga f.a.length
  fb : FuAt wr gb f.b.length
  bw : Below w.heap.size w wr
section
variable {w wr w' w3 : World} {DA DB : Option Addr} {ca cb : Nat} {f : Fls} {C ga gb pa pb : Nat}
theorem Pf.over (h : Pf w DA DB ca cb f C ga gb pa pb wr) (hb : Below wr.heap.size wr w') : Pf w DA DB ca cb f C ga gb pa pb w' :=
  ⟨h.x0.over hb, h.c.over hb, h.fa.over hb, h.fb.over hb, h.bw.trans (hb.mono h.bw.size)⟩
/-- behind the first 'full' -/
structure Ph (w : World) (DA DB : Option Addr) (ca cb : Nat) (f : Fls) (C ga gb pa pb : Nat) (wr : World) : Prop where
  x0 : Blk wr w.heap.size 24 #[.slice DA f.a.length ca, .slice DB f.b.length cb]
  c : Blk wr C 24 #[.slice (some ⟨ga, 0, none⟩) f.a.length pa, .slice (some ⟨gb, 0, none⟩) f.b.length pb]
  fa : FuAt wr ga f.a.length
  sb : SpAt wr gb pb f.b
  ge : w.heap.size ≤ ga ∧ w.heap.size ≤ gb ∧ ga ≠ gb
  bw : Below w.heap.size w wr
theorem Pre.half (h : Pre w DA DB ca cb f C ga gb pa pb wr) (hf : FuAt w3 ga f.a.length) (hc : Chg (fun j => j = ga) wr w3) : Ph w DA DB ca cb f C ga gb pa pb w3 := by
  obtain ⟨cur, hB⟩ := h.sa.blk
  exact ⟨h.x0.chg hc (hB.ne_ h.x0 (by decide) ·.symm), h.c.chg hc (hB.ne_ h.c (by decide) ·.symm), hf, h.sb.chg hc (fun e => h.ge.2.2 e.symm), h.ge, h.bw.trans (hc.to_below h.bw.size fun k e => by have := h.ge.1; omega)⟩
theorem Ph.whole (h : Ph w DA DB ca cb f C ga gb pa pb wr) (hf : FuAt w3 gb f.b.length) (hc : Chg (fun j => j = gb) wr w3) : Pf w DA DB ca cb f C ga gb pa pb w3 := by
  obtain ⟨cur, hB⟩ := h.sb.blk
  exact ⟨h.x0.chg hc (hB.ne_ h.x0 (by decide) ·.symm), h.c.chg hc (hB.ne_ h.c (by decide) ·.symm), h.fa.chg hc h.ge.2.2, hf, h.bw.trans (hc.to_below h.bw.size fun k e => by have := h.ge.2.1; omega)⟩
end
/-- What the first Open has made, all of it behind B. -/
structure Jn (B : Nat) (j : JP) (recs : List Rc) (ws : List Wr) (jg : Nat) (vl vw : Value) (K : List Rk) (wr : World) : Prop where
  pj : PJAt wr jg j
  jb : B ≤ jg
  rc : K.map Rk.rc = recs
  own : RcOwn wr B vl K
  wo : WOut wr B vw ws
section
variable {B : Nat} {j : JP} {recs : List Rc} {ws : List Wr} {jg : Nat} {vl vw : Value} {K : List Rk} {wr w' : World}
theorem Jn.chg {S : Nat → Prop} (h : Jn B j recs ws jg vl vw K wr) (hc : Chg S wr w') (hS : ∀ k, S k → k < B) : Jn B j recs ws jg vl vw K w' :=
  ⟨h.pj.chg hc fun hs => by have := hS _ hs; have := h.jb; omega, h.jb, h.rc, h.own.chg hc fun g hg _ hs => by have := hS g hs; omega, h.wo.chg hc fun g hg _ hs => by have := hS g hs; omega⟩
theorem Jn.over (h : Jn B j recs ws jg vl vw K wr) (hb : Below wr.heap.size wr w') : Jn B j recs ws jg vl vw K w' := h.chg (Chg.of_below hb (fun _ => False)) fun _ h => h.elim
end
theorem RcOwn.shapeN {w : World} {base : Nat} {v : Value} {K : List Rk} {recs : List Rc} (h : RcOwn w base v K) (hm : K.map Rk.rc = recs) : ∃ A cap, v = .slice A recs.length cap := by
  obtain ⟨A, cap, e, _, _⟩ := h.shape
  exact ⟨A, cap, by rw [e, ← hm, List.length_map]⟩
theorem RcOwn.rdN {w : World} {base : Nat} {A : Option Addr} {cap : Nat} {K : List Rk} {recs : List Rc} (h : RcOwn w base (.slice A recs.length cap) K) (hm : K.map Rk.rc = recs) : RcRd w (fun _ => False) A recs.length recs := by
  subst hm
  rw [List.length_map] at h ⊢
  exact h.rd fun _ _ _ h => h
theorem WOut.shapeN {w : World} {base : Nat} {v : Value} {ws : List Wr} (h : WOut w base v ws) : ∃ A cap, v = .slice A ws.length cap := by
  obtain ⟨A, n, cap, e, hw⟩ := h.wsAt
  exact ⟨A, cap, by rw [e, hw.len]⟩
theorem WOut.wsN {w : World} {base n cap : Nat} {A : Option Addr} {ws : List Wr} (h : WOut w base (.slice A n cap) ws) : WsAt w A n ws := by
  obtain ⟨A', n', cap', e, hw⟩ := h.wsAt
  injection e with e1 e2 e3
  subst e1 e2
  exact hw
theorem WOut.few {w : World} {base : Nat} {v : Value} {ws : List Wr} (h : WOut w base v ws) : ws.length ≤ 1 := by
  rcases h with ⟨rfl, _⟩ | ⟨x, _, _, _, rfl, _⟩ <;> simp
theorem num_c {w : World} (i : Int) : Calls Tryd.prog 20 #[.int .i64 i] w fun e w' => e = .returned (.int .i64 i) ∧ w = w' := (num_any i).mono fun _ _ h => ⟨h.1, h.2.symm⟩
theorem Size_c {w : World} {jg : Nat} {j : JP} (h : PJAt w jg j) : Calls Tryd.prog 22 #[.pointer (some ⟨jg, 0, none⟩)] w fun e w' => e = .returned (.int .i64 ((j.text.length : Nat) : Int)) ∧ w = w' := (Size_any h).mono fun _ _ h => ⟨h.1, h.2.symm⟩
theorem Generation_c {w : World} {jg : Nat} {j : JP} (h : PJAt w jg j) : Calls Tryd.prog 24 #[.pointer (some ⟨jg, 0, none⟩)] w fun e w' => e = .returned (.int .i64 (j.gen : Int)) ∧ w = w' := (Generation_any h).mono fun _ _ h => ⟨h.1, h.2.symm⟩
theorem RGeneration_c {w : World} {F : Nat → Prop} {kg : Nat} {j : JP} (h : RJAt w F kg j) : Calls Tryd.prog 25 #[.pointer (some ⟨kg, 0, none⟩)] w fun e w' => e = .returned (.int .i64 (j.gen : Int)) ∧ w = w' := (RGeneration_any h).mono fun _ _ h => ⟨h.1, h.2.symm⟩
theorem wsAt_nil (w : World) (A : Option Addr) : WsAt w A 0 [] := ⟨rfl, fun k x h => by simp at h⟩
end Go.Proofs.YtpkdalpjfcopbaaDoor
