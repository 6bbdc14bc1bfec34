/-
  The program's look: its two closures. And: The program's attempt: a reading that may be left by damage.
-/
import Derived.Test.YtpkdalpjfcopbaaDoorKHead
namespace Go.Proofs.YtpkdalpjfcopbaaDoor
open Go.RowKit
theorem asDam (q : Int) (w : World) : (Instr.typeAssert (.iface 135 (.agg #[.int .i64 q])) 20 135 true).run Tryd.prog w = .ok (.tuple #[.agg #[.int .i64 q], .bool true]) w := by kernel_rfl
set_option maxRecDepth 100000 in
theorem tryI (p : Addr) (w : World) :
    CallsD Tryd.prog 84 #[.pointer (some p)] .returning w fun e u' w' => e = .returned (.tuple #[]) ∧ u' = .returning ∧ w' = w := by
  refine callsD_of_wpS Tryd.func84 rfl fun c₀ cs hu => ?_
  simp only [Tryd.ntmps84, List.size_toArray, List.length_cons, List.length_nil, Nat.reduceAdd, Nat.reduceSub, Array.replicate_succ,
     Array.replicate_zero, List.push_toArray, List.append_toArray, List.nil_append, List.cons_append]
  apply wpS_seq
  apply wpS_region
  simp [wpOpsS, go_sem, recoverD, hu, Exit.thenS]
  refine wpS_of_wp ?_
  go_wp2_with fail
  refine ⟨rfl, .returning, ?_, .tuple #[], results_none rfl _ _ _, rfl, rfl, rfl⟩
  cases c₀
  simp_all
set_option maxRecDepth 100000 in
set_option maxHeartbeats 1600000 in
theorem tryP (p : Nat) (b : Bool) (q : Int) (w : World) (hp : Blk w p 4 #[.bool b]) (older : List PanicEntry) :
    CallsD Tryd.prog 84 #[.pointer (some ⟨p, 0, none⟩)] (.panicking ({ v := .iface 135 (.agg #[.int .i64 q]), recovered := false } :: older)) w fun e u' w' =>
      e = .returned (.tuple #[]) ∧ u' = .panicking ({ v := .iface 135 (.agg #[.int .i64 q]), recovered := true } :: older) ∧ Blk w' p 4 #[.bool false] ∧ Chg (fun k => k = p) w w' := by
  refine callsD_of_wpS Tryd.func84 rfl fun c₀ cs hu => ?_
  have hT := asDam q w
  have c0 : w.cell? ⟨p, 0, none⟩ = some (.bool b) := hp.cell 0
  have f0 := hp.frozen 0
  have hlt := hp.lt
  simp only [Tryd.ntmps84, List.size_toArray, List.length_cons, List.length_nil, Nat.reduceAdd, Nat.reduceSub, Array.replicate_succ,
     Array.replicate_zero, List.push_toArray, List.append_toArray, List.nil_append, List.cons_append]
  apply wpS_seq
  apply wpS_region
  simp [wpOpsS, go_sem, recoverD, hu, Exit.thenS]
  refine wpS_of_wp ?_
  go_wp2_with fail
  exact ⟨rfl, _, rfl, .tuple #[], results_none rfl _ _ _, rfl, rfl, (hp.set_ 0 (.bool false)).alloc _, ((Chg.refl (fun k => k = p) w).setCell (p := ⟨p, 0, none⟩) (.inl rfl) (.bool false)).alloc _⟩
theorem tryResults (t2 : Nat) (tmps : Array Value) (w : World) (b : Bool) (h2 : tmps.getD 2 undef = .pointer (some ⟨t2, 0, none⟩)) (hq : Blk w t2 4 #[.bool b]) :
    (results Tryd.f79 tmps).run Tryd.prog w = .ok (.bool b) w := by
  have d0 : w.cell? ⟨t2, 0, none⟩ = some (.bool b) := hq.cell 0
  simp only [results]
  rw [show Tryd.f79.results = #[.cell 2 4] from rfl]
  rw [Array.getD_eq_getD_getElem?] at h2
  simp [h2, d0, go_sem]
def Tried (w : World) (Q : Bool → World → Prop) (e : Ending) (w' : World) : Prop := ∃ b W, e = .returned (.bool b) ∧ Q b W ∧ Chg (fun k => k = w.heap.size) W w'
set_option maxRecDepth 100000 in
set_option maxHeartbeats 1600000 in
theorem attempt_any (F : Nat) (caps : Array Value) (w : World) (Q : Bool → World → Prop) (hcf : ∀ args W, Sem.run Tryd.prog (callFunc F args) W = .ok (.enter F args) W)
    (h : Calls Tryd.prog F caps (w.alloc (.cells #[.bool false] 4)) (fun e W => ((e = .returned (.tuple #[]) ∧ Q true W) ∨ (Dam e ∧ Q false W)) ∧ Blk W w.heap.size 4 #[.bool false])) :
    Calls Tryd.prog 79 #[.func (.func F) #[] caps] w (Tried w Q) := by
  have hmf : ∀ (fn : Fn) (first cap : Array Value) (w : World), (Instr.makeFunc fn first cap).run Tryd.prog w = .ok (.func fn first cap) w := fun _ _ _ _ => rfl
  have H := Lib.hid h
  clear h
  go_enter_defers Tryd.func79, Tryd.ntmps79
  go_wp2_with fail
  refine H.out.mono ?_
  clear H
  rintro e W ⟨hq | hq, hB⟩
  · obtain ⟨rfl, hQ⟩ := hq
    have c0 : W.cell? ⟨w.heap.size, 0, none⟩ = some (.bool false) := hB.cell 0
    have f0 := hB.frozen 0
    have HQ := Lib.hid hQ
    have HB := Lib.hid hB
    clear hQ hB
    go_wp2_with fail
    refine leaves_cons (f := 84) (args := #[.pointer (some ⟨w.heap.size, 0, none⟩)]) (by simp) (by simp [go_sem]) ?_
    refine (tryI ⟨w.heap.size, 0, none⟩ _).mono ?_
    rintro e u' w2 ⟨rfl, rfl, rfl⟩
    exact ⟨_, tryResults w.heap.size _ _ true rfl (HB.out.set_ 0 (.bool true)), true, W, rfl, HQ.out, (Chg.refl (fun k => k = w.heap.size) W).setCell (p := ⟨w.heap.size, 0, none⟩) (.inl rfl) (.bool true)⟩
  · obtain ⟨⟨q, rfl⟩, hQ⟩ := hq
    show bodyPostD _ _ _ _ _ _
    refine leaves_cons (f := 84) (args := #[.pointer (some ⟨w.heap.size, 0, none⟩)]) (by simp) (by simp [go_sem]) ?_
    refine (tryP w.heap.size false q W hB []).mono ?_
    rintro e u' w2 ⟨rfl, rfl, hB2, hc2⟩
    exact ⟨_, tryResults w.heap.size _ _ false rfl hB2, false, W, rfl, hQ, hc2⟩
end Go.Proofs.YtpkdalpjfcopbaaDoor
namespace Go.Proofs.YtpkdalpjfcopbaaDoor
open Go.RowKit
/-- A file as it is read, in memory: its nine cells. -/
def fcs (sound clean : Bool) (gen : Int) (v : Value) (fin : Int) (s : UInt8 × UInt8 × UInt8 × UInt8) : Array Value := #[.bool sound, .bool clean, .int .i64 gen, v, .int .i64 fin, .int .u8 (s.1.toNat : Int), .int .u8 (s.2.1.toNat : Int), .int .u8 (s.2.2.1.toNat : Int), .int .u8 (s.2.2.2.toNat : Int)]
def HeadQ (W : World) (gr B : Nat) (A : Option Addr) (n cap : Nat) (bs : List UInt8) (Fb Cb : Nat) (v : Value) (s : UInt8 × UInt8 × UInt8 × UInt8) (b : Bool) (W' : World) : Prop :=
  Chg (fun k => k = gr ∨ k = Fb ∨ k = Cb) W W' ∧ match b with
    | false => headR bs = none
    | true => ∃ g c, headR bs = some (g, c) ∧ Blk W' Fb 87 (fcs false false (g : Int) v 0 s) ∧ Blk W' Cb 3 #[.int .i64 (c : Int)] ∧ ∃ A2 c2, RdAt W' gr B A n cap bs 18 (.slice A2 4 c2) ∧ 4 ≤ c2 ∧ RdB W' B A2 4 (part bs 14 4)
set_option maxRecDepth 100000 in
set_option maxHeartbeats 1600000 in
theorem look1_any {W : World} {gr B n cap Pb Fb Cb : Nat} {A : Option Addr} {bs : List UInt8} {S : Value} {v : Value} {s : UInt8 × UInt8 × UInt8 × UInt8} (hP : Blk W Pb 124 #[.pointer (some ⟨gr, 0, none⟩)]) (hF : Blk W Fb 87 (fcs false false 0 v 0 s)) (hC : Blk W Cb 3 #[.int .i64 0])
    (h : RdAt W gr B A n cap bs 0 S) (hn : n ≤ cap) (hc : cap ≤ 9223372036854775807) (ht : Nibs W) (hgn : 0 ≠ gr) (hBF : B ≤ Fb) (hBC : B ≤ Cb) :
    Calls Tryd.prog 80 #[.pointer (some ⟨Pb, 0, none⟩), .pointer (some ⟨Fb, 0, none⟩), .pointer (some ⟨Cb, 0, none⟩)] W (fun e W' => ((e = .returned (.tuple #[]) ∧ HeadQ W gr B A n cap bs Fb Cb v s true W') ∨ (Dam e ∧ HeadQ W gr B A n cap bs Fb Cb v s false W'))) := by
  have c0 : W.cell? ⟨Pb, 0, none⟩ = some (.pointer (some ⟨gr, 0, none⟩)) := hP.cell 0
  have HH := Lib.hid (head_any h hn hc ht hgn)
  have HF := Lib.hid hF
  have HC := Lib.hid hC
  have HA := Lib.hid h
  have hFg : ¬ Fb = gr := fun e => by subst e; exact absurd (hF.isT.eq_ h.blk.isT) (by decide)
  have hCg : ¬ Cb = gr := fun e => by subst e; exact absurd (hC.isT.eq_ h.blk.isT) (by decide)
  have hFC : Fb ≠ Cb := fun e => by subst e; exact absurd (hF.isT.eq_ hC.isT) (by decide)
  clear hP hF hC h ht hgn
  generalize hPP : (fun e W' => ((e = Ending.returned (.tuple #[]) ∧ HeadQ W gr B A n cap bs Fb Cb v s true W') ∨ (Dam e ∧ HeadQ W gr B A n cap bs Fb Cb v s false W'))) = PP
  have HPP := Lib.hid hPP
  clear hPP
  cases hh : headR bs with
  | none =>
    have HX := Lib.hid hh
    clear hh
    go_enter Tryd.func80, Tryd.ntmps80
    go_wp2_with (go_at_call 81; refine HH.out.mono ?_; rintro e w2 ⟨hc2, hp⟩; rw [HX.out] at hp; obtain ⟨q, rfl⟩ := hp)
    refine ⟨rfl, ?_⟩
    rw [← HPP.out]
    exact .inr ⟨⟨_, rfl⟩, hc2.mono fun k _ h => .inl h, HX.out⟩
  | some gc =>
    obtain ⟨g, c⟩ := gc
    have HX := Lib.hid hh
    clear hh
    go_enter Tryd.func80, Tryd.ntmps80
    go_wp2_with (go_at_call 81; refine HH.out.mono ?_; rintro e w2 ⟨hc2, hp⟩; rw [HX.out] at hp; obtain ⟨rfl, A2, cc2, hat, hcc, hrd⟩ := hp; have hF2 := HF.out.chg hc2 hFg; have hC2 := HC.out.chg hc2 hCg; have x2 : w2.cell? ⟨Fb, 2, none⟩ = some (.int .i64 0) := hF2.cell 2; have x0 : w2.cell? ⟨Cb, 0, none⟩ = some (.int .i64 0) := hC2.cell 0; have y2 := hF2.frozen 2; have y0 := hC2.frozen 0; have H2 := Lib.hid (And.intro hc2 (And.intro hat (And.intro hcc (And.intro hrd (And.intro hF2 hC2))))); clear hc2 hat hcc hrd hF2 hC2)
    go_end0
    rw [← HPP.out]
    obtain ⟨hc2, hat, hcc, hrd, hF2, hC2⟩ := H2.out
    have hcs : Chg (fun k => k = Fb ∨ k = Cb) w2 ((w2.setCell ⟨Fb, 2, none⟩ (.int .i64 (g : Int))).setCell ⟨Cb, 0, none⟩ (.int .i64 (c : Int))) := ((Chg.refl (fun k => k = Fb ∨ k = Cb) w2).setCell (p := ⟨Fb, 2, none⟩) (.inl (.inl rfl)) _).setCell (p := ⟨Cb, 0, none⟩) (.inl (.inr rfl)) _
    have hlt := hat.blk.lt
    refine .inl ⟨rfl, (hc2.mono fun k _ h => .inl h).thenS hcs fun k _ h => .inr h, g, c, HX.out, (hF2.set_ 2 _).far (p := ⟨Cb, 0, none⟩) hFC _, (hC2.far (p := ⟨Fb, 2, none⟩) (Ne.symm hFC) _).set_ 0 _, A2, cc2, ?_, hcc, ?_⟩
    · exact ⟨hat.blk.chg hcs (fun h => h.elim (fun e => hFg e.symm) (fun e => hCg e.symm)), hat.rd.keep fun g hg => hcs.block g (by have := hat.lo; omega) (by omega), hat.lo, hat.le⟩
    · exact hrd.keep fun g hg => hcs.block g (by have := hat.lo; omega) (by omega)
/-- What the second closure comes to: a record more, or damage. -/
def RecQ (W : World) (gr B : Nat) (A : Option Addr) (n cap : Nat) (bs : List UInt8) (p Rb : Nat) (b : Bool) (W' : World) : Prop :=
  Chg (fun k => k = gr ∨ k = Rb) W W' ∧ match b with
    | false => nextR bs p = none
    | true => ∃ r v, nextR bs p = some r ∧ W'.ownsRow W.heap.size 5 1 v r.body.length (bvs r.body) ∧ Blk W' Rb 34 #[.int .i64 r.kind, v] ∧ ∃ A2 c2, RdAt W' gr B A n cap bs (p + 8 + r.body.length) (.slice A2 4 c2) ∧ 4 ≤ c2 ∧ RdB W' B A2 4 (part bs (p + 4 + r.body.length) 4)
set_option maxRecDepth 100000 in
set_option maxHeartbeats 1600000 in
theorem look2_any {W : World} {gr B n cap p Pb Rb : Nat} {A As : Option Addr} {cs : Nat} {bs : List UInt8} (hP : Blk W Pb 124 #[.pointer (some ⟨gr, 0, none⟩)]) (hR : Blk W Rb 34 #[.int .i64 0, .slice none 0 0])
    (h : RdAt W gr B A n cap bs p (.slice As 4 cs)) (hs : RdB W B As 4 (part bs (p - 4) 4)) (hn : n ≤ cap) (hc : cap ≤ 9223372036854775807) (hc2 : n ≤ 140737488351232) (ht : Nibs W) (hgn : 0 ≠ gr) (hBR : B ≤ Rb) :
    Calls Tryd.prog 82 #[.pointer (some ⟨Pb, 0, none⟩), .pointer (some ⟨Rb, 0, none⟩)] W (fun e W' => ((e = .returned (.tuple #[]) ∧ RecQ W gr B A n cap bs p Rb true W') ∨ (Dam e ∧ RecQ W gr B A n cap bs p Rb false W'))) := by
  have c0 : W.cell? ⟨Pb, 0, none⟩ = some (.pointer (some ⟨gr, 0, none⟩)) := hP.cell 0
  have HH := Lib.hid (record_any h hs hn hc hc2 ht hgn)
  have HR := Lib.hid hR
  have hRg : ¬ Rb = gr := fun e => by subst e; exact absurd (hR.isT.eq_ h.blk.isT) (by decide)
  have hRlt := hR.lt
  clear hP hR h ht hgn hs
  generalize hPP : (fun e W' => ((e = Ending.returned (.tuple #[]) ∧ RecQ W gr B A n cap bs p Rb true W') ∨ (Dam e ∧ RecQ W gr B A n cap bs p Rb false W'))) = PP
  have HPP := Lib.hid hPP
  clear hPP
  cases hh : nextR bs p with
  | none =>
    have HX := Lib.hid hh
    clear hh
    go_enter Tryd.func82, Tryd.ntmps82
    go_wp2_with (go_at_call 83; refine HH.out.mono ?_; rintro e w2 ⟨hc2, hp⟩; rw [HX.out] at hp; obtain ⟨q, rfl⟩ := hp)
    refine ⟨rfl, ?_⟩
    rw [← HPP.out]
    exact .inr ⟨⟨_, rfl⟩, hc2.mono fun k _ h => .inl h, HX.out⟩
  | some r =>
    have HX := Lib.hid hh
    clear hh
    go_enter Tryd.func82, Tryd.ntmps82
    go_wp2_with (go_at_call 83; refine HH.out.mono ?_; rintro e w2 ⟨hc2, hp⟩; rw [HX.out] at hp; obtain ⟨v, rfl, ho, A2, cc2, hat, hcc, hrd⟩ := hp; have hR2 := HR.out.chg hc2 hRg; have x0 : w2.cell? ⟨Rb, 0, none⟩ = some (.int .i64 0) := hR2.cell 0; have x1 : w2.cell? ⟨Rb, 1, none⟩ = some (.slice none 0 0) := hR2.cell 1; have y0 := hR2.frozen 0; have y1 := hR2.frozen 1; obtain ⟨Av, cv, hv, _, _⟩ := own_shape ho; subst hv; have H2 := Lib.hid (And.intro hc2 (And.intro hat (And.intro hcc (And.intro hrd (And.intro ho hR2))))); clear hc2 hat hcc hrd ho hR2)
    go_end0
    rw [← HPP.out]
    obtain ⟨hc2, hat, hcc, hrd, ho, hR2⟩ := H2.out
    have hcs : Chg (fun k => k = Rb) w2 ((w2.setCell ⟨Rb, 0, none⟩ (.int .i64 r.kind)).setCell ⟨Rb, 1, none⟩ (.slice Av r.body.length cv)) := ((Chg.refl (fun k => k = Rb) w2).setCell (p := ⟨Rb, 0, none⟩) (.inl rfl) _).setCell (p := ⟨Rb, 1, none⟩) (.inl rfl) _
    have hlt := hat.blk.lt
    refine .inl ⟨rfl, (hc2.mono fun k _ h => .inl h).thenS hcs fun k _ h => .inr h, r, _, HX.out, own_chg ho hcs fun g hg e => ?_, (hR2.set_ 0 _).set_ 1 _, A2, cc2, ?_, hcc, ?_⟩
    · have := (own_block_lt ho hg).2.1
      omega
    · exact ⟨hat.blk.chg hcs (fun e => hRg e.symm), hat.rd.keep fun g hg => hcs.block g (by have := hat.lo; omega) (by omega), hat.lo, hat.le⟩
    · exact hrd.keep fun g hg => hcs.block g (by have := hat.lo; omega) (by omega)
end Go.Proofs.YtpkdalpjfcopbaaDoor
