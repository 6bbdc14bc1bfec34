/-
  The statements' helper does: one step on both detectors.
-/
import Derived.Test.YtfjpmoigpnmeoaaDLaw2
namespace Go.Proofs.Ytfjpmoigpnmeoaa
open Go.RowKit
variable {w : World} {c : Cfg} {D K : Nat} {F : Nat → Prop} {l : List Ev}

/-- Both detectors, what they own in F: the same has happened to them. -/
def Pair (w : World) (F : Nat → Prop) (c : Cfg) (D K : Nat) (l : List Ev) : Prop :=
  ∃ Fa Fb : Nat → Prop, PDx w Fa c D (dOf c l) ∧ RDx w Fb c K l ∧ (∀ k, Fa k → F k) ∧ (∀ k, Fb k → F k) ∧ (∀ k, Fa k → ¬ Fb k) ∧ (∀ k, F k → k < w.heap.size)
theorem Pair.chg {w w' : World} {S : Nat → Prop} (h : Pair w F c D K l) (hc : Chg S w w') (hS : ∀ k, F k → ¬ S k) : Pair w' F c D K l := by
  obtain ⟨Fa, Fb, h1, h2, h3, h4, h5, h6⟩ := h
  exact ⟨Fa, Fb, h1.chg hc (fun k hk => hS k (h3 k hk)), h2.chg hc (fun k hk => hS k (h4 k hk)), h3, h4, h5, fun k hk => Nat.lt_of_lt_of_le (h6 k hk) hc.size⟩
theorem Pair.below {w w' : World} (h : Pair w F c D K l) (hb : Below w.heap.size w w') : Pair w' F c D K l := h.chg (Chg.of_below hb fun _ => False) fun _ _ h => h
def DoesOk (w : World) (F : Nat → Prop) (c : Cfg) (D K : Nat) (l : List Ev) (e : Ending) (w' : World) : Prop :=
  e = .returned (.bool true) ∧ ∃ F' l', Pair w' F' c D K l' ∧ l'.length ≤ l.length + 1 ∧ Moved w w' F F'
/-- Both have gone on, one behind the other. -/
theorem step_both2 {w w0 w1 w2 : World} {Fa Fb Fb' : Nat → Prop} {l' : List Ev} (h3 : ∀ k, Fa k → F k) (h4 : ∀ k, Fb k → F k) (h5 : ∀ k, Fa k → ¬ Fb k) (h6 : ∀ k, F k → k < w.heap.size) (hb : Below w.heap.size w w0) (hp : PDx w1 Fa c D (dOf c l')) (hc1 : Chg Fa w0 w1)
    (hr : RDx w2 Fb' c K l') (hm : Moved w1 w2 Fb Fb') (hl : l'.length ≤ l.length + 1) : Pair w2 (fun k => Fa k ∨ Fb' k) c D K l' ∧ l'.length ≤ l.length + 1 ∧ Moved w w2 F (fun k => Fa k ∨ Fb' k) := by
  have hs := hb.size
  have hs1 := hc1.size
  have hd : ∀ k, Fa k → ¬ Fb k := h5
  have hp2 := hp.chg hm.2 (fun k hk h => h5 k hk h)
  refine ⟨⟨Fa, Fb', hp2, hr, fun _ h => .inl h, fun _ h => .inr h, fun k hk hk' => ?_, fun k hk => ?_⟩, hl, fun k hk => ?_, ?_⟩
  · rcases hm.1 k hk' with h | h
    · exact h5 k hk h
    · have := h6 k (h3 k hk); omega
  · rcases hk with hk | hk
    · exact hp2.1 k hk
    · exact hr.1 k hk
  · rcases hk with hk | hk
    · exact .inl (h3 k hk)
    · rcases hm.1 k hk with h | h
      · exact .inl (h4 k h)
      · exact .inr (by omega)
  · exact ((Chg.of_below hb F).thenS hc1 fun k _ h => h3 k h).thenS hm.2 fun k _ h => h4 k h

theorem step_both {w w0 w1 w2 : World} {Fa Fb Fb' : Nat → Prop} {l' : List Ev} (h3 : ∀ k, Fa k → F k) (h4 : ∀ k, Fb k → F k) (h5 : ∀ k, Fa k → ¬ Fb k) (h6 : ∀ k, F k → k < w.heap.size) (hb : Below w.heap.size w w0) (hp : PDx w1 Fa c D (dOf c l')) (hc1 : Chg Fa w0 w1)
    (hr : RDx w2 Fb' c K l') (hm : Moved w1 w2 Fb Fb') (hl : l'.length ≤ l.length + 1) : ∃ F' l', Pair w2 F' c D K l' ∧ l'.length ≤ l.length + 1 ∧ Moved w w2 F F' := ⟨_, l', step_both2 h3 h4 h5 h6 hb hp hc1 hr hm hl⟩
def OpV (kd q inc tick : Int) (A : Option Addr) (n cap : Nat) : Value := .agg #[.int .i64 kd, .int .i64 q, .int .i64 inc, .int .i64 tick, .slice A n cap]
section
variable (A : Option Addr) (n cap : Nat) (hs : List Int) (q inc tick : Int)
set_option maxRecDepth 100000 in
set_option maxHeartbeats 1600000 in
theorem does_tick (hc : c.Ok) (h : Pair w F c D K l) (hn : l.length < 3518437208883) :
    Calls Try.prog 33 #[.pointer (some ⟨D, 0, none⟩), .pointer (some ⟨K, 0, none⟩), .agg #[.int .i64 1, .int .i64 q, .int .i64 inc, .int .i64 tick, .slice A n cap]] w (DoesOk w F c D K l) := by
  obtain ⟨Fa, Fb, ha, hb, h3, h4, h5, h6⟩ := h
  have hcc := hc
  obtain ⟨_, hn16, hsf, _, _, _, hl64, _⟩ := hcc
  have hb0 := one_box' w (.cells #[.int .i64 1, .int .i64 q, .int .i64 inc, .int .i64 tick, .slice A n cap] 61)
  have ha0 := ha.below hb0
  have hr0 := hb.below hb0
  have hO := Blk.new w 61 #[.int .i64 1, .int .i64 q, .int .i64 inc, .int .i64 tick, .slice A n cap]
  obtain ⟨w0, hw0⟩ : ∃ w0, w0 = w.alloc (.cells #[.int .i64 1, .int .i64 q, .int .i64 inc, .int .i64 tick, .slice A n cap] 61) := ⟨_, rfl⟩
  rw [← hw0] at hb0 ha0 hr0 hO
  have HW := Lib.hid hw0
  have c0 : w0.cell? ⟨w.heap.size, 0, none⟩ = some (.int .i64 1) := hO.cell 0
  obtain ⟨hFa, O, Q, C, hP⟩ := ha0
  have HP := Lib.hid (PTick_any hP hFa hn16 l.length (dOf_ok hc hr0.2.1) hl64)
  have HR0 := Lib.hid hr0
  have HZ := Lib.hid (And.intro h3 (And.intro h4 (And.intro h5 h6)))
  have HFA := Lib.hid hFa
  clear hw0 hP ha hb h3 h4 h5 h6 hO hr0 hFa
  go_enter Try.func33, Try.ntmps33
  go_upto_region 1 with fail
  rw [← HW.out]
  go_wp2_with fail
  refine HP.out.mono ?_
  rintro _ w1 ⟨rfl, hp1, hc1⟩
  have hr1 := HR0.out.chg hc1 (fun k hk h => HZ.out.2.2.1 k h hk)
  obtain ⟨v, hR, hFb, hl⟩ := hr1.parts
  have HRT := Lib.hid (RTick_any hR hFb hl hn)
  have HC1 := Lib.hid hc1
  have HP1 : Hid (PDx w1 Fa c D (dOf c (l ++ [⟨1, 0, 0, 0, false⟩]))) := by
    refine Lib.hid ⟨fun k hk => Nat.lt_of_lt_of_le (HFA.out k hk) hc1.size, O, Q, C, ?_⟩
    rw [dOf_snoc]
    exact hp1
  clear hp1 hc1 hr1 hR hFb hl c0
  go_wp2_with fail
  refine HRT.out.mono ?_
  rintro _ w2 ⟨rfl, F', hx, hm⟩
  have HE := Lib.hid (step_both (l := l) HZ.out.1 HZ.out.2.1 HZ.out.2.2.1 HZ.out.2.2.2 hb0 HP1.out HC1.out hx hm (by simp))
  clear hx hm
  go_wp2
  go_ret
  exact ⟨rfl, HE.out⟩
set_option maxRecDepth 100000 in
set_option maxHeartbeats 1600000 in
theorem does_leave (hc : c.Ok) (h : Pair w F c D K l) (hn : l.length < 3518437208883) :
    Calls Try.prog 33 #[.pointer (some ⟨D, 0, none⟩), .pointer (some ⟨K, 0, none⟩), .agg #[.int .i64 3, .int .i64 q, .int .i64 inc, .int .i64 tick, .slice A n cap]] w (DoesOk w F c D K l) := by
  obtain ⟨Fa, Fb, ha, hb, h3, h4, h5, h6⟩ := h
  have hcc := hc
  obtain ⟨_, hn16, hsf, _, _, _, hl64, _⟩ := hcc
  have hb0 := one_box' w (.cells #[.int .i64 3, .int .i64 q, .int .i64 inc, .int .i64 tick, .slice A n cap] 61)
  have ha0 := ha.below hb0
  have hr0 := hb.below hb0
  have hO := Blk.new w 61 #[.int .i64 3, .int .i64 q, .int .i64 inc, .int .i64 tick, .slice A n cap]
  obtain ⟨w0, hw0⟩ : ∃ w0, w0 = w.alloc (.cells #[.int .i64 3, .int .i64 q, .int .i64 inc, .int .i64 tick, .slice A n cap] 61) := ⟨_, rfl⟩
  rw [← hw0] at hb0 ha0 hr0 hO
  have HW := Lib.hid hw0
  have c0 : w0.cell? ⟨w.heap.size, 0, none⟩ = some (.int .i64 3) := hO.cell 0
  obtain ⟨hFa, O, Q, C, hP⟩ := ha0
  have HP := Lib.hid (PLeave_any hP hn16)
  have HR0 := Lib.hid hr0
  have HZ := Lib.hid (And.intro h3 (And.intro h4 (And.intro h5 h6)))
  have HFA := Lib.hid hFa
  clear hw0 hP ha hb h3 h4 h5 h6 hO hr0 hFa
  go_enter Try.func33, Try.ntmps33
  go_upto_region 1 with fail
  rw [← HW.out]
  go_wp2_with fail
  refine HP.out.mono ?_
  rintro _ w1 ⟨rfl, hp1, hc1⟩
  have hr1 := HR0.out.chg hc1 (fun k hk h => HZ.out.2.2.1 k h hk)
  obtain ⟨v, hR, hFb, hl⟩ := hr1.parts
  have HRT := Lib.hid (RLeave_any hR hFb hl hn)
  have HC1 := Lib.hid hc1
  have HP1 : Hid (PDx w1 Fa c D (dOf c (l ++ [⟨3, 0, 0, 0, false⟩]))) := by
    refine Lib.hid ⟨fun k hk => Nat.lt_of_lt_of_le (HFA.out k hk) hc1.size, O, Q, C, ?_⟩
    rw [dOf_snoc]
    exact hp1
  clear hp1 hc1 hr1 hR hFb hl c0
  go_wp2_with fail
  refine HRT.out.mono ?_
  rintro _ w2 ⟨rfl, F', hx, hm⟩
  have HE := Lib.hid (step_both (l := l) HZ.out.1 HZ.out.2.1 HZ.out.2.2.1 HZ.out.2.2.2 hb0 HP1.out HC1.out hx hm (by simp))
  clear hx hm
  go_wp2
  go_ret
  exact ⟨rfl, HE.out⟩
set_option maxRecDepth 100000 in
set_option maxHeartbeats 1600000 in
theorem does_else (kd : Int) (hk : kd ≠ 1 ∧ kd ≠ 2 ∧ kd ≠ 3) (h : Pair w F c D K l) :
    Calls Try.prog 33 #[.pointer (some ⟨D, 0, none⟩), .pointer (some ⟨K, 0, none⟩), .agg #[.int .i64 kd, .int .i64 q, .int .i64 inc, .int .i64 tick, .slice A n cap]] w (DoesOk w F c D K l) := by
  have hb0 := one_box' w (.cells #[.int .i64 kd, .int .i64 q, .int .i64 inc, .int .i64 tick, .slice A n cap] 61)
  have HE : Hid (∃ F' l', Pair (w.alloc (.cells #[.int .i64 kd, .int .i64 q, .int .i64 inc, .int .i64 tick, .slice A n cap] 61)) F' c D K l' ∧ l'.length ≤ l.length + 1 ∧ Moved w (w.alloc (.cells #[.int .i64 kd, .int .i64 q, .int .i64 inc, .int .i64 tick, .slice A n cap] 61)) F F') :=
    ⟨F, l, h.below hb0, by omega, Moved.of_below _ hb0⟩
  have e1 : (kd == 1) = false := by simpa using hk.1
  have e2 : (kd == 2) = false := by simpa using hk.2.1
  have e3 : (kd == 3) = false := by simpa using hk.2.2
  clear hk hb0
  go_enter Try.func33, Try.ntmps33
  go_wp2
  go_ret
  exact ⟨rfl, HE.out⟩
end
end Go.Proofs.Ytfjpmoigpnmeoaa
