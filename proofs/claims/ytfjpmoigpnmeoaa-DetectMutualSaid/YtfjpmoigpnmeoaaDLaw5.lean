/-
  The statements' helpers tells, made, all.
-/
import Derived.Test.YtfjpmoigpnmeoaaDLaw4
namespace Go.Proofs.Ytfjpmoigpnmeoaa
open Go.RowKit
variable {w : World} {c : Cfg} {D K : Nat} {F : Nat → Prop} {l : List Ev}

theorem does_any (A : Option Addr) (n cap : Nat) (hs : List Int) (kd q inc tick : Int) (hc : c.Ok) (h : Pair w F c D K l) (hn : l.length < 3518437208883) (hr : RdI w w.heap.size A n hs) (hm : n ≤ 17592186043904) (hA : 0 < n → ∀ b o s, A = some ⟨b, o, s⟩ → ¬ F b) :
    Calls Try.prog 33 #[.pointer (some ⟨D, 0, none⟩), .pointer (some ⟨K, 0, none⟩), .agg #[.int .i64 kd, .int .i64 q, .int .i64 inc, .int .i64 tick, .slice A n cap]] w (DoesOk w F c D K l) := by
  by_cases h1 : kd = 1
  · subst h1; exact does_tick A n cap q inc tick hc h hn
  · by_cases h2 : kd = 2
    · subst h2; exact does_heard A n cap hs q inc tick hc h hn hr hm hA
    · by_cases h3 : kd = 3
      · subst h3; exact does_leave A n cap q inc tick hc h hn
      · exact does_else A n cap q inc tick kd ⟨h1, h2, h3⟩ h
def AsksOk (w : World) (e : Ending) (w' : World) : Prop := e = .returned (.bool true) ∧ Below w.heap.size w w'
theorem otherB_nat {q : Int} (h : otherB c q = true) : ∃ j : Nat, q = (j : Int) ∧ j < c.n ∧ j ≠ c.self := by
  have hq : 0 ≤ q ∧ q < (c.n : Int) ∧ q ≠ (c.self : Int) := by simpa [otherB] using h
  exact ⟨q.toNat, by omega, by omega, by omega⟩
theorem PTimeout_any {d : DSt} {O : Nat} {Q C : Nat → Nat} (hc : c.Ok) (h : PD w F c D d O Q C) (q : Int) :
    Calls Try.prog 22 #[.pointer (some ⟨D, 0, none⟩), .int .i64 q] w fun e w' => e = .returned (.int .i64 (timeoutQ c d q)) ∧ w = w' := by
  obtain ⟨_, hn, hsf, _⟩ := hc
  cases ho : otherB c q with
  | false => rw [timeoutQ, ho]; exact timeout_no h hn hsf q ho
  | true =>
    obtain ⟨j, rfl, hj, hs⟩ := otherB_nat ho
    rw [timeoutQ, if_pos ho, Int.toNat_natCast]
    exact timeout_yes h hn hj hs
theorem PWrong_any {d : DSt} {O : Nat} {Q C : Nat → Nat} (hc : c.Ok) (h : PD w F c D d O Q C) (q : Int) :
    Calls Try.prog 21 #[.pointer (some ⟨D, 0, none⟩), .int .i64 q] w fun e w' => e = .returned (.int .i64 (wrongQ c d q)) ∧ w = w' := by
  obtain ⟨_, hn, hsf, _⟩ := hc
  cases ho : otherB c q with
  | false => rw [wrongQ, ho]; exact wrong_no h hn hsf q ho
  | true =>
    obtain ⟨j, rfl, hj, hs⟩ := otherB_nat ho
    rw [wrongQ, if_pos ho, Int.toNat_natCast]
    exact wrong_yes h hn hj hs
theorem PKnown_any {d : DSt} {O : Nat} {Q C : Nat → Nat} (hc : c.Ok) (h : PD w F c D d O Q C) (q : Int) :
    Calls Try.prog 26 #[.pointer (some ⟨D, 0, none⟩), .int .i64 q] w fun e w' => e = .returned (.int .i64 (knownQ c d q)) ∧ w = w' := by
  obtain ⟨_, hn, hsf, _⟩ := hc
  exact known_any h hn hsf q
theorem PKnown_k {Fa : Nat → Prop} {d : DSt} (hc : c.Ok) (q : Int) (w0 : World) (h : PDx w0 Fa c D d) (w : World) (hk : Hid (Below w0.heap.size w0 w)) :
    Calls Try.prog 26 #[.pointer (some ⟨D, 0, none⟩), .int .i64 q] w fun e w' => e = .returned (.int .i64 (knownQ c d q)) ∧ w = w' := by
  obtain ⟨hF, O, Q, C, hP⟩ := h.below hk.out
  exact PKnown_any hc hP q
theorem RKnown_k {Fb : Nat → Prop} (hc : c.Ok) (hn : l.length < 3518437208883) (q : Int) (w0 : World) (h : RDx w0 Fb c K l) (w : World) (hk : Hid (Below w0.heap.size w0 w)) (g i : Nat) (v : Value) (hg : g < w0.heap.size) (hcl : w.cell? ⟨g, i, none⟩ = some v) :
    Calls Try.prog 51 #[.pointer (some ⟨K, 0, none⟩), .int .i64 q] w fun e w' => e = .returned (.int .i64 (knownQ c (dOf c l) q)) ∧ w'.cell? ⟨g, i, none⟩ = some v ∧ Hid (Below w0.heap.size w0 w') := by
  obtain ⟨v', hR, hF, hl⟩ := (h.below hk.out).parts
  have hs := hk.out.size
  exact (RKnown_any hc hR hF hl hn q).mono fun _ _ ⟨h1, h2⟩ => ⟨h1, ((bcell h2).1 g i (by omega)).trans hcl, hk.out.trans (h2.mono hs)⟩
theorem PTimeout_k {Fa : Nat → Prop} {d : DSt} (hc : c.Ok) (q : Int) (w0 : World) (h : PDx w0 Fa c D d) (w : World) (hk : Hid (Below w0.heap.size w0 w)) :
    Calls Try.prog 22 #[.pointer (some ⟨D, 0, none⟩), .int .i64 q] w fun e w' => e = .returned (.int .i64 (timeoutQ c d q)) ∧ w = w' := by
  obtain ⟨hF, O, Q, C, hP⟩ := h.below hk.out
  exact PTimeout_any hc hP q
theorem RTimeout_k {Fb : Nat → Prop} (hc : c.Ok) (hn : l.length < 3518437208883) (q : Int) (w0 : World) (h : RDx w0 Fb c K l) (w : World) (hk : Hid (Below w0.heap.size w0 w)) (g i : Nat) (v : Value) (hg : g < w0.heap.size) (hcl : w.cell? ⟨g, i, none⟩ = some v) :
    Calls Try.prog 52 #[.pointer (some ⟨K, 0, none⟩), .int .i64 q] w fun e w' => e = .returned (.int .i64 (timeoutQ c (dOf c l) q)) ∧ w'.cell? ⟨g, i, none⟩ = some v ∧ Hid (Below w0.heap.size w0 w') := by
  obtain ⟨v', hR, hF, hl⟩ := (h.below hk.out).parts
  have hs := hk.out.size
  exact (RTimeout_any hc hR hF hl hn q).mono fun _ _ ⟨h1, h2⟩ => ⟨h1, ((bcell h2).1 g i (by omega)).trans hcl, hk.out.trans (h2.mono hs)⟩
theorem PWrong_k {Fa : Nat → Prop} {d : DSt} (hc : c.Ok) (q : Int) (w0 : World) (h : PDx w0 Fa c D d) (w : World) (hk : Hid (Below w0.heap.size w0 w)) :
    Calls Try.prog 21 #[.pointer (some ⟨D, 0, none⟩), .int .i64 q] w fun e w' => e = .returned (.int .i64 (wrongQ c d q)) ∧ w = w' := by
  obtain ⟨hF, O, Q, C, hP⟩ := h.below hk.out
  exact PWrong_any hc hP q
theorem RWrong_k {Fb : Nat → Prop} (hc : c.Ok) (hn : l.length < 3518437208883) (q : Int) (w0 : World) (h : RDx w0 Fb c K l) (w : World) (hk : Hid (Below w0.heap.size w0 w)) (g i : Nat) (v : Value) (hg : g < w0.heap.size) (hcl : w.cell? ⟨g, i, none⟩ = some v) :
    Calls Try.prog 53 #[.pointer (some ⟨K, 0, none⟩), .int .i64 q] w fun e w' => e = .returned (.int .i64 (wrongQ c (dOf c l) q)) ∧ w'.cell? ⟨g, i, none⟩ = some v ∧ Hid (Below w0.heap.size w0 w') := by
  obtain ⟨v', hR, hF, hl⟩ := (h.below hk.out).parts
  have hs := hk.out.size
  exact (RWrong_any hc hR hF hl hn q).mono fun _ _ ⟨h1, h2⟩ => ⟨h1, ((bcell h2).1 g i (by omega)).trans hcl, hk.out.trans (h2.mono hs)⟩
set_option maxRecDepth 100000 in
set_option maxHeartbeats 3200000 in
theorem tells_Known (A : Option Addr) (n cap : Nat) (q inc tick : Int) (hc : c.Ok) (h : Pair w F c D K l) (hn : l.length < 3518437208883) :
    Calls Try.prog 34 #[.pointer (some ⟨D, 0, none⟩), .pointer (some ⟨K, 0, none⟩), .agg #[.int .i64 8, .int .i64 q, .int .i64 inc, .int .i64 tick, .slice A n cap]] w (AsksOk w) := by
  obtain ⟨Fa, Fb, ha, hb, _, _, _, _⟩ := h
  have hb0 := one_box' w (.cells #[.int .i64 8, .int .i64 q, .int .i64 inc, .int .i64 tick, .slice A n cap] 61)
  have hO := Blk.new w 61 #[.int .i64 8, .int .i64 q, .int .i64 inc, .int .i64 tick, .slice A n cap]
  have ha0 := ha.below hb0
  have hr0 := hb.below hb0
  obtain ⟨w0, hw0⟩ : ∃ w0, w0 = w.alloc (.cells #[.int .i64 8, .int .i64 q, .int .i64 inc, .int .i64 tick, .slice A n cap] 61) := ⟨_, rfl⟩
  rw [← hw0] at hb0 ha0 hr0 hO
  have HW := Lib.hid hw0
  have c0 : w0.cell? ⟨w.heap.size, 0, none⟩ = some (.int .i64 8) := hO.cell 0
  have c1 : w0.cell? ⟨w.heap.size, 1, none⟩ = some (.int .i64 q) := hO.cell 1
  have hlt0 := hO.lt
  have hsb := hb0.size
  have e9 : (knownQ c (dOf c l) q == knownQ c (dOf c l) q) = true := by simp
  clear hw0 ha hb hO
  go_enter Try.func34, Try.ntmps34
  go_upto_region 1 with fail
  rw [← HW.out]
  go_wp2_with fail
  go_region_held3 (fun w' => w'.cell? ⟨w.heap.size, 1, none⟩ = some (.int .i64 q) ∧ Hid (Below w0.heap.size w0 w')) ((first | assumption | exact ⟨c1, below_drewN (Below.refl _ _) 1⟩ | (exact ⟨by assumption, by assumption⟩)))
    ((first
      | (go_at_call 26; refine (PKnown_k hc q w0 ha0 _ (by first | assumption | exact And.right ‹_ ∧ Hid (Below w0.heap.size w0 _)›)).mono ?_; rintro _ _ ⟨rfl, rfl⟩)
      | (go_at_call 51; refine (RKnown_k hc hn q w0 hr0 _ (by first | assumption | exact And.right ‹_ ∧ Hid (Below w0.heap.size w0 _)›) w.heap.size 1 (.int .i64 q) hlt0 (by first | assumption | exact And.left ‹_ ∧ Hid (Below w0.heap.size w0 _)›)).mono ?_; rintro _ _ ⟨rfl, _, _⟩)))
  all_goals
    go_wp2
    go_ret
    exact ⟨rfl, hb0.trans (Below.mono (Hid.out (by first | assumption | exact And.right ‹_ ∧ Hid (Below w0.heap.size w0 _)›)) hsb)⟩
set_option maxRecDepth 100000 in
set_option maxHeartbeats 3200000 in
theorem tells_Timeout (A : Option Addr) (n cap : Nat) (q inc tick : Int) (hc : c.Ok) (h : Pair w F c D K l) (hn : l.length < 3518437208883) :
    Calls Try.prog 34 #[.pointer (some ⟨D, 0, none⟩), .pointer (some ⟨K, 0, none⟩), .agg #[.int .i64 9, .int .i64 q, .int .i64 inc, .int .i64 tick, .slice A n cap]] w (AsksOk w) := by
  obtain ⟨Fa, Fb, ha, hb, _, _, _, _⟩ := h
  have hb0 := one_box' w (.cells #[.int .i64 9, .int .i64 q, .int .i64 inc, .int .i64 tick, .slice A n cap] 61)
  have hO := Blk.new w 61 #[.int .i64 9, .int .i64 q, .int .i64 inc, .int .i64 tick, .slice A n cap]
  have ha0 := ha.below hb0
  have hr0 := hb.below hb0
  obtain ⟨w0, hw0⟩ : ∃ w0, w0 = w.alloc (.cells #[.int .i64 9, .int .i64 q, .int .i64 inc, .int .i64 tick, .slice A n cap] 61) := ⟨_, rfl⟩
  rw [← hw0] at hb0 ha0 hr0 hO
  have HW := Lib.hid hw0
  have c0 : w0.cell? ⟨w.heap.size, 0, none⟩ = some (.int .i64 9) := hO.cell 0
  have c1 : w0.cell? ⟨w.heap.size, 1, none⟩ = some (.int .i64 q) := hO.cell 1
  have hlt0 := hO.lt
  have hsb := hb0.size
  have e9 : (timeoutQ c (dOf c l) q == timeoutQ c (dOf c l) q) = true := by simp
  clear hw0 ha hb hO
  go_enter Try.func34, Try.ntmps34
  go_upto_region 1 with fail
  rw [← HW.out]
  go_wp2_with fail
  go_region_held3 (fun w' => w'.cell? ⟨w.heap.size, 1, none⟩ = some (.int .i64 q) ∧ Hid (Below w0.heap.size w0 w')) ((first | assumption | exact ⟨c1, below_drewN (Below.refl _ _) 1⟩ | (exact ⟨by assumption, by assumption⟩)))
    ((first
      | (go_at_call 22; refine (PTimeout_k hc q w0 ha0 _ (by first | assumption | exact And.right ‹_ ∧ Hid (Below w0.heap.size w0 _)›)).mono ?_; rintro _ _ ⟨rfl, rfl⟩)
      | (go_at_call 52; refine (RTimeout_k hc hn q w0 hr0 _ (by first | assumption | exact And.right ‹_ ∧ Hid (Below w0.heap.size w0 _)›) w.heap.size 1 (.int .i64 q) hlt0 (by first | assumption | exact And.left ‹_ ∧ Hid (Below w0.heap.size w0 _)›)).mono ?_; rintro _ _ ⟨rfl, _, _⟩)))
  all_goals
    go_wp2
    go_ret
    exact ⟨rfl, hb0.trans (Below.mono (Hid.out (by first | assumption | exact And.right ‹_ ∧ Hid (Below w0.heap.size w0 _)›)) hsb)⟩
set_option maxRecDepth 100000 in
set_option maxHeartbeats 3200000 in
theorem tells_Wrong (A : Option Addr) (n cap : Nat) (q inc tick : Int) (hc : c.Ok) (h : Pair w F c D K l) (hn : l.length < 3518437208883) :
    Calls Try.prog 34 #[.pointer (some ⟨D, 0, none⟩), .pointer (some ⟨K, 0, none⟩), .agg #[.int .i64 10, .int .i64 q, .int .i64 inc, .int .i64 tick, .slice A n cap]] w (AsksOk w) := by
  obtain ⟨Fa, Fb, ha, hb, _, _, _, _⟩ := h
  have hb0 := one_box' w (.cells #[.int .i64 10, .int .i64 q, .int .i64 inc, .int .i64 tick, .slice A n cap] 61)
  have hO := Blk.new w 61 #[.int .i64 10, .int .i64 q, .int .i64 inc, .int .i64 tick, .slice A n cap]
  have ha0 := ha.below hb0
  have hr0 := hb.below hb0
  obtain ⟨w0, hw0⟩ : ∃ w0, w0 = w.alloc (.cells #[.int .i64 10, .int .i64 q, .int .i64 inc, .int .i64 tick, .slice A n cap] 61) := ⟨_, rfl⟩
  rw [← hw0] at hb0 ha0 hr0 hO
  have HW := Lib.hid hw0
  have c0 : w0.cell? ⟨w.heap.size, 0, none⟩ = some (.int .i64 10) := hO.cell 0
  have c1 : w0.cell? ⟨w.heap.size, 1, none⟩ = some (.int .i64 q) := hO.cell 1
  have hlt0 := hO.lt
  have hsb := hb0.size
  have e9 : (wrongQ c (dOf c l) q == wrongQ c (dOf c l) q) = true := by simp
  clear hw0 ha hb hO
  go_enter Try.func34, Try.ntmps34
  go_upto_region 1 with fail
  rw [← HW.out]
  go_wp2_with fail
  go_region_held3 (fun w' => w'.cell? ⟨w.heap.size, 1, none⟩ = some (.int .i64 q) ∧ Hid (Below w0.heap.size w0 w')) ((first | assumption | exact ⟨c1, below_drewN (Below.refl _ _) 1⟩ | (exact ⟨by assumption, by assumption⟩)))
    ((first
      | (go_at_call 21; refine (PWrong_k hc q w0 ha0 _ (by first | assumption | exact And.right ‹_ ∧ Hid (Below w0.heap.size w0 _)›)).mono ?_; rintro _ _ ⟨rfl, rfl⟩)
      | (go_at_call 53; refine (RWrong_k hc hn q w0 hr0 _ (by first | assumption | exact And.right ‹_ ∧ Hid (Below w0.heap.size w0 _)›) w.heap.size 1 (.int .i64 q) hlt0 (by first | assumption | exact And.left ‹_ ∧ Hid (Below w0.heap.size w0 _)›)).mono ?_; rintro _ _ ⟨rfl, _, _⟩)))
  all_goals
    go_wp2
    go_ret
    exact ⟨rfl, hb0.trans (Below.mono (Hid.out (by first | assumption | exact And.right ‹_ ∧ Hid (Below w0.heap.size w0 _)›)) hsb)⟩
set_option maxRecDepth 100000 in
set_option maxHeartbeats 3200000 in
theorem tells_list (A : Option Addr) (n cap : Nat) (kd q inc tick : Int) (hk : kd ≠ 8 ∧ kd ≠ 9 ∧ kd ≠ 10) (hc : c.Ok) (h : Pair w F c D K l) (hn : l.length < 3518437208883) :
    Calls Try.prog 34 #[.pointer (some ⟨D, 0, none⟩), .pointer (some ⟨K, 0, none⟩), .agg #[.int .i64 kd, .int .i64 q, .int .i64 inc, .int .i64 tick, .slice A n cap]] w (AsksOk w) := by
  have hb0 := one_box' w (.cells #[.int .i64 kd, .int .i64 q, .int .i64 inc, .int .i64 tick, .slice A n cap] 61)
  have hO := Blk.new w 61 #[.int .i64 kd, .int .i64 q, .int .i64 inc, .int .i64 tick, .slice A n cap]
  obtain ⟨Fa, Fb, ha, hb, _⟩ := h.below hb0
  obtain ⟨w0, hw0⟩ : ∃ w0, w0 = w.alloc (.cells #[.int .i64 kd, .int .i64 q, .int .i64 inc, .int .i64 tick, .slice A n cap] 61) := ⟨_, rfl⟩
  rw [← hw0] at hb0 ha hb hO
  have HW := Lib.hid hw0
  have HL := Lib.hid (lists_any hc ha hb hn kd)
  have hLL : (lstOf kd c (dOf c l)).length ≤ 140737488351232 := by
    obtain ⟨_, h16, _⟩ := hc
    unfold lstOf
    have h1 : (hearsL c (dOf c l)).length = c.n := by simp [hearsL]
    have h2 : (estL c (dOf c l)).length = c.n := by simp [estL]
    have h3 := suspL_len c (dOf c l) c.n
    split
    · rw [List.length_cons]; omega
    · split
      · omega
      · split
        · omega
        · split
          · omega
          · simp
  generalize lstOf kd c (dOf c l) = L at *
  have c0 : w0.cell? ⟨w.heap.size, 0, none⟩ = some (.int .i64 kd) := hO.cell 0
  have e1 : (kd == 8) = false := by simpa using hk.1
  have e2 : (kd == 9) = false := by simpa using hk.2.1
  have e3 : (kd == 10) = false := by simpa using hk.2.2
  have hs0 := hb0.size
  clear hw0 ha hb hO hk
  go_enter Try.func34, Try.ntmps34
  go_upto_region 1 with fail
  rw [← HW.out]
  go_wp2_with fail
  refine HL.out.mono ?_
  rintro _ w1 ⟨A1, cap1, A2, cap2, rfl, ho1, ho2, hb1⟩
  have hs1 := hb1.size
  have HR := Lib.hid (same_yes A1 A2 L.length cap1 cap2 L w1 (Rd.of_own ho1) (Rd.of_own ho2) hLL)
  clear ho1 ho2 c0
  generalize L.length = LN at *
  go_wp2_with fail
  refine HR.out.mono ?_
  rintro _ w2 ⟨rfl, hb2⟩
  go_wp2
  go_ret
  exact ⟨rfl, hb0.trans ((hb1.trans (hb2.mono hs1)).mono hs0)⟩
theorem tells_any (A : Option Addr) (n cap : Nat) (kd q inc tick : Int) (hc : c.Ok) (h : Pair w F c D K l) (hn : l.length < 3518437208883) :
    Calls Try.prog 34 #[.pointer (some ⟨D, 0, none⟩), .pointer (some ⟨K, 0, none⟩), .agg #[.int .i64 kd, .int .i64 q, .int .i64 inc, .int .i64 tick, .slice A n cap]] w (AsksOk w) := by
  by_cases h1 : kd = 8
  · subst h1; exact tells_Known A n cap q inc tick hc h hn
  · by_cases h2 : kd = 9
    · subst h2; exact tells_Timeout A n cap q inc tick hc h hn
    · by_cases h3 : kd = 10
      · subst h3; exact tells_Wrong A n cap q inc tick hc h hn
      · exact tells_list A n cap kd q inc tick ⟨h1, h2, h3⟩ hc h hn
end Go.Proofs.Ytfjpmoigpnmeoaa
