/-
  The outright statements: one detector that lives, began, gone.
-/
import Derived.Test.YtfjpmoigpnmeoaaDOut1
namespace Go.Proofs.Ytfjpmoigpnmeoaa
open Go.RowKit
variable {w w' w0 : World} {c : Cfg} {D : Nat} {F : Nat → Prop} {d : DSt} {m : Nat}

/-- A detector of the call's own (made behind w0). -/
structure Live (w0 w : World) (F : Nat → Prop) (c : Cfg) (D : Nat) (d : DSt) (m : Nat) : Prop where
  p : PDx w F c D d
  ok : d.Ok c m
  fw : ∀ k, F k → w0.heap.size ≤ k
  below : Below w0.heap.size w0 w
theorem Live.over (h : Live w0 w F c D d m) (hb : Below w.heap.size w w') : Live w0 w' F c D d m := ⟨h.p.below hb, h.ok, h.fw, h.below.trans (hb.mono h.below.size)⟩
theorem Live.step {d' : DSt} {m' : Nat} (h : Live w0 w F c D d m) (hp : PDx w' F c D d') (hok : d'.Ok c m') (hc : Chg F w w') : Live w0 w' F c D d' m' :=
  ⟨hp, hok, h.fw, h.below.trans (hc.to_below h.below.size fun k hk => h.fw k hk)⟩
theorem hearE_zero {c : Cfg} {d : DSt} {q inc tick : Int} {hs : List Int} (h : hearE c d q inc tick hs = 0) : 1 ≤ inc ∧ inc ≤ 4611686018427387904 ∧ 0 ≤ tick ∧ tick ≤ 4611686018427387904 := by
  unfold hearE at h
  split at h
  · omega
  · rename_i hf
    have hf : fits c q inc tick hs = true := by simpa using hf
    rw [fits_eq] at hf
    simp only [Bool.and_eq_true, decide_eq_true_eq, validB] at hf
    omega
theorem hearD_ok {hc : c.Ok} (h : d.Ok c m) (q inc tick : Int) (hs : List Int) : (hearD c d q inc tick hs).Ok c (m + 1) := by
  unfold hearD
  split
  · rename_i h0
    obtain ⟨a, b, e, f⟩ := hearE_zero h0
    exact h.beat hc _ _ _ _ a b e f
  · exact h.mono (by omega)
theorem hearD_left (c : Cfg) (d : DSt) (q inc tick : Int) (hs : List Int) : (hearD c d q inc tick hs).left = d.left := by unfold hearD; split <;> rfl
theorem PTick_x (hc : c.Ok) (h : Live w0 w F c D d m) : Calls Try.prog 16 #[.pointer (some ⟨D, 0, none⟩)] w fun e w' => e = .returned (.tuple #[]) ∧ Live w0 w' F c D (tickD d) m ∧ Chg F w w' := by
  have hcc := hc
  obtain ⟨_, hn, _, _, _, _, hl, _⟩ := hcc
  obtain ⟨hF, O, Q, C, hP⟩ := h.p
  exact (PTick_any hP hF hn m h.ok hl).mono fun _ _ ⟨h1, h2, h3⟩ => ⟨h1, h.step ⟨fun k hk => Nat.lt_of_lt_of_le (hF k hk) h3.size, O, Q, C, h2⟩ (h.ok.tick hc) h3, h3⟩
theorem PLeave_x (hc : c.Ok) (h : Live w0 w F c D d m) : Calls Try.prog 25 #[.pointer (some ⟨D, 0, none⟩)] w fun e w' => e = .returned (.tuple #[]) ∧ Live w0 w' F c D (leaveD d) m ∧ Chg F w w' := by
  obtain ⟨_, hn, _⟩ := hc
  obtain ⟨hF, O, Q, C, hP⟩ := h.p
  exact (PLeave_any hP hn).mono fun _ _ ⟨h1, h2, h3⟩ => ⟨h1, h.step ⟨fun k hk => Nat.lt_of_lt_of_le (hF k hk) h3.size, O, Q, C, h2⟩ h.ok.leave h3, h3⟩
theorem PHeard_x (hc : c.Ok) (h : Live w0 w F c D d m) (hm : m < 4611686018427387904) (A : Option Addr) (n cap : Nat) (hs : List Int) (q inc tick : Int) (hr : RdI w w.heap.size A n hs) (hn : n ≤ 140737488351232) (hA : 0 < n → ∀ b o s, A = some ⟨b, o, s⟩ → ¬ F b) :
    Calls Try.prog 13 #[.pointer (some ⟨D, 0, none⟩), .int .i64 q, .int .i64 inc, .agg #[.int .i64 tick, .slice A n cap]] w fun e w' => e = .returned (.int .i64 (hearE c d q inc tick hs)) ∧ Live w0 w' F c D (hearD c d q inc tick hs) (m + 1) ∧ Chg F w w' := by
  obtain ⟨hF, O, Q, C, hP⟩ := h.p
  exact (PHeard_any A n cap hs q inc tick hc hP hF hr hn hA m h.ok hm).mono fun _ _ ⟨h1, h2, h3⟩ => ⟨h1, h.step ⟨fun k hk => Nat.lt_of_lt_of_le (hF k hk) h3.size, O, Q, C, h2⟩ (hearD_ok (hc := hc) h.ok q inc tick hs) h3, h3⟩
/-- A beat whose list was just made. -/
theorem PHeard_f (hc : c.Ok) (h : Live w0 w F c D d m) (hm : m < 4611686018427387904) (g cap : Nat) (hs : List Int) (q inc tick : Int) (hl : hs.length ≤ 140737488351232) (w1 : World) (hb : Below w.heap.size w w1) (hg : w.heap.size ≤ g) (hB : Blk w1 g 3 (rg hs.length fun j => .int .i64 (hs.getD j 0))) :
    Calls Try.prog 13 #[.pointer (some ⟨D, 0, none⟩), .int .i64 q, .int .i64 inc, .agg #[.int .i64 tick, .slice (some ⟨g, 0, none⟩) hs.length cap]] w1 fun e w' => e = .returned (.int .i64 (hearE c d q inc tick hs)) ∧ Live w0 w' F c D (hearD c d q inc tick hs) (m + 1) ∧ Chg F w1 w' :=
  PHeard_x hc (h.over hb) hm _ _ cap hs q inc tick (rg_rd hB) hl (fun _ b o s e hk => by
    injection e with e; injection e with e; subst e
    have := h.p.1 _ hk; omega)
theorem GivesL.rd {l : List Int} {e : Ending} (h : GivesL w l e w') : ∃ A cap, e = .returned (.slice A l.length cap) ∧ RdI w' w'.heap.size A l.length l ∧ Below w.heap.size w w' := by
  obtain ⟨A, cap, he, ho, hb⟩ := h
  exact ⟨A, cap, he, Rd.of_own ho, hb⟩
theorem PHears_x (hc : c.Ok) (h : Live w0 w F c D d m) : Calls Try.prog 18 #[.pointer (some ⟨D, 0, none⟩)] w (GivesL w (hearsL c d)) := by
  obtain ⟨hF, O, Q, C, hP⟩ := h.p
  exact PHears_any hP hF hc.2.1 hc.2.2.1
theorem PEst_x (hc : c.Ok) (h : Live w0 w F c D d m) : Calls Try.prog 19 #[.pointer (some ⟨D, 0, none⟩)] w (GivesL w (estL c d)) := by
  obtain ⟨hF, O, Q, C, hP⟩ := h.p
  exact PEst_any hP hF hc.2.1 hc.2.2.1
theorem PSusp_x (hc : c.Ok) (h : Live w0 w F c D d m) : Calls Try.prog 28 #[.pointer (some ⟨D, 0, none⟩)] w (GivesL w (suspL c d c.n)) := by
  obtain ⟨hF, O, Q, C, hP⟩ := h.p
  exact PSusp_any hP hF hc.2.1
theorem PBeat_x (hc : c.Ok) (h : Live w0 w F c D d m) : Calls Try.prog 23 #[.pointer (some ⟨D, 0, none⟩)] w (GivesB w d.tick (hearsL c d)) := by
  obtain ⟨hF, O, Q, C, hP⟩ := h.p
  exact PBeat_any hP hF hc.2.1 hc.2.2.1
theorem PKnown_x (hc : c.Ok) (h : Live w0 w F c D d m) (q : Int) : Calls Try.prog 26 #[.pointer (some ⟨D, 0, none⟩), .int .i64 q] w fun e w' => e = .returned (.int .i64 (knownQ c d q)) ∧ w = w' := by
  obtain ⟨hF, O, Q, C, hP⟩ := h.p
  exact PKnown_any hc hP q
theorem PTimeout_x (hc : c.Ok) (h : Live w0 w F c D d m) (q : Int) : Calls Try.prog 22 #[.pointer (some ⟨D, 0, none⟩), .int .i64 q] w fun e w' => e = .returned (.int .i64 (timeoutQ c d q)) ∧ w = w' := by
  obtain ⟨hF, O, Q, C, hP⟩ := h.p
  exact PTimeout_any hc hP q
theorem PWrong_x (hc : c.Ok) (h : Live w0 w F c D d m) (q : Int) : Calls Try.prog 21 #[.pointer (some ⟨D, 0, none⟩), .int .i64 q] w fun e w' => e = .returned (.int .i64 (wrongQ c d q)) ∧ w = w' := by
  obtain ⟨hF, O, Q, C, hP⟩ := h.p
  exact PWrong_any hc hP q
theorem hears_len (c : Cfg) (d : DSt) : (hearsL c d).length = c.n := by simp [hearsL]
theorem est_len (c : Cfg) (d : DSt) : (estL c d).length = c.n := by simp [estL]
theorem at_hears (c : Cfg) (d : DSt) {j : Nat} (hj : j < c.n) : atZ (hearsL c d) (j : Int) = hearsAt c d j := by
  unfold atZ
  rw [if_neg (by omega), hears_len, if_neg (by omega), Int.toNat_natCast]
  simp [hearsL, List.getD, hj]
theorem at_est (c : Cfg) (d : DSt) {j : Nat} (hj : j < c.n) : atZ (estL c d) (j : Int) = estAt c d j := by
  unfold atZ
  rw [if_neg (by omega), est_len, if_neg (by omega), Int.toNat_natCast]
  simp [estL, List.getD, hj]
theorem holds_susp (c : Cfg) (d : DSt) {j : Nat} (hj : j < c.n) : holdsB (suspL c d c.n) (j : Int) = susp c d j := by
  unfold holdsB suspL
  rw [Bool.eq_iff_iff, List.any_eq_true]
  constructor
  · rintro ⟨x, hx, he⟩
    simp only [List.mem_map, List.mem_filter, List.mem_range] at hx
    obtain ⟨k, ⟨_, hk⟩, rfl⟩ := hx
    have : k = j := by have := (beq_iff_eq.1 he); omega
    rw [← this]; exact hk
  · intro h
    exact ⟨(j : Int), by simp only [List.mem_map, List.mem_filter, List.mem_range]; exact ⟨j, ⟨hj, h⟩, rfl⟩, by simp⟩
/-- Not heard, in no estimate, suspected. -/
def goneB (c : Cfg) (d : DSt) (j : Nat) : Bool := (hearsAt c d j == 0) && (estAt c d j == 0) && susp c d j
set_option maxRecDepth 100000 in
set_option maxHeartbeats 3200000 in
theorem gone_yes (hc : c.Ok) (h : Live w0 w F c D d m) {j : Nat} (hj : j < c.n) (h1 : hearsAt c d j = 0) (h2 : estAt c d j = 0) (h3 : susp c d j = true) :
    Calls Try.prog 29 #[.pointer (some ⟨D, 0, none⟩), .int .i64 (j : Int)] w fun e w' => e = .returned (.bool true) ∧ Below w.heap.size w w' := by
  have hn := hc.2.1
  have HH := Lib.hid (PHears_x hc h)
  have HE := Lib.hid fun (w1 : World) (hb : Below w.heap.size w w1) => PEst_x hc (h.over hb)
  have HS := Lib.hid fun (w1 : World) (hb : Below w.heap.size w w1) => PSusp_x hc (h.over hb)
  have A1 : Hid (atZ (hearsL c d) (j : Int) = 0 ∧ (hearsL c d).length ≤ 16) := Lib.hid ⟨by rw [at_hears c d hj, h1], by rw [hears_len]; exact hn⟩
  have A2 : Hid (atZ (estL c d) (j : Int) = 0 ∧ (estL c d).length ≤ 16) := Lib.hid ⟨by rw [at_est c d hj, h2], by rw [est_len]; exact hn⟩
  have A3 : Hid (holdsB (suspL c d c.n) (j : Int) = true ∧ (suspL c d c.n).length ≤ 16) := Lib.hid ⟨by rw [holds_susp c d hj, h3], by have := suspL_len c d c.n; omega⟩
  generalize hearsL c d = L1 at *
  generalize estL c d = L2 at *
  generalize suspL c d c.n = L3 at *
  clear h h1 h2 h3
  go_enter Try.func29, Try.ntmps29
  go_wp2_with fail
  refine HH.out.mono ?_
  intro e1 w1 g1
  obtain ⟨B1, k1, rfl, hr1, hb1⟩ := g1.rd
  have H1 := Lib.hid (at_any B1 L1.length k1 L1 (j : Int) w1 hr1)
  rw [A1.out.1] at H1
  clear g1 hr1
  go_wp2_with fail
  refine H1.out.mono ?_
  rintro _ _ ⟨rfl, rfl⟩
  go_wp2_with fail
  refine (HE.out w1 hb1).mono ?_
  intro e2 w2 g2
  obtain ⟨B2, k2, rfl, hr2, hb2⟩ := g2.rd
  have hb02 := hb1.trans (hb2.mono hb1.size)
  have H2 := Lib.hid (at_any B2 L2.length k2 L2 (j : Int) w2 hr2)
  rw [A2.out.1] at H2
  clear g2 hr2
  go_wp2_with fail
  refine H2.out.mono ?_
  rintro _ _ ⟨rfl, rfl⟩
  go_wp2_with fail
  refine (HS.out w2 hb02).mono ?_
  intro e3 w3 g3
  obtain ⟨B3, k3, rfl, hr3, hb3⟩ := g3.rd
  have hb03 := hb02.trans (hb3.mono hb02.size)
  have H3 := Lib.hid (holds_any B3 L3.length k3 L3 (j : Int) w3 hr3 (by have := A3.out.2; omega))
  rw [A3.out.1] at H3
  clear g3 hr3
  go_wp2_with fail
  refine H3.out.mono ?_
  rintro _ _ ⟨rfl, rfl⟩
  go_wp2
  go_ret
  exact ⟨rfl, hb03⟩
end Go.Proofs.Ytfjpmoigpnmeoaa
