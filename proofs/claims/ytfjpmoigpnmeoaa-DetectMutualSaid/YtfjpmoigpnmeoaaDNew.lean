/-
  The program's detector: New, Beat.
-/
import Derived.Test.YtfjpmoigpnmeoaaDHeard
namespace Go.Proofs.Ytfjpmoigpnmeoaa
open Go.RowKit
variable {w : World} {F : Nat → Prop} {c : Cfg} {D O : Nat} {d : DSt} {Q C : Nat → Nat}

def GivesB (w : World) (t : Int) (l : List Int) (e : Ending) (w' : World) : Prop := ∃ A cap, e = .returned (.agg #[.int .i64 t, .slice A l.length cap]) ∧ w'.ownsRow w.heap.size 3 1 (.slice A l.length cap) l.length (ivs l) ∧ Below w.heap.size w w'
set_option maxRecDepth 100000 in
set_option maxHeartbeats 1600000 in
theorem PBeat_any (h : PD w F c D d O Q C) (hF : ∀ k, F k → k < w.heap.size) (hn : c.n ≤ 16) (hsf : c.self < c.n) :
    Calls Try.prog 23 #[.pointer (some ⟨D, 0, none⟩)] w (GivesB w d.tick (hearsL c d)) := by
  have hb0 := one_box' w (.cells #[.int .i64 0, .slice none 0 0] 37)
  have hO := Blk.new w 37 #[.int .i64 0, .slice none 0 0]
  have HP0 := Lib.hid (h.below hF hb0)
  have HF := Lib.hid hF
  obtain ⟨w0, hw0⟩ : ∃ w0, w0 = w.alloc (.cells #[.int .i64 0, .slice none 0 0] 37) := ⟨_, rfl⟩
  rw [← hw0] at hO hb0 HP0
  have HW := Lib.hid hw0
  have hs0 := hb0.size
  have HF0 : Hid (∀ k, F k → k < w0.heap.size) := Lib.hid fun k hk => by have := hF k hk; omega
  have HL := Lib.hid (PHears_any (HP0.out.drewN 1) HF0.out hn hsf)
  have c2 : w0.drew.cell? ⟨D, 2, none⟩ = some (.int .i64 d.tick) := HP0.out.cell.2.2.1
  have HX : Hid (∀ w1, Below w0.heap.size (w0.drewN 1) w1 → w1.cell? ⟨D, 2, none⟩ = some (.int .i64 d.tick) ∧ Blk w1 w.heap.size 37 #[.int .i64 0, .slice none 0 0]) := Lib.hid fun w1 hb => ⟨((HP0.out.drewN 1).below HF0.out hb).cell.2.2.1, (hO.drewN 1).over hb⟩
  clear hw0 h hF hO
  go_enter Try.func23, Try.ntmps23
  go_upto_region 1 with fail
  rw [← HW.out]
  go_region_with (go_at_call 18; refine HL.out.mono ?_; rintro _ w1 ⟨A1, cap1, rfl, ho, hb1⟩; obtain ⟨cx, hbx⟩ := HX.out w1 hb1; have r0 := hbx.cell 0; have r1 := hbx.cell 1; have q0 := hbx.frozen 0; have q1 := hbx.frozen 1)
  all_goals
    have hz := (hbx.set_ 0 (.int .i64 d.tick)).set_ 1 (.slice A1 (hearsL c d).length cap1)
    have z0 := hz.cell 0
    have z1 := hz.cell 1
    have hbb : Below w.heap.size w ((w1.setCell ⟨w.heap.size, 0, none⟩ (.int .i64 d.tick)).setCell ⟨w.heap.size, 1, none⟩ (.slice A1 (hearsL c d).length cap1)) := ((hb0.trans ((below_drewN (Below.refl _ _) 1).trans (hb1.mono hs0))).setCell (by simp) _).setCell (by simp) _
    have hoo := (own_base (base' := w.heap.size) ho hs0)
    have hcc : Chg (fun k => k = w.heap.size) w1 ((w1.setCell ⟨w.heap.size, 0, none⟩ (.int .i64 d.tick)).setCell ⟨w.heap.size, 1, none⟩ (.slice A1 (hearsL c d).length cap1)) := ((Chg.refl (fun k => k = w.heap.size) w1).setCell (p := ⟨w.heap.size, 0, none⟩) (.inl rfl) _).setCell (p := ⟨w.heap.size, 1, none⟩) (.inl rfl) _
    have hoz := own_chg hoo hcc (fun g hg => by
      have h1 := (own_block_lt ho hg).2.1
      have h2 : w.heap.size + 1 ≤ w0.heap.size := by have := HW.out; rw [this]; simp
      have h3 : (w0.drewN 1).heap.size = w0.heap.size := rfl
      omega)
    generalize ((w1.setCell ⟨w.heap.size, 0, none⟩ (.int .i64 d.tick)).setCell ⟨w.heap.size, 1, none⟩ (.slice A1 (hearsL c d).length cap1)) = wz at *
    have HE : Hid (GivesB w d.tick (hearsL c d) (.returned (.agg #[.int .i64 d.tick, .slice A1 (hearsL c d).length cap1])) wz) := ⟨A1, cap1, rfl, hoz, hbb⟩
    have z0' : wz.cell? ⟨w.heap.size, 0, none⟩ = some (.int .i64 d.tick) := z0
    have z1' : wz.cell? ⟨w.heap.size, 1, none⟩ = some (.slice A1 (hearsL c d).length cap1) := z1
    generalize (hearsL c d).length = L at *
    clear z0 z1 hz hoz hbb hcc hoo ho hbx r0 r1 cx
    go_wp2
    exact bodyPost_ret (v := .agg #[.int .i64 d.tick, .slice A1 L cap1]) (by simp [results, Try.results23, z0', z1', go_sem]) rfl HE.out

theorem within_yes (v lo hi : Int) (w : World) (h1 : lo ≤ v) (h2 : v ≤ hi) : Calls Try.prog 61 #[.int .i64 v, .int .i64 lo, .int .i64 hi] w fun e w' => e = .returned (.bool true) ∧ w = w' := by
  go_enter Try.func61, Try.ntmps61
  go_wp2
  go_ret
  exact ⟨rfl, rfl⟩
theorem within_no (v lo hi : Int) (w : World) (h : v < lo ∨ hi < v) : Calls Try.prog 61 #[.int .i64 v, .int .i64 lo, .int .i64 hi] w fun e w' => e = .returned (.bool false) ∧ w = w' := by
  rcases h with h | h
  · have h' : ¬ lo ≤ v := by omega
    go_enter Try.func61, Try.ntmps61
    go_wp2
    go_ret
    exact ⟨rfl, rfl⟩
  · by_cases h1 : lo ≤ v
    · have h' : ¬ v ≤ hi := by omega
      go_enter Try.func61, Try.ntmps61
      go_wp2
      go_ret
      exact ⟨rfl, rfl⟩
    · go_enter Try.func61, Try.ntmps61
      go_wp2
      go_ret
      exact ⟨rfl, rfl⟩
/-- Whether the limits are kept. -/
def NewOk (n s i b st l : Int) : Prop := (1 ≤ n ∧ n ≤ 16) ∧ (0 ≤ s ∧ s ≤ n - 1) ∧ (1 ≤ i ∧ i ≤ 4611686018427387904) ∧ (1 ≤ l ∧ l ≤ 64) ∧ (1 ≤ b ∧ b ≤ l) ∧ (1 ≤ st ∧ st ≤ 64)
theorem NewOk.cfg {n s i b st l : Int} (h : NewOk n s i b st l) : ∃ c : Cfg, c.Ok ∧ n = (c.n : Int) ∧ s = (c.self : Int) ∧ i = c.inc ∧ b = c.base ∧ st = c.step ∧ l = c.lim := by
  obtain ⟨h1, h2, h3, h4, h5, h6⟩ := h
  refine ⟨⟨n.toNat, s.toNat, i, b, st, l⟩, ⟨?_, ?_, ?_, ?_, ?_, ?_, ?_, ?_, ?_, ?_, ?_⟩, ?_, ?_, rfl, rfl, rfl, rfl⟩ <;> simp only <;> omega
theorem NewOk.not {n s i b st l : Int} (h : ¬ NewOk n s i b st l) : (n < 1 ∨ 16 < n) ∨ ((1 ≤ n ∧ n ≤ 16) ∧ ((s < 0 ∨ n - 1 < s) ∨ ((0 ≤ s ∧ s ≤ n - 1) ∧ ((i < 1 ∨ 4611686018427387904 < i) ∨ ((1 ≤ i ∧ i ≤ 4611686018427387904) ∧ ((l < 1 ∨ 64 < l) ∨ ((1 ≤ l ∧ l ≤ 64) ∧ ((b < 1 ∨ l < b) ∨ ((1 ≤ b ∧ b ≤ l) ∧ (st < 1 ∨ 64 < st)))))))))) := by
  unfold NewOk at h; omega
set_option maxRecDepth 100000 in
set_option maxHeartbeats 3200000 in
theorem PNew_no (n s i b st l : Int) (w : World) (hno : ¬ NewOk n s i b st l) (hn0 : -9223372036854775808 ≤ n) (hn1 : n ≤ 9223372036854775807) :
    Calls Try.prog 42 #[.int .i64 n, .int .i64 s, .int .i64 i, .int .i64 b, .int .i64 st, .int .i64 l] w fun e w' => e = .returned (.tuple #[.pointer none, .int .i64 1]) ∧ w = w' := by
  have hno := NewOk.not hno
  rcases hno with h | ⟨h1, h | ⟨h2, h | ⟨h3, h | ⟨h4, h | ⟨h5, h⟩⟩⟩⟩⟩
  all_goals
    have HH := Lib.hid h
    clear h
    (try obtain ⟨a1, a2⟩ := h1)
    (try obtain ⟨a3, a4⟩ := h2)
    (try obtain ⟨a5, a6⟩ := h3)
    (try obtain ⟨a7, a8⟩ := h4)
    (try obtain ⟨a9, a10⟩ := h5)
    go_enter Try.func42, Try.ntmps42
    go_wp2_with (first
      | (go_at_call 61; refine (within_yes _ _ _ _ ?_ ?_).mono ?_; assumption; assumption; rintro _ _ ⟨rfl, rfl⟩)
      | (go_at_call 61; refine (within_no _ _ _ _ ?_).mono ?_; exact HH.out; rintro _ _ ⟨rfl, rfl⟩))
    go_ret2
    exact ⟨rfl, rfl⟩
end Go.Proofs.Ytfjpmoigpnmeoaa
