/-
  DetectTurns: listed, walked.
-/
import Derived.Test.YtfjpmoigpnmeoaaDTurK
import Derived.BigQuiet
import Derived.Deep.QuietTactic
namespace Go.Proofs.Ytfjpmoigpnmeoaa
open Go.RowKit
def lstT (kd : Int) (c : Cfg) (d : DSt) : List Int := if kd = 4 then hearsL c d else lstOf kd c d
def ListedP (w : World) (L : List Int) (e : Ending) (w' : World) : Prop := ∃ A1 cap1 A2 cap2, e = .returned (.tuple #[.slice A1 L.length cap1, .slice A2 L.length cap2, .bool true]) ∧
  w'.ownsRow w.heap.size 3 1 (.slice A1 L.length cap1) L.length (ivs L) ∧ w'.ownsRow w.heap.size 3 1 (.slice A2 L.length cap2) L.length (ivs L) ∧ Below w.heap.size w w'
section
variable {w : World} {c : Cfg} {D K : Nat}
set_option maxRecDepth 100000 in
set_option maxHeartbeats 1600000 in
theorem listed_4 {Fa Fb : Nat → Prop} {l : List Ev} (hc : c.Ok) (ha : PDx w Fa c D (dOf c l)) (hb : RDx w Fb c K l) (hn : l.length < 3518437208883) :
    Calls Try.prog 59 #[.pointer (some ⟨D, 0, none⟩), .pointer (some ⟨K, 0, none⟩), .int .i64 4] w (ListedP w (hearsL c (dOf c l))) := by
  have hcc := hc
  obtain ⟨hN1, hn16, hsf, _⟩ := hcc
  obtain ⟨hFa, O, Q, C, hP⟩ := ha
  obtain ⟨v, hR, hFb, hl⟩ := hb.parts
  have HP := Lib.hid (PBeat_any hP hFa hn16 hsf)
  have HR := Lib.hid fun (w1 : World) (hb1 : Below w.heap.size w w1) => RBeat_any hc (hR.below hFb hb1) (fun k hk => Nat.lt_of_lt_of_le (hFb k hk) hb1.size) hl hn
  generalize hearsL c (dOf c l) = L at *
  generalize (dOf c l).tick = t at *
  clear hP hR hFa hFb hl hb
  go_enter Try.func59, Try.ntmps59
  go_wp2_with fail
  refine HP.out.mono ?_
  rintro _ w1 ⟨A1, cap1, rfl, ho1, hb1⟩
  have hbx := one_box' w1 (.cells #[.int .i64 t, .slice A1 L.length cap1] 37)
  have hX1 := Blk.new w1 37 #[.int .i64 t, .slice A1 L.length cap1]
  have ho1' := own_over ho1 hbx
  have hb2 : Below w.heap.size w (w1.alloc (.cells #[.int .i64 t, .slice A1 L.length cap1] 37)) := hb1.trans (hbx.mono hb1.size)
  obtain ⟨w2, hw2⟩ : ∃ w2, w2 = w1.alloc (.cells #[.int .i64 t, .slice A1 L.length cap1] 37) := ⟨_, rfl⟩
  rw [← hw2] at hX1 ho1' hb2
  have HW2 := Lib.hid hw2
  have HX1 := Lib.hid hX1
  have HO1 := Lib.hid ho1'
  have hs1 := hb1.size
  clear hw2 hX1 ho1 ho1' hbx hb1
  go_upto_region 3 with fail
  rw [← HW2.out]
  go_wp2_with fail
  refine (HR.out w2 hb2).mono ?_
  rintro _ w4 ⟨A2, cap2, rfl, ho2, hb4⟩
  have hs2 := hb2.size
  have hs4 := hb4.size
  have hbx := one_box' w4 (.cells #[.int .i64 t, .slice A2 L.length cap2] 37)
  have hX2 := Blk.new w4 37 #[.int .i64 t, .slice A2 L.length cap2]
  have ho2' := own_over ho2 hbx
  have ho1' := own_over (own_over HO1.out hb4) hbx
  have hX1' := (HX1.out.over hb4).over hbx
  have hb5 : Below w.heap.size w (w4.alloc (.cells #[.int .i64 t, .slice A2 L.length cap2] 37)) := (hb2.trans (hb4.mono hs2)).trans (hbx.mono (by omega))
  obtain ⟨w5, hw5⟩ : ∃ w5, w5 = w4.alloc (.cells #[.int .i64 t, .slice A2 L.length cap2] 37) := ⟨_, rfl⟩
  rw [← hw5] at hX2 ho2' ho1' hX1' hb5
  have HW5 := Lib.hid hw5
  have x0 : w5.cell? ⟨w1.heap.size, 0, none⟩ = some (.int .i64 t) := hX1'.cell 0
  have x1 : w5.cell? ⟨w1.heap.size, 1, none⟩ = some (.slice A1 L.length cap1) := hX1'.cell 1
  have y0 : w5.cell? ⟨w4.heap.size, 0, none⟩ = some (.int .i64 t) := hX2.cell 0
  have y1 : w5.cell? ⟨w4.heap.size, 1, none⟩ = some (.slice A2 L.length cap2) := hX2.cell 1
  have HEND : Hid (∀ k, ListedP w L (.returned (.tuple #[.slice A1 L.length cap1, .slice A2 L.length cap2, .bool true])) (w5.drewN k)) := Lib.hid fun k =>
    ⟨A1, cap1, A2, cap2, rfl, own_over ho1' (below_drewN (Below.refl _ _) k), own_base (own_over ho2' (below_drewN (Below.refl _ _) k)) hs2, below_drewN hb5 k⟩
  have htt : (t == t) = true := by simp
  clear hX1' hX2 ho1' ho2' hb5 hbx hw5 ho2
  go_upto_region 4 with fail
  rw [← HW5.out]
  go_quiet (fail)
  go_wp2_with fail
  go_ret3
  exact HEND.out _
set_option maxRecDepth 100000 in
theorem listed_any {F : Nat → Prop} {l : List Ev} (hc : c.Ok) (h : Pair w F c D K l) (hn : l.length < 3518437208883) (kd : Int) :
    Calls Try.prog 59 #[.pointer (some ⟨D, 0, none⟩), .pointer (some ⟨K, 0, none⟩), .int .i64 kd] w (ListedP w (lstT kd c (dOf c l))) := by
  obtain ⟨Fa, Fb, ha, hb, _⟩ := h
  unfold lstT
  by_cases h4 : kd = 4
  · subst h4
    rw [if_pos rfl]
    exact listed_4 hc ha hb hn
  · rw [if_neg h4]
    have HL := Lib.hid (lists_any hc ha hb hn kd)
    have e4 : (kd == 4) = false := by simpa using h4
    generalize lstOf kd c (dOf c l) = L at *
    clear ha hb
    go_enter Try.func59, Try.ntmps59
    go_wp2_with (go_at_call 36; refine HL.out.mono ?_; rintro _ w1 ⟨A1, cap1, A2, cap2, rfl, ho1, ho2, hb1⟩; have HE : Hid (ListedP w L (.returned (.tuple #[.slice A1 L.length cap1, .slice A2 L.length cap2, .bool true])) w1) := Lib.hid ⟨A1, cap1, A2, cap2, rfl, ho1, ho2, hb1⟩; clear ho1 ho2 hb1)
    go_ret3
    exact HE.out
end
end Go.Proofs.Ytfjpmoigpnmeoaa
