/-
  JournalAll: the law, walked.
-/
import Derived.Test.YtpkdalpjfcopbaaDoorMPlay
import Derived.Test.YtpkdalpjfcopbaaDoorMOps
namespace Go.Proofs.YtpkdalpjfcopbaaDoor
open Go.RowKit
/-- Two pairs apart, both behind the law's beginning. -/
def Two (w : World) (pa pb m : Nat) (wr : World) : Prop := ∃ Ga Gb ja jb fa fb, POk wr Ga pa ja fa ∧ POk wr Gb pb jb fb ∧ ja.Fine ∧ jb.Fine ∧ fa.a.length + fa.b.length ≤ m ∧ fb.a.length + fb.b.length ≤ m ∧ (∀ k, Ga k → ¬ Gb k) ∧ (∀ k, Ga k → w.heap.size ≤ k) ∧ (∀ k, Gb k → w.heap.size ≤ k) ∧ Below w.heap.size w wr
theorem Two.below {w wr : World} {pa pb m : Nat} (h : Two w pa pb m wr) : Below w.heap.size w wr := by
  obtain ⟨_, _, _, _, _, _, _, _, _, _, _, _, _, _, _, h⟩ := h
  exact h
theorem Two.swap {w wr : World} {pa pb m : Nat} (h : Two w pa pb m wr) : Two w pb pa m wr := by
  obtain ⟨Ga, Gb, ja, jb, fa, fb, h1, h2, h3, h4, h5, h6, h7, h8, h9, h10⟩ := h
  exact ⟨Gb, Ga, jb, ja, fb, fa, h2, h1, h4, h3, h6, h5, fun k hb ha => h7 k ha hb, h9, h8, h10⟩
theorem Two.plays {w wr : World} {pa pb m : Nat} (h : Two w pa pb m wr) (kd on kn L rk : Int) (A : Option Addr) (n cap : Nat) (body : List UInt8) (hr : RdB wr w.heap.size A n body) (hnc : n ≤ cap) (hcap : cap ≤ 140737488351232) (hkn : kn ≤ 9223372036854775807) (hm : m ≤ 4398045000000) (ht : Nibs w) :
    Calls Tryd.prog 29 #[.pointer (some ⟨pa, 0, none⟩), .agg #[.int .i64 kd, .int .i64 on, .int .i64 kn, .int .i64 L, .int .i64 rk, .slice A n cap]] wr fun e w' => e = .returned (.bool true) ∧ Two w pa pb (m + 131074) w' := by
  obtain ⟨Ga, Gb, ja, jb, fa, fb, h1, h2, h3, h4, h5, h6, h7, h8, h9, h10⟩ := h
  have hnb : 0 < w.heap.size := cell_lt (ht 0 (by omega))
  refine (plays_any kd on kn L rk A n cap body h1 h3 h10.size h8 hr hnc hcap hkn (by omega) (ht.below h10) hnb).mono fun e w' ⟨he, j', f', hp, hf, hl, hc⟩ => ⟨he, Grow Ga wr w', Gb, j', jb, f', fb, hp, h2.chg hc fun k hk ha => h7 k ha hk, hf, h4, by omega, by omega, fun k hk hb => ?_, fun k hk => ?_, h9, h10.trans (hc.to_below h10.size fun k hk => h8 k hk)⟩
  · rcases hk with hk | hk
    · exact h7 k hk hb
    · have := h2.gs k hb; omega
  · rcases hk with hk | hk
    · exact h8 k hk
    · have := h10.size; omega
set_option maxRecDepth 100000 in
set_option maxHeartbeats 1600000 in
theorem All_go (Av : Option Addr) (n cap : Nat) (w : World) (hn : n ≤ 140737488351232) (ho : Ops w w.heap.size Av n) (ht : Nibs w) :
    Calls Tryd.prog 5 #[.slice Av n cap] w fun e w' => e = .returned (.bool true) ∧ Below w.heap.size w w' := by
  have HO := Lib.hid ho
  have HT := Lib.hid ht
  have HB1 := Lib.hid (begins_any ht)
  clear ho ht
  go_enter Tryd.func5, Tryd.ntmps5
  go_upto_region 2 with (go_at_call 28; refine HB1.out.mono ?_; rintro _ w1 ⟨pa, Ga, fa, rfl, hp1, hg1, hl1, hb1⟩; have H1 := Lib.hid (And.intro hp1 (And.intro hg1 (And.intro hl1 hb1))); clear hp1 hg1 hl1 hb1)
  have HB2 := Lib.hid (begins_any (HT.out.below H1.out.2.2.2))
  go_upto_region 5 with (go_at_call 28; refine HB2.out.mono ?_; rintro _ w2 ⟨pb, Gb, fb, rfl, hp2, hg2, hl2, hb2⟩; have H2 := Lib.hid (And.intro hp2 (And.intro hg2 (And.intro hl2 hb2))); clear hp2 hg2 hl2 hb2)
  have hTW : Two w pa pb 65537 w2 := ⟨Ga, Gb, newJ, newJ, fa, fb, H1.out.1.chg (Chg.of_below H2.out.2.2.2 (fun _ => False)) fun _ _ h => h, H2.out.1, newJ_fine, newJ_fine, H1.out.2.2.1, H2.out.2.2.1, fun k ha hb => by have := H1.out.1.gs k ha; have := H2.out.2.1 k hb; omega, H1.out.2.1, fun k hk => Nat.le_trans H1.out.2.2.2.size (H2.out.2.1 k hk), Below.then H1.out.2.2.2 H2.out.2.2.2⟩
  have HTW := Lib.hid hTW
  clear hTW HB1 HB2
  go_wp2_with fail
  go_loopw [5] (fun i wr => ∃ k : Nat, k ≤ 400 ∧ i = .int .i64 (k : Int) ∧ Hid (Two w pa pb (65537 + 131074 * k) wr)) (fun i _ => 400 - (intOf i).toNat)
  case atStart => exact ⟨0, by omega, rfl, HTW⟩
  case round =>
    clear HTW
    obtain ⟨k, hk, rfl, HTW⟩ := hrel
    by_cases hlt : k < n
    · have hI : (k : Int) < (n : Int) := by omega
      by_cases h4 : k < 400
      · have hI4 : (k : Int) < 400 := by omega
        obtain ⟨b, off, rfl, hbl, hops⟩ := (HO.out.below HTW.out.below) (by omega)
        obtain ⟨kd, on, kn, ln, rk, Ab, nb, capb, body, hop⟩ := hops k hlt
        have c0 := hop.c0
        have c1 := hop.c1
        have c2 := hop.c2
        have c3 := hop.c3
        have c4 := hop.c4
        have c5 := hop.c5
        have HOP := Lib.hid hop
        clear hop hops
        by_cases hpar : (on.tmod 2 != 0) = true
        · have hpb := hpar
          clear hpar
          have HPL := Lib.hid (HTW.out.swap.plays kd on kn ln rk Ab nb capb body HOP.out.rd HOP.out.le HOP.out.cap HOP.out.bk.2 (by omega) HT.out)
          go_wp2_with (go_at_call 29; refine HPL.out.mono ?_; rintro _ w3 ⟨rfl, ht3⟩; have H3 := Lib.hid ht3; clear ht3)
          clear c0 c1 c2 c3 c4 c5
          go_roundw
          case rel => exact ⟨k + 1, by omega, by go_num, Lib.hid (by rw [show 65537 + 131074 * (k + 1) = 65537 + 131074 * k + 131074 by omega]; exact H3.out.swap)⟩
          case measure => simp [intOf] <;> omega
        · have hpb : (on.tmod 2 != 0) = false := by simpa using hpar
          clear hpar
          have HPL := Lib.hid (HTW.out.plays kd on kn ln rk Ab nb capb body HOP.out.rd HOP.out.le HOP.out.cap HOP.out.bk.2 (by omega) HT.out)
          go_wp2_with (go_at_call 29; refine HPL.out.mono ?_; rintro _ w3 ⟨rfl, ht3⟩; have H3 := Lib.hid ht3; clear ht3)
          clear c0 c1 c2 c3 c4 c5
          go_roundw
          case rel => exact ⟨k + 1, by omega, by go_num, Lib.hid (by rw [show 65537 + 131074 * (k + 1) = 65537 + 131074 * k + 131074 by omega]; exact H3.out)⟩
          case measure => simp [intOf] <;> omega
      · obtain rfl : k = 400 := by omega
        go_wp2_with fail
        go_ret
        exact ⟨rfl, HTW.out.below⟩
    · have hI : ¬ (k : Int) < (n : Int) := by omega
      have hD : decide ((k : Int) < (n : Int)) = false := by simpa using hI
      clear hI
      go_wp2_with fail
      go_ret
      exact ⟨rfl, HTW.out.below⟩
theorem JournalAll_walk (Av : Option Addr) (n cap : Nat) (w : World) (_hn : n ≤ cap) (hn2 : n ≤ 140737488351232) (ho : Ops w w.heap.size Av n) (ht : Nibs w) :
    Calls Tryd.prog 5 #[.slice Av n cap] w fun e w' => e = .returned (.bool true) ∧ Below w.heap.size w w' := All_go Av n cap w hn2 ho ht
end Go.Proofs.YtpkdalpjfcopbaaDoor
