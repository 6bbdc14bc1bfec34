/-
  A page of the book (bytes): fill, grow, shows.
-/
import Derived.Test.YtffcepaegcllmaaDoorTurn

import Derived.StillTailTactics
namespace Go.Proofs.YtffcepaegcllmaaDoor
open Go.RowKit

def bpl (id : Int) (n : Nat) : List Value := bvs (pats id n)
theorem bpl_length (id : Int) (n : Nat) : (bpl id n).length = n := by simp [bpl, bvs_length, pats_length]
theorem bpl_succ (id : Int) (n : Nat) : bpl id (n + 1) = bpl id n ++ [.int .u8 ((pat id n).toNat : Int)] := by simp [bpl, pats_succ, bvs]
theorem bpl_at (id : Int) (n k : Nat) (h : k < n) : (bpl id n)[k]? = some (.int .u8 ((pat id k).toNat : Int)) := bvs_at (pats_at id n k h)
theorem fillB_step (id : Int) (k : Nat) (xs : List Value) (h : k < xs.length) : (bpl id k ++ xs.drop k).set k (.int .u8 ((pat id k).toNat : Int)) = bpl id (k + 1) ++ xs.drop (k + 1) := by
  rw [List.set_append_right _ _ (by rw [bpl_length]; omega), bpl_length, Nat.sub_self, bpl_succ, List.append_assoc]
  congr 1
  rw [List.drop_eq_getElem_cons h]
  rfl

set_option maxRecDepth 100000 in
set_option maxHeartbeats 800000 in
theorem fillB_any (base gp o : Nat) (T : TypeId) (cur : Array Value) (bv : Value) (n : Nat) (xs : List Value) (id : Int) (w : World) (hB : Blk w gp T cur) (hT : T ≠ 5)
    (h0 : cur[o]? = some bv) (h3 : cur[o + 3]? = some (.int .i64 id)) (h4 : o + 4 < cur.size) (hown : w.ownsRow base 5 1 bv n xs) (hi0 : 0 ≤ id) (hi1 : id ≤ 1000000) (hn : n ≤ 140737488355328) :
    Calls Tryd.prog 49 #[.pointer (some ⟨gp, o, none⟩)] w fun e w' => e = .returned (.tuple #[]) ∧ Blk w' gp T (cur.setIfInBounds (o + 4) (.bool true)) ∧
      w'.ownsRow base 5 1 bv n (bpl id n) ∧ Chg (fun k => k = gp ∨ bv.ownBlock = some k) w w' := by
  obtain ⟨A, cap, rfl, hc1, hc2⟩ := own_shape hown
  have hlx : xs.length = n := by have := hown.1; omega
  go_enter Tryd.func49, Tryd.ntmps49
  have HB0 := hB.cell o
  rw [h0] at HB0
  go_wp2_with fail
  go_loopw [2] (fun i wr => ∃ k : Nat, k ≤ n ∧ i = .int .i64 k ∧ Blk wr gp T cur ∧ wr.ownsRow base 5 1 (.slice A n cap) n (bpl id k ++ xs.drop k) ∧ Chg (fun k => k = gp ∨ (Value.slice A n cap).ownBlock = some k) w wr) (fun i _ => n - (intOf i).toNat)
  case atStart => exact ⟨0, by omega, rfl, hB, by simpa [bpl, pats, bvs] using hown, Chg.refl _ _⟩
  case round =>
    obtain ⟨k, hk, rfl, hBr, hor, hch⟩ := hrel
    clear HB0
    have c0 := hBr.cell o
    rw [h0] at c0
    have c3 := hBr.cell (o + 3)
    rw [h3] at c3
    by_cases hlt : k < n
    · obtain ⟨g, cap', cg, hv, hg, hBg, hn1, hn2, hn3, hn4⟩ := own_parts hor (by omega)
      simp only [Value.slice.injEq, true_and] at hv
      obtain ⟨rfl, rfl⟩ := hv
      obtain ⟨u, hu⟩ : ∃ u, wr.cell? ⟨g, k, none⟩ = some u := by rw [hBg.cell]; exact ⟨_, Array.getElem?_eq_getElem (by omega)⟩
      have hfr := hBg.frozen k
      have hne : gp ≠ g := hBr.ne_ hBg hT
      have hlt' : (k : Int) < (n : Int) := by omega
      have hk0 : (0 : Int) ≤ (k : Int) := by omega
      go_wp2_with fail
      refine wp_region_still_tail 12 (by kernel_rfl) (by kernel_rfl) ?_
      simp only [List.take_succ_cons, List.take_zero, List.drop_succ_cons, List.drop_zero]
      repeat still_step
      still_call (Pat_c _ _ _ rfl _ (by omega) (by omega) (by omega) (by omega))
      repeat still_step
      try refine wpStill_nil ?_
      change wpList _ _ _ _ _ wr.drew
      go_wp2
      go_roundw
      case rel =>
        refine ⟨k + 1, by omega, by go_num, hBr.far hne _, ?_, (hch.drew).setCell (p := ⟨g, k, none⟩) (.inl (.inr rfl)) _⟩
        rw [← fillB_step id k xs (by omega)]
        exact own_set (hor.drew) k _ hlt
      case measure => simp [intOf]; omega
    · obtain rfl : k = n := by omega
      have c4 : ∃ u, wr.cell? ⟨gp, o + 4, none⟩ = some u := by rw [hBr.cell]; exact ⟨_, Array.getElem?_eq_getElem h4⟩
      obtain ⟨u4, c4⟩ := c4
      have f4 := hBr.frozen (o + 4)
      have HX : Hid (bpl id k ++ xs.drop k = bpl id k) := by show _ = _; rw [List.drop_eq_nil_of_le (by omega), List.append_nil]
      go_wp2
      go_end0
      refine ⟨rfl, hBr.set_ _ _, ?_, hch.setCell (p := ⟨gp, o + 4, none⟩) (.inl (.inl rfl)) _⟩
      rw [← HX.out]
      refine own_chg (S := fun x => x = gp) hor ((Chg.refl (fun x => x = gp) wr).setCell (p := ⟨gp, o + 4, none⟩) (.inl rfl) _) (fun g hg hgp => ?_)
      obtain ⟨_, _, cg, hBg⟩ := own_block_lt hor hg
      subst hgp
      exact hBr.ne_ hBg hT rfl

set_option maxRecDepth 100000 in
set_option maxHeartbeats 800000 in
theorem growB_any (base gp o : Nat) (T : TypeId) (cur : Array Value) (bv : Value) (n : Nat) (xs : List Value) (id : Int) (w : World) (hB : Blk w gp T cur) (hT : T ≠ 5)
    (h0 : cur[o]? = some bv) (h1 : o + 1 < cur.size) (h3 : cur[o + 3]? = some (.int .i64 id)) (hown : w.ownsRow base 5 1 bv n xs) (hbase : base ≤ w.heap.size) (hi0 : 0 ≤ id) (hi1 : id ≤ 1000000) (hn : n + 64 ≤ 140737488355328) :
    Calls Tryd.prog 50 #[.pointer (some ⟨gp, o, none⟩)] w fun e w' => e = .returned (.tuple #[]) ∧ ∃ gv, Blk w' gp T (cur.setIfInBounds (o + 1) gv) ∧
      w'.ownsRow base 5 1 bv n xs ∧ w'.ownsRow base 5 1 gv (n + 64) (xs ++ bpl (id + 100000) 64) ∧ (gv.ownBlock = bv.ownBlock ∨ ∃ g, gv.ownBlock = some g ∧ w.heap.size ≤ g) ∧
      Chg (fun k => k = gp ∨ bv.ownBlock = some k) w w' := by
  obtain ⟨i0, hi0', hz0, hz1, hz2⟩ := info_parts info_u8
  have hBlt := hB.lt
  go_enter Tryd.func50, Tryd.ntmps50
  go_wp2_with fail
  go_loopw [2, 3] (fun t i wr => ∃ k : Nat, k ≤ 64 ∧ i = .int .i64 k ∧ wr.ownsRow w.heap.size 5 1 t k (bpl (id + 100000) k) ∧ Below w.heap.size w wr) (fun _ i _ => 64 - (intOf i).toNat)
  case atStart => exact ⟨0, by omega, rfl, ⟨by simp [bpl, pats, bvs], .inl ⟨rfl, rfl⟩⟩, Below.refl _ _⟩
  case round =>
    obtain ⟨k, hk, rfl, ho, hb⟩ := hrel
    have hBr := hB.below hb hBlt
    have c0 := hBr.cell o
    rw [h0] at c0
    have c3 := hBr.cell (o + 3)
    rw [h3] at c3
    by_cases hlt : k < 64
    · go_wp2_with (first
        | (go_at_call 63; refine (Pat_any _ _ _ (by omega) (by omega) (by omega) (by omega)).mono ?_; rintro e w' ⟨⟨c, hc, rfl⟩, rfl⟩; have HC := Lib.hid hc; clear hc)
        | (at_builtin
           refine app1 wr (by rfl) _ _ 36 (by rfl) w.heap.size 5 i0 _ 1 u_bytes hi0' hz0 hz1 hz2 rfl _ _ _ (by rfl) ho _ (by rfl) (by rfl) (by simp only [maxLen]; omega) (by omega) hb.size ?_
           intro v2 w2 hown2 hb2 _))
      go_roundw
      case rel => exact ⟨k + 1, by omega, by go_num, by rw [bpl_succ, ← HC.out]; exact hown2, hb.trans hb2⟩
      case measure => simp [intOf]; omega
    · obtain rfl : k = 64 := by omega
      obtain ⟨At, capt, rfl, hct, _⟩ := own_shape ho
      have hrt := Rd.of_own ho
      have hownr := own_over hown hb
      have hbs := hb.size
      go_wp2_with (
           at_builtin
           refine appKeep wr (by rfl) _ _ 36 (by rfl) base 5 i0 _ 1 1 u_bytes hi0' hz0 hz1 hz2 rfl (by omega) bv n xs (by rfl) hownr wr.heap.size At 64 capt _ (by rfl) hrt (bvs_one _) (by simp only [maxLen]; omega) (by omega) (by omega) ?_
           intro gv w2 hg2 hb2 hgr hat
           obtain ⟨Ag, capg, rfl, _, _⟩ := own_shape hg2
           have hne : ¬ some gp = bv.ownBlock := fun h => by
             obtain ⟨_, _, cg, hBg⟩ := own_block_lt hownr h.symm
             exact hBr.ne_ hBg hT rfl
           have hB2 : Blk w2 gp T cur := hBr.grown hgr hne
           obtain ⟨u1, hu1⟩ : ∃ u, w2.cell? ⟨gp, o + 1, none⟩ = some u := by rw [hB2.cell]; exact ⟨_, Array.getElem?_eq_getElem h1⟩
           have hf1 := hB2.frozen (o + 1))
      go_end0
      have hcw : Chg (fun k => k = gp ∨ bv.ownBlock = some k) w w2 := (Chg.of_below hb _).thenS (Chg.of_grown hgr) (fun i _ h => .inr h.symm)
      refine ⟨rfl, _, hB2.set_ _ _, ?_, ?_, ?_, hcw.setCell (p := ⟨gp, o + 1, none⟩) (.inl (.inl rfl)) _⟩
      · refine own_chg (S := fun x => x = gp) hb2 ((Chg.refl (fun x => x = gp) w2).setCell (p := ⟨gp, o + 1, none⟩) (.inl rfl) _) (fun g hg hgp => ?_)
        subst hgp
        exact hne hg.symm
      · refine own_chg (S := fun x => x = gp) hg2 ((Chg.refl (fun x => x = gp) w2).setCell (p := ⟨gp, o + 1, none⟩) (.inl rfl) _) (fun g hg hgp => ?_)
        subst hgp
        obtain ⟨_, _, cg, hBg⟩ := own_block_lt hg2 hg
        exact hB2.ne_ hBg hT rfl
      · rcases hat with h | ⟨g, h, hlt2⟩
        · exact .inl h
        · exact .inr ⟨g, h, by omega⟩

set_option maxRecDepth 100000 in
set_option maxHeartbeats 1600000 in
theorem showsB_kept (Ab Aw : Option Addr) (n capb capw : Nat) (gv : Value) (bs : List UInt8) (id : Int) (w : World) (hb : RdB w w.heap.size Ab n bs) (hw : RdB w w.heap.size Aw n bs) (hn : n ≤ 140737488355328) :
    Calls Tryd.prog 47 #[.agg #[.slice Ab n capb, gv, .slice Aw n capw, .int .i64 id, .bool false]] w fun e w' => e = .returned (.bool true) ∧ Below w.heap.size w w' := by
  have hal : ∀ o, Below w.heap.size w (w.alloc o) := fun o => (Below.refl _ _).alloc (Nat.le_refl _) _
  have hB := Blk.new w 95 #[.slice Ab n capb, gv, .slice Aw n capw, .int .i64 id, .bool false]
  have hb1 := hb.below (hal (.cells #[.slice Ab n capb, gv, .slice Aw n capw, .int .i64 id, .bool false] 95))
  have hw1 := hw.below (hal (.cells #[.slice Ab n capb, gv, .slice Aw n capw, .int .i64 id, .bool false] 95))
  have HAL := Lib.hid (hal (.cells #[.slice Ab n capb, gv, .slice Aw n capw, .int .i64 id, .bool false] 95))
  have HB := Lib.hid hB
  clear hal hB
  have hm2 : ((n : Int) != (n : Int)) = false := by simp
  go_enter Tryd.func47, Tryd.ntmps47
  go_wp2_with fail
  go_loopw [4] (fun i wr => ∃ k : Nat, k ≤ n ∧ i = .int .i64 k ∧ ∃ d, wr = (w.alloc (.cells #[.slice Ab n capb, gv, .slice Aw n capw, .int .i64 id, .bool false] 95)).drewN d) (fun i _ => n - (intOf i).toNat)
  case atStart => exact ⟨0, by omega, rfl, 0, rfl⟩
  case round =>
    obtain ⟨k, hk, rfl, d, hd⟩ := hrel
    have hq := hb1.eqd hd
    have hq' := hw1.eqd hd
    have hBr : Blk wr w.heap.size 95 #[.slice Ab n capb, gv, .slice Aw n capw, .int .i64 id, .bool false] := by rw [hd]; exact HB.out.drewN d
    have c0 : wr.cell? ⟨w.heap.size, 0, none⟩ = some (.slice Ab n capb) := by rw [hBr.cell]; rfl
    have c2 : wr.cell? ⟨w.heap.size, 2, none⟩ = some (.slice Aw n capw) := by rw [hBr.cell]; rfl
    have HD := Lib.hid hd
    clear hd
    by_cases hlt : k < n
    · obtain ⟨b', off', c, rfl, hb', hck, hcell'⟩ := hq'.byte hlt
      obtain ⟨b, off, c1, rfl, hb, hck1, hcell⟩ := hq.byte hlt
      obtain rfl : c1 = c := by
        rw [hck] at hck1
        exact (Option.some.inj hck1).symm
      clear hck hck1
      have hlt1 : (k : Int) < (n : Int) := by omega
      go_wp2
      go_quiet (fail)
      go_wp2
      go_roundw
      case rel => exact ⟨k + 1, by omega, by go_num, _, by rw [HD.out, World.drewN_drewN]⟩
      case measure => simp [intOf]; omega
    · go_wp2
      go_ret
      exact ⟨rfl, by rw [HD.out]; exact below_drewN HAL.out d⟩

set_option maxRecDepth 100000 in
set_option maxHeartbeats 3200000 in
theorem showsB_grown (Ab Ag : Option Addr) (n m capb capg : Nat) (wv : Value) (bs gs : List UInt8) (id : Int) (w : World) (hb : RdB w w.heap.size Ab n bs) (hg : RdB w w.heap.size Ag m gs) (hn : n ≤ 140737488355328)
    (hbs : bs = pats id n) (hgs : gs = pats id n ++ pats (id + 100000) 64) (hi0 : 0 ≤ id) (hi1 : id ≤ 1000000) :
    Calls Tryd.prog 47 #[.agg #[.slice Ab n capb, .slice Ag m capg, wv, .int .i64 id, .bool true]] w fun e w' => e = .returned (.bool true) ∧ Below w.heap.size w w' := by
  have hal : ∀ o, Below w.heap.size w (w.alloc o) := fun o => (Below.refl _ _).alloc (Nat.le_refl _) _
  have hB := Blk.new w 95 #[.slice Ab n capb, .slice Ag m capg, wv, .int .i64 id, .bool true]
  have hb1 := hb.below (hal (.cells #[.slice Ab n capb, .slice Ag m capg, wv, .int .i64 id, .bool true] 95))
  have hg1 := hg.below (hal (.cells #[.slice Ab n capb, .slice Ag m capg, wv, .int .i64 id, .bool true] 95))
  have HAL := Lib.hid (hal (.cells #[.slice Ab n capb, .slice Ag m capg, wv, .int .i64 id, .bool true] 95))
  have HB := Lib.hid hB
  obtain rfl : m = n + 64 := by rw [← hg.lenB, hgs, List.length_append, pats_length, pats_length]
  have HBS := Lib.hid hbs
  have HGS := Lib.hid hgs
  have hm2 : ((n : Int) + 64 != (n : Int) + 64) = false := by simp
  clear hal hB hbs hgs
  go_enter Tryd.func47, Tryd.ntmps47
  go_wp2_with fail
  go_loopw [5] (fun i wr => ∃ k : Nat, k ≤ n ∧ i = .int .i64 k ∧ ∃ d, wr = (w.alloc (.cells #[.slice Ab n capb, .slice Ag (n + 64) capg, wv, .int .i64 id, .bool true] 95)).drewN d) (fun i _ => n - (intOf i).toNat)
  case atStart => exact ⟨0, by omega, rfl, 0, rfl⟩
  case round =>
    obtain ⟨k, hk, rfl, d, hd⟩ := hrel
    have hq := hb1.eqd hd
    have hq' := hg1.eqd hd
    have hBr : Blk wr w.heap.size 95 #[.slice Ab n capb, .slice Ag (n + 64) capg, wv, .int .i64 id, .bool true] := by rw [hd]; exact HB.out.drewN d
    have c0 : wr.cell? ⟨w.heap.size, 0, none⟩ = some (.slice Ab n capb) := by rw [hBr.cell]; rfl
    have c1 : wr.cell? ⟨w.heap.size, 1, none⟩ = some (.slice Ag (n + 64) capg) := by rw [hBr.cell]; rfl
    have c3 : wr.cell? ⟨w.heap.size, 3, none⟩ = some (.int .i64 id) := by rw [hBr.cell]; rfl
    have HD := Lib.hid hd
    clear hd
    by_cases hlt : k < n
    · obtain ⟨b', off', c, rfl, hb', hck, hcell'⟩ := hq'.byte (k := k) (by omega)
      obtain ⟨b, off, x, rfl, hb, hck1, hcell⟩ := hq.byte hlt
      have hx : x = pat id k := by
        rw [HBS.out, pats_at _ _ _ hlt] at hck1
        exact (Option.some.inj hck1).symm
      have hc : c = x := by
        rw [HGS.out, List.getElem?_append_left (by rw [pats_length]; exact hlt), pats_at _ _ _ hlt] at hck
        rw [hx]
        exact (Option.some.inj hck).symm
      subst hc
      have HX := Lib.hid hx
      clear hck hck1 hx
      have hlt1 : (k : Int) < (n : Int) := by omega
      have hlt2 : (k : Int) < (n : Int) + 64 := by omega
      go_wp2
      go_quiet ((go_at_call 63; exact Calls.quiet_of_same (Pat_c _ _ c HX.out _ (by omega) (by omega) (by omega) (by omega))))
      go_wp2
      go_roundw
      case rel => exact ⟨k + 1, by omega, by go_num, _, by rw [HD.out, World.drewN_drewN]⟩
      case measure => simp [intOf]; omega
    · obtain rfl : k = n := by omega
      clear hlt hk
      go_wp2_with fail
      go_loopw [6] (fun i wr => ∃ j : Nat, j ≤ 64 ∧ i = .int .i64 j ∧ ∃ d, wr = (w.alloc (.cells #[.slice Ab k capb, .slice Ag (k + 64) capg, wv, .int .i64 id, .bool true] 95)).drewN d) (fun i _ => 64 - (intOf i).toNat)
      case atStart => exact ⟨0, by omega, rfl, _, HD.out⟩
      case round =>
        clear c0 c1 c3 hBr hq hq' HD
        obtain ⟨j, hj, rfl, d, hd⟩ := hrel
        have hq' := hg1.eqd hd
        have hBr : Blk wr w.heap.size 95 #[.slice Ab k capb, .slice Ag (k + 64) capg, wv, .int .i64 id, .bool true] := by rw [hd]; exact HB.out.drewN d
        have c0 : wr.cell? ⟨w.heap.size, 0, none⟩ = some (.slice Ab k capb) := by rw [hBr.cell]; rfl
        have c1 : wr.cell? ⟨w.heap.size, 1, none⟩ = some (.slice Ag (k + 64) capg) := by rw [hBr.cell]; rfl
        have c3 : wr.cell? ⟨w.heap.size, 3, none⟩ = some (.int .i64 id) := by rw [hBr.cell]; rfl
        have HD := Lib.hid hd
        clear hd
        by_cases hlt : j < 64
        · obtain ⟨b', off', c, rfl, hb', hck, hcell'⟩ := hq'.byte (k := k + j) (by omega)
          have hc : c = pat (id + 100000) j := by
            rw [HGS.out, List.getElem?_append_right (by rw [pats_length]; omega), pats_length, show k + j - k = j from by omega, pats_at _ _ _ hlt] at hck
            exact (Option.some.inj hck).symm
          have HC := Lib.hid hc
          clear hck hc
          have hlt1 : (k : Int) + (j : Int) < (k : Int) + 64 := by omega
          have e2 : 0 ≤ (k : Int) + (j : Int) := by omega
          have e1 : IntKind.i64.wrap ((k : Int) + (j : Int)) = (k : Int) + (j : Int) := IntWalk.i64_in _ (by omega)
          have e3 : ((k : Int) + (j : Int)).toNat = k + j := by omega
          have g0 : (0 : Int) ≤ (j : Int) := by omega
          have g1 : (j : Int) ≤ 9223372036854775807 := by omega
          have g2 : -4611686018427387904 ≤ id + 100000 := by omega
          have g3 : id + 100000 ≤ 4611686018427387904 := by omega
          have e4 : IntKind.i64.wrap (id + 100000) = id + 100000 := IntWalk.i64_in _ (by omega)
          go_wp2
          go_quiet ((go_at_call 63; exact Calls.quiet_of_same (Pat_c _ _ c HC.out _ g0 g1 g2 g3)))
          go_wp2
          go_roundw
          case rel => exact ⟨j + 1, by omega, by go_num, _, by rw [HD.out, World.drewN_drewN]⟩
          case measure => simp [intOf]; omega
        · go_wp2
          go_ret
          exact ⟨rfl, by rw [HD.out]; exact below_drewN HAL.out d⟩
end Go.Proofs.YtffcepaegcllmaaDoor
