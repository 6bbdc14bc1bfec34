/-
  A page of the book (ints): fill, grow, shows.
-/
import Derived.Test.YtffcepaegcllmaaDoorTurn
import Derived.Test.YtffcepaegcllmaaDoorInts
import Derived.StillTailTactics
namespace Go.Proofs.YtffcepaegcllmaaDoor
open Go.RowKit

def ipl (id : Int) (n : Nat) : List Value := ivs (patIs id n)
theorem ipl_length (id : Int) (n : Nat) : (ipl id n).length = n := by simp [ipl, ivs_length, patIs_length]
theorem ipl_succ (id : Int) (n : Nat) : ipl id (n + 1) = ipl id n ++ [.int .i64 (patI id n)] := by simp [ipl, patIs_succ, ivs]
theorem ipl_at (id : Int) (n k : Nat) (h : k < n) : (ipl id n)[k]? = some (.int .i64 (patI id k)) := ivs_at (patIs_at id n k h)
theorem fillI_step (id : Int) (k : Nat) (xs : List Value) (h : k < xs.length) : (ipl id k ++ xs.drop k).set k (.int .i64 (patI id k)) = ipl id (k + 1) ++ xs.drop (k + 1) := by
  rw [List.set_append_right _ _ (by rw [ipl_length]; omega), ipl_length, Nat.sub_self, ipl_succ, List.append_assoc]
  congr 1
  rw [List.drop_eq_getElem_cons h]
  rfl

set_option maxRecDepth 100000 in
set_option maxHeartbeats 800000 in
theorem fillI_any (base gp o : Nat) (T : TypeId) (cur : Array Value) (bv : Value) (n : Nat) (xs : List Value) (id : Int) (w : World) (hB : Blk w gp T cur) (hT : T ≠ 3)
    (h0 : cur[o]? = some bv) (h3 : cur[o + 3]? = some (.int .i64 id)) (h4 : o + 4 < cur.size) (hown : w.ownsRow base 3 1 bv n xs) (hi0 : 0 ≤ id) (hi1 : id ≤ 1000000) (hn : n ≤ 17592186044416) :
    Calls Tryd.prog 51 #[.pointer (some ⟨gp, o, none⟩)] w fun e w' => e = .returned (.tuple #[]) ∧ Blk w' gp T (cur.setIfInBounds (o + 4) (.bool true)) ∧
      w'.ownsRow base 3 1 bv n (ipl id n) ∧ Chg (fun k => k = gp ∨ bv.ownBlock = some k) w w' := by
  obtain ⟨A, cap, rfl, hc1, hc2⟩ := own_shape hown
  have hlx : xs.length = n := by have := hown.1; omega
  go_enter Tryd.func51, Tryd.ntmps51
  have HB0 := hB.cell o
  rw [h0] at HB0
  go_wp2_with fail
  go_loopw [2] (fun i wr => ∃ k : Nat, k ≤ n ∧ i = .int .i64 k ∧ Blk wr gp T cur ∧ wr.ownsRow base 3 1 (.slice A n cap) n (ipl id k ++ xs.drop k) ∧ Chg (fun k => k = gp ∨ (Value.slice A n cap).ownBlock = some k) w wr) (fun i _ => n - (intOf i).toNat)
  case atStart => exact ⟨0, by omega, rfl, hB, by simpa [ipl, patIs, ivs] using hown, Chg.refl _ _⟩
  case round =>
    obtain ⟨k, hk, rfl, hBr, hor, hch⟩ := hrel
    clear HB0
    have c0 := hBr.cell o
    rw [h0] at c0
    have c3 := hBr.cell (o + 3)
    rw [h3] at c3
    by_cases hlt : k < n
    · obtain ⟨g, cap', cg, hv, hg, hBg, hn1, hn2, hn3, hn4⟩ := own_parts hor (by omega)
      simp only [Value.slice.injEq, true_and] at hv
      obtain ⟨rfl, rfl⟩ := hv
      obtain ⟨u, hu⟩ : ∃ u, wr.cell? ⟨g, k, none⟩ = some u := by rw [hBg.cell]; exact ⟨_, Array.getElem?_eq_getElem (by omega)⟩
      have hfr := hBg.frozen k
      have hne : gp ≠ g := hBr.ne_ hBg hT
      have hlt' : (k : Int) < (n : Int) := by omega
      have hk0 : (0 : Int) ≤ (k : Int) := by omega
      go_wp2_with fail
      refine wp_region_still_tail 12 (by kernel_rfl) (by kernel_rfl) ?_
      simp only [List.take_succ_cons, List.take_zero, List.drop_succ_cons, List.drop_zero]
      repeat still_step
      still_call (patInt_c _ _ _ rfl _ (by omega) (by omega) (by omega) (by omega))
      repeat still_step
      try refine wpStill_nil ?_
      change wpList _ _ _ _ _ wr.drew
      go_wp2
      go_roundw
      case rel =>
        refine ⟨k + 1, by omega, by go_num, hBr.far hne _, ?_, (hch.drew).setCell (p := ⟨g, k, none⟩) (.inl (.inr rfl)) _⟩
        rw [← fillI_step id k xs (by omega)]
        exact own_set (hor.drew) k _ hlt
      case measure => simp [intOf]; omega
    · obtain rfl : k = n := by omega
      have c4 : ∃ u, wr.cell? ⟨gp, o + 4, none⟩ = some u := by rw [hBr.cell]; exact ⟨_, Array.getElem?_eq_getElem h4⟩
      obtain ⟨u4, c4⟩ := c4
      have f4 := hBr.frozen (o + 4)
      have HX : Hid (ipl id k ++ xs.drop k = ipl id k) := by show _ = _; rw [List.drop_eq_nil_of_le (by omega), List.append_nil]
      go_wp2
      go_end0
      refine ⟨rfl, hBr.set_ _ _, ?_, hch.setCell (p := ⟨gp, o + 4, none⟩) (.inl (.inl rfl)) _⟩
      rw [← HX.out]
      refine own_chg (S := fun x => x = gp) hor ((Chg.refl (fun x => x = gp) wr).setCell (p := ⟨gp, o + 4, none⟩) (.inl rfl) _) (fun g hg hgp => ?_)
      obtain ⟨_, _, cg, hBg⟩ := own_block_lt hor hg
      subst hgp
      exact hBr.ne_ hBg hT rfl

set_option maxRecDepth 100000 in
set_option maxHeartbeats 800000 in
theorem growI_any (base gp o : Nat) (T : TypeId) (cur : Array Value) (bv : Value) (n : Nat) (xs : List Value) (id : Int) (w : World) (hB : Blk w gp T cur) (hT : T ≠ 3)
    (h0 : cur[o]? = some bv) (h1 : o + 1 < cur.size) (h3 : cur[o + 3]? = some (.int .i64 id)) (hown : w.ownsRow base 3 1 bv n xs) (hbase : base ≤ w.heap.size) (hi0 : 0 ≤ id) (hi1 : id ≤ 1000000) (hn : n + 64 ≤ 17592186044416) :
    Calls Tryd.prog 52 #[.pointer (some ⟨gp, o, none⟩)] w fun e w' => e = .returned (.tuple #[]) ∧ ∃ gv, Blk w' gp T (cur.setIfInBounds (o + 1) gv) ∧
      w'.ownsRow base 3 1 bv n xs ∧ w'.ownsRow base 3 1 gv (n + 64) (xs ++ ipl (id + 100000) 64) ∧ (gv.ownBlock = bv.ownBlock ∨ ∃ g, gv.ownBlock = some g ∧ w.heap.size ≤ g) ∧
      Chg (fun k => k = gp ∨ bv.ownBlock = some k) w w' := by
  obtain ⟨i0, hi0', hz0, hz1, hz2⟩ := info_parts info_i64
  have hBlt := hB.lt
  go_enter Tryd.func52, Tryd.ntmps52
  go_wp2_with fail
  go_loopw [2, 3] (fun t i wr => ∃ k : Nat, k ≤ 64 ∧ i = .int .i64 k ∧ wr.ownsRow w.heap.size 3 1 t k (ipl (id + 100000) k) ∧ Below w.heap.size w wr) (fun _ i _ => 64 - (intOf i).toNat)
  case atStart => exact ⟨0, by omega, rfl, ⟨by simp [ipl, patIs, ivs], .inl ⟨rfl, rfl⟩⟩, Below.refl _ _⟩
  case round =>
    obtain ⟨k, hk, rfl, ho, hb⟩ := hrel
    have hBr := hB.below hb hBlt
    have c0 := hBr.cell o
    rw [h0] at c0
    have c3 := hBr.cell (o + 3)
    rw [h3] at c3
    by_cases hlt : k < 64
    · go_wp2_with (first
        | (go_at_call 103; refine (patInt_any _ _ _ (by omega) (by omega) (by omega) (by omega)).mono ?_; rintro e w' ⟨⟨c, hc, rfl⟩, rfl⟩; have HC := Lib.hid hc; clear hc)
        | (at_builtin
           refine app1 wr (by rfl) _ _ 24 (by rfl) w.heap.size 3 i0 _ 8 u_ints hi0' hz0 hz1 hz2 rfl _ _ _ (by rfl) ho _ (by rfl) (by rfl) (by simp only [maxLen]; omega) (by omega) hb.size ?_
           intro v2 w2 hown2 hb2 _))
      go_roundw
      case rel => exact ⟨k + 1, by omega, by go_num, by rw [ipl_succ, ← HC.out]; exact hown2, hb.trans hb2⟩
      case measure => simp [intOf]; omega
    · obtain rfl : k = 64 := by omega
      obtain ⟨At, capt, rfl, hct, _⟩ := own_shape ho
      have hrt := Rd.of_own ho
      have hownr := own_over hown hb
      have hbs := hb.size
      go_wp2_with (
           at_builtin
           refine appKeep wr (by rfl) _ _ 24 (by rfl) base 3 i0 _ 1 8 u_ints hi0' hz0 hz1 hz2 rfl (by omega) bv n xs (by rfl) hownr wr.heap.size At 64 capt _ (by rfl) hrt (ivs_one _) (by simp only [maxLen]; omega) (by omega) (by omega) ?_
           intro gv w2 hg2 hb2 hgr hat
           obtain ⟨Ag, capg, rfl, _, _⟩ := own_shape hg2
           have hne : ¬ some gp = bv.ownBlock := fun h => by
             obtain ⟨_, _, cg, hBg⟩ := own_block_lt hownr h.symm
             exact hBr.ne_ hBg hT rfl
           have hB2 : Blk w2 gp T cur := hBr.grown hgr hne
           obtain ⟨u1, hu1⟩ : ∃ u, w2.cell? ⟨gp, o + 1, none⟩ = some u := by rw [hB2.cell]; exact ⟨_, Array.getElem?_eq_getElem h1⟩
           have hf1 := hB2.frozen (o + 1))
      go_end0
      have hcw : Chg (fun k => k = gp ∨ bv.ownBlock = some k) w w2 := (Chg.of_below hb _).thenS (Chg.of_grown hgr) (fun i _ h => .inr h.symm)
      refine ⟨rfl, _, hB2.set_ _ _, ?_, ?_, ?_, hcw.setCell (p := ⟨gp, o + 1, none⟩) (.inl (.inl rfl)) _⟩
      · refine own_chg (S := fun x => x = gp) hb2 ((Chg.refl (fun x => x = gp) w2).setCell (p := ⟨gp, o + 1, none⟩) (.inl rfl) _) (fun g hg hgp => ?_)
        subst hgp
        exact hne hg.symm
      · refine own_chg (S := fun x => x = gp) hg2 ((Chg.refl (fun x => x = gp) w2).setCell (p := ⟨gp, o + 1, none⟩) (.inl rfl) _) (fun g hg hgp => ?_)
        subst hgp
        obtain ⟨_, _, cg, hBg⟩ := own_block_lt hg2 hg
        exact hB2.ne_ hBg hT rfl
      · rcases hat with h | ⟨g, h, hlt2⟩
        · exact .inl h
        · exact .inr ⟨g, h, by omega⟩

set_option maxRecDepth 100000 in
set_option maxHeartbeats 1600000 in
theorem showsI_kept (Ab Aw : Option Addr) (n capb capw : Nat) (gv : Value) (bs : List Int) (id : Int) (w : World) (hb : RdI w w.heap.size Ab n bs) (hw : RdI w w.heap.size Aw n bs) (hn : n ≤ 17592186044416) :
    Calls Tryd.prog 48 #[.agg #[.slice Ab n capb, gv, .slice Aw n capw, .int .i64 id, .bool false]] w fun e w' => e = .returned (.bool true) ∧ Below w.heap.size w w' := by
  have hal : ∀ o, Below w.heap.size w (w.alloc o) := fun o => (Below.refl _ _).alloc (Nat.le_refl _) _
  have hB := Blk.new w 97 #[.slice Ab n capb, gv, .slice Aw n capw, .int .i64 id, .bool false]
  have hb1 := hb.below (hal (.cells #[.slice Ab n capb, gv, .slice Aw n capw, .int .i64 id, .bool false] 97))
  have hw1 := hw.below (hal (.cells #[.slice Ab n capb, gv, .slice Aw n capw, .int .i64 id, .bool false] 97))
  have HAL := Lib.hid (hal (.cells #[.slice Ab n capb, gv, .slice Aw n capw, .int .i64 id, .bool false] 97))
  have HB := Lib.hid hB
  clear hal hB
  have hm2 : ((n : Int) != (n : Int)) = false := by simp
  go_enter Tryd.func48, Tryd.ntmps48
  go_wp2_with fail
  go_loopw [4] (fun i wr => ∃ k : Nat, k ≤ n ∧ i = .int .i64 k ∧ ∃ d, wr = (w.alloc (.cells #[.slice Ab n capb, gv, .slice Aw n capw, .int .i64 id, .bool false] 97)).drewN d) (fun i _ => n - (intOf i).toNat)
  case atStart => exact ⟨0, by omega, rfl, 0, rfl⟩
  case round =>
    obtain ⟨k, hk, rfl, d, hd⟩ := hrel
    have hq := hb1.eqd hd
    have hq' := hw1.eqd hd
    have hBr : Blk wr w.heap.size 97 #[.slice Ab n capb, gv, .slice Aw n capw, .int .i64 id, .bool false] := by rw [hd]; exact HB.out.drewN d
    have c0 : wr.cell? ⟨w.heap.size, 0, none⟩ = some (.slice Ab n capb) := by rw [hBr.cell]; rfl
    have c2 : wr.cell? ⟨w.heap.size, 2, none⟩ = some (.slice Aw n capw) := by rw [hBr.cell]; rfl
    have HD := Lib.hid hd
    clear hd
    by_cases hlt : k < n
    · obtain ⟨b', off', c, rfl, hb', hck, hcell'⟩ := hq'.int hlt
      obtain ⟨b, off, c1, rfl, hb, hck1, hcell⟩ := hq.int hlt
      obtain rfl : c1 = c := by
        rw [hck] at hck1
        exact (Option.some.inj hck1).symm
      clear hck hck1
      have hlt1 : (k : Int) < (n : Int) := by omega
      go_wp2
      go_quiet (fail)
      go_wp2
      go_roundw
      case rel => exact ⟨k + 1, by omega, by go_num, _, by rw [HD.out, World.drewN_drewN]⟩
      case measure => simp [intOf]; omega
    · go_wp2
      go_ret
      exact ⟨rfl, by rw [HD.out]; exact below_drewN HAL.out d⟩

set_option maxRecDepth 100000 in
set_option maxHeartbeats 3200000 in
theorem showsI_grown (Ab Ag : Option Addr) (n m capb capg : Nat) (wv : Value) (bs gs : List Int) (id : Int) (w : World) (hb : RdI w w.heap.size Ab n bs) (hg : RdI w w.heap.size Ag m gs) (hn : n ≤ 17592186044416)
    (hbs : bs = patIs id n) (hgs : gs = patIs id n ++ patIs (id + 100000) 64) (hi0 : 0 ≤ id) (hi1 : id ≤ 1000000) :
    Calls Tryd.prog 48 #[.agg #[.slice Ab n capb, .slice Ag m capg, wv, .int .i64 id, .bool true]] w fun e w' => e = .returned (.bool true) ∧ Below w.heap.size w w' := by
  have hal : ∀ o, Below w.heap.size w (w.alloc o) := fun o => (Below.refl _ _).alloc (Nat.le_refl _) _
  have hB := Blk.new w 97 #[.slice Ab n capb, .slice Ag m capg, wv, .int .i64 id, .bool true]
  have hb1 := hb.below (hal (.cells #[.slice Ab n capb, .slice Ag m capg, wv, .int .i64 id, .bool true] 97))
  have hg1 := hg.below (hal (.cells #[.slice Ab n capb, .slice Ag m capg, wv, .int .i64 id, .bool true] 97))
  have HAL := Lib.hid (hal (.cells #[.slice Ab n capb, .slice Ag m capg, wv, .int .i64 id, .bool true] 97))
  have HB := Lib.hid hB
  obtain rfl : m = n + 64 := by rw [← hg.lenI, hgs, List.length_append, patIs_length, patIs_length]
  have HBS := Lib.hid hbs
  have HGS := Lib.hid hgs
  have hm2 : ((n : Int) + 64 != (n : Int) + 64) = false := by simp
  clear hal hB hbs hgs
  go_enter Tryd.func48, Tryd.ntmps48
  go_wp2_with fail
  go_loopw [5] (fun i wr => ∃ k : Nat, k ≤ n ∧ i = .int .i64 k ∧ ∃ d, wr = (w.alloc (.cells #[.slice Ab n capb, .slice Ag (n + 64) capg, wv, .int .i64 id, .bool true] 97)).drewN d) (fun i _ => n - (intOf i).toNat)
  case atStart => exact ⟨0, by omega, rfl, 0, rfl⟩
  case round =>
    obtain ⟨k, hk, rfl, d, hd⟩ := hrel
    have hq := hb1.eqd hd
    have hq' := hg1.eqd hd
    have hBr : Blk wr w.heap.size 97 #[.slice Ab n capb, .slice Ag (n + 64) capg, wv, .int .i64 id, .bool true] := by rw [hd]; exact HB.out.drewN d
    have c0 : wr.cell? ⟨w.heap.size, 0, none⟩ = some (.slice Ab n capb) := by rw [hBr.cell]; rfl
    have c1 : wr.cell? ⟨w.heap.size, 1, none⟩ = some (.slice Ag (n + 64) capg) := by rw [hBr.cell]; rfl
    have c3 : wr.cell? ⟨w.heap.size, 3, none⟩ = some (.int .i64 id) := by rw [hBr.cell]; rfl
    have HD := Lib.hid hd
    clear hd
    by_cases hlt : k < n
    · obtain ⟨b', off', c, rfl, hb', hck, hcell'⟩ := hq'.int (k := k) (by omega)
      obtain ⟨b, off, x, rfl, hb, hck1, hcell⟩ := hq.int hlt
      have hx : x = patI id k := by
        rw [HBS.out, patIs_at _ _ _ hlt] at hck1
        exact (Option.some.inj hck1).symm
      have hc : c = x := by
        rw [HGS.out, List.getElem?_append_left (by rw [patIs_length]; exact hlt), patIs_at _ _ _ hlt] at hck
        rw [hx]
        exact (Option.some.inj hck).symm
      subst hc
      have HX := Lib.hid hx
      clear hck hck1 hx
      have hlt1 : (k : Int) < (n : Int) := by omega
      have hlt2 : (k : Int) < (n : Int) + 64 := by omega
      go_wp2
      go_quiet ((go_at_call 103; exact Calls.quiet_of_same (patInt_c _ _ c HX.out _ (by omega) (by omega) (by omega) (by omega))))
      go_wp2
      go_roundw
      case rel => exact ⟨k + 1, by omega, by go_num, _, by rw [HD.out, World.drewN_drewN]⟩
      case measure => simp [intOf]; omega
    · obtain rfl : k = n := by omega
      clear hlt hk
      go_wp2_with fail
      go_loopw [6] (fun i wr => ∃ j : Nat, j ≤ 64 ∧ i = .int .i64 j ∧ ∃ d, wr = (w.alloc (.cells #[.slice Ab k capb, .slice Ag (k + 64) capg, wv, .int .i64 id, .bool true] 97)).drewN d) (fun i _ => 64 - (intOf i).toNat)
      case atStart => exact ⟨0, by omega, rfl, _, HD.out⟩
      case round =>
        clear c0 c1 c3 hBr hq hq' HD
        obtain ⟨j, hj, rfl, d, hd⟩ := hrel
        have hq' := hg1.eqd hd
        have hBr : Blk wr w.heap.size 97 #[.slice Ab k capb, .slice Ag (k + 64) capg, wv, .int .i64 id, .bool true] := by rw [hd]; exact HB.out.drewN d
        have c0 : wr.cell? ⟨w.heap.size, 0, none⟩ = some (.slice Ab k capb) := by rw [hBr.cell]; rfl
        have c1 : wr.cell? ⟨w.heap.size, 1, none⟩ = some (.slice Ag (k + 64) capg) := by rw [hBr.cell]; rfl
        have c3 : wr.cell? ⟨w.heap.size, 3, none⟩ = some (.int .i64 id) := by rw [hBr.cell]; rfl
        have HD := Lib.hid hd
        clear hd
        by_cases hlt : j < 64
        · obtain ⟨b', off', c, rfl, hb', hck, hcell'⟩ := hq'.int (k := k + j) (by omega)
          have hc : c = patI (id + 100000) j := by
            rw [HGS.out, List.getElem?_append_right (by rw [patIs_length]; omega), patIs_length, show k + j - k = j from by omega, patIs_at _ _ _ hlt] at hck
            exact (Option.some.inj hck).symm
          have HC := Lib.hid hc
          clear hck hc
          have hlt1 : (k : Int) + (j : Int) < (k : Int) + 64 := by omega
          have e2 : 0 ≤ (k : Int) + (j : Int) := by omega
          have e1 : IntKind.i64.wrap ((k : Int) + (j : Int)) = (k : Int) + (j : Int) := IntWalk.i64_in _ (by omega)
          have e3 : ((k : Int) + (j : Int)).toNat = k + j := by omega
          have g0 : (0 : Int) ≤ (j : Int) := by omega
          have g1 : (j : Int) ≤ 4611686018427387904 := by omega
          have g2 : -1000000 ≤ id + 100000 := by omega
          have g3 : id + 100000 ≤ 1000000000 := by omega
          have e4 : IntKind.i64.wrap (id + 100000) = id + 100000 := IntWalk.i64_in _ (by omega)
          go_wp2
          go_quiet ((go_at_call 103; exact Calls.quiet_of_same (patInt_c _ _ c HC.out _ g0 g1 g2 g3)))
          go_wp2
          go_roundw
          case rel => exact ⟨j + 1, by omega, by go_num, _, by rw [HD.out, World.drewN_drewN]⟩
          case measure => simp [intOf]; omega
        · go_wp2
          go_ret
          exact ⟨rfl, by rw [HD.out]; exact below_drewN HAL.out d⟩
end Go.Proofs.YtffcepaegcllmaaDoor
