/-
  The document's detector: the lists.
-/
import Derived.Test.YtfjpmoigpnmeoaaDRefQ
namespace Go.Proofs.Ytfjpmoigpnmeoaa
open Go.RowKit
variable {w : World} {F : Nat → Prop} {c : Cfg} {K : Nat} {l : List Ev} {v : Value}

theorem mapR_succ (f : Nat → Int) (k : Nat) : (List.range (k + 1)).map f = (List.range k).map f ++ [f k] := by rw [List.range_succ, List.map_append]; rfl
theorem mapR_len (f : Nat → Int) (k : Nat) : ((List.range k).map f).length = k := by simp
theorem gone_eq (c : Cfg) (l : List Ev) : hasL l = (dOf c l).left := (dOf_left c l).symm
set_option maxRecDepth 100000 in
set_option maxHeartbeats 6400000 in
theorem RHears_any (hc : c.Ok) (h : RD w F c K l v) (hF : ∀ k, F k → k < w.heap.size) (hl : ∀ x ∈ l, x.Ok) (hn : l.length < 3518437208883) :
    Calls Try.prog 55 #[.pointer (some ⟨K, 0, none⟩)] w (GivesL w (hearsL c (dOf c l))) := by
  obtain ⟨i0, hi0, hz0, hz1, hz2⟩ := info_parts info_int
  have hcc := hc
  obtain ⟨hN1, hn16, hsf, _⟩ := hcc
  have HLF := Lib.hid (Left_any h (by omega))
  have HG := Lib.hid (gone_eq c l)
  have HOF := Lib.hid fun (wr : World) (hb : Below w.heap.size w wr) (k : Nat) => (refOf_eq c k l) ▸ Of_any hc (h.below hF hb) (fun x hx => Nat.lt_of_lt_of_le (hF x hx) hb.size) hl (by omega) k
  have HDR := Lib.hid fun (wr : World) (hb : Below w.heap.size w wr) => (h.below hF hb).cell
  have HLH := Lib.hid (dOf_ok hc hl).left
  have HFN : Hid (hearsL c (dOf c l) = (List.range c.n).map (hearsAt c (dOf c l)) ∧ (hearsL c (dOf c l)).length = c.n) := Lib.hid ⟨rfl, by simp [hearsL]⟩
  generalize hd : dOf c l = d at *
  clear h hF hl hd
  go_enter Try.func55, Try.ntmps55
  go_wp2_with fail
  refine HLF.out.mono ?_
  rintro _ _ ⟨rfl, rfl⟩
  rw [HG.out]
  cases hgo : d.left with
  | true =>
    have HGO := Lib.hid hgo
    rw [hgo] at HOF
    clear hgo
    go_wp2_with fail
    go_loopw [3, 5] (fun x i wr => ∃ k : Nat, k ≤ c.n ∧ i = .int .i64 (k : Int) ∧ wr.ownsRow w.heap.size 3 1 x k (ivs ((List.range k).map (hearsAt c d))) ∧ Below w.heap.size w wr) (fun _ i _ => c.n - (intOf i).toNat)
    case atStart => exact ⟨0, by omega, rfl, ⟨by simp [ivs], .inl ⟨rfl, rfl⟩⟩, Below.refl _ _⟩
    case round =>
      obtain ⟨k, hk, rfl, ho, hb⟩ := hrel
      obtain ⟨c0, c1, c2, c3, c4, c5, c6⟩ := HDR.out wr hb
      obtain ⟨A, cap, rfl, hcp, hcm⟩ := own_shape ho
      by_cases hlt : k < c.n
      · have hI : (k : Int) < (c.n : Int) := by omega
        have hsz := hb.size
        have HOk := Lib.hid (HOF.out wr hb k)
        generalize hp : d.pr k = p at *
        have HP := Lib.hid hp
        clear hp
        go_wp2_with fail
        refine HOk.out.mono ?_
        rintro _ w2 ⟨rfl, hb2⟩
        simp only [peerC]
        have hs2 := hb2.size
        have ho2 := own_over ho hb2
        have hbw2 := hb.trans (hb2.mono hsz)
        have hal : Below w.heap.size w (w2.alloc (.cells #[.int .i64 p.known, .int .i64 p.last, .int .i64 p.age, .int .i64 p.tmo, .int .i64 p.wrong, .bool p.heard, .bool p.mutl, .bool true] 116)) := hbw2.alloc (by omega) _
        have ho3 := own_over ho2 (one_box' w2 (.cells #[.int .i64 p.known, .int .i64 p.last, .int .i64 p.age, .int .i64 p.tmo, .int .i64 p.wrong, .bool p.heard, .bool p.mutl, .bool true] 116))
        have hPB := Blk.new w2 116 #[.int .i64 p.known, .int .i64 p.last, .int .i64 p.age, .int .i64 p.tmo, .int .i64 p.wrong, .bool p.heard, .bool p.mutl, .bool true]
        have hDx := HDR.out _ hal
        obtain ⟨w3, hw3⟩ : ∃ w3, w3 = (w2.alloc (.cells #[.int .i64 p.known, .int .i64 p.last, .int .i64 p.age, .int .i64 p.tmo, .int .i64 p.wrong, .bool p.heard, .bool p.mutl, .bool true] 116)) := ⟨_, rfl⟩
        rw [← hw3] at hal ho3 hPB hDx
        have HW3 := Lib.hid hw3
        have p0 : w3.cell? ⟨w2.heap.size, 0, none⟩ = some (.int .i64 p.known) := hPB.cell 0
        have p5 : w3.cell? ⟨w2.heap.size, 5, none⟩ = some (.bool p.heard) := hPB.cell 5
        have p6 : w3.cell? ⟨w2.heap.size, 6, none⟩ = some (.bool p.mutl) := hPB.cell 6
        clear hw3 ho2 hbw2 hb2 ho hPB c0 c1 c2 c3 c4 c5 c6
        go_upto_region 8 with fail
        rw [← HW3.out]
        obtain ⟨c0, c1, c2, c3, c4, c5, c6⟩ := hDx
        have HT : Hid (hearsAt c d k = 0) := Lib.hid (by
          unfold hearsAt
          by_cases e : k = c.self
          · rw [if_pos e, if_pos HGO.out]
          · rw [if_neg e, if_neg (by rw [HLH.out HGO.out]; simp)])
        go_wp2_with (
          at_builtin
          refine app1 w3 (by rfl) _ _ 22 (by rfl) w.heap.size 3 i0 _ 8 u_ints hi0 hz0 hz1 hz2 rfl _ _ _ (by rfl) ho3 _ (by rfl) (by rfl) (by simp only [maxLen]; omega) (by omega) hal.size ?_
          intro v5 w5 hown5 hb5 _)
        go_roundw
        case rel => exact ⟨k + 1, by omega, by go_num, by rw [mapR_succ, HT.out, ivs_append]; exact hown5, hal.trans hb5⟩
        case measure => simp [intOf] <;> omega
      · obtain rfl : k = c.n := by omega
        go_wp2
        go_ret
        exact ⟨A, cap, by rw [HFN.out.2]; rfl, by rw [HFN.out.2, HFN.out.1]; exact ho, hb⟩
  | false =>
    have HGO := Lib.hid hgo
    rw [hgo] at HOF
    clear hgo
    go_wp2_with fail
    go_loopw [3, 5] (fun x i wr => ∃ k : Nat, k ≤ c.n ∧ i = .int .i64 (k : Int) ∧ wr.ownsRow w.heap.size 3 1 x k (ivs ((List.range k).map (hearsAt c d))) ∧ Below w.heap.size w wr) (fun _ i _ => c.n - (intOf i).toNat)
    case atStart => exact ⟨0, by omega, rfl, ⟨by simp [ivs], .inl ⟨rfl, rfl⟩⟩, Below.refl _ _⟩
    case round =>
      obtain ⟨k, hk, rfl, ho, hb⟩ := hrel
      obtain ⟨c0, c1, c2, c3, c4, c5, c6⟩ := HDR.out wr hb
      obtain ⟨A, cap, rfl, hcp, hcm⟩ := own_shape ho
      by_cases hlt : k < c.n
      · have hI : (k : Int) < (c.n : Int) := by omega
        have hsz := hb.size
        have HOk := Lib.hid (HOF.out wr hb k)
        generalize hp : d.pr k = p at *
        have HP := Lib.hid hp
        clear hp
        go_wp2_with fail
        refine HOk.out.mono ?_
        rintro _ w2 ⟨rfl, hb2⟩
        simp only [peerC]
        have hs2 := hb2.size
        have ho2 := own_over ho hb2
        have hbw2 := hb.trans (hb2.mono hsz)
        have hal : Below w.heap.size w (w2.alloc (.cells #[.int .i64 p.known, .int .i64 p.last, .int .i64 p.age, .int .i64 p.tmo, .int .i64 p.wrong, .bool p.heard, .bool p.mutl, .bool false] 116)) := hbw2.alloc (by omega) _
        have ho3 := own_over ho2 (one_box' w2 (.cells #[.int .i64 p.known, .int .i64 p.last, .int .i64 p.age, .int .i64 p.tmo, .int .i64 p.wrong, .bool p.heard, .bool p.mutl, .bool false] 116))
        have hPB := Blk.new w2 116 #[.int .i64 p.known, .int .i64 p.last, .int .i64 p.age, .int .i64 p.tmo, .int .i64 p.wrong, .bool p.heard, .bool p.mutl, .bool false]
        have hDx := HDR.out _ hal
        obtain ⟨w3, hw3⟩ : ∃ w3, w3 = (w2.alloc (.cells #[.int .i64 p.known, .int .i64 p.last, .int .i64 p.age, .int .i64 p.tmo, .int .i64 p.wrong, .bool p.heard, .bool p.mutl, .bool false] 116)) := ⟨_, rfl⟩
        rw [← hw3] at hal ho3 hPB hDx
        have HW3 := Lib.hid hw3
        have p0 : w3.cell? ⟨w2.heap.size, 0, none⟩ = some (.int .i64 p.known) := hPB.cell 0
        have p5 : w3.cell? ⟨w2.heap.size, 5, none⟩ = some (.bool p.heard) := hPB.cell 5
        have p6 : w3.cell? ⟨w2.heap.size, 6, none⟩ = some (.bool p.mutl) := hPB.cell 6
        clear hw3 ho2 hbw2 hb2 ho hPB c0 c1 c2 c3 c4 c5 c6
        go_upto_region 8 with fail
        rw [← HW3.out]
        obtain ⟨c0, c1, c2, c3, c4, c5, c6⟩ := hDx
        by_cases hs : k = c.self
        · have HT : Hid (hearsAt c d k = c.inc) := Lib.hid (by unfold hearsAt; rw [if_pos hs, if_neg (by rw [HGO.out]; simp)])
          have e1 : ((k : Int) == (c.self : Int)) = true := by simp; omega
          go_wp2_with (
            at_builtin
            refine app1 w3 (by rfl) _ _ 22 (by rfl) w.heap.size 3 i0 _ 8 u_ints hi0 hz0 hz1 hz2 rfl _ _ _ (by rfl) ho3 _ (by rfl) (by rfl) (by simp only [maxLen]; omega) (by omega) hal.size ?_
            intro v5 w5 hown5 hb5 _)
          go_roundw
          case rel => exact ⟨k + 1, by omega, by go_num, by rw [mapR_succ, HT.out, ivs_append]; exact hown5, hal.trans hb5⟩
          case measure => simp [intOf] <;> omega
        have e1 : ((k : Int) == (c.self : Int)) = false := by simp; omega
        cases hh : p.heard with
        | true =>
          have HT : Hid (hearsAt c d k = p.known) := Lib.hid (by unfold hearsAt; rw [if_neg hs, HP.out, if_pos hh])
          rw [hh] at p5
          clear hh
          go_wp2_with (
            at_builtin
            refine app1 w3 (by rfl) _ _ 22 (by rfl) w.heap.size 3 i0 _ 8 u_ints hi0 hz0 hz1 hz2 rfl _ _ _ (by rfl) ho3 _ (by rfl) (by rfl) (by simp only [maxLen]; omega) (by omega) hal.size ?_
            intro v5 w5 hown5 hb5 _)
          go_roundw
          case rel => exact ⟨k + 1, by omega, by go_num, by rw [mapR_succ, HT.out, ivs_append]; exact hown5, hal.trans hb5⟩
          case measure => simp [intOf] <;> omega
        | false =>
          have HT : Hid (hearsAt c d k = 0) := Lib.hid (by unfold hearsAt; rw [if_neg hs, HP.out, if_neg (by rw [hh]; simp)])
          rw [hh] at p5
          clear hh
          go_wp2_with (
            at_builtin
            refine app1 w3 (by rfl) _ _ 22 (by rfl) w.heap.size 3 i0 _ 8 u_ints hi0 hz0 hz1 hz2 rfl _ _ _ (by rfl) ho3 _ (by rfl) (by rfl) (by simp only [maxLen]; omega) (by omega) hal.size ?_
            intro v5 w5 hown5 hb5 _)
          go_roundw
          case rel => exact ⟨k + 1, by omega, by go_num, by rw [mapR_succ, HT.out, ivs_append]; exact hown5, hal.trans hb5⟩
          case measure => simp [intOf] <;> omega
      · obtain rfl : k = c.n := by omega
        go_wp2
        go_ret
        exact ⟨A, cap, by rw [HFN.out.2]; rfl, by rw [HFN.out.2, HFN.out.1]; exact ho, hb⟩
set_option maxRecDepth 100000 in
set_option maxHeartbeats 6400000 in
theorem REst_any (hc : c.Ok) (h : RD w F c K l v) (hF : ∀ k, F k → k < w.heap.size) (hl : ∀ x ∈ l, x.Ok) (hn : l.length < 3518437208883) :
    Calls Try.prog 56 #[.pointer (some ⟨K, 0, none⟩)] w (GivesL w (estL c (dOf c l))) := by
  obtain ⟨i0, hi0, hz0, hz1, hz2⟩ := info_parts info_int
  have hcc := hc
  obtain ⟨hN1, hn16, hsf, _⟩ := hcc
  have HOF := Lib.hid fun (wr : World) (hb : Below w.heap.size w wr) (k : Nat) => (refOf_eq c k l) ▸ Of_any hc (h.below hF hb) (fun x hx => Nat.lt_of_lt_of_le (hF x hx) hb.size) hl (by omega) k
  have HDR := Lib.hid fun (wr : World) (hb : Below w.heap.size w wr) => (h.below hF hb).cell
  have HLH := Lib.hid (dOf_ok hc hl).left
  have HFN : Hid (estL c (dOf c l) = (List.range c.n).map (estAt c (dOf c l)) ∧ (estL c (dOf c l)).length = c.n) := Lib.hid ⟨rfl, by simp [estL]⟩
  generalize hd : dOf c l = d at *
  clear h hF hl hd
  go_enter Try.func56, Try.ntmps56
  go_wp2_with fail
  go_loopw [3, 4] (fun x i wr => ∃ k : Nat, k ≤ c.n ∧ i = .int .i64 (k : Int) ∧ wr.ownsRow w.heap.size 3 1 x k (ivs ((List.range k).map (estAt c d))) ∧ Below w.heap.size w wr) (fun _ i _ => c.n - (intOf i).toNat)
  case atStart => exact ⟨0, by omega, rfl, ⟨by simp [ivs], .inl ⟨rfl, rfl⟩⟩, Below.refl _ _⟩
  case round =>
    obtain ⟨k, hk, rfl, ho, hb⟩ := hrel
    obtain ⟨c0, c1, c2, c3, c4, c5, c6⟩ := HDR.out wr hb
    obtain ⟨A, cap, rfl, hcp, hcm⟩ := own_shape ho
    by_cases hlt : k < c.n
    · have hI : (k : Int) < (c.n : Int) := by omega
      have hsz := hb.size
      have HOk := Lib.hid (HOF.out wr hb k)
      generalize hp : d.pr k = p at *
      have HP := Lib.hid hp
      clear hp
      go_wp2_with fail
      refine HOk.out.mono ?_
      rintro _ w2 ⟨rfl, hb2⟩
      simp only [peerC]
      have hs2 := hb2.size
      have ho2 := own_over ho hb2
      have hbw2 := hb.trans (hb2.mono hsz)
      have hal : Below w.heap.size w (w2.alloc (.cells #[.int .i64 p.known, .int .i64 p.last, .int .i64 p.age, .int .i64 p.tmo, .int .i64 p.wrong, .bool p.heard, .bool p.mutl, .bool d.left] 116)) := hbw2.alloc (by omega) _
      have ho3 := own_over ho2 (one_box' w2 (.cells #[.int .i64 p.known, .int .i64 p.last, .int .i64 p.age, .int .i64 p.tmo, .int .i64 p.wrong, .bool p.heard, .bool p.mutl, .bool d.left] 116))
      have hPB := Blk.new w2 116 #[.int .i64 p.known, .int .i64 p.last, .int .i64 p.age, .int .i64 p.tmo, .int .i64 p.wrong, .bool p.heard, .bool p.mutl, .bool d.left]
      have hDx := HDR.out _ hal
      obtain ⟨w3, hw3⟩ : ∃ w3, w3 = (w2.alloc (.cells #[.int .i64 p.known, .int .i64 p.last, .int .i64 p.age, .int .i64 p.tmo, .int .i64 p.wrong, .bool p.heard, .bool p.mutl, .bool d.left] 116)) := ⟨_, rfl⟩
      rw [← hw3] at hal ho3 hPB hDx
      have HW3 := Lib.hid hw3
      have p0 : w3.cell? ⟨w2.heap.size, 0, none⟩ = some (.int .i64 p.known) := hPB.cell 0
      have p5 : w3.cell? ⟨w2.heap.size, 5, none⟩ = some (.bool p.heard) := hPB.cell 5
      have p6 : w3.cell? ⟨w2.heap.size, 6, none⟩ = some (.bool p.mutl) := hPB.cell 6
      clear hw3 ho2 hbw2 hb2 ho hPB c0 c1 c2 c3 c4 c5 c6
      go_upto_region 7 with fail
      rw [← HW3.out]
      obtain ⟨c0, c1, c2, c3, c4, c5, c6⟩ := hDx
      by_cases hs : k = c.self
      · have HT : Hid (estAt c d k = c.inc) := Lib.hid (by unfold estAt; rw [if_pos hs])
        have e1 : ((k : Int) == (c.self : Int)) = true := by simp; omega
        go_wp2_with (
          at_builtin
          refine app1 w3 (by rfl) _ _ 22 (by rfl) w.heap.size 3 i0 _ 8 u_ints hi0 hz0 hz1 hz2 rfl _ _ _ (by rfl) ho3 _ (by rfl) (by rfl) (by simp only [maxLen]; omega) (by omega) hal.size ?_
          intro v5 w5 hown5 hb5 _)
        go_roundw
        case rel => exact ⟨k + 1, by omega, by go_num, by rw [mapR_succ, HT.out, ivs_append]; exact hown5, hal.trans hb5⟩
        case measure => simp [intOf] <;> omega
      have e1 : ((k : Int) == (c.self : Int)) = false := by simp; omega
      cases hh : p.heard with
      | true =>
        cases hmu : p.mutl with
        | true =>
          have HT : Hid (estAt c d k = p.known) := Lib.hid (by unfold estAt; rw [if_neg hs, HP.out, if_pos ⟨hh, hmu⟩])
          rw [hh] at p5
          rw [hmu] at p6
          clear hh hmu
          go_wp2_with (
            at_builtin
            refine app1 w3 (by rfl) _ _ 22 (by rfl) w.heap.size 3 i0 _ 8 u_ints hi0 hz0 hz1 hz2 rfl _ _ _ (by rfl) ho3 _ (by rfl) (by rfl) (by simp only [maxLen]; omega) (by omega) hal.size ?_
            intro v5 w5 hown5 hb5 _)
          go_roundw
          case rel => exact ⟨k + 1, by omega, by go_num, by rw [mapR_succ, HT.out, ivs_append]; exact hown5, hal.trans hb5⟩
          case measure => simp [intOf] <;> omega
        | false =>
          have HT : Hid (estAt c d k = 0) := Lib.hid (by unfold estAt; rw [if_neg hs, HP.out, if_neg (by rw [hmu]; simp)])
          rw [hh] at p5
          rw [hmu] at p6
          clear hh hmu
          go_wp2_with (
            at_builtin
            refine app1 w3 (by rfl) _ _ 22 (by rfl) w.heap.size 3 i0 _ 8 u_ints hi0 hz0 hz1 hz2 rfl _ _ _ (by rfl) ho3 _ (by rfl) (by rfl) (by simp only [maxLen]; omega) (by omega) hal.size ?_
            intro v5 w5 hown5 hb5 _)
          go_roundw
          case rel => exact ⟨k + 1, by omega, by go_num, by rw [mapR_succ, HT.out, ivs_append]; exact hown5, hal.trans hb5⟩
          case measure => simp [intOf] <;> omega
      | false =>
        have HT : Hid (estAt c d k = 0) := Lib.hid (by unfold estAt; rw [if_neg hs, HP.out, if_neg (by rw [hh]; simp)])
        rw [hh] at p5
        clear hh
        go_wp2_with (
          at_builtin
          refine app1 w3 (by rfl) _ _ 22 (by rfl) w.heap.size 3 i0 _ 8 u_ints hi0 hz0 hz1 hz2 rfl _ _ _ (by rfl) ho3 _ (by rfl) (by rfl) (by simp only [maxLen]; omega) (by omega) hal.size ?_
          intro v5 w5 hown5 hb5 _)
        go_roundw
        case rel => exact ⟨k + 1, by omega, by go_num, by rw [mapR_succ, HT.out, ivs_append]; exact hown5, hal.trans hb5⟩
        case measure => simp [intOf] <;> omega
    · obtain rfl : k = c.n := by omega
      go_wp2
      go_ret
      exact ⟨A, cap, by rw [HFN.out.2]; rfl, by rw [HFN.out.2, HFN.out.1]; exact ho, hb⟩
set_option maxRecDepth 100000 in
set_option maxHeartbeats 6400000 in
theorem RSusp_any (hc : c.Ok) (h : RD w F c K l v) (hF : ∀ k, F k → k < w.heap.size) (hl : ∀ x ∈ l, x.Ok) (hn : l.length < 3518437208883) :
    Calls Try.prog 57 #[.pointer (some ⟨K, 0, none⟩)] w (GivesL w (suspL c (dOf c l) c.n)) := by
  obtain ⟨i0, hi0, hz0, hz1, hz2⟩ := info_parts info_int
  have hcc := hc
  obtain ⟨hN1, hn16, hsf, _⟩ := hcc
  have HOF := Lib.hid fun (wr : World) (hb : Below w.heap.size w wr) (k : Nat) => (refOf_eq c k l) ▸ Of_any hc (h.below hF hb) (fun x hx => Nat.lt_of_lt_of_le (hF x hx) hb.size) hl (by omega) k
  have HDR := Lib.hid fun (wr : World) (hb : Below w.heap.size w wr) => (h.below hF hb).cell
  have HLH := Lib.hid (dOf_ok hc hl).left
  generalize hd : dOf c l = d at *
  clear h hF hl hd
  go_enter Try.func57, Try.ntmps57
  go_wp2_with fail
  go_loopw [3, 4] (fun x i wr => ∃ k : Nat, k ≤ c.n ∧ i = .int .i64 (k : Int) ∧ wr.ownsRow w.heap.size 3 1 x (suspL c d k).length (ivs (suspL c d k)) ∧ Below w.heap.size w wr) (fun _ i _ => c.n - (intOf i).toNat)
  case atStart => exact ⟨0, by omega, rfl, ⟨by simp [suspL, ivs], .inl ⟨rfl, by simp [suspL]⟩⟩, Below.refl _ _⟩
  case round =>
    obtain ⟨k, hk, rfl, ho, hb⟩ := hrel
    obtain ⟨c0, c1, c2, c3, c4, c5, c6⟩ := HDR.out wr hb
    obtain ⟨A, cap, rfl, hcp, hcm⟩ := own_shape ho
    by_cases hlt : k < c.n
    · have hI : (k : Int) < (c.n : Int) := by omega
      have hsz := hb.size
      have HOk := Lib.hid (HOF.out wr hb k)
      generalize hp : d.pr k = p at *
      have HP := Lib.hid hp
      clear hp
      go_wp2_with fail
      refine HOk.out.mono ?_
      rintro _ w2 ⟨rfl, hb2⟩
      simp only [peerC]
      have hs2 := hb2.size
      have ho2 := own_over ho hb2
      have hbw2 := hb.trans (hb2.mono hsz)
      have hal : Below w.heap.size w (w2.alloc (.cells #[.int .i64 p.known, .int .i64 p.last, .int .i64 p.age, .int .i64 p.tmo, .int .i64 p.wrong, .bool p.heard, .bool p.mutl, .bool d.left] 116)) := hbw2.alloc (by omega) _
      have ho3 := own_over ho2 (one_box' w2 (.cells #[.int .i64 p.known, .int .i64 p.last, .int .i64 p.age, .int .i64 p.tmo, .int .i64 p.wrong, .bool p.heard, .bool p.mutl, .bool d.left] 116))
      have hPB := Blk.new w2 116 #[.int .i64 p.known, .int .i64 p.last, .int .i64 p.age, .int .i64 p.tmo, .int .i64 p.wrong, .bool p.heard, .bool p.mutl, .bool d.left]
      have hDx := HDR.out _ hal
      obtain ⟨w3, hw3⟩ : ∃ w3, w3 = (w2.alloc (.cells #[.int .i64 p.known, .int .i64 p.last, .int .i64 p.age, .int .i64 p.tmo, .int .i64 p.wrong, .bool p.heard, .bool p.mutl, .bool d.left] 116)) := ⟨_, rfl⟩
      rw [← hw3] at hal ho3 hPB hDx
      have HW3 := Lib.hid hw3
      have p0 : w3.cell? ⟨w2.heap.size, 0, none⟩ = some (.int .i64 p.known) := hPB.cell 0
      have p5 : w3.cell? ⟨w2.heap.size, 5, none⟩ = some (.bool p.heard) := hPB.cell 5
      have p6 : w3.cell? ⟨w2.heap.size, 6, none⟩ = some (.bool p.mutl) := hPB.cell 6
      clear hw3 ho2 hbw2 hb2 ho hPB c0 c1 c2 c3 c4 c5 c6
      go_upto_region 6 with fail
      rw [← HW3.out]
      obtain ⟨c0, c1, c2, c3, c4, c5, c6⟩ := hDx
      have HSS := Lib.hid (suspL_succ c d k)
      have hsl := suspL_len c d k
      by_cases hs : k = c.self
      · have HT : Hid (suspL c d (k + 1) = suspL c d k) := Lib.hid (by rw [HSS.out, if_neg (by simp [susp, hs])]; simp)
        have e1 : ((k : Int) != (c.self : Int)) = false := by simp; omega
        go_wp2
        go_roundw
        case rel => exact ⟨k + 1, by omega, by go_num, by rw [HT.out]; exact ho3, hal⟩
        case measure => simp [intOf] <;> omega
      have e1 : ((k : Int) != (c.self : Int)) = true := by simp; omega
      cases hh : p.heard with
      | true =>
        have HT : Hid (suspL c d (k + 1) = suspL c d k) := Lib.hid (by rw [HSS.out, if_neg (by simp [susp, HP.out, hh])]; simp)
        rw [hh] at p5
        clear hh
        go_wp2
        go_roundw
        case rel => exact ⟨k + 1, by omega, by go_num, by rw [HT.out]; exact ho3, hal⟩
        case measure => simp [intOf] <;> omega
      | false =>
        by_cases hz : p.known = 0
        · have HT : Hid (suspL c d (k + 1) = suspL c d k) := Lib.hid (by rw [HSS.out, if_neg (by simp [susp, HP.out, hz])]; simp)
          have e2 : (p.known != 0) = false := by simpa using hz
          rw [hh] at p5
          clear hh hz
          go_wp2
          go_roundw
          case rel => exact ⟨k + 1, by omega, by go_num, by rw [HT.out]; exact ho3, hal⟩
          case measure => simp [intOf] <;> omega
        · have HT : Hid (suspL c d (k + 1) = suspL c d k ++ [(k : Int)]) := Lib.hid (by rw [HSS.out, if_pos (by simp [susp, HP.out, hs, hh, hz])])
          have e2 : (p.known != 0) = true := by simpa using hz
          rw [hh] at p5
          clear hh hz
          go_wp2_with (
            at_builtin
            refine app1 w3 (by rfl) _ _ 22 (by rfl) w.heap.size 3 i0 _ 8 u_ints hi0 hz0 hz1 hz2 rfl _ _ _ (by rfl) ho3 _ (by rfl) (by rfl) (by simp only [maxLen]; omega) (by omega) hal.size ?_
            intro v5 w5 hown5 hb5 _)
          go_roundw
          case rel => exact ⟨k + 1, by omega, by go_num, by rw [HT.out, List.length_append, ivs_append]; exact hown5, hal.trans hb5⟩
          case measure => simp [intOf] <;> omega
    · obtain rfl : k = c.n := by omega
      go_wp2
      go_ret
      exact ⟨A, cap, rfl, ho, hb⟩
end Go.Proofs.Ytfjpmoigpnmeoaa
