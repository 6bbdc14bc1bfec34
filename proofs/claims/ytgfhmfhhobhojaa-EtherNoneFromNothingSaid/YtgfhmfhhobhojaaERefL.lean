/-
  The document's network: twin, given, way, at.
-/
import Derived.Test.YtgfhmfhhobhojaaERefN
namespace Go.Proofs.Ytgfhmfhhobhojaa
open Go.ChangeShapes Go.WideShapes Go.ChangeAt Go.RowKit
variable {w : World} {F : Nat → Prop} {c : ECfg} {D : Nat} {r : RV}
theorem info_int : (Try.prog.info? 3).map (fun i => (i.zero, i.size, i.bytes)) = some (some (.int .i64 0), 1, 8) := by kernel_rfl
theorem u_ints : Try.prog.underlying 31 = some (.slice 3) := Try.underlying31
def TwinR (w : World) (bs : List UInt8) (e : Ending) (w' : World) : Prop := ∃ A cap, e = .returned (.slice A bs.length cap) ∧ w'.ownsRow w.heap.size 5 1 (.slice A bs.length cap) bs.length (bvs bs) ∧ Below w.heap.size w w'
set_option maxRecDepth 100000 in
set_option maxHeartbeats 1600000 in
theorem twin_any (bA : Option Addr) (cap : Nat) (bs : List UInt8) (hr : RdB w w.heap.size bA bs.length bs) (hn : bs.length ≤ 140737488351232) : Calls Try.prog 87 #[.slice bA bs.length cap] w (TwinR w bs) := by
  obtain ⟨i0, hi0, hz0, hz1, hz2⟩ := info_parts info_u8
  have HR := Lib.hid hr
  clear hr
  generalize hN : bs.length = N at *
  have HN := Lib.hid hN
  clear hN
  have HST : Hid (w.ownsRow w.heap.size 5 1 (.slice none 0 0) 0 (bvs (bs.take 0)) ∧ Below w.heap.size w w) := Lib.hid ⟨⟨by simp [bvs], .inl ⟨rfl, rfl⟩⟩, Below.refl _ _⟩
  go_enter Try.func87, Try.ntmps87
  go_wp2_with fail
  go_loopw [3, 4] (fun v3 i wr => ∃ k : Nat, k ≤ N ∧ i = .int .i64 (k : Int) ∧ Hid (wr.ownsRow w.heap.size 5 1 v3 k (bvs (bs.take k)) ∧ Below w.heap.size w wr)) (fun _ i _ => N - (intOf i).toNat)
  case atStart => exact ⟨0, by omega, rfl, HST⟩
  case round =>
    clear HST
    obtain ⟨k, hk, rfl, HT⟩ := hrel
    obtain ⟨A3, cap3, rfl, hcp3, hcm3⟩ := own_shape HT.out.1
    by_cases hlt : k < N
    · have hI : (k : Int) < (N : Int) := by omega
      obtain ⟨b, off, x, rfl, hbl, hx, hcx⟩ := (HR.out.below HT.out.2).byte hlt
      have HTK : Hid (bvs (bs.take (k + 1)) = bvs (bs.take k) ++ [.int .u8 (x.toNat : Int)]) := Lib.hid (by rw [List.take_add_one, hx]; simp [bvs])
      have hsr := HT.out.2.size
      clear hx
      go_wp2_with (at_builtin; refine appN wr (by rfl) _ _ 30 (by rfl) w.heap.size 5 i0 _ 1 1 u_bytes hi0 hz0 hz1 hz2 rfl (by decide) _ k _ (by rfl) HT.out.1 #[.int .u8 (x.toNat : Int)] rfl (by rfl) (by simp; rfl) (by simp only [maxLen]; omega) (by omega) hsr ?_; intro v9 w9 own9 hb9 _)
      have HN9 : Hid (w9.ownsRow w.heap.size 5 1 v9 (k + 1) (bvs (bs.take (k + 1))) ∧ Below w.heap.size w w9) := Lib.hid ⟨by rw [HTK.out]; exact own9, HT.out.2.trans hb9⟩
      clear own9 hb9
      go_roundw
      case rel => exact ⟨k + 1, by omega, by go_num, HN9⟩
      case measure => simp [intOf] <;> omega
    · obtain rfl : k = N := by omega
      have HE : Hid (TwinR w bs (.returned (.slice A3 k cap3)) wr) := Lib.hid ⟨A3, cap3, by rw [HN.out], by
        have h := HT.out.1
        rw [← HN.out, List.take_length] at h
        exact h, HT.out.2⟩
      go_wp2
      go_ret
      exact HE.out
/-- A flight that is given out. -/
def GivenR (w : World) (f : Flt) (e : Ending) (w' : World) : Prop := ∃ A cap, e = .returned (.agg #[.int .i64 (f.id : Int), .int .i64 (f.src : Int), .int .i64 (f.dst : Int), .int .i64 (f.due : Int), .slice A f.bs.length cap]) ∧ w'.ownsRow w.heap.size 5 1 (.slice A f.bs.length cap) f.bs.length (bvs f.bs) ∧ Below w.heap.size w w'
set_option maxRecDepth 100000 in
set_option maxHeartbeats 1600000 in
theorem given_any (f : Flt) (bA : Option Addr) (cap : Nat) (hr : RdB w w.heap.size bA f.bs.length f.bs) (hn : f.bs.length ≤ 140737488351232) : Calls Try.prog 80 #[.agg #[.int .i64 (f.id : Int), .int .i64 (f.src : Int), .int .i64 (f.dst : Int), .int .i64 (f.due : Int), .slice bA f.bs.length cap]] w (GivenR w f) := by
  have hb0 := one_box' w (.cells #[.int .i64 (f.id : Int), .int .i64 (f.src : Int), .int .i64 (f.dst : Int), .int .i64 (f.due : Int), .slice bA f.bs.length cap] 48)
  have hX := Blk.new w 48 #[.int .i64 (f.id : Int), .int .i64 (f.src : Int), .int .i64 (f.dst : Int), .int .i64 (f.due : Int), .slice bA f.bs.length cap]
  obtain ⟨w0, hw0⟩ : ∃ w0, w0 = w.alloc (.cells #[.int .i64 (f.id : Int), .int .i64 (f.src : Int), .int .i64 (f.dst : Int), .int .i64 (f.due : Int), .slice bA f.bs.length cap] 48) := ⟨_, rfl⟩
  rw [← hw0] at hb0 hX
  have hb1 := one_box' w0 (.cells #[.int .i64 0, .int .i64 0, .int .i64 0, .int .i64 0, .slice none 0 0] 48)
  have hZ := Blk.new w0 48 #[.int .i64 0, .int .i64 0, .int .i64 0, .int .i64 0, .slice none 0 0]
  have hX1 := hX.over hb1
  obtain ⟨w1, hw1⟩ : ∃ w1, w1 = w0.alloc (.cells #[.int .i64 0, .int .i64 0, .int .i64 0, .int .i64 0, .slice none 0 0] 48) := ⟨_, rfl⟩
  rw [← hw1] at hb1 hZ hX1
  have hsz : w0.heap.size = w.heap.size + 1 := by rw [hw0]; simp
  rw [hsz] at hZ
  have hb01 := hb0.trans (hb1.mono hb0.size)
  obtain ⟨w2, hw2⟩ : ∃ w2, w2 = w1.drew := ⟨_, rfl⟩
  have hb2 : Below w.heap.size w w2 := by rw [hw2]; exact below_drewN hb01 1
  have hX2 : Blk w2 w.heap.size 48 #[.int .i64 (f.id : Int), .int .i64 (f.src : Int), .int .i64 (f.dst : Int), .int .i64 (f.due : Int), .slice bA f.bs.length cap] := by rw [hw2]; exact hX1
  have hZ2 : Blk w2 (w.heap.size + 1) 48 #[.int .i64 0, .int .i64 0, .int .i64 0, .int .i64 0, .slice none 0 0] := by rw [hw2]; exact hZ
  have x0 : w2.cell? ⟨w.heap.size, 0, none⟩ = some (.int .i64 (f.id : Int)) := hX2.cell 0
  have x1 : w2.cell? ⟨w.heap.size, 1, none⟩ = some (.int .i64 (f.src : Int)) := hX2.cell 1
  have x2 : w2.cell? ⟨w.heap.size, 2, none⟩ = some (.int .i64 (f.dst : Int)) := hX2.cell 2
  have x3 : w2.cell? ⟨w.heap.size, 3, none⟩ = some (.int .i64 (f.due : Int)) := hX2.cell 3
  have x4 : w2.cell? ⟨w.heap.size, 4, none⟩ = some (.slice bA f.bs.length cap) := hX2.cell 4
  have HT := Lib.hid (twin_any (w := w2) bA cap f.bs ((hr.below hb2).more hb2.size) hn)
  have HW0 := Lib.hid hw0
  have HW1 := Lib.hid hw1
  have HW2 := Lib.hid hw2
  have HZ2 := Lib.hid hZ2
  have HB2 := Lib.hid hb2
  have HXX : Hid (∀ W, Below w2.heap.size w2 W → Blk W w.heap.size 48 #[.int .i64 (f.id : Int), .int .i64 (f.src : Int), .int .i64 (f.dst : Int), .int .i64 (f.due : Int), .slice bA f.bs.length cap]) := Lib.hid fun W hW => hX2.over hW
  clear hw0 hw1 hw2 hb0 hb1 hb01 hb2 hX hX1 hX2 hZ hZ2 hr hsz
  go_enter Try.func80, Try.ntmps80
  go_upto_region 1 with fail
  rw [← HW0.out, ← HW1.out]
  have hS0 : w2.cell? ⟨w.heap.size, 0, none⟩ = some (.int .i64 (f.id : Int)) ∧ w2.cell? ⟨w.heap.size, 1, none⟩ = some (.int .i64 (f.src : Int)) ∧ w2.cell? ⟨w.heap.size, 2, none⟩ = some (.int .i64 (f.dst : Int)) ∧ w2.cell? ⟨w.heap.size, 3, none⟩ = some (.int .i64 (f.due : Int)) ∧ w2.cell? ⟨w.heap.size, 4, none⟩ = some (.slice bA f.bs.length cap) := ⟨x0, x1, x2, x3, x4⟩
  refine wp_region_held_drew (S := (fun w' => w'.cell? ⟨w.heap.size, 0, none⟩ = some (.int .i64 (f.id : Int)) ∧ w'.cell? ⟨w.heap.size, 1, none⟩ = some (.int .i64 (f.src : Int)) ∧ w'.cell? ⟨w.heap.size, 2, none⟩ = some (.int .i64 (f.dst : Int)) ∧ w'.cell? ⟨w.heap.size, 3, none⟩ = some (.int .i64 (f.due : Int)) ∧ w'.cell? ⟨w.heap.size, 4, none⟩ = some (.slice bA f.bs.length cap))) (by kernel_rfl) (by rw [← HW2.out]; exact hS0) (fun hHeld => ?_)
  rw [← HW2.out] at hHeld ⊢
  refine wpAnyH_take (i := 0) (oi := ?oi0a) (v := ?v0a) ?hi0a (by kernel_rfl) (by kernel_rfl) (by kernel_rfl) ?hq0a ?hy0a (by assumption) ?rest0a
  case hi0a => (simp only [List.getElem?_toArray, List.getElem?_cons_zero]; rfl)
  case hy0a => (refine Or.inl ⟨by rfl, ?_⟩; intro w hSw; (try dsimp only at hSw); go_simp; try with_reducible rfl)
  case hq0a => exact fun _ _ _ h => h
  try simp only [Act.put, List.setIfInBounds_toArray, List.set_cons_zero, List.set_cons_succ]
  refine wpAnyH_take (i := 1) (oi := ?oi1a) (v := ?v1a) ?hi1a (by kernel_rfl) (by kernel_rfl) (by kernel_rfl) ?hq1a ?hy1a (by assumption) ?rest1a
  case hi1a => (simp only [List.getElem?_toArray, List.getElem?_cons_zero, List.getElem?_cons_succ]; rfl)
  case hy1a => (refine Or.inl ⟨by rfl, ?_⟩; intro w hSw; (try dsimp only at hSw); go_simp; try with_reducible rfl)
  case hq1a => exact fun _ _ _ h => h
  try simp only [Act.put, List.setIfInBounds_toArray, List.set_cons_zero, List.set_cons_succ]
  refine wpAnyH_take (i := 2) (oi := ?oi2a) (v := ?v2a) ?hi2a (by kernel_rfl) (by kernel_rfl) (by kernel_rfl) ?hq2a ?hy2a (by assumption) ?rest2a
  case hi2a => (simp only [List.getElem?_toArray, List.getElem?_cons_zero, List.getElem?_cons_succ]; rfl)
  case hy2a => (refine Or.inl ⟨by rfl, ?_⟩; intro w hSw; (try dsimp only at hSw); go_simp; try with_reducible rfl)
  case hq2a => exact fun _ _ _ h => h
  try simp only [Act.put, List.setIfInBounds_toArray, List.set_cons_zero, List.set_cons_succ]
  refine wpAnyH_take (i := 3) (oi := ?oi3a) (v := ?v3a) ?hi3a (by kernel_rfl) (by kernel_rfl) (by kernel_rfl) ?hq3a ?hy3a (by assumption) ?rest3a
  case hi3a => (simp only [List.getElem?_toArray, List.getElem?_cons_zero, List.getElem?_cons_succ]; rfl)
  case hy3a => (refine Or.inl ⟨by rfl, ?_⟩; intro w hSw; (try dsimp only at hSw); go_simp; try with_reducible rfl)
  case hq3a => exact fun _ _ _ h => h
  try simp only [Act.put, List.setIfInBounds_toArray, List.set_cons_zero, List.set_cons_succ]
  refine wpAnyH_take (i := 4) (oi := ?oi4a) (v := ?v4a) ?hi4a (by kernel_rfl) (by kernel_rfl) (by kernel_rfl) ?hq4a ?hy4a (by assumption) ?rest4a
  case hi4a => (simp only [List.getElem?_toArray, List.getElem?_cons_zero, List.getElem?_cons_succ]; rfl)
  case hy4a => (refine Or.inl ⟨by rfl, ?_⟩; intro w hSw; (try dsimp only at hSw); go_simp; try with_reducible rfl)
  case hq4a => exact fun _ _ _ h => h
  try simp only [Act.put, List.setIfInBounds_toArray, List.set_cons_zero, List.set_cons_succ]
  refine wpAnyH_take (i := 5) (oi := ?oi5a) (v := ?v5a) ?hi5a (by kernel_rfl) (by kernel_rfl) (by kernel_rfl) ?hq5a ?hy5a (by assumption) ?rest5a
  case hi5a => (simp only [List.getElem?_toArray, List.getElem?_cons_zero, List.getElem?_cons_succ]; rfl)
  case hy5a => (refine Or.inl ⟨by rfl, ?_⟩; intro w hSw; (try dsimp only at hSw); go_simp; try with_reducible rfl)
  case hq5a => exact fun _ _ _ h => h
  try simp only [Act.put, List.setIfInBounds_toArray, List.set_cons_zero, List.set_cons_succ]
  refine wpAnyH_take (i := 6) (oi := ?oi6a) (v := ?v6a) ?hi6a (by kernel_rfl) (by kernel_rfl) (by kernel_rfl) ?hq6a ?hy6a (by assumption) ?rest6a
  case hi6a => (simp only [List.getElem?_toArray, List.getElem?_cons_zero, List.getElem?_cons_succ]; rfl)
  case hy6a => (refine Or.inl ⟨by rfl, ?_⟩; intro w hSw; (try dsimp only at hSw); go_simp; try with_reducible rfl)
  case hq6a => exact fun _ _ _ h => h
  try simp only [Act.put, List.setIfInBounds_toArray, List.set_cons_zero, List.set_cons_succ]
  refine wpAnyH_take (i := 7) (oi := ?oi7a) (v := ?v7a) ?hi7a (by kernel_rfl) (by kernel_rfl) (by kernel_rfl) ?hq7a ?hy7a (by assumption) ?rest7a
  case hi7a => (simp only [List.getElem?_toArray, List.getElem?_cons_zero, List.getElem?_cons_succ]; rfl)
  case hy7a => (refine Or.inl ⟨by rfl, ?_⟩; intro w hSw; (try dsimp only at hSw); go_simp; try with_reducible rfl)
  case hq7a => exact fun _ _ _ h => h
  try simp only [Act.put, List.setIfInBounds_toArray, List.set_cons_zero, List.set_cons_succ]
  refine wpAnyH_take (i := 8) (oi := ?oi8a) (v := ?v8a) ?hi8a (by kernel_rfl) (by kernel_rfl) (by kernel_rfl) ?hq8a ?hy8a (by assumption) ?rest8a
  case hi8a => (simp only [List.getElem?_toArray, List.getElem?_cons_zero, List.getElem?_cons_succ]; rfl)
  case hy8a => (refine Or.inl ⟨by rfl, ?_⟩; intro w hSw; (try dsimp only at hSw); go_simp; try with_reducible rfl)
  case hq8a => exact fun _ _ _ h => h
  try simp only [Act.put, List.setIfInBounds_toArray, List.set_cons_zero, List.set_cons_succ]
  refine wpAnyH_take (i := 9) (oi := ?oi9a) (v := ?v9a) ?hi9a (by kernel_rfl) (by kernel_rfl) (by kernel_rfl) ?hq9a ?hy9a (by assumption) ?rest9a
  case hi9a => (simp only [List.getElem?_toArray, List.getElem?_cons_zero, List.getElem?_cons_succ]; rfl)
  case hy9a => (refine Or.inl ⟨by rfl, ?_⟩; intro w hSw; (try dsimp only at hSw); go_simp; try with_reducible rfl)
  case hq9a => exact fun _ _ _ h => h
  try simp only [Act.put, List.setIfInBounds_toArray, List.set_cons_zero, List.set_cons_succ]
  refine wpAnyH_ready (rs := [10]) (by kernel_rfl) (by simp) ?_
  refine AllReadyH.cons (o := ?o10p0) ?ho10p0 (fun K hK => ?st10p0) ?mo10p0
  case ho10p0 => (simp only [List.getElem?_toArray, List.getElem?_cons_zero, List.getElem?_cons_succ]; rfl)
  · skip
    go_simp
    refine HT.out.mono ?_
    rintro _ w3 ⟨A3, cap3, rfl, ho3, hb3⟩
    have HB3 := Lib.hid (And.intro ho3 hb3)
    clear ho3 hb3
    go_simp
    refine hK.out _ _ ⟨(HXX.out w3 HB3.out.2).cell 0, (HXX.out w3 HB3.out.2).cell 1, (HXX.out w3 HB3.out.2).cell 2, (HXX.out w3 HB3.out.2).cell 3, (HXX.out w3 HB3.out.2).cell 4⟩ (fun hHeld2 => ?_)
    clear hK K
    try simp only [Act.put, List.setIfInBounds_toArray, List.set_cons_zero, List.set_cons_succ]
    refine wpAnyH_take (i := 11) (oi := ?oi11b) (v := ?v11b) ?hi11b (by kernel_rfl) (by kernel_rfl) (by kernel_rfl) ?hq11b ?hy11b (by assumption) ?rest11b
    case hi11b => (simp only [List.getElem?_toArray, List.getElem?_cons_zero, List.getElem?_cons_succ]; rfl)
    case hy11b => (refine Or.inl ⟨by rfl, ?_⟩; intro w hSw; (try dsimp only at hSw); go_simp; try with_reducible rfl)
    case hq11b => exact fun _ _ _ h => h
    try simp only [Act.put, List.setIfInBounds_toArray, List.set_cons_zero, List.set_cons_succ]
    have hz3 := HZ2.out.over HB3.out.2
    have q0 : w3.cell? ⟨w.heap.size + 1, 0, none⟩ = some (.int .i64 0) := hz3.cell 0
    have p0 : w3.frozen? ⟨w.heap.size + 1, 0, none⟩ = false := hz3.frozen 0
    have q1 : w3.cell? ⟨w.heap.size + 1, 1, none⟩ = some (.int .i64 0) := hz3.cell 1
    have p1 : w3.frozen? ⟨w.heap.size + 1, 1, none⟩ = false := hz3.frozen 1
    have q2 : w3.cell? ⟨w.heap.size + 1, 2, none⟩ = some (.int .i64 0) := hz3.cell 2
    have p2 : w3.frozen? ⟨w.heap.size + 1, 2, none⟩ = false := hz3.frozen 2
    have q3 : w3.cell? ⟨w.heap.size + 1, 3, none⟩ = some (.int .i64 0) := hz3.cell 3
    have p3 : w3.frozen? ⟨w.heap.size + 1, 3, none⟩ = false := hz3.frozen 3
    have q4 : w3.cell? ⟨w.heap.size + 1, 4, none⟩ = some (.slice none 0 0) := hz3.cell 4
    have p4 : w3.frozen? ⟨w.heap.size + 1, 4, none⟩ = false := hz3.frozen 4
    obtain ⟨w9, hw9⟩ : ∃ w9, w9 = (((((w3).setCell ⟨w.heap.size + 1, 0, none⟩ (.int .i64 (f.id : Int))).setCell ⟨w.heap.size + 1, 1, none⟩ (.int .i64 (f.src : Int))).setCell ⟨w.heap.size + 1, 2, none⟩ (.int .i64 (f.dst : Int))).setCell ⟨w.heap.size + 1, 3, none⟩ (.int .i64 (f.due : Int))).setCell ⟨w.heap.size + 1, 4, none⟩ (.slice A3 f.bs.length cap3) := ⟨_, rfl⟩
    have hch : Chg (fun j => j = w.heap.size + 1) w3 w9 := by
      rw [hw9]
      exact ((((((Chg.refl (fun j => j = w.heap.size + 1) w3)).setCell (p := ⟨w.heap.size + 1, 0, none⟩) (.inl rfl) _).setCell (p := ⟨w.heap.size + 1, 1, none⟩) (.inl rfl) _).setCell (p := ⟨w.heap.size + 1, 2, none⟩) (.inl rfl) _).setCell (p := ⟨w.heap.size + 1, 3, none⟩) (.inl rfl) _).setCell (p := ⟨w.heap.size + 1, 4, none⟩) (.inl rfl) _
    have hz9 : Blk w9 (w.heap.size + 1) 48 #[.int .i64 (f.id : Int), .int .i64 (f.src : Int), .int .i64 (f.dst : Int), .int .i64 (f.due : Int), .slice A3 f.bs.length cap3] := by rw [hw9]; exact ((((hz3.set_ 0 _).set_ 1 _).set_ 2 _).set_ 3 _).set_ 4 _
    have y0 : w9.cell? ⟨w.heap.size + 1, 0, none⟩ = some (.int .i64 (f.id : Int)) := hz9.cell 0
    have y1 : w9.cell? ⟨w.heap.size + 1, 1, none⟩ = some (.int .i64 (f.src : Int)) := hz9.cell 1
    have y2 : w9.cell? ⟨w.heap.size + 1, 2, none⟩ = some (.int .i64 (f.dst : Int)) := hz9.cell 2
    have y3 : w9.cell? ⟨w.heap.size + 1, 3, none⟩ = some (.int .i64 (f.due : Int)) := hz9.cell 3
    have y4 : w9.cell? ⟨w.heap.size + 1, 4, none⟩ = some (.slice A3 f.bs.length cap3) := hz9.cell 4
    have hx9 := (HXX.out w3 HB3.out.2).chg hch (fun e => Nat.ne_of_lt (Nat.lt_succ_self _) e)
    have hS9 : Hid (w9.cell? ⟨w.heap.size, 0, none⟩ = some (.int .i64 (f.id : Int)) ∧ w9.cell? ⟨w.heap.size, 1, none⟩ = some (.int .i64 (f.src : Int)) ∧ w9.cell? ⟨w.heap.size, 2, none⟩ = some (.int .i64 (f.dst : Int)) ∧ w9.cell? ⟨w.heap.size, 3, none⟩ = some (.int .i64 (f.due : Int)) ∧ w9.cell? ⟨w.heap.size, 4, none⟩ = some (.slice bA f.bs.length cap)) := Lib.hid ⟨hx9.cell 0, hx9.cell 1, hx9.cell 2, hx9.cell 3, hx9.cell 4⟩
    have HE : Hid (GivenR w f (.returned (.agg #[.int .i64 (f.id : Int), .int .i64 (f.src : Int), .int .i64 (f.dst : Int), .int .i64 (f.due : Int), .slice A3 f.bs.length cap3])) w9) := Lib.hid ⟨A3, cap3, rfl, own_base (own_chg HB3.out.1 hch fun g hg e => by
      have h1 := (own_block_lt HB3.out.1 hg).2.1
      have h2 := HZ2.out.lt
      omega) HB2.out.size, (HB2.out.trans (HB3.out.2.mono HB2.out.size)).trans (hch.to_below (Nat.le_trans HB2.out.size HB3.out.2.size) fun j e => by omega)⟩
    have HW9 := Lib.hid hw9
    clear hw9 hch hz9 hx9 hz3
    refine wpAnyH_ready (rs := [12]) (by kernel_rfl) (by simp) ?_
    refine AllReadyH.cons (o := ?o12p1) ?ho12p1 (fun K hK => ?st12p1) ?mo12p1
    case ho12p1 => (simp only [List.getElem?_toArray, List.getElem?_cons_zero, List.getElem?_cons_succ]; rfl)
    · skip
      go_simp
      rw [← HW9.out]
      refine hK.out _ _ hS9.out (fun hHeld3 => ?_)
      clear hK K
      try simp only [Act.put, List.setIfInBounds_toArray, List.set_cons_zero, List.set_cons_succ]
      refine wpAnyH_done (by kernel_rfl) ?_ _
      go_wp2
      exact bodyPost_ret (v := .agg #[.int .i64 (f.id : Int), .int .i64 (f.src : Int), .int .i64 (f.dst : Int), .int .i64 (f.due : Int), .slice A3 f.bs.length cap3]) (by simp [results, Try.results80, y0, y1, y2, y3, y4, go_sem]) rfl HE.out
    · exact AllReadyH.nil
  · exact AllReadyH.nil
end Go.Proofs.Ytgfhmfhhobhojaa
