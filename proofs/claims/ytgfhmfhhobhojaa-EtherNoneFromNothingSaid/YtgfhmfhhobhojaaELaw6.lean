/-
  The ether statements' helper: event.
-/
import Derived.Test.YtgfhmfhhobhojaaELaw5
namespace Go.Proofs.Ytgfhmfhhobhojaa
open Go.ChangeShapes Go.WideShapes Go.ChangeAt Go.RowKit
def sss (k : Nat) : List Int := (List.range k).map fun j : Nat => 700 + (j : Int)
theorem sss_succ (k : Nat) : sss (k + 1) = sss k ++ [700 + (k : Int)] := by simp [sss, List.range_succ]
theorem sss_length (k : Nat) : (sss k).length = k := by simp [sss]
theorem ivs_app (a b : List Int) : ivs (a ++ b) = ivs a ++ ivs b := by simp [ivs]
theorem ivs_ones (l : List Int) : ∀ u ∈ ivs l, u.oneCell' = true := by
  intro u hu
  simp only [ivs, List.mem_map] at hu
  obtain ⟨x, _, rfl⟩ := hu
  rfl
/-- A list with marked spare room. -/
structure SpareI (w : World) (B g cap : Nat) (l : List Int) : Prop where
  new : B ≤ g
  room : l.length + 64 ≤ cap
  max : cap ≤ maxLen
  blk : ∃ (cur : Array Value) (rest : List Value), Blk w g 3 cur ∧ cur.toList = ivs (l ++ sss 64) ++ rest
structure SpareB (w : World) (B g cap : Nat) (bs : List UInt8) : Prop where
  new : B ≤ g
  room : bs.length + 64 ≤ cap
  max : cap ≤ maxLen
  blk : ∃ (cur : Array Value) (rest : List Value), Blk w g 5 cur ∧ cur.toList = bvs (bs ++ sms 64) ++ rest
def EventR (w : World) (kd a b n : Int) (bs : List UInt8) (sides : List Int) (e : Ending) (w' : World) : Prop :=
  ∃ g cap h caps, e = .returned (.agg #[.int .i64 (kd - 20), .int .i64 a, .int .i64 b, .int .i64 n, .slice (some ⟨g, 0, none⟩) bs.length cap, .int .i64 0, .int .i64 0, .int .i64 0, .int .i64 0, .string ByteArray.empty, .string ByteArray.empty, .string ByteArray.empty, .slice (some ⟨h, 0, none⟩) sides.length caps]) ∧ SpareB w' w.heap.size g cap bs ∧ SpareI w' w.heap.size h caps sides ∧ Below w.heap.size w w'
def evW (w : World) (B : Nat) (v0 v1 v2 v3 v4 v5 v6 v7 v8 v9 v10 v11 v12 : Value) : World := (((((((((((((w).setCell ⟨B, 0, none⟩ v0).setCell ⟨B, 1, none⟩ v1).setCell ⟨B, 2, none⟩ v2).setCell ⟨B, 3, none⟩ v3).setCell ⟨B, 4, none⟩ v4).setCell ⟨B, 5, none⟩ v5).setCell ⟨B, 6, none⟩ v6).setCell ⟨B, 7, none⟩ v7).setCell ⟨B, 8, none⟩ v8).setCell ⟨B, 9, none⟩ v9).setCell ⟨B, 10, none⟩ v10).setCell ⟨B, 11, none⟩ v11).setCell ⟨B, 12, none⟩ v12
theorem evW_blk {w : World} {B t : Nat} {u0 u1 u2 u3 u4 u5 u6 u7 u8 u9 u10 u11 u12 : Value} (hz : Blk w B t #[u0, u1, u2, u3, u4, u5, u6, u7, u8, u9, u10, u11, u12]) (v0 v1 v2 v3 v4 v5 v6 v7 v8 v9 v10 v11 v12 : Value) : Blk (evW w B v0 v1 v2 v3 v4 v5 v6 v7 v8 v9 v10 v11 v12) B t #[v0, v1, v2, v3, v4, v5, v6, v7, v8, v9, v10, v11, v12] := by
  have h := (((((((((((((hz).set_ 0 v0).set_ 1 v1).set_ 2 v2).set_ 3 v3).set_ 4 v4).set_ 5 v5).set_ 6 v6).set_ 7 v7).set_ 8 v8).set_ 9 v9).set_ 10 v10).set_ 11 v11).set_ 12 v12
  simp only [List.setIfInBounds_toArray, List.set_cons_zero, List.set_cons_succ] at h
  exact h
theorem evW_chg (w : World) (B : Nat) (v0 v1 v2 v3 v4 v5 v6 v7 v8 v9 v10 v11 v12 : Value) : Chg (fun j => j = B) w (evW w B v0 v1 v2 v3 v4 v5 v6 v7 v8 v9 v10 v11 v12) := ((((((((((((((Chg.refl (fun j => j = B) w)).setCell (p := ⟨B, 0, none⟩) (.inl rfl) _).setCell (p := ⟨B, 1, none⟩) (.inl rfl) _).setCell (p := ⟨B, 2, none⟩) (.inl rfl) _).setCell (p := ⟨B, 3, none⟩) (.inl rfl) _).setCell (p := ⟨B, 4, none⟩) (.inl rfl) _).setCell (p := ⟨B, 5, none⟩) (.inl rfl) _).setCell (p := ⟨B, 6, none⟩) (.inl rfl) _).setCell (p := ⟨B, 7, none⟩) (.inl rfl) _).setCell (p := ⟨B, 8, none⟩) (.inl rfl) _).setCell (p := ⟨B, 9, none⟩) (.inl rfl) _).setCell (p := ⟨B, 10, none⟩) (.inl rfl) _).setCell (p := ⟨B, 11, none⟩) (.inl rfl) _).setCell (p := ⟨B, 12, none⟩) (.inl rfl) _
set_option maxRecDepth 100000 in
set_option maxHeartbeats 3200000 in
theorem event_any {w : World} (kd a b n : Int) (BA SA : Option Addr) (bc sc : Nat) (bs : List UInt8) (sides : List Int) (hkd : 0 ≤ kd ∧ kd ≤ 9223372036854775807) (hr : RdB w w.heap.size BA bs.length bs) (hbn : bs.length ≤ 140737488351232) (hs : RdI w w.heap.size SA sides.length sides) (hsn : sides.length ≤ 17592186043904) : Calls Try.prog 39 #[.agg #[.int .i64 kd, .int .i64 a, .int .i64 b, .int .i64 n, .slice BA bs.length bc, .slice SA sides.length sc]] w (EventR w kd a b n bs sides) := by
  obtain ⟨i0, hi0, hz0, hz1, hz2⟩ := info_parts info_int
  have hb0 := one_box' w (.cells #[.int .i64 kd, .int .i64 a, .int .i64 b, .int .i64 n, .slice BA bs.length bc, .slice SA sides.length sc] 33)
  have hE := Blk.new w 33 #[.int .i64 kd, .int .i64 a, .int .i64 b, .int .i64 n, .slice BA bs.length bc, .slice SA sides.length sc]
  obtain ⟨w0, hw0⟩ : ∃ w0, w0 = w.alloc (.cells #[.int .i64 kd, .int .i64 a, .int .i64 b, .int .i64 n, .slice BA bs.length bc, .slice SA sides.length sc] 33) := ⟨_, rfl⟩
  rw [← hw0] at hb0 hE
  have hb1 := one_box' w0 (.cells #[.int .i64 0, .int .i64 0, .int .i64 0, .int .i64 0, .slice none 0 0, .int .i64 0, .int .i64 0, .int .i64 0, .int .i64 0, .string ⟨#[]⟩, .string ⟨#[]⟩, .string ⟨#[]⟩, .slice none 0 0] 41)
  have hZ := Blk.new w0 41 #[.int .i64 0, .int .i64 0, .int .i64 0, .int .i64 0, .slice none 0 0, .int .i64 0, .int .i64 0, .int .i64 0, .int .i64 0, .string ⟨#[]⟩, .string ⟨#[]⟩, .string ⟨#[]⟩, .slice none 0 0]
  have hE1 := hE.over hb1
  obtain ⟨w1, hw1⟩ : ∃ w1, w1 = w0.alloc (.cells #[.int .i64 0, .int .i64 0, .int .i64 0, .int .i64 0, .slice none 0 0, .int .i64 0, .int .i64 0, .int .i64 0, .int .i64 0, .string ⟨#[]⟩, .string ⟨#[]⟩, .string ⟨#[]⟩, .slice none 0 0] 41) := ⟨_, rfl⟩
  rw [← hw1] at hb1 hZ hE1
  have hsz : w0.heap.size = w.heap.size + 1 := by rw [hw0]; simp
  rw [hsz] at hZ
  have hb01 := hb0.trans (hb1.mono hb0.size)
  have hs1 := hb01.size
  have hZl := hZ.lt
  have hsI : RdI w1 w1.heap.size SA sides.length sides := (hs.below hb01).more hs1
  have x5 : w1.cell? ⟨w.heap.size, 5, none⟩ = some (.slice SA sides.length sc) := hE1.cell 5
  have hnil : w1.ownsRow w1.heap.size 3 1 (.slice none 0 0) 0 [] := ⟨by simp, .inl ⟨rfl, rfl⟩⟩
  have HW0 := Lib.hid hw0
  have HW1 := Lib.hid hw1
  have HB1 := Lib.hid hb01
  have HE1 := Lib.hid hE1
  have HZ1 := Lib.hid hZ
  have HR := Lib.hid hr
  clear hw0 hw1 hb0 hb1 hb01 hE hE1 hZ hr hs hsz
  go_enter Try.func39, Try.ntmps39
  go_upto_region 1 with fail
  rw [← HW0.out, ← HW1.out]
  go_upto_region 3 with (first
    | (at_builtin
       refine wpList_append_any _ (by rfl) _ _ 31 (by rfl) w1.heap.size 3 i0 _ 1 8 u_ints hi0 hz0 hz1 hz2 rfl (by omega) _ 0 [] (by rfl)
         hnil w1.heap.size SA sides.length sc (ivs sides) (by rfl) hsI (ivs_one sides) (by simp only [maxLen]; omega) (by omega) (by simp) ?_
       intro v1 w2 hown1 hg1 hat1))
  have hb2 : Below w1.heap.size w1 w2 := below_app hnil hg1 (Nat.le_refl _)
  rw [Nat.zero_add, List.nil_append] at hown1
  have HST : Hid (w2.ownsRow w1.heap.size 3 1 v1 (sides.length + 0) (ivs (sides ++ sss 0)) ∧ Below w1.heap.size w1 w2) := Lib.hid ⟨by simpa [sss] using hown1, hb2⟩
  clear hg1 hat1 hown1 hb2 hnil hsI x5
  go_wp2_with fail
  go_loopw [3, 4] (fun x i wr => ∃ k : Nat, k ≤ 64 ∧ i = .int .i64 (k : Int) ∧ Hid (wr.ownsRow w1.heap.size 3 1 x (sides.length + k) (ivs (sides ++ sss k)) ∧ Below w1.heap.size w1 wr)) (fun _ i _ => 64 - (intOf i).toNat)
  case atStart => exact ⟨0, by omega, rfl, HST⟩
  case round =>
    clear HST
    obtain ⟨k, hk, rfl, HT⟩ := hrel
    obtain ⟨A3, cap3, rfl, hcp3, hcm3⟩ := own_shape HT.out.1
    have hsr := HT.out.2.size
    by_cases hlt : k < 64
    · have hI : (k : Int) < 64 := by omega
      have hiw : IntKind.i64.wrap (700 + (k : Int)) = 700 + (k : Int) := IntWalk.i64_in _ (by omega)
      go_wp2_with (at_builtin; refine appN wr (by rfl) _ _ 31 (by rfl) w1.heap.size 3 i0 _ 1 8 u_ints hi0 hz0 hz1 hz2 rfl (by decide) _ (sides.length + k) _ (by rfl) HT.out.1 #[.int .i64 (700 + (k : Int))] rfl (by rfl) (by simp; rfl) (by simp only [maxLen]; omega) (by omega) hsr ?_; intro v9 w9 own9 hb9 _)
      have HN9 : Hid (w9.ownsRow w1.heap.size 3 1 v9 (sides.length + (k + 1)) (ivs (sides ++ sss (k + 1))) ∧ Below w1.heap.size w1 w9) := Lib.hid ⟨by rw [sss_succ, ← List.append_assoc, ivs_append]; exact own9, HT.out.2.trans hb9⟩
      clear own9 hb9
      go_roundw
      case rel => exact ⟨k + 1, by omega, by go_num, HN9⟩
      case measure => simp [intOf] <;> omega
    · obtain rfl : k = 64 := by omega
      obtain ⟨h, caps, cur, hv, hg, hB, h1, h2, h3, h4⟩ := own_parts HT.out.1 (by omega)
      simp only [Value.slice.injEq, true_and] at hv
      obtain ⟨rfl, rfl⟩ := hv
      have hm : cap3 ≤ 9223372036854775807 := by simp only [maxLen] at h2; omega
      obtain ⟨wd, hwd⟩ : ∃ wd, wd = wr.drew := ⟨_, rfl⟩
      have hBd : Below w1.heap.size w1 wd := by rw [hwd]; exact below_drewN HT.out.2 1
      have hbd : Below w.heap.size w wd := HB1.out.trans (hBd.mono (by omega))
      have HSP := Lib.hid (spare_any BA bs.length bc bs wd ((HR.out.below hbd).more hbd.size) (by omega))
      have HEd : Hid (∀ W, Below wd.heap.size wd W → Blk W w.heap.size 33 #[.int .i64 kd, .int .i64 a, .int .i64 b, .int .i64 n, .slice BA bs.length bc, .slice SA sides.length sc]) := Lib.hid fun W hW => (HE1.out.over hBd).over hW
      have HZd : Hid (∀ W, Below wd.heap.size wd W → Blk W (w.heap.size + 1) 41 #[.int .i64 0, .int .i64 0, .int .i64 0, .int .i64 0, .slice none 0 0, .int .i64 0, .int .i64 0, .int .i64 0, .int .i64 0, .string ⟨#[]⟩, .string ⟨#[]⟩, .string ⟨#[]⟩, .slice none 0 0]) := Lib.hid fun W hW => (HZ1.out.over hBd).over hW
      have HSI : Hid (∀ W, Below wd.heap.size wd W → SpareI W w.heap.size h cap3 sides) := Lib.hid fun W hW => ⟨by omega, h1, h2, cur, cur.toList.drop ((sides.length + 64) * 1), by
        have hBw : Blk wd h 3 cur := by rw [hwd]; exact hB
        exact hBw.over hW, by rw [← h4, List.take_append_drop]⟩
      have hiw : IntKind.i64.wrap (kd - 20) = kd - 20 := IntWalk.i64_in _ (by omega)
      have hS : wd.cell? ⟨w.heap.size, 0, none⟩ = some (.int .i64 kd) ∧ wd.cell? ⟨w.heap.size, 1, none⟩ = some (.int .i64 a) ∧ wd.cell? ⟨w.heap.size, 2, none⟩ = some (.int .i64 b) ∧ wd.cell? ⟨w.heap.size, 3, none⟩ = some (.int .i64 n) ∧ wd.cell? ⟨w.heap.size, 4, none⟩ = some (.slice BA bs.length bc) ∧ wd.cell? ⟨w.heap.size, 5, none⟩ = some (.slice SA sides.length sc) := ⟨(HEd.out wd (Below.refl _ _)).cell 0, (HEd.out wd (Below.refl _ _)).cell 1, (HEd.out wd (Below.refl _ _)).cell 2, (HEd.out wd (Below.refl _ _)).cell 3, (HEd.out wd (Below.refl _ _)).cell 4, (HEd.out wd (Below.refl _ _)).cell 5⟩
      have HWD := Lib.hid hwd
      have HBD := Lib.hid hbd
      have hsd := hbd.size
      have hsl : (sides.length : Int) ≤ (cap3 : Int) := by omega
      clear hwd hBd hbd hB h3 h4
      go_upto_region 7 with fail
      refine wp_region_held_drew (S := (fun w' => w'.cell? ⟨w.heap.size, 0, none⟩ = some (.int .i64 kd) ∧ w'.cell? ⟨w.heap.size, 1, none⟩ = some (.int .i64 a) ∧ w'.cell? ⟨w.heap.size, 2, none⟩ = some (.int .i64 b) ∧ w'.cell? ⟨w.heap.size, 3, none⟩ = some (.int .i64 n) ∧ w'.cell? ⟨w.heap.size, 4, none⟩ = some (.slice BA bs.length bc) ∧ w'.cell? ⟨w.heap.size, 5, none⟩ = some (.slice SA sides.length sc))) (by kernel_rfl) (by rw [← HWD.out]; exact hS) (fun hHeld => ?_)
      rw [← HWD.out] at hHeld ⊢
      refine wpAnyH_take (i := 0) (oi := ?oi0a) (v := ?v0a) ?hi0a (by kernel_rfl) (by kernel_rfl) (by kernel_rfl) ?hq0a ?hy0a (by assumption) ?rest0a
      case hi0a => (simp only [List.getElem?_toArray, List.getElem?_cons_zero]; rfl)
      case hy0a => (refine Or.inl ⟨by rfl, ?_⟩; intro w hSw; (try dsimp only at hSw); go_simp; try with_reducible rfl)
      case hq0a => exact fun _ _ _ h => h
      try simp only [Act.put, List.setIfInBounds_toArray, List.set_cons_zero, List.set_cons_succ]
      refine wpAnyH_take (i := 1) (oi := ?oi1a) (v := ?v1a) ?hi1a (by kernel_rfl) (by kernel_rfl) (by kernel_rfl) ?hq1a ?hy1a (by assumption) ?rest1a
      case hi1a => (simp only [List.getElem?_toArray, List.getElem?_cons_zero, List.getElem?_cons_succ]; rfl)
      case hy1a => (refine Or.inl ⟨by rfl, ?_⟩; intro w hSw; (try dsimp only at hSw); go_simp; try with_reducible rfl)
      case hq1a => exact fun _ _ _ h => h
      try simp only [Act.put, List.setIfInBounds_toArray, List.set_cons_zero, List.set_cons_succ]
      refine wpAnyH_take (i := 2) (oi := ?oi2a) (v := ?v2a) ?hi2a (by kernel_rfl) (by kernel_rfl) (by kernel_rfl) ?hq2a ?hy2a (by assumption) ?rest2a
      case hi2a => (simp only [List.getElem?_toArray, List.getElem?_cons_zero, List.getElem?_cons_succ]; rfl)
      case hy2a => (refine Or.inl ⟨by rfl, ?_⟩; intro w hSw; (try dsimp only at hSw); go_simp; try with_reducible rfl)
      case hq2a => exact fun _ _ _ h => h
      try simp only [Act.put, List.setIfInBounds_toArray, List.set_cons_zero, List.set_cons_succ]
      refine wpAnyH_take (i := 3) (oi := ?oi3a) (v := ?v3a) ?hi3a (by kernel_rfl) (by kernel_rfl) (by kernel_rfl) ?hq3a ?hy3a (by assumption) ?rest3a
      case hi3a => (simp only [List.getElem?_toArray, List.getElem?_cons_zero, List.getElem?_cons_succ]; rfl)
      case hy3a => (refine Or.inl ⟨by rfl, ?_⟩; intro w hSw; (try dsimp only at hSw); go_simp; try with_reducible rfl)
      case hq3a => exact fun _ _ _ h => h
      try simp only [Act.put, List.setIfInBounds_toArray, List.set_cons_zero, List.set_cons_succ]
      refine wpAnyH_take (i := 4) (oi := ?oi4a) (v := ?v4a) ?hi4a (by kernel_rfl) (by kernel_rfl) (by kernel_rfl) ?hq4a ?hy4a (by assumption) ?rest4a
      case hi4a => (simp only [List.getElem?_toArray, List.getElem?_cons_zero, List.getElem?_cons_succ]; rfl)
      case hy4a => (refine Or.inl ⟨by rfl, ?_⟩; intro w hSw; (try dsimp only at hSw); go_simp; try with_reducible rfl)
      case hq4a => exact fun _ _ _ h => h
      try simp only [Act.put, List.setIfInBounds_toArray, List.set_cons_zero, List.set_cons_succ]
      refine wpAnyH_take (i := 5) (oi := ?oi5a) (v := ?v5a) ?hi5a (by kernel_rfl) (by kernel_rfl) (by kernel_rfl) ?hq5a ?hy5a (by assumption) ?rest5a
      case hi5a => (simp only [List.getElem?_toArray, List.getElem?_cons_zero, List.getElem?_cons_succ]; rfl)
      case hy5a => (refine Or.inl ⟨by rfl, ?_⟩; intro w hSw; (try dsimp only at hSw); go_simp; try with_reducible rfl)
      case hq5a => exact fun _ _ _ h => h
      try simp only [Act.put, List.setIfInBounds_toArray, List.set_cons_zero, List.set_cons_succ]
      refine wpAnyH_take (i := 6) (oi := ?oi6a) (v := ?v6a) ?hi6a (by kernel_rfl) (by kernel_rfl) (by kernel_rfl) ?hq6a ?hy6a (by assumption) ?rest6a
      case hi6a => (simp only [List.getElem?_toArray, List.getElem?_cons_zero, List.getElem?_cons_succ]; rfl)
      case hy6a => (refine Or.inl ⟨by rfl, ?_⟩; intro w hSw; (try dsimp only at hSw); go_simp; try with_reducible rfl)
      case hq6a => exact fun _ _ _ h => h
      try simp only [Act.put, List.setIfInBounds_toArray, List.set_cons_zero, List.set_cons_succ]
      refine wpAnyH_take (i := 7) (oi := ?oi7a) (v := ?v7a) ?hi7a (by kernel_rfl) (by kernel_rfl) (by kernel_rfl) ?hq7a ?hy7a (by assumption) ?rest7a
      case hi7a => (simp only [List.getElem?_toArray, List.getElem?_cons_zero, List.getElem?_cons_succ]; rfl)
      case hy7a => (refine Or.inl ⟨by rfl, ?_⟩; intro w hSw; (try dsimp only at hSw); go_simp; try with_reducible rfl)
      case hq7a => exact fun _ _ _ h => h
      try simp only [Act.put, List.setIfInBounds_toArray, List.set_cons_zero, List.set_cons_succ]
      refine wpAnyH_take (i := 8) (oi := ?oi8a) (v := ?v8a) ?hi8a (by kernel_rfl) (by kernel_rfl) (by kernel_rfl) ?hq8a ?hy8a (by assumption) ?rest8a
      case hi8a => (simp only [List.getElem?_toArray, List.getElem?_cons_zero, List.getElem?_cons_succ]; rfl)
      case hy8a => (refine Or.inl ⟨by rfl, ?_⟩; intro w hSw; (try dsimp only at hSw); go_simp; try with_reducible rfl)
      case hq8a => exact fun _ _ _ h => h
      try simp only [Act.put, List.setIfInBounds_toArray, List.set_cons_zero, List.set_cons_succ]
      refine wpAnyH_take (i := 9) (oi := ?oi9a) (v := ?v9a) ?hi9a (by kernel_rfl) (by kernel_rfl) (by kernel_rfl) ?hq9a ?hy9a (by assumption) ?rest9a
      case hi9a => (simp only [List.getElem?_toArray, List.getElem?_cons_zero, List.getElem?_cons_succ]; rfl)
      case hy9a => (refine Or.inl ⟨by rfl, ?_⟩; intro w hSw; (try dsimp only at hSw); go_simp; try with_reducible rfl)
      case hq9a => exact fun _ _ _ h => h
      try simp only [Act.put, List.setIfInBounds_toArray, List.set_cons_zero, List.set_cons_succ]
      refine wpAnyH_take (i := 10) (oi := ?oi10a) (v := ?v10a) ?hi10a (by kernel_rfl) (by kernel_rfl) (by kernel_rfl) ?hq10a ?hy10a (by assumption) ?rest10a
      case hi10a => (simp only [List.getElem?_toArray, List.getElem?_cons_zero, List.getElem?_cons_succ]; rfl)
      case hy10a => (refine Or.inl ⟨by rfl, ?_⟩; intro w hSw; (try dsimp only at hSw); go_simp; try with_reducible rfl)
      case hq10a => exact fun _ _ _ h => h
      try simp only [Act.put, List.setIfInBounds_toArray, List.set_cons_zero, List.set_cons_succ]
      refine wpAnyH_take (i := 12) (oi := ?oi12a) (v := ?v12a) ?hi12a (by kernel_rfl) (by kernel_rfl) (by kernel_rfl) ?hq12a ?hy12a (by assumption) ?rest12a
      case hi12a => (simp only [List.getElem?_toArray, List.getElem?_cons_zero, List.getElem?_cons_succ]; rfl)
      case hy12a => (refine Or.inl ⟨by rfl, ?_⟩; intro w hSw; (try dsimp only at hSw); go_simp; try with_reducible rfl)
      case hq12a => exact fun _ _ _ h => h
      try simp only [Act.put, List.setIfInBounds_toArray, List.set_cons_zero, List.set_cons_succ]
      refine wpAnyH_take (i := 13) (oi := ?oi13a) (v := ?v13a) ?hi13a (by kernel_rfl) (by kernel_rfl) (by kernel_rfl) ?hq13a ?hy13a (by assumption) ?rest13a
      case hi13a => (simp only [List.getElem?_toArray, List.getElem?_cons_zero, List.getElem?_cons_succ]; rfl)
      case hy13a => (refine Or.inl ⟨by rfl, ?_⟩; intro w hSw; (try dsimp only at hSw); go_simp; try with_reducible rfl)
      case hq13a => exact fun _ _ _ h => h
      try simp only [Act.put, List.setIfInBounds_toArray, List.set_cons_zero, List.set_cons_succ]
      refine wpAnyH_take (i := 14) (oi := ?oi14a) (v := ?v14a) ?hi14a (by kernel_rfl) (by kernel_rfl) (by kernel_rfl) ?hq14a ?hy14a (by assumption) ?rest14a
      case hi14a => (simp only [List.getElem?_toArray, List.getElem?_cons_zero, List.getElem?_cons_succ]; rfl)
      case hy14a => (refine Or.inl ⟨by rfl, ?_⟩; intro w hSw; (try dsimp only at hSw); go_simp; try with_reducible rfl)
      case hq14a => exact fun _ _ _ h => h
      try simp only [Act.put, List.setIfInBounds_toArray, List.set_cons_zero, List.set_cons_succ]
      refine wpAnyH_take (i := 15) (oi := ?oi15a) (v := ?v15a) ?hi15a (by kernel_rfl) (by kernel_rfl) (by kernel_rfl) ?hq15a ?hy15a (by assumption) ?rest15a
      case hi15a => (simp only [List.getElem?_toArray, List.getElem?_cons_zero, List.getElem?_cons_succ]; rfl)
      case hy15a => (refine Or.inl ⟨by rfl, ?_⟩; intro w hSw; (try dsimp only at hSw); go_simp; try with_reducible rfl)
      case hq15a => exact fun _ _ _ h => h
      try simp only [Act.put, List.setIfInBounds_toArray, List.set_cons_zero, List.set_cons_succ]
      refine wpAnyH_take (i := 16) (oi := ?oi16a) (v := ?v16a) ?hi16a (by kernel_rfl) (by kernel_rfl) (by kernel_rfl) ?hq16a ?hy16a (by assumption) ?rest16a
      case hi16a => (simp only [List.getElem?_toArray, List.getElem?_cons_zero, List.getElem?_cons_succ]; rfl)
      case hy16a => (refine Or.inl ⟨by rfl, ?_⟩; intro w hSw; (try dsimp only at hSw); go_simp; try with_reducible rfl)
      case hq16a => exact fun _ _ _ h => h
      try simp only [Act.put, List.setIfInBounds_toArray, List.set_cons_zero, List.set_cons_succ]
      clear hiw hsl
      refine wpAnyH_ready (rs := [11]) (by kernel_rfl) (by simp) ?_
      refine AllReadyH.cons (o := ?o11p0) ?ho11p0 (fun K hK => ?st11p0) ?mo11p0
      case ho11p0 => (simp only [List.getElem?_toArray, List.getElem?_cons_zero, List.getElem?_cons_succ]; rfl)
      · skip
        go_simp
        refine HSP.out.mono ?_
        rintro _ w2 ⟨g, cap, curB, restB, rfl, hg, hcp, hcm, hBB, hcur, hb2⟩
        have HG := Lib.hid (And.intro hg (And.intro hcp (And.intro hcm (And.intro hBB (And.intro hcur hb2)))))
        clear hg hcp hcm hBB hcur hb2
        go_simp
        have hEw := HEd.out w2 HG.out.2.2.2.2.2
        refine hK.out _ _ ⟨hEw.cell 0, hEw.cell 1, hEw.cell 2, hEw.cell 3, hEw.cell 4, hEw.cell 5⟩ (fun hHeld1 => ?_)
        clear hK K
        try simp only [Act.put, List.setIfInBounds_toArray, List.set_cons_zero, List.set_cons_succ]
        refine wpAnyH_take (i := 17) (oi := ?oi17b) (v := ?v17b) ?hi17b (by kernel_rfl) (by kernel_rfl) (by kernel_rfl) ?hq17b ?hy17b (by assumption) ?rest17b
        case hi17b => (simp only [List.getElem?_toArray, List.getElem?_cons_zero, List.getElem?_cons_succ]; rfl)
        case hy17b => (refine Or.inl ⟨by rfl, ?_⟩; intro w hSw; (try dsimp only at hSw); go_simp; try with_reducible rfl)
        case hq17b => exact fun _ _ _ h => h
        try simp only [Act.put, List.setIfInBounds_toArray, List.set_cons_zero, List.set_cons_succ]
        have hz := HZd.out w2 HG.out.2.2.2.2.2
        have q0 : w2.cell? ⟨w.heap.size + 1, 0, none⟩ = some (.int .i64 0) := hz.cell 0
        have p0 : w2.frozen? ⟨w.heap.size + 1, 0, none⟩ = false := hz.frozen 0
        have q1 : w2.cell? ⟨w.heap.size + 1, 1, none⟩ = some (.int .i64 0) := hz.cell 1
        have p1 : w2.frozen? ⟨w.heap.size + 1, 1, none⟩ = false := hz.frozen 1
        have q2 : w2.cell? ⟨w.heap.size + 1, 2, none⟩ = some (.int .i64 0) := hz.cell 2
        have p2 : w2.frozen? ⟨w.heap.size + 1, 2, none⟩ = false := hz.frozen 2
        have q3 : w2.cell? ⟨w.heap.size + 1, 3, none⟩ = some (.int .i64 0) := hz.cell 3
        have p3 : w2.frozen? ⟨w.heap.size + 1, 3, none⟩ = false := hz.frozen 3
        have q4 : w2.cell? ⟨w.heap.size + 1, 4, none⟩ = some (.slice none 0 0) := hz.cell 4
        have p4 : w2.frozen? ⟨w.heap.size + 1, 4, none⟩ = false := hz.frozen 4
        have q5 : w2.cell? ⟨w.heap.size + 1, 5, none⟩ = some (.int .i64 0) := hz.cell 5
        have p5 : w2.frozen? ⟨w.heap.size + 1, 5, none⟩ = false := hz.frozen 5
        have q6 : w2.cell? ⟨w.heap.size + 1, 6, none⟩ = some (.int .i64 0) := hz.cell 6
        have p6 : w2.frozen? ⟨w.heap.size + 1, 6, none⟩ = false := hz.frozen 6
        have q7 : w2.cell? ⟨w.heap.size + 1, 7, none⟩ = some (.int .i64 0) := hz.cell 7
        have p7 : w2.frozen? ⟨w.heap.size + 1, 7, none⟩ = false := hz.frozen 7
        have q8 : w2.cell? ⟨w.heap.size + 1, 8, none⟩ = some (.int .i64 0) := hz.cell 8
        have p8 : w2.frozen? ⟨w.heap.size + 1, 8, none⟩ = false := hz.frozen 8
        have q9 : w2.cell? ⟨w.heap.size + 1, 9, none⟩ = some (.string ⟨#[]⟩) := hz.cell 9
        have p9 : w2.frozen? ⟨w.heap.size + 1, 9, none⟩ = false := hz.frozen 9
        have q10 : w2.cell? ⟨w.heap.size + 1, 10, none⟩ = some (.string ⟨#[]⟩) := hz.cell 10
        have p10 : w2.frozen? ⟨w.heap.size + 1, 10, none⟩ = false := hz.frozen 10
        have q11 : w2.cell? ⟨w.heap.size + 1, 11, none⟩ = some (.string ⟨#[]⟩) := hz.cell 11
        have p11 : w2.frozen? ⟨w.heap.size + 1, 11, none⟩ = false := hz.frozen 11
        have q12 : w2.cell? ⟨w.heap.size + 1, 12, none⟩ = some (.slice none 0 0) := hz.cell 12
        have p12 : w2.frozen? ⟨w.heap.size + 1, 12, none⟩ = false := hz.frozen 12
        obtain ⟨w9, hw9⟩ : ∃ w9, w9 = (((((((((((((w2).setCell ⟨w.heap.size + 1, 0, none⟩ (.int .i64 (kd - 20))).setCell ⟨w.heap.size + 1, 1, none⟩ (.int .i64 a)).setCell ⟨w.heap.size + 1, 2, none⟩ (.int .i64 b)).setCell ⟨w.heap.size + 1, 3, none⟩ (.int .i64 n)).setCell ⟨w.heap.size + 1, 4, none⟩ (.slice (some ⟨g, 0, none⟩) bs.length cap)).setCell ⟨w.heap.size + 1, 5, none⟩ (.int .i64 0)).setCell ⟨w.heap.size + 1, 6, none⟩ (.int .i64 0)).setCell ⟨w.heap.size + 1, 7, none⟩ (.int .i64 0)).setCell ⟨w.heap.size + 1, 8, none⟩ (.int .i64 0)).setCell ⟨w.heap.size + 1, 9, none⟩ (.string ⟨#[]⟩)).setCell ⟨w.heap.size + 1, 10, none⟩ (.string ⟨#[]⟩)).setCell ⟨w.heap.size + 1, 11, none⟩ (.string ⟨#[]⟩)).setCell ⟨w.heap.size + 1, 12, none⟩ (.slice (some ⟨h, 0, none⟩) sides.length cap3) := ⟨_, rfl⟩
        have hev : w9 = evW w2 (w.heap.size + 1) (.int .i64 (kd - 20)) (.int .i64 a) (.int .i64 b) (.int .i64 n) (.slice (some ⟨g, 0, none⟩) bs.length cap) (.int .i64 0) (.int .i64 0) (.int .i64 0) (.int .i64 0) (.string ⟨#[]⟩) (.string ⟨#[]⟩) (.string ⟨#[]⟩) (.slice (some ⟨h, 0, none⟩) sides.length cap3) := hw9
        have hch : Chg (fun j => j = w.heap.size + 1) w2 w9 := by rw [hev]; exact evW_chg _ _ _ _ _ _ _ _ _ _ _ _ _ _ _
        have hz9 : Blk w9 (w.heap.size + 1) 41 #[.int .i64 (kd - 20), .int .i64 a, .int .i64 b, .int .i64 n, .slice (some ⟨g, 0, none⟩) bs.length cap, .int .i64 0, .int .i64 0, .int .i64 0, .int .i64 0, .string ⟨#[]⟩, .string ⟨#[]⟩, .string ⟨#[]⟩, .slice (some ⟨h, 0, none⟩) sides.length cap3] := by rw [hev]; exact evW_blk hz _ _ _ _ _ _ _ _ _ _ _ _ _
        clear hev
        have y0 : w9.cell? ⟨w.heap.size + 1, 0, none⟩ = some (.int .i64 (kd - 20)) := hz9.cell 0
        have y1 : w9.cell? ⟨w.heap.size + 1, 1, none⟩ = some (.int .i64 a) := hz9.cell 1
        have y2 : w9.cell? ⟨w.heap.size + 1, 2, none⟩ = some (.int .i64 b) := hz9.cell 2
        have y3 : w9.cell? ⟨w.heap.size + 1, 3, none⟩ = some (.int .i64 n) := hz9.cell 3
        have y4 : w9.cell? ⟨w.heap.size + 1, 4, none⟩ = some (.slice (some ⟨g, 0, none⟩) bs.length cap) := hz9.cell 4
        have y5 : w9.cell? ⟨w.heap.size + 1, 5, none⟩ = some (.int .i64 0) := hz9.cell 5
        have y6 : w9.cell? ⟨w.heap.size + 1, 6, none⟩ = some (.int .i64 0) := hz9.cell 6
        have y7 : w9.cell? ⟨w.heap.size + 1, 7, none⟩ = some (.int .i64 0) := hz9.cell 7
        have y8 : w9.cell? ⟨w.heap.size + 1, 8, none⟩ = some (.int .i64 0) := hz9.cell 8
        have y9 : w9.cell? ⟨w.heap.size + 1, 9, none⟩ = some (.string ⟨#[]⟩) := hz9.cell 9
        have y10 : w9.cell? ⟨w.heap.size + 1, 10, none⟩ = some (.string ⟨#[]⟩) := hz9.cell 10
        have y11 : w9.cell? ⟨w.heap.size + 1, 11, none⟩ = some (.string ⟨#[]⟩) := hz9.cell 11
        have y12 : w9.cell? ⟨w.heap.size + 1, 12, none⟩ = some (.slice (some ⟨h, 0, none⟩) sides.length cap3) := hz9.cell 12
        have hE9 := hEw.chg hch (fun e => Nat.ne_of_lt (Nat.lt_succ_self _) e)
        have HS9 : Hid (w9.cell? ⟨w.heap.size, 0, none⟩ = some (.int .i64 kd) ∧ w9.cell? ⟨w.heap.size, 1, none⟩ = some (.int .i64 a) ∧ w9.cell? ⟨w.heap.size, 2, none⟩ = some (.int .i64 b) ∧ w9.cell? ⟨w.heap.size, 3, none⟩ = some (.int .i64 n) ∧ w9.cell? ⟨w.heap.size, 4, none⟩ = some (.slice BA bs.length bc) ∧ w9.cell? ⟨w.heap.size, 5, none⟩ = some (.slice SA sides.length sc)) := Lib.hid ⟨hE9.cell 0, hE9.cell 1, hE9.cell 2, hE9.cell 3, hE9.cell 4, hE9.cell 5⟩
        have HE : Hid (EventR w kd a b n bs sides (.returned (.agg #[.int .i64 (kd - 20), .int .i64 a, .int .i64 b, .int .i64 n, .slice (some ⟨g, 0, none⟩) bs.length cap, .int .i64 0, .int .i64 0, .int .i64 0, .int .i64 0, .string ⟨#[]⟩, .string ⟨#[]⟩, .string ⟨#[]⟩, .slice (some ⟨h, 0, none⟩) sides.length cap3])) w9) := by
          obtain ⟨hg, hcp, hcm, hBB, hcur, hb2⟩ := HG.out
          obtain ⟨n1, n2, n3, cu, re, hbl, hcu⟩ := HSI.out w2 hb2
          exact Lib.hid ⟨g, cap, h, cap3, rfl, ⟨by omega, hcp, hcm, curB, restB, hBB.chg hch (hBB.ne_ hz (by decide)), hcur⟩, ⟨n1, n2, n3, cu, re, hbl.chg hch (hbl.ne_ hz (by decide)), hcu⟩, (HBD.out.trans (hb2.mono hsd)).trans (hch.to_below (by have := hb2.size; omega) fun j e => by omega)⟩
        have HW9 := Lib.hid hw9
        clear hw9 hch hz9 hE9 hz hEw
        refine wpAnyH_ready (rs := [18]) (by kernel_rfl) (by simp) ?_
        refine AllReadyH.cons (o := ?o18p1) ?ho18p1 (fun K hK => ?st18p1) ?mo18p1
        case ho18p1 => (simp only [List.getElem?_toArray, List.getElem?_cons_zero, List.getElem?_cons_succ]; rfl)
        · skip
          go_simp
          rw [← HW9.out]
          refine hK.out _ _ HS9.out (fun hHeld2 => ?_)
          clear hK K
          try simp only [Act.put, List.setIfInBounds_toArray, List.set_cons_zero, List.set_cons_succ]
          refine wpAnyH_done (by kernel_rfl) ?_ _
          go_wp2
          exact bodyPost_ret (v := .agg #[.int .i64 (kd - 20), .int .i64 a, .int .i64 b, .int .i64 n, .slice (some ⟨g, 0, none⟩) bs.length cap, .int .i64 0, .int .i64 0, .int .i64 0, .int .i64 0, .string ⟨#[]⟩, .string ⟨#[]⟩, .string ⟨#[]⟩, .slice (some ⟨h, 0, none⟩) sides.length cap3]) (by simp [results, Try.results39, y0, y1, y2, y3, y4, y5, y6, y7, y8, y9, y10, y11, y12, go_sem]) rfl HE.out
        · exact AllReadyH.nil
      · exact AllReadyH.nil
theorem rdI_clear {w w' : World} {S : Nat → Prop} {A : Option Addr} {n : Nat} {is : List Int} {B : Nat} (h : RdI w B A n is) (hc : Chg S w w') (hB : B ≤ w.heap.size) (hA : 0 < n → ∀ b o s, A = some ⟨b, o, s⟩ → ¬ S b) : RdI w' B A n is :=
  ⟨h.len, fun hn => by
    obtain ⟨b, off, e, hb, hcell⟩ := h.at_ hn
    exact ⟨b, off, e, hb, fun j u hu => (World.cell?_of_block (hc.block b (by omega) (hA hn _ _ _ e))).trans (hcell j u hu)⟩⟩
theorem do_100 (c : ECfg) (p : PV) (e : Evt) : 0 ≤ (doD c p e).1 ∧ (doD c p e).1 ≤ 100 := by
  unfold doD
  split
  · split
    · unfold turnD
      repeat' split
      all_goals (constructor <;> simp)
    · constructor <;> simp
  · split
    · split <;> (constructor <;> simp)
    · split
      · split
        · split
          · unfold touchD
            repeat' split
            all_goals (constructor <;> simp)
          · constructor <;> simp
        · constructor <;> simp
      · split
        · exact post_100 c p e.a e.b e.bs.length false
        · constructor <;> simp
/-- The event's cells. -/
def evCs (kd a b n : Int) (g nb cap h ns caps : Nat) : Array Value := #[.int .i64 (kd - 20), .int .i64 a, .int .i64 b, .int .i64 n, .slice (some ⟨g, 0, none⟩) nb cap, .int .i64 0, .int .i64 0, .int .i64 0, .int .i64 0, .string ByteArray.empty, .string ByteArray.empty, .string ByteArray.empty, .slice (some ⟨h, 0, none⟩) ns caps]
theorem SpareB.rd {w : World} {B g cap : Nat} {bs : List UInt8} (h : SpareB w B g cap bs) : RdB w w.heap.size (some ⟨g, 0, none⟩) bs.length bs := by
  obtain ⟨_, _, _, cur, rest, hB, hc⟩ := h
  refine ⟨by rw [bvs_length, Nat.mul_one], fun _ => ⟨g, 0, rfl, hB.lt, fun j u hu => ?_⟩⟩
  rw [Nat.zero_add, hB.cell, ← Array.getElem?_toList, hc, bvs_append, List.append_assoc, List.getElem?_append_left (List.getElem?_eq_some_iff.1 hu).1]
  exact hu
theorem ivs_len (l : List Int) : (ivs l).length = l.length := by simp [ivs]
theorem SpareI.rd {w : World} {B g cap : Nat} {l : List Int} (h : SpareI w B g cap l) : RdI w w.heap.size (some ⟨g, 0, none⟩) l.length l := by
  obtain ⟨_, _, _, cur, rest, hB, hc⟩ := h
  refine ⟨by rw [ivs_len, Nat.mul_one], fun _ => ⟨g, 0, rfl, hB.lt, fun j u hu => ?_⟩⟩
  rw [Nat.zero_add, hB.cell, ← Array.getElem?_toList, hc, ivs_append, List.append_assoc, List.getElem?_append_left (List.getElem?_eq_some_iff.1 hu).1]
  exact hu
theorem SpareB.chg {w w' : World} {B g cap : Nat} {bs : List UInt8} {S : Nat → Prop} (h : SpareB w B g cap bs) (hc : Chg S w w') (hS : ¬ S g) : SpareB w' B g cap bs := by
  obtain ⟨h1, h2, h3, cur, rest, hB, h4⟩ := h
  exact ⟨h1, h2, h3, cur, rest, hB.chg hc hS, h4⟩
theorem SpareI.chg {w w' : World} {B g cap : Nat} {l : List Int} {S : Nat → Prop} (h : SpareI w B g cap l) (hc : Chg S w w') (hS : ¬ S g) : SpareI w' B g cap l := by
  obtain ⟨h1, h2, h3, cur, rest, hB, h4⟩ := h
  exact ⟨h1, h2, h3, cur, rest, hB.chg hc hS, h4⟩
theorem SpareB.lt {w : World} {B g cap : Nat} {bs : List UInt8} (h : SpareB w B g cap bs) : g < w.heap.size := by
  obtain ⟨_, _, _, cur, rest, hB, _⟩ := h
  exact hB.lt
theorem SpareI.lt {w : World} {B g cap : Nat} {l : List Int} (h : SpareI w B g cap l) : g < w.heap.size := by
  obtain ⟨_, _, _, cur, rest, hB, _⟩ := h
  exact hB.lt
/-- The spare room's cells, and the list's. -/
theorem SpareI.cells {w : World} {B g cap : Nat} {l : List Int} (h : SpareI w B g cap l) : (∀ k, k < 64 → w.cell? ⟨g, l.length + k, none⟩ = some (.int .i64 (700 + (k : Int)))) ∧ ∀ k x, l[k]? = some x → w.cell? ⟨g, k, none⟩ = some (.int .i64 x) := by
  obtain ⟨_, _, _, cur, rest, hB, hc⟩ := h
  refine ⟨fun k hk => ?_, fun k x hx => ?_⟩
  · rw [hB.cell, ← Array.getElem?_toList, hc, List.getElem?_append_left (by rw [ivs_len, List.length_append, sss_length]; omega)]
    simp only [ivs, List.map_append, sss]
    rw [List.getElem?_append_right (by simp)]
    simp [hk]
  · have hk := (List.getElem?_eq_some_iff.1 hx).1
    rw [hB.cell, ← Array.getElem?_toList, hc, List.getElem?_append_left (by rw [ivs_len, List.length_append, sss_length]; omega)]
    simp only [ivs, List.map_append]
    rw [List.getElem?_append_left (by simpa using hk), List.getElem?_map, hx]
    rfl
end Go.Proofs.Ytgfhmfhhobhojaa
