/-
  The ether statements' helpers: alike, lists. And: The ether statements' helpers: num, same, spare, kept.
-/
import Derived.Test.YtgfhmfhhobhojaaETwinD
import Derived.Laws.IdiomStrings
import Derived.Lib.BufferRead
import Derived.WalkSpells
import Derived.WalkLawsBesides
import Derived.Deep.QuietTactic
import Derived.BigQuiet
namespace Go.Proofs.Ytgfhmfhhobhojaa
open Go.RowKit


/-- 'string(b)' of a list that reads as bs. -/
theorem conv_rd {P : Program} {w : World} {B n cap src dst e : Nat} {A : Option Addr} {bs : List UInt8} (hr : RdB w B A n bs) (hs : P.underlying src = some (.slice e)) (he : P.underlying e = some (.int .u8)) (hd : P.underlying dst = some .string) :
    (convert src dst (.slice A n cap)).run P w = .ok (.string ⟨bs.toArray⟩) w := by
  have hl := hr.lenB
  rcases A with _ | a
  · have h0 : n = 0 := by
      rcases Nat.eq_zero_or_pos n with h | h
      · exact h
      · obtain ⟨b, off, h1, _⟩ := hr.at_ h
        cases h1
    subst h0
    obtain rfl : bs = [] := List.eq_nil_of_length_eq_zero hl
    exact Lib.run_convert_nil_bytes w src dst e cap hs he hd
  · subst hl
    refine run_convert_bytes_back w src dst e a cap bs hs he hd (fun j hj => ?_)
    obtain ⟨b, off, h1, _, hc⟩ := hr.at_ (by omega)
    injection h1 with h1
    subst h1
    rw [addr_add]
    exact hc j _ (bvs_at (List.getElem?_eq_getElem hj))

theorem same_yes (A A' : Option Addr) (n n' cap cap' B B' : Nat) (bs : List UInt8) (w : World) (hr : RdB w B A n bs) (hr' : RdB w B' A' n' bs) :
    Calls Try.prog 49 #[.slice A n cap, .slice A' n' cap'] w fun e w' => e = .returned (.bool true) ∧ w = w' := by
  have h1 := fun c => conv_rd (P := Try.prog) (cap := c) hr Try.underlying30 Try.underlying5 Try.underlying9
  have h2 := fun c => conv_rd (P := Try.prog) (cap := c) hr' Try.underlying30 Try.underlying5 Try.underlying9
  go_enter Try.func49, Try.ntmps49
  go_wp2
  go_ret
  exact ⟨ret_bool (by simp), rfl⟩

theorem same_c (A A' : Option Addr) (n n' cap cap' B B' : Nat) (bs : List UInt8) (w : World) (hr : RdB w B A n bs) (hr' : RdB w B' A' n' bs) :
    Calls Try.prog 49 #[.slice A n cap, .slice A' n' cap'] w fun e w' => e = .returned (.bool true) ∧ w' = w :=
  (same_yes A A' n n' cap cap' B B' bs w hr hr').mono fun _ _ ⟨h, h2⟩ => ⟨h, h2.symm⟩
set_option maxHeartbeats 400000 in
theorem num_any (x : Int) (w : World) (_h0 : -9223372036854775808 ≤ x) (_h1 : x ≤ 9223372036854775807) : Calls Try.prog 30 #[.int .i64 x] w fun e w' => e = .returned (.int .i64 x) ∧ w = w' := by
  go_enter Try.func30, Try.ntmps30
  go_wp2
  go_ret
  exact ⟨rfl, rfl⟩

def sm (k : Nat) : UInt8 := UInt8.ofNat (90 + k)
def sms (k : Nat) : List UInt8 := (List.range k).map sm
theorem sms_succ (k : Nat) : sms (k + 1) = sms k ++ [sm k] := by simp [sms, List.range_succ]
theorem sms_length (k : Nat) : (sms k).length = k := by simp [sms]
theorem sms_at {k j : Nat} (h : j < k) : (sms k)[j]? = some (sm j) := by simp [sms, h]
theorem sm_int (k : Nat) (h : k < 64) : ((sm k).toNat : Int) = 90 + (k : Int) := by
  unfold sm
  rw [UInt8.toNat_ofNat', Nat.mod_eq_of_lt (by omega)]
  omega
set_option maxRecDepth 100000 in
set_option maxHeartbeats 800000 in
theorem spare_any (A : Option Addr) (n cap : Nat) (bs : List UInt8) (w : World) (hr : RdB w w.heap.size A n bs) (hn : n ≤ 140737488351232) :
    Calls Try.prog 60 #[.slice A n cap] w fun e w' => ∃ g cap' cur rest, e = .returned (.slice (some ⟨g, 0, none⟩) n cap') ∧ w.heap.size ≤ g ∧ n + 64 ≤ cap' ∧ cap' ≤ maxLen ∧ Blk w' g 5 cur ∧
      cur.toList = bvs (bs ++ sms 64) ++ rest ∧ Below w.heap.size w w' := by
  obtain ⟨i0, hi0, hz0, hz1, hz2⟩ := info_parts info_u8
  have hnil : w.ownsRow w.heap.size 5 1 (.slice none 0 0) 0 [] := ⟨by simp, .inl ⟨rfl, rfl⟩⟩
  go_enter Try.func60, Try.ntmps60
  go_wp2_with (first
    | (at_builtin
       refine wpList_append_any _ (by rfl) _ _ 30 (by rfl) w.heap.size 5 i0 _ 1 1 u_bytes hi0 hz0 hz1 hz2 rfl (by omega) _ 0 [] (by rfl)
         hnil w.heap.size A n cap (bvs bs) (by rfl) hr (bvs_one bs) (by simp only [maxLen]; omega) (by omega) (by simp) ?_
       intro v1 w1 hown1 hg1 hat1))
  have hb1 : Below w.heap.size w w1 := below_app hnil hg1 (Nat.le_refl _)
  rw [Nat.zero_add, List.nil_append] at hown1
  clear hg1 hat1
  go_loopw [3, 4] (fun x i wr => ∃ k : Nat, k ≤ 64 ∧ i = .int .i64 k ∧ wr.ownsRow w.heap.size 5 1 x (n + k) (bvs (bs ++ sms k)) ∧ Below w.heap.size w wr) (fun _ i _ => 64 - (intOf i).toNat)
  case atStart => exact ⟨0, by omega, rfl, by simpa [sms] using hown1, hb1⟩
  case round =>
    obtain ⟨k, hk, rfl, hown, hb⟩ := hrel
    obtain ⟨A1, cap1, rfl, hc1, hc2⟩ := own_shape hown
    by_cases hlt : k < 64
    · have HS := Lib.hid (sm_int k hlt)
      go_wp2_with (
         at_builtin
         refine app1 wr (by rfl) _ _ 30 (by rfl) w.heap.size 5 i0 _ 1 u_bytes hi0 hz0 hz1 hz2 rfl _ _ _ (by rfl) hown _ (by rfl) (by rfl) (by simp only [maxLen]; omega) (by omega) hb.size ?_
         intro v2 w2 hown2 hb2 _)
      go_roundw
      case rel =>
        refine ⟨k + 1, by omega, by go_num, ?_, hb.trans hb2⟩
        rw [sms_succ, ← List.append_assoc, bvs_append]
        have e : bvs [sm k] = [.int .u8 (90 + (k : Int))] := by simp [bvs, HS.out]
        rw [e]
        have e2 : (90 + (k : Int)) % 256 = 90 + (k : Int) := by omega
        first | exact hown2 | (rw [e2] at hown2; exact hown2)
      case measure => simp [intOf]; omega
    · obtain rfl : k = 64 := by omega
      obtain ⟨g, cap', cur, hv, hg, hB, h1, h2, h3, h4⟩ := own_parts hown (by omega)
      simp only [Value.slice.injEq, true_and] at hv
      obtain ⟨rfl, rfl⟩ := hv
      have hm : cap1 ≤ 9223372036854775807 := by simp only [maxLen] at h2; omega
      go_wp2
      go_ret
      exact ⟨g, cap1, cur, cur.toList.drop ((n + 64) * 1), rfl, hg, h1, h2, hB, by rw [← h4, List.take_append_drop], hb⟩

set_option maxRecDepth 100000 in
set_option maxHeartbeats 800000 in
theorem kept_yes (g n cap' : Nat) (A : Option Addr) (cap B : Nat) (bs : List UInt8) (cur : Array Value) (rest : List Value) (w : World) (hB : Blk w g 5 cur) (hc : cur.toList = bvs (bs ++ sms 64) ++ rest) (hcp : n + 64 ≤ cap') (hm : cap' ≤ maxLen) (hr' : RdB w B A n bs) :
    Calls Try.prog 72 #[.slice (some ⟨g, 0, none⟩) n cap', .slice A n cap] w fun e w' => e = .returned (.bool true) ∧ w = w' := by
  have hl := hr'.lenB
  have HL := Lib.hid hl
  have HC := Lib.hid hc
  clear hl hc
  have hm : cap' ≤ 9223372036854775807 := by simp only [maxLen] at hm; omega
  have hcell : ∀ k, k < 64 → w.cell? ⟨g, n + k, none⟩ = some (.int .u8 ((sm k).toNat : Int)) := fun k hk => by
    rw [hB.cell, ← Array.getElem?_toList, HC.out, List.getElem?_append_left (by rw [bvs_length, List.length_append, HL.out, sms_length]; omega)]
    apply bvs_at
    rw [List.getElem?_append_right (by rw [HL.out]; omega), HL.out, show n + k - n = k by omega, sms_at hk]
  have HCE := Lib.hid hcell
  clear hcell
  go_enter Try.func72, Try.ntmps72
  go_wp2_with fail
  go_loop [6] (fun i => ∃ k : Nat, k ≤ 64 ∧ i = .int .i64 k) (fun i => 64 - (intOf i).toNat)
  case atStart => exact ⟨0, by omega, rfl⟩
  case round =>
    obtain ⟨k, hk, rfl⟩ := hrel
    by_cases hlt : k < 64
    · have hcell := HCE.out k hlt
      rw [sm_int k hlt] at hcell
      have hlt1 : (n : Int) + (k : Int) < (n : Int) + 64 := by omega
      have e3 : ((n : Int) + (k : Int)).toNat = n + k := by omega
      have e2 : (90 + (k : Int)) % 256 = 90 + (k : Int) := by omega
      have hne : ((90 + (k : Int)) != (90 + (k : Int))) = false := by simp
      go_wp2
      go_round
      case rel => exact ⟨k + 1, by omega, by go_num⟩
      case measure => simp [intOf]; omega
    · go_wp2_with fail
      have hrd : RdB w w.heap.size (some ⟨g, 0, none⟩) n bs := by
        refine ⟨by rw [bvs_length, HL.out]; omega, fun _ => ⟨g, 0, rfl, hB.lt, fun j u hu => ?_⟩⟩
        rw [Nat.zero_add, hB.cell, ← Array.getElem?_toList, HC.out, bvs_append, List.append_assoc, List.getElem?_append_left (List.getElem?_eq_some_iff.1 hu).1]
        exact hu
      refine (same_yes _ _ _ _ _ _ _ _ bs w hrd hr').mono ?_
      rintro _ _ ⟨rfl, rfl⟩
      go_wp2
      go_ret
      exact ⟨rfl, rfl⟩

end Go.Proofs.Ytgfhmfhhobhojaa
namespace Go.Proofs.Ytgfhmfhhobhojaa
open Go.ChangeShapes Go.WideShapes Go.ChangeAt Go.RowKit
set_option maxRecDepth 100000 in
set_option maxHeartbeats 1600000 in
theorem alike_yes {w : World} (f : Flt) (A A' : Option Addr) (cap cap' : Nat) (hr : RdB w w.heap.size A f.bs.length f.bs) (hr' : RdB w w.heap.size A' f.bs.length f.bs) : Calls Try.prog 55 #[.agg #[.int .i64 (f.id : Int), .int .i64 (f.src : Int), .int .i64 (f.dst : Int), .int .i64 (f.due : Int), .slice A f.bs.length cap], .agg #[.int .i64 (f.id : Int), .int .i64 (f.src : Int), .int .i64 (f.dst : Int), .int .i64 (f.due : Int), .slice A' f.bs.length cap']] w fun e w' => e = .returned (.bool true) ∧ Below w.heap.size w w' := by
  have hb0 := one_box' w (.cells #[.int .i64 (f.id : Int), .int .i64 (f.src : Int), .int .i64 (f.dst : Int), .int .i64 (f.due : Int), .slice A f.bs.length cap] 48)
  have hX := Blk.new w 48 #[.int .i64 (f.id : Int), .int .i64 (f.src : Int), .int .i64 (f.dst : Int), .int .i64 (f.due : Int), .slice A f.bs.length cap]
  obtain ⟨w0, hw0⟩ : ∃ w0, w0 = w.alloc (.cells #[.int .i64 (f.id : Int), .int .i64 (f.src : Int), .int .i64 (f.dst : Int), .int .i64 (f.due : Int), .slice A f.bs.length cap] 48) := ⟨_, rfl⟩
  rw [← hw0] at hb0 hX
  have hb1 := one_box' w0 (.cells #[.int .i64 (f.id : Int), .int .i64 (f.src : Int), .int .i64 (f.dst : Int), .int .i64 (f.due : Int), .slice A' f.bs.length cap'] 48)
  have hZ := Blk.new w0 48 #[.int .i64 (f.id : Int), .int .i64 (f.src : Int), .int .i64 (f.dst : Int), .int .i64 (f.due : Int), .slice A' f.bs.length cap']
  obtain ⟨w1, hw1⟩ : ∃ w1, w1 = w0.alloc (.cells #[.int .i64 (f.id : Int), .int .i64 (f.src : Int), .int .i64 (f.dst : Int), .int .i64 (f.due : Int), .slice A' f.bs.length cap'] 48) := ⟨_, rfl⟩
  have hX1 := hX.over hb1
  rw [← hw1] at hb1 hZ hX1
  have hsz : w0.heap.size = w.heap.size + 1 := by rw [hw0]; simp
  rw [hsz] at hZ
  have hb01 := hb0.trans (hb1.mono hb0.size)
  have HS := Lib.hid (same_yes A A' f.bs.length f.bs.length cap cap' _ _ f.bs w1 (hr.below hb01) (hr'.below hb01))
  have x0 : w1.cell? ⟨w.heap.size, 0, none⟩ = some (.int .i64 (f.id : Int)) := hX1.cell 0
  have x1 : w1.cell? ⟨w.heap.size, 1, none⟩ = some (.int .i64 (f.src : Int)) := hX1.cell 1
  have x2 : w1.cell? ⟨w.heap.size, 2, none⟩ = some (.int .i64 (f.dst : Int)) := hX1.cell 2
  have x3 : w1.cell? ⟨w.heap.size, 3, none⟩ = some (.int .i64 (f.due : Int)) := hX1.cell 3
  have x4 : w1.cell? ⟨w.heap.size, 4, none⟩ = some (.slice A f.bs.length cap) := hX1.cell 4
  have y0 : w1.cell? ⟨w.heap.size + 1, 0, none⟩ = some (.int .i64 (f.id : Int)) := hZ.cell 0
  have y1 : w1.cell? ⟨w.heap.size + 1, 1, none⟩ = some (.int .i64 (f.src : Int)) := hZ.cell 1
  have y2 : w1.cell? ⟨w.heap.size + 1, 2, none⟩ = some (.int .i64 (f.dst : Int)) := hZ.cell 2
  have y3 : w1.cell? ⟨w.heap.size + 1, 3, none⟩ = some (.int .i64 (f.due : Int)) := hZ.cell 3
  have y4 : w1.cell? ⟨w.heap.size + 1, 4, none⟩ = some (.slice A' f.bs.length cap') := hZ.cell 4
  have HW0 := Lib.hid hw0
  have HW1 := Lib.hid hw1
  have HB := Lib.hid hb01
  clear hw0 hw1 hb0 hb1 hb01 hX hX1 hZ hr hr' hsz
  go_enter Try.func55, Try.ntmps55
  go_upto_region 1 with fail
  rw [← HW0.out, ← HW1.out]
  go_wp2_with (go_at_call 49; refine HS.out.mono ?_; rintro _ _ ⟨rfl, rfl⟩)
  go_ret
  exact ⟨rfl, HB.out⟩
/-- A list of flights as it reads. -/
structure FlAt (w : World) (A : Option Addr) (n : Nat) (l : List Flt) : Prop where
  len : n = l.length
  at_ : ∀ k f, l[k]? = some f → ∃ g bA bc, A = some ⟨g, 0, none⟩ ∧ g < w.heap.size ∧ w.cell? ⟨g, k * 5, none⟩ = some (.int .i64 (f.id : Int)) ∧ w.cell? ⟨g, k * 5 + 1, none⟩ = some (.int .i64 (f.src : Int)) ∧ w.cell? ⟨g, k * 5 + 2, none⟩ = some (.int .i64 (f.dst : Int)) ∧ w.cell? ⟨g, k * 5 + 3, none⟩ = some (.int .i64 (f.due : Int)) ∧ w.cell? ⟨g, k * 5 + 4, none⟩ = some (.slice bA f.bs.length bc) ∧ RdB w w.heap.size bA f.bs.length f.bs
theorem FlAt.below {w w' : World} {A : Option Addr} {n : Nat} {l : List Flt} (h : FlAt w A n l) (hb : Below w.heap.size w w') : FlAt w' A n l := by
  refine ⟨h.len, fun k f hk => ?_⟩
  obtain ⟨g, bA, bc, e, hg, c0, c1, c2, c3, c4, hr⟩ := h.at_ k f hk
  have hc : ∀ o, w'.cell? ⟨g, o, none⟩ = w.cell? ⟨g, o, none⟩ := fun o => hb.cell (p := ⟨g, o, none⟩) hg
  exact ⟨g, bA, bc, e, Nat.lt_of_lt_of_le hg hb.size, (hc _).trans c0, (hc _).trans c1, (hc _).trans c2, (hc _).trans c3, (hc _).trans c4, (hr.below hb).more hb.size⟩
set_option maxRecDepth 100000 in
set_option maxHeartbeats 1600000 in
theorem lists_yes {w : World} (A A' : Option Addr) (n n' cap cap' : Nat) (l : List Flt) (h : FlAt w A n l) (h' : FlAt w A' n' l) (hn : n ≤ 1099511627776) : Calls Try.prog 58 #[.slice A n cap, .slice A' n' cap'] w fun e w' => e = .returned (.bool true) ∧ Below w.heap.size w w' := by
  obtain rfl : n' = n := by rw [h.len, h'.len]
  have H := Lib.hid h
  have H' := Lib.hid h'
  have e0 : ((n' : Int) != (n' : Int)) = false := by simp
  clear h h'
  go_enter Try.func58, Try.ntmps58
  go_wp2_with fail
  go_loopw [5] (fun i wr => ∃ k : Nat, k ≤ n' ∧ i = .int .i64 (k : Int) ∧ Hid (Below w.heap.size w wr)) (fun i _ => n' - (intOf i).toNat)
  case atStart => exact ⟨0, by omega, rfl, Lib.hid (Below.refl _ _)⟩
  case round =>
    obtain ⟨k, hk, rfl, HB⟩ := hrel
    by_cases hlt : k < n'
    · have hI : (k : Int) < (n' : Int) := by omega
      obtain ⟨f, hf⟩ : ∃ f, l[k]? = some f := ⟨l[k]'(by rw [← H.out.len]; exact hlt), List.getElem?_eq_getElem _⟩
      obtain ⟨wd, hwd⟩ : ∃ wd, wd = wr.drew := ⟨_, rfl⟩
      have hbd : Below w.heap.size w wd := by rw [hwd]; exact below_drewN HB.out 1
      obtain ⟨g, bA, bc, rfl, _, c0, c1, c2, c3, c4, hr⟩ := (H.out.below hbd).at_ k f hf
      obtain ⟨g', bA', bc', rfl, _, d0, d1, d2, d3, d4, hr'⟩ := (H'.out.below hbd).at_ k f hf
      have HA := Lib.hid (alike_yes f bA bA' bc bc' hr hr')
      have HBD := Lib.hid hbd
      have HWD := Lib.hid hwd
      clear hr hr' hwd hbd hf
      go_upto_region 6 with fail
      refine region_tail 8 (by kernel_rfl) (by kernel_rfl) ?_
      simp only [List.take_succ_cons, List.take_zero, List.drop_succ_cons, List.drop_zero]
      rw [← HWD.out]
      repeat still_step
      refine wpStill_nil ?_
      change wpList _ _ _ _ _ wd
      go_wp2_with (go_at_call 55; refine HA.out.mono ?_; rintro _ w3 ⟨rfl, hb3⟩; have HB3 := Lib.hid (HBD.out.trans (hb3.mono HBD.out.size)); clear hb3)
      go_roundw
      case rel => exact ⟨k + 1, by omega, by go_num, HB3⟩
      case measure => simp [intOf] <;> omega
    · obtain rfl : k = n' := by omega
      go_wp2
      go_ret
      exact ⟨rfl, HB.out⟩
/-! The lists that the two networks hand out. -/
theorem flat5 {α : Type} {es : List (List α)} (h : ∀ y ∈ es, y.length = 5) {k i : Nat} (hi : i < 5) {y : List α} (hy : es[k]? = some y) : es.flatten[k * 5 + i]? = y[i]? := by
  rw [flat_at h k i hi, hy]; rfl
theorem FlAt.of_p {w : World} {B : Nat} {A : Option Addr} {cap : Nat} {H : List (Flt × Nat)} (ho : w.ownsRow B 48 5 (.slice A H.length cap) H.length (rowsP H)) (hb : ∀ x ∈ H, Blk w x.2 5 (bvs x.1.bs).toArray) : FlAt w A H.length (H.map (·.1)) := by
  refine ⟨by rw [List.length_map], fun k f hk => ?_⟩
  rw [List.getElem?_map] at hk
  cases hx : H[k]? with
  | none => rw [hx] at hk; cases hk
  | some x =>
    obtain ⟨f', y⟩ := x
    rw [hx] at hk
    simp only [Option.map_some, Option.some.injEq] at hk
    subst hk
    have hlt : k < H.length := (List.getElem?_eq_some_iff.1 hx).1
    obtain ⟨g, cap', cur, hv, hg, hB, hle, hcm, hsz, htk⟩ := own_parts ho (by omega)
    simp only [Value.slice.injEq] at hv
    obtain ⟨rfl, _, _⟩ := hv
    have hr := ho.cells (g := g) rfl
    have hc : ∀ (i : Nat) (u : Value), i < 5 → (f'.row y)[i]? = some u → w.cell? ⟨g, k * 5 + i, none⟩ = some u := fun i u hi hu => by
      have h1 := hr (k * 5 + i) u (by
        rw [rowsP, flat5 (y := f'.row y) (fun z hz => by
          simp only [List.mem_map] at hz
          obtain ⟨_, _, rfl⟩ := hz
          rfl) hi (by rw [List.getElem?_map, hx]; rfl)]
        exact hu)
      rw [addr_add, Nat.zero_add] at h1
      exact h1
    have hy := hb _ (List.mem_of_getElem? hx)
    exact ⟨g, some ⟨y, 0, none⟩, f'.bs.length, rfl, hB.lt, hc 0 _ (by omega) rfl, hc 1 _ (by omega) rfl, hc 2 _ (by omega) rfl, hc 3 _ (by omega) rfl, hc 4 _ (by omega) rfl, ⟨by rw [bvs_length, Nat.mul_one], fun _ => ⟨y, 0, rfl, hy.lt, fun q u hu => by rw [Nat.zero_add, hy.cell, List.getElem?_toArray]; exact hu⟩⟩⟩
theorem FlAt.of_r {w : World} {B m cap : Nat} {A : Option Addr} {H : List (Flt × Value)} {l : List Flt} (h : OutS B l (.slice A m cap) m H w) : FlAt w A m l := by
  obtain ⟨hlen, hmap, ho, hb⟩ := h
  subst hlen
  refine ⟨by rw [← hmap, List.length_map], fun k f hk => ?_⟩
  rw [← hmap, List.getElem?_map] at hk
  cases hx : H[k]? with
  | none => rw [hx] at hk; cases hk
  | some x =>
    obtain ⟨f', u⟩ := x
    rw [hx] at hk
    simp only [Option.map_some, Option.some.injEq] at hk
    subst hk
    have hlt : k < H.length := (List.getElem?_eq_some_iff.1 hx).1
    obtain ⟨g, cap', cur, hv, hg, hB, hle, hcm, hsz, htk⟩ := own_parts ho (by omega)
    simp only [Value.slice.injEq] at hv
    obtain ⟨rfl, _, _⟩ := hv
    have hr := ho.cells (g := g) rfl
    have hc : ∀ (i : Nat) (z : Value), i < 5 → (rowV (f', u))[i]? = some z → w.cell? ⟨g, k * 5 + i, none⟩ = some z := fun i z hi hu => by
      have h1 := hr (k * 5 + i) z (by
        rw [rowsV, flat5 (y := rowV (f', u)) (fun z hz => by
          simp only [List.mem_map] at hz
          obtain ⟨_, _, rfl⟩ := hz
          rfl) hi (by rw [List.getElem?_map, hx]; rfl)]
        exact hu)
      rw [addr_add, Nat.zero_add] at h1
      exact h1
    have hy := hb _ (List.mem_of_getElem? hx)
    dsimp only at hy
    obtain ⟨bA, bc, rfl, _, _⟩ := own_shape hy
    exact ⟨g, bA, bc, rfl, hB.lt, hc 0 _ (by omega) rfl, hc 1 _ (by omega) rfl, hc 2 _ (by omega) rfl, hc 3 _ (by omega) rfl, hc 4 _ (by omega) rfl, Rd.of_own hy⟩
end Go.Proofs.Ytgfhmfhhobhojaa
