/-
  JournalApplies: the law's helpers: disks. And: JournalApplies: the law's helpers: same, spare, intact. (Turned from XELaw1.)
-/
import Derived.Test.YtpkdalpjfcopbaaDoorACost
namespace Go.Proofs.YtpkdalpjfcopbaaDoor
open Go.RowKit
theorem info_u8 : (Tryd.prog.info? 5).map (fun i => (i.zero, i.size, i.bytes)) = some (some (.int .u8 0), 1, 1) := by kernel_rfl
theorem u_bytes : Tryd.prog.underlying 22 = some (.slice 5) := Tryd.underlying22
/-- 'string(b)' of a list that reads as bs. -/
theorem conv_rd {P : Program} {w : World} {B n cap src dst e : Nat} {A : Option Addr} {bs : List UInt8} (hr : RdB w B A n bs) (hs : P.underlying src = some (.slice e)) (he : P.underlying e = some (.int .u8)) (hd : P.underlying dst = some .string) :
    (convert src dst (.slice A n cap)).run P w = .ok (.string ⟨bs.toArray⟩) w := by
  have hl := hr.lenB
  rcases A with _ | a
  · have h0 : n = 0 := by
      rcases Nat.eq_zero_or_pos n with h | h
      · exact h
      · obtain ⟨b, off, h1, _⟩ := hr.at_ h
        cases h1
    subst h0
    obtain rfl : bs = [] := List.eq_nil_of_length_eq_zero hl
    exact Lib.run_convert_nil_bytes w src dst e cap hs he hd
  · subst hl
    refine run_convert_bytes_back w src dst e a cap bs hs he hd (fun j hj => ?_)
    obtain ⟨b, off, h1, _, hc⟩ := hr.at_ (by omega)
    injection h1 with h1
    subst h1
    rw [addr_add]
    exact hc j _ (bvs_at (List.getElem?_eq_getElem hj))

theorem same_yes (A A' : Option Addr) (n n' cap cap' B B' : Nat) (bs : List UInt8) (w : World) (hr : RdB w B A n bs) (hr' : RdB w B' A' n' bs) :
    Calls Tryd.prog 48 #[.slice A n cap, .slice A' n' cap'] w fun e w' => e = .returned (.bool true) ∧ w = w' := by
  have h1 := fun c => conv_rd (P := Tryd.prog) (cap := c) hr Tryd.underlying22 Tryd.underlying5 Tryd.underlying9
  have h2 := fun c => conv_rd (P := Tryd.prog) (cap := c) hr' Tryd.underlying22 Tryd.underlying5 Tryd.underlying9
  go_enter Tryd.func48, Tryd.ntmps48
  go_wp2
  go_ret
  exact ⟨ret_bool (by simp), rfl⟩

theorem same_c (A A' : Option Addr) (n n' cap cap' B B' : Nat) (bs : List UInt8) (w : World) (hr : RdB w B A n bs) (hr' : RdB w B' A' n' bs) :
    Calls Tryd.prog 48 #[.slice A n cap, .slice A' n' cap'] w fun e w' => e = .returned (.bool true) ∧ w' = w :=
  (same_yes A A' n n' cap cap' B B' bs w hr hr').mono fun _ _ ⟨h, h2⟩ => ⟨h, h2.symm⟩
def sm (k : Nat) : UInt8 := UInt8.ofNat (90 + k)
def sms (k : Nat) : List UInt8 := (List.range k).map sm
theorem sms_succ (k : Nat) : sms (k + 1) = sms k ++ [sm k] := by simp [sms, List.range_succ]
theorem sms_length (k : Nat) : (sms k).length = k := by simp [sms]
theorem sms_at {k j : Nat} (h : j < k) : (sms k)[j]? = some (sm j) := by simp [sms, h]
theorem sm_int (k : Nat) (h : k < 64) : ((sm k).toNat : Int) = 90 + (k : Int) := by
  unfold sm
  rw [UInt8.toNat_ofNat', Nat.mod_eq_of_lt (by omega)]
  omega
set_option maxRecDepth 100000 in
set_option maxHeartbeats 800000 in
theorem spare_any (A : Option Addr) (n cap : Nat) (bs : List UInt8) (w : World) (hr : RdB w w.heap.size A n bs) (hn : n ≤ 140737488351232) :
    Calls Tryd.prog 11 #[.slice A n cap] w fun e w' => ∃ g cap' cur rest, e = .returned (.slice (some ⟨g, 0, none⟩) n cap') ∧ w.heap.size ≤ g ∧ n + 64 ≤ cap' ∧ cap' ≤ maxLen ∧ Blk w' g 5 cur ∧
      cur.toList = bvs (bs ++ sms 64) ++ rest ∧ Below w.heap.size w w' := by
  obtain ⟨i0, hi0, hz0, hz1, hz2⟩ := info_parts info_u8
  have hnil : w.ownsRow w.heap.size 5 1 (.slice none 0 0) 0 [] := ⟨by simp, .inl ⟨rfl, rfl⟩⟩
  go_enter Tryd.func11, Tryd.ntmps11
  go_wp2_with (first
    | (at_builtin
       refine wpList_append_any _ (by rfl) _ _ 22 (by rfl) w.heap.size 5 i0 _ 1 1 u_bytes hi0 hz0 hz1 hz2 rfl (by omega) _ 0 [] (by rfl)
         hnil w.heap.size A n cap (bvs bs) (by rfl) hr (bvs_one bs) (by simp only [maxLen]; omega) (by omega) (by simp) ?_
       intro v1 w1 hown1 hg1 hat1))
  have hb1 : Below w.heap.size w w1 := below_app hnil hg1 (Nat.le_refl _)
  rw [Nat.zero_add, List.nil_append] at hown1
  clear hg1 hat1
  go_loopw [3, 4] (fun x i wr => ∃ k : Nat, k ≤ 64 ∧ i = .int .i64 k ∧ wr.ownsRow w.heap.size 5 1 x (n + k) (bvs (bs ++ sms k)) ∧ Below w.heap.size w wr) (fun _ i _ => 64 - (intOf i).toNat)
  case atStart => exact ⟨0, by omega, rfl, by simpa [sms] using hown1, hb1⟩
  case round =>
    obtain ⟨k, hk, rfl, hown, hb⟩ := hrel
    obtain ⟨A1, cap1, rfl, hc1, hc2⟩ := own_shape hown
    by_cases hlt : k < 64
    · have HS := Lib.hid (sm_int k hlt)
      go_wp2_with (
         at_builtin
         refine app1 wr (by rfl) _ _ 22 (by rfl) w.heap.size 5 i0 _ 1 u_bytes hi0 hz0 hz1 hz2 rfl _ _ _ (by rfl) hown _ (by rfl) (by rfl) (by simp only [maxLen]; omega) (by omega) hb.size ?_
         intro v2 w2 hown2 hb2 _)
      go_roundw
      case rel =>
        refine ⟨k + 1, by omega, by go_num, ?_, hb.trans hb2⟩
        rw [sms_succ, ← List.append_assoc, bvs_append]
        have e : bvs [sm k] = [.int .u8 (90 + (k : Int))] := by simp [bvs, HS.out]
        rw [e]
        have e2 : (90 + (k : Int)) % 256 = 90 + (k : Int) := by omega
        first | exact hown2 | (rw [e2] at hown2; exact hown2)
      case measure => simp [intOf]; omega
    · obtain rfl : k = 64 := by omega
      obtain ⟨g, cap', cur, hv, hg, hB, h1, h2, h3, h4⟩ := own_parts hown (by omega)
      simp only [Value.slice.injEq, true_and] at hv
      obtain ⟨rfl, rfl⟩ := hv
      have hm : cap1 ≤ 9223372036854775807 := by simp only [maxLen] at h2; omega
      go_wp2
      go_ret
      exact ⟨g, cap1, cur, cur.toList.drop ((n + 64) * 1), rfl, hg, h1, h2, hB, by rw [← h4, List.take_append_drop], hb⟩

set_option maxRecDepth 100000 in
set_option maxHeartbeats 800000 in
theorem intact_yes (g n cap' : Nat) (A : Option Addr) (cap B : Nat) (bs : List UInt8) (cur : Array Value) (rest : List Value) (w : World) (hB : Blk w g 5 cur) (hc : cur.toList = bvs (bs ++ sms 64) ++ rest) (hcp : n + 64 ≤ cap') (hm : cap' ≤ maxLen) (hr' : RdB w B A n bs) :
    Calls Tryd.prog 16 #[.slice (some ⟨g, 0, none⟩) n cap', .slice A n cap] w fun e w' => e = .returned (.bool true) ∧ w = w' := by
  have hl := hr'.lenB
  have HL := Lib.hid hl
  have HC := Lib.hid hc
  clear hl hc
  have hm : cap' ≤ 9223372036854775807 := by simp only [maxLen] at hm; omega
  have hcell : ∀ k, k < 64 → w.cell? ⟨g, n + k, none⟩ = some (.int .u8 ((sm k).toNat : Int)) := fun k hk => by
    rw [hB.cell, ← Array.getElem?_toList, HC.out, List.getElem?_append_left (by rw [bvs_length, List.length_append, HL.out, sms_length]; omega)]
    apply bvs_at
    rw [List.getElem?_append_right (by rw [HL.out]; omega), HL.out, show n + k - n = k by omega, sms_at hk]
  have HCE := Lib.hid hcell
  clear hcell
  go_enter Tryd.func16, Tryd.ntmps16
  go_wp2_with fail
  go_loop [6] (fun i => ∃ k : Nat, k ≤ 64 ∧ i = .int .i64 k) (fun i => 64 - (intOf i).toNat)
  case atStart => exact ⟨0, by omega, rfl⟩
  case round =>
    obtain ⟨k, hk, rfl⟩ := hrel
    by_cases hlt : k < 64
    · have hcell := HCE.out k hlt
      rw [sm_int k hlt] at hcell
      have hlt1 : (n : Int) + (k : Int) < (n : Int) + 64 := by omega
      have e3 : ((n : Int) + (k : Int)).toNat = n + k := by omega
      have e2 : (90 + (k : Int)) % 256 = 90 + (k : Int) := by omega
      have hne : ((90 + (k : Int)) != (90 + (k : Int))) = false := by simp
      go_wp2
      go_round
      case rel => exact ⟨k + 1, by omega, by go_num⟩
      case measure => simp [intOf]; omega
    · go_wp2_with fail
      have hrd : RdB w w.heap.size (some ⟨g, 0, none⟩) n bs := by
        refine ⟨by rw [bvs_length, HL.out]; omega, fun _ => ⟨g, 0, rfl, hB.lt, fun j u hu => ?_⟩⟩
        rw [Nat.zero_add, hB.cell, ← Array.getElem?_toList, HC.out, bvs_append, List.append_assoc, List.getElem?_append_left (List.getElem?_eq_some_iff.1 hu).1]
        exact hu
      refine (same_yes _ _ _ _ _ _ _ _ bs w hrd hr').mono ?_
      rintro _ _ ⟨rfl, rfl⟩
      go_wp2
      go_ret
      exact ⟨rfl, rfl⟩

end Go.Proofs.YtpkdalpjfcopbaaDoor
namespace Go.Proofs.YtpkdalpjfcopbaaDoor
open Go.RowKit
set_option maxRecDepth 100000 in
set_option maxHeartbeats 1600000 in
theorem disks_yes {w : World} (A1 A2 B1 B2 : Option Addr) (ca1 ca2 cb1 cb2 : Nat) (a b : List UInt8) (h1 : RdB w w.heap.size A1 a.length a) (h2 : RdB w w.heap.size B1 b.length b) (h3 : RdB w w.heap.size A2 a.length a) (h4 : RdB w w.heap.size B2 b.length b) : Calls Tryd.prog 41 #[.agg #[.slice A1 a.length ca1, .slice B1 b.length cb1], .agg #[.slice A2 a.length ca2, .slice B2 b.length cb2]] w fun e w' => e = .returned (.bool true) ∧ Below w.heap.size w w' := by
  have hb1 := one_box' w (.cells #[.slice A1 a.length ca1, .slice B1 b.length cb1] 24)
  have hE1 := Blk.new w 24 #[.slice A1 a.length ca1, .slice B1 b.length cb1]
  obtain ⟨w1, hw1⟩ : ∃ w1, w1 = w.alloc (.cells #[.slice A1 a.length ca1, .slice B1 b.length cb1] 24) := ⟨_, rfl⟩
  have hs1 : w1.heap.size = w.heap.size + 1 := by rw [hw1]; simp
  rw [← hw1] at hb1 hE1
  have hb2 := one_box' w1 (.cells #[.slice A2 a.length ca2, .slice B2 b.length cb2] 24)
  have hE2 := Blk.new w1 24 #[.slice A2 a.length ca2, .slice B2 b.length cb2]
  obtain ⟨w2, hw2⟩ : ∃ w2, w2 = w1.alloc (.cells #[.slice A2 a.length ca2, .slice B2 b.length cb2] 24) := ⟨_, rfl⟩
  rw [← hw2] at hb2 hE2
  have hE1' := hE1.over hb2
  have hb : Below w.heap.size w w2 := hb1.trans (hb2.mono hb1.size)
  have x0 : w2.cell? ⟨w.heap.size, 0, none⟩ = some (.slice A1 a.length ca1) := hE1'.cell 0
  have x1 : w2.cell? ⟨w.heap.size, 1, none⟩ = some (.slice B1 b.length cb1) := hE1'.cell 1
  have y0 : w2.cell? ⟨w.heap.size + 1, 0, none⟩ = some (.slice A2 a.length ca2) := by rw [← hs1]; exact hE2.cell 0
  have y1 : w2.cell? ⟨w.heap.size + 1, 1, none⟩ = some (.slice B2 b.length cb2) := by rw [← hs1]; exact hE2.cell 1
  have HA := Lib.hid (same_yes A1 A2 a.length a.length ca1 ca2 _ _ a w2 (h1.below hb) (h3.below hb))
  have HB := Lib.hid (same_yes B1 B2 b.length b.length cb1 cb2 _ _ b w2 (h2.below hb) (h4.below hb))
  have HW1 := Lib.hid hw1
  have HW2 := Lib.hid hw2
  have HBB := Lib.hid hb
  clear hs1 hb1 hE1 hw1 hb2 hE2 hw2 hE1' hb h1 h2 h3 h4
  go_enter Tryd.func41, Tryd.ntmps41
  go_upto_region 1 with fail
  rw [← HW1.out]
  rw [← HW2.out]
  go_wp2_with (first
    | (go_at_call 48; refine HA.out.mono ?_; rintro _ _ ⟨rfl, rfl⟩)
    | (go_at_call 48; refine HB.out.mono ?_; rintro _ _ ⟨rfl, rfl⟩))
  go_ret
  exact ⟨rfl, HBB.out⟩
end Go.Proofs.YtpkdalpjfcopbaaDoor
