/-
  JournalApplies: the law's helpers: full.
-/
import Derived.Test.YtpkdalpjfcopbaaDoorADisk
namespace Go.Proofs.YtpkdalpjfcopbaaDoor
open Go.RowKit
/-- The first k bytes are written over. -/
structure FullAt (w : World) (g : Nat) (cur : Array Value) (v : Value) (k : Nat) (wr : World) : Prop where
  chg : Chg (fun j => j = g) w wr
  blk : ∃ c, Blk wr g 5 c ∧ c.toList = List.replicate k v ++ cur.toList.drop k
theorem FullAt.step {w wr : World} {g k : Nat} {cur : Array Value} {v : Value} (h : FullAt w g cur v k wr) (hk : k < cur.size) : FullAt w g cur v (k + 1) (wr.setCell ⟨g, k, none⟩ v) := by
  obtain ⟨c, hB, hc⟩ := h.blk
  refine ⟨h.chg.setCell (p := ⟨g, k, none⟩) (.inl rfl) v, c.setIfInBounds k v, hB.set_ k v, ?_⟩
  rw [Array.toList_setIfInBounds, hc, List.set_append_right _ _ (by simp), List.length_replicate, Nat.sub_self, List.drop_eq_getElem_cons (by simpa using hk), List.set_cons_zero, List.replicate_succ', List.append_assoc]
  rfl
set_option maxRecDepth 100000 in
set_option maxHeartbeats 800000 in
theorem full_any {w : World} (g n cap : Nat) (cur : Array Value) (m : UInt8) (hB : Blk w g 5 cur) (hn : n ≤ cur.size) (hm : n ≤ 4611686018427387904) : Calls Tryd.prog 18 #[.slice (some ⟨g, 0, none⟩) n cap, .int .u8 (m.toNat : Int)] w fun e w' => e = .returned (.tuple #[]) ∧ FullAt w g cur (.int .u8 (m.toNat : Int)) n w' := by
  have HST : Hid (FullAt w g cur (.int .u8 (m.toNat : Int)) 0 w) := Lib.hid ⟨Chg.refl _ _, cur, hB, by simp⟩
  clear hB
  go_enter Tryd.func18, Tryd.ntmps18
  go_wp2_with fail
  go_loopw [4] (fun i wr => ∃ k : Nat, k ≤ n ∧ i = .int .i64 (k : Int) ∧ Hid (FullAt w g cur (.int .u8 (m.toNat : Int)) k wr)) (fun i _ => n - (intOf i).toNat)
  case atStart => exact ⟨0, by omega, rfl, HST⟩
  case round =>
    clear HST
    obtain ⟨k, hk, rfl, HT⟩ := hrel
    by_cases hlt : k < n
    · have hI : (k : Int) < (n : Int) := by omega
      obtain ⟨c, hC, hc⟩ := HT.out.blk
      have q0 : wr.frozen? ⟨g, k, none⟩ = false := hC.frozen k
      obtain ⟨u, hu⟩ : ∃ u, wr.cell? ⟨g, k, none⟩ = some u := by
        rw [hC.cell]
        have hl : k < c.size := by
          have : c.toList.length = c.size := by simp
          rw [← this, hc]
          simp
          omega
        exact ⟨c[k], Array.getElem?_eq_getElem hl⟩
      have HN := Lib.hid (HT.out.step (by omega))
      clear hC hc
      go_wp2
      go_roundw
      case rel => exact ⟨k + 1, by omega, by go_num, HN⟩
      case measure => simp [intOf] <;> omega
    · obtain rfl : k = n := by omega
      go_wp2
      go_end0
      exact ⟨rfl, HT.out⟩
end Go.Proofs.YtpkdalpjfcopbaaDoor
