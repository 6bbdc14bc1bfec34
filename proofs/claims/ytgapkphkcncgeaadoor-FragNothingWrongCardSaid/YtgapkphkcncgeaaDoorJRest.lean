/-
  The reference's Take whole; its Held, Reset, New.
-/
import Derived.Test.YtgapkphkcncgeaaDoorJTakeR
namespace Go.Proofs.YtgapkphkcncgeaaDoor
open Go.RowKit

theorem RTake_any (A : Option Addr) (n cap J N : Nat) (F : Nat → Prop) (st : JSt) (bs : List UInt8) (s : Int) (w : World) (h : RJx w F N J st) (hN : N ≤ 16) (hok : PartsOk N st) (hr : RdB w w.heap.size A n bs) (hn : n ≤ cap) (hc : n ≤ 140737488355328) (hA : 0 < n → ∀ b o s, A = some ⟨b, o, s⟩ → ¬ F b) :
    Calls Tryd.prog 31 #[.pointer (some ⟨J, 0, none⟩), .int .i64 s, .slice A n cap] w (TakesR w F N J st s bs) := by
  by_cases hs : s < 0 ∨ (N : Int) ≤ s
  · exact RTake_arg A n cap J N F st bs s w h hN hs
  · obtain ⟨k, rfl⟩ := Int.eq_ofNat_of_zero_le (show 0 ≤ s by omega)
    by_cases hf : Form bs
    · exact RTake_go A n cap J N k F st bs w h hN (by omega) (hok k (by omega)) hr hn (hA (by have := hr.lenB; have := hf.1; omega)) hf
    · exact RTake_form A n cap J N k F st bs w h hN (by omega) hr hc hf

/-- How many bytes are held. -/
def heldS (N : Nat) (st : JSt) (s : Int) : Nat := if s < 0 ∨ (N : Int) ≤ s then 0 else (blobS (st s.toNat)).length
set_option maxRecDepth 100000 in
set_option maxHeartbeats 1600000 in
theorem RHeld_any (J N : Nat) (F : Nat → Prop) (st : JSt) (s : Int) (w : World) (h : RJx w F N J st) (hN : N ≤ 16) (hok : PartsOk N st) :
    Calls Tryd.prog 32 #[.pointer (some ⟨J, 0, none⟩), .int .i64 s] w fun e w' => e = .returned (.int .i64 (heldS N st s : Int)) ∧ Below w.heap.size w w' := by
  obtain ⟨hF, vv, rows, cs, hj⟩ := h
  have hc0 : w.cell? ⟨J, 0, none⟩ = some (.int .i64 (N : Int)) := by rw [hj.blk.cell]; exact hj.num
  by_cases hs : s < 0 ∨ (N : Int) ≤ s
  · have HH := Lib.hid (show heldS N st s = 0 by unfold heldS; rw [if_pos hs])
    clear hj hF
    rcases hs with hs | hs
    · go_enter Tryd.func32, Tryd.ntmps32
      go_wp2
      go_ret
      exact ⟨by rw [HH.out]; rfl, Below.refl _ _⟩
    · have hs' : ¬ s < 0 := by omega
      go_enter Tryd.func32, Tryd.ntmps32
      go_wp2
      go_ret
      exact ⟨by rw [HH.out]; rfl, Below.refl _ _⟩
  · obtain ⟨k, rfl⟩ := Int.eq_ofNat_of_zero_le (show 0 ≤ s by omega)
    have HH := Lib.hid (show heldS N st (k : Int) = (blobS (st k)).length by unfold heldS; rw [if_neg hs, Int.toNat_natCast])
    have hk : k < N := by omega
    have hs1 : (k : Int) < (N : Int) := by omega
    have hs2 : ¬ (k : Int) < 0 := by omega
    have hck : w.cell? ⟨J, 1 + k, none⟩ = some (vv k) := by rw [hj.blk.cell]; exact hj.at_ k (by omega)
    have hrow := hj.row k (by omega)
    obtain ⟨As, caps, hvs, _, _⟩ := own_shape hrow
    rw [hvs] at hrow hck
    have hp := hok k hk
    have hl16 : (st k).length ≤ 16 := by
      by_cases hne : st k = []
      · rw [hne]; simp
      · have := hp.lt hne; have := hp.le hne; omega
    have HB := Lib.hid (fun J => blob_any As (st k).length caps (rows k) (st k) w (Rd.of_own hrow) (hj.lo k (by omega)).ll (fun c hc => (hp.each c hc).1) rfl J)
    clear hs hvs hj hF
    go_enter Tryd.func32, Tryd.ntmps32
    go_wp2_with fail
    refine (HB.out (by omega)).mono ?_
    rintro _ w1 ⟨u, rfl, ho, hb⟩
    obtain ⟨A1, cap1, rfl, _, _⟩ := own_shape ho
    have hM := HH.out
    generalize (blobS (st k)).length = M at *
    clear hM ho
    go_wp2
    go_ret
    exact ⟨by rw [HH.out]; rfl, hb⟩

set_option maxRecDepth 100000 in
set_option maxHeartbeats 1600000 in
theorem RReset_any (J N : Nat) (F : Nat → Prop) (st : JSt) (w : World) (h : RJx w F N J st) :
    Calls Tryd.prog 33 #[.pointer (some ⟨J, 0, none⟩)] w fun e w' => e = .returned (.tuple #[]) ∧ RJx w' F N J (fun _ => []) ∧ Moved w w' F F := by
  obtain ⟨hF, vv, rows, cs, hj⟩ := h
  have hblk := hj.blk
  have hsz := hj.size
  have hnum := hj.num
  have hfj := hj.fj
  clear hj
  go_enter Tryd.func33, Tryd.ntmps33
  go_wp2_with fail
  go_loopw [2] (fun i wr => ∃ (k : Nat) (c' : Array Value), k ≤ 16 ∧ i = .int .i64 (k : Int) ∧ Blk wr J 64 c' ∧ Hid (c'.size = 17 ∧ c'[0]? = some (.int .i64 (N : Int)) ∧ ∀ s, s < k → c'[1 + s]? = some (.slice none 0 0)) ∧ Chg (fun x => x = J) w wr) (fun i _ => 16 - (intOf i).toNat)
  case atStart => exact ⟨0, cs, by omega, rfl, hblk, ⟨hsz, hnum, fun s hs => by omega⟩, Chg.refl _ _⟩
  case round =>
    clear hblk hsz hnum
    obtain ⟨k, c', hk, rfl, hB, HC, hch⟩ := hrel
    by_cases hlt : k < 16
    · obtain ⟨u, hu⟩ : ∃ u, wr.cell? ⟨J, 1 + k, none⟩ = some u := by rw [hB.cell]; exact ⟨_, Array.getElem?_eq_getElem (by have := HC.out.1; omega)⟩
      have hf := hB.frozen (1 + k)
      go_wp2
      go_roundw
      case rel =>
        refine ⟨k + 1, _, by omega, by go_num, hB.set_ (1 + k) _, ?_, hch.setCell (p := ⟨J, 1 + k, none⟩) (.inl rfl) _⟩
        show _ ∧ _
        obtain ⟨h1, h2, h3⟩ := HC.out
        refine ⟨by rw [Array.size_setIfInBounds]; exact h1, by rw [Array.getElem?_setIfInBounds_ne (by omega)]; exact h2, fun s hs => ?_⟩
        by_cases e : s = k
        · subst e; rw [Array.getElem?_setIfInBounds_self_of_lt (by omega)]
        · rw [Array.getElem?_setIfInBounds_ne (by omega)]; exact h3 s (by omega)
      case measure => simp [intOf] <;> omega
    · obtain rfl : k = 16 := by omega
      go_wp2
      go_end0
      obtain ⟨h1, h2, h3⟩ := HC.out
      refine ⟨rfl, ⟨fun k hk => Nat.lt_of_lt_of_le (hF k hk) hch.size, fun _ => .slice none 0 0, fun _ => [], c', hB, h1, h2, h3, fun s _ => ⟨by simp, .inl ⟨rfl, rfl⟩⟩, fun s _ => ⟨rfl, fun i v c h => by simp at h⟩, fun s t g _ _ h => by simp [Value.ownBlock] at h, hfj, fun s _ g h => by simp [Value.ownBlock] at h, fun s _ v h => by simp at h⟩, ⟨fun k hk => .inl hk, hch.mono fun k _ e => by subst e; exact hfj⟩⟩

set_option maxRecDepth 100000 in
set_option maxHeartbeats 800000 in
theorem RNew_no (x : Int) (w : World) (h : x < 1 ∨ 16 < x) :
    Calls Tryd.prog 18 #[.int .i64 x] w fun e w' => e = .returned (.tuple #[.pointer none, .int .i64 1]) ∧ w = w' := by
  rcases h with h | h
  · go_enter Tryd.func18, Tryd.ntmps18
    go_wp2
    go_ret2
    exact ⟨rfl, rfl⟩
  · have h' : ¬ x < 1 := by omega
    go_enter Tryd.func18, Tryd.ntmps18
    go_wp2
    go_ret2
    exact ⟨rfl, rfl⟩
def NewsR (w : World) (N : Nat) (e : Ending) (w' : World) : Prop := ∃ (J : Nat) (F : Nat → Prop), e = .returned (.tuple #[.pointer (some ⟨J, 0, none⟩), .int .i64 0]) ∧ RJx w' F N J (fun _ => []) ∧ (∀ k, F k → w.heap.size ≤ k) ∧ Below w.heap.size w w'
set_option maxRecDepth 100000 in
set_option maxHeartbeats 800000 in
theorem RNew_yes (N : Nat) (w : World) (h1 : 1 ≤ N) (h2 : N ≤ 16) :
    Calls Tryd.prog 18 #[.int .i64 (N : Int)] w (NewsR w N) := by
  have h1' : ¬ (N : Int) < 1 := by omega
  have h2' : ¬ 16 < (N : Int) := by omega
  go_enter Tryd.func18, Tryd.ntmps18
  go_wp2
  go_ret2
  refine ⟨w.heap.size, fun k => k = w.heap.size, rfl, ⟨fun k hk => by subst hk; simp, fun _ => .slice none 0 0, fun _ => [], _, Blk.new w _ _, rfl, rfl, fun s hs => ?_, fun s _ => ⟨by simp, .inl ⟨rfl, rfl⟩⟩, fun s _ => ⟨rfl, fun i v c h => by simp at h⟩, fun s t g _ _ h => by simp [Value.ownBlock] at h, rfl, fun s _ g h => by simp [Value.ownBlock] at h, fun s _ v h => by simp at h⟩, fun k hk => by subst hk; exact Nat.le_refl _, one_box' _ _⟩
  rw [Nat.add_comm]
  rw [List.getElem?_toArray]
  show (Value.int .i64 (N : Int) :: List.replicate 16 (Value.slice none 0 0))[s + 1]? = _
  rw [List.getElem?_cons_succ, List.getElem?_replicate, if_pos hs]
end Go.Proofs.YtgapkphkcncgeaaDoor
