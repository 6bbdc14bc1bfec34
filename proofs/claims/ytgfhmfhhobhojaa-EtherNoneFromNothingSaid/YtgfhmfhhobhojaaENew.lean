/-
  The program's network: New.
-/
import Derived.Test.YtgfhmfhhobhojaaEFlights
import Derived.Carry
namespace Go.Proofs.Ytgfhmfhhobhojaa
open Go.ChangeShapes Go.WideShapes Go.ChangeAt Go.RowKit
def NetOk (n r : Int) : Prop := 1 ≤ n ∧ n ≤ 16 ∧ 1 ≤ r ∧ r ≤ 20000
theorem NetOk.cfg {n r : Int} (h : NetOk n r) : ∃ c : ECfg, c.Ok ∧ n = (c.n : Int) ∧ r = (c.room : Int) := by
  obtain ⟨h1, h2, h3, h4⟩ := h
  exact ⟨⟨n.toNat, r.toNat⟩, ⟨by show 1 ≤ n.toNat; omega, by show n.toNat ≤ 16; omega, by show 1 ≤ r.toNat; omega, by show r.toNat ≤ 20000; omega⟩, by show n = (n.toNat : Int); omega, by show r = (r.toNat : Int); omega⟩
def PV.new : PV := ⟨0, 0, fun _ => false, fun _ => 1, fun _ => 0, fun _ _ => false, fun _ _ => 0, []⟩
def PV.newAt (k : Nat) : PV := ⟨0, 0, fun _ => false, fun j => if j < k then 1 else 0, fun _ => 0, fun _ _ => false, fun _ _ => 0, []⟩
theorem newAt_succ (k : Nat) : ({ PV.newAt k with inc := updN (PV.newAt k).inc k 1 } : PV) = PV.newAt (k + 1) := by
  have h : updN (PV.newAt k).inc k 1 = (PV.newAt (k + 1)).inc := by
    funext j
    simp only [updN, PV.newAt]
    by_cases h1 : j = k
    · rw [if_pos h1, if_pos (by omega)]
    · rw [if_neg h1]
      by_cases h2 : j < k
      · rw [if_pos h2, if_pos (by omega)]
      · rw [if_neg h2, if_neg (by omega)]
  rw [h]
  rfl
theorem info_peer : (Try.prog.info? 83).map (fun i => (i.zero, i.size, i.bytes)) = some (some (.agg #[.bool false, .int .i64 0, .int .i64 0]), 3, 24) := by kernel_rfl
theorem u_peers : Try.prog.underlying 78 = some (.slice 83) := Try.underlying78
set_option maxRecDepth 100000 in
theorem make_peers (n : Nat) (hn : n ≤ 16) (W : World) : Sem.run Try.prog (Instr.makeSlice 78 (.int .i64 (n : Int)) (.int .i64 (n : Int))) W = .ok (.slice (some ⟨W.heap.size, 0, none⟩) n n) (W.alloc (.cells (rg (n * 3) (peerF (PV.newAt 0))) 83)) := by
  obtain ⟨i0, hi0, hz0, hz1, hz2⟩ := info_parts info_peer
  have hmk := run_make_rowN (P := Try.prog) 78 83 i0 _ u_peers hi0 hz0 .i64 .i64 n n (by omega) (by rw [hz2]; omega) (by omega) W
  rw [hmk, hz1]
  congr 3
  apply Array.ext_getElem?
  intro i
  simp only [madeCells, Value.cells]
  by_cases h : i < n * 3
  · rw [rg_at _ h]
    simp only [Array.getElem?_map, Array.getElem?_range, h, if_true, Option.map_some]
    congr 1
    unfold peerF PV.newAt
    have h3 : i % 3 = 0 ∨ i % 3 = 1 ∨ i % 3 = 2 := by omega
    rcases h3 with e | e | e <;> simp [e]
  · rw [Array.getElem?_eq_none (by simp; omega), Array.getElem?_eq_none (by rw [rg_size]; omega)]
def NewP (w : World) (c : ECfg) (e : Ending) (w' : World) : Prop := ∃ D F, e = .returned (.tuple #[.pointer (some ⟨D, 0, none⟩), .int .i64 0]) ∧ PNx w' F c D PV.new 0 ∧ (∀ k, F k → w.heap.size ≤ k) ∧ Below w.heap.size w w'
set_option maxRecDepth 100000 in
set_option maxHeartbeats 3200000 in
theorem New_yes {w : World} {c : ECfg} (hc : c.Ok) : Calls Try.prog 15 #[.int .i64 (c.n : Int), .int .i64 (c.room : Int)] w (NewP w c) := by
  obtain ⟨h1, h2, h3, h4⟩ := hc
  have hmk := make_peers c.n h2 w
  have hmm := @run_makeMap Try.prog
  have h1I : ¬ (c.n : Int) < 1 := by omega
  have h2I : ¬ (c.n : Int) > 16 := by omega
  have h3I : ¬ (c.room : Int) < 1 := by omega
  have h4I : ¬ (c.room : Int) > 20000 := by omega
  obtain ⟨wa, hwa⟩ : ∃ wa, wa = w.alloc (.cells (rg (c.n * 3) (peerF (PV.newAt 0))) 83) := ⟨_, rfl⟩
  obtain ⟨wb, hwb⟩ : ∃ wb, wb = wa.alloc (.map #[] 0) := ⟨_, rfl⟩
  obtain ⟨wc, hwc⟩ : ∃ wc, wc = wb.alloc (.map #[] 0) := ⟨_, rfl⟩
  obtain ⟨wd, hwd⟩ : ∃ wd, wd = wc.alloc (.cells #[.int .i64 (c.room : Int), .int .i64 0, .int .i64 0, .slice (some ⟨w.heap.size, 0, none⟩) c.n c.n, .map (some (w.heap.size + 1)), .map (some (w.heap.size + 1 + 1)), .slice none 0 0] 81) := ⟨_, rfl⟩
  have sa : wa.heap.size = w.heap.size + 1 := by rw [hwa]; simp
  have sb : wb.heap.size = w.heap.size + 1 + 1 := by rw [hwb]; simp [sa]
  have sc : wc.heap.size = w.heap.size + 1 + 1 + 1 := by rw [hwc]; simp [sb]
  have sd : wd.heap.size = w.heap.size + 1 + 1 + 1 + 1 := by rw [hwd]; simp [sc]
  have ba : Below w.heap.size w wa := by rw [hwa]; exact one_box' _ _
  have bb : Below wa.heap.size wa wb := by rw [hwb]; exact one_box' _ _
  have bc : Below wb.heap.size wb wc := by rw [hwc]; exact one_box' _ _
  have bd : Below wc.heap.size wc wd := by rw [hwd]; exact one_box' _ _
  have hbd : Below w.heap.size w wd := ((ba.trans (bb.mono (by omega))).trans (bc.mono (by omega))).trans (bd.mono (by omega))
  have hP0 : PN wd (fun j => w.heap.size ≤ j ∧ j < w.heap.size + 4) c (w.heap.size + 1 + 1 + 1) (PV.newAt 0) 0 w.heap.size (w.heap.size + 1) (w.heap.size + 1 + 1) (.slice none 0 0) [] := by
    have hpe : Blk wa w.heap.size 83 (rg (c.n * 3) (peerF (PV.newAt 0))) := by rw [hwa]; exact Blk.new _ _ _
    have hm1 : MapZ wb (w.heap.size + 1) (256 + 0) (fun _ _ => 0) := by rw [hwb, ← sa]; exact (MapZ.made wa).mono (Nat.zero_le _)
    have hm2 : MapZ wc (w.heap.size + 1 + 1) (256 + 0) (fun _ _ => 0) := by rw [hwc, ← sb]; exact (MapZ.made wb).mono (Nat.zero_le _)
    have hD : Blk wd (w.heap.size + 1 + 1 + 1) 81 #[.int .i64 (c.room : Int), .int .i64 0, .int .i64 0, .slice (some ⟨w.heap.size, 0, none⟩) c.n c.n, .map (some (w.heap.size + 1)), .map (some (w.heap.size + 1 + 1)), .slice none 0 0] := by rw [hwd, ← sc]; exact Blk.new _ _ _
    refine ⟨hD, ((hpe.over bb).over bc).over bd, ?_, ?_, rfl, ⟨rfl, .inl ⟨rfl, rfl⟩⟩, fun x hx => absurd hx (by simp), by simp, by omega, by omega, by omega, by omega, by omega, fun g h => by simp [Value.ownBlock] at h, fun x hx => absurd hx (by simp)⟩
    · refine ((hm1.chg (Chg.of_below bc (fun _ => False)) fun h => h).chg (Chg.of_below bd (fun _ => False)) fun h => h).congr fun a b _ _ => ?_
      simp [PV.newAt]
    · exact (hm2.chg (Chg.of_below bd (fun _ => False)) fun h => h).congr fun a b _ _ => rfl
  have HWA := Lib.hid hwa
  have HWB := Lib.hid hwb
  have HWC := Lib.hid hwc
  have HWD := Lib.hid hwd
  have HST : Hid (PN wd (fun j => w.heap.size ≤ j ∧ j < w.heap.size + 4) c (w.heap.size + 1 + 1 + 1) (PV.newAt 0) 0 w.heap.size (w.heap.size + 1) (w.heap.size + 1 + 1) (.slice none 0 0) [] ∧ Below w.heap.size w wd ∧ wd.heap.size = w.heap.size + 4) := Lib.hid ⟨hP0, hbd, by omega⟩
  have c3 : wd.cell? ⟨w.heap.size + 1 + 1 + 1, 3, none⟩ = some (.slice (some ⟨w.heap.size, 0, none⟩) c.n c.n) := hP0.blk.cell 3
  clear hwa hwb hwc hwd sa sb sc sd ba bb bc bd hbd hP0
  go_enter Try.func15, Try.ntmps15
  go_upto_region 4 with fail
  rw [← HWA.out, ← HWB.out, ← HWC.out, ← HWD.out]
  clear hmk hmm
  go_wp2_with fail
  go_loopw [7, 34] (fun _ i wr => ∃ k : Nat, k ≤ c.n ∧ i = .int .i64 (k : Int) ∧ Hid (PN wr (fun j => w.heap.size ≤ j ∧ j < w.heap.size + 4) c (w.heap.size + 1 + 1 + 1) (PV.newAt k) 0 w.heap.size (w.heap.size + 1) (w.heap.size + 1 + 1) (.slice none 0 0) [] ∧ Below w.heap.size w wr ∧ wr.heap.size = w.heap.size + 4)) (fun _ i _ => c.n - (intOf i).toNat)
  case atStart => exact ⟨0, by omega, rfl, HST⟩
  case round =>
    clear HST c3
    obtain ⟨k, hk, rfl, HT⟩ := hrel
    have c3 : wr.cell? ⟨w.heap.size + 1 + 1 + 1, 3, none⟩ = some (.slice (some ⟨w.heap.size, 0, none⟩) c.n c.n) := HT.out.1.blk.cell 3
    by_cases hlt : k < c.n
    · have hI : (k : Int) < (c.n : Int) := by omega
      obtain ⟨n0, n1, n2⟩ := HT.out.1.peer hlt
      have hfr : wr.frozen? ⟨w.heap.size, k * 3 + 1, none⟩ = false := HT.out.1.peers.frozen _
      have hnx : ({ PV.newAt k with inc := updN (PV.newAt k).inc k 1 } : PV) = PV.newAt (k + 1) := by
        exact newAt_succ k
      have HN : Hid (PN (wr.setCell ⟨w.heap.size, k * 3 + 1, none⟩ (.int .i64 1)) (fun j => w.heap.size ≤ j ∧ j < w.heap.size + 4) c (w.heap.size + 1 + 1 + 1) (PV.newAt (k + 1)) 0 w.heap.size (w.heap.size + 1) (w.heap.size + 1 + 1) (.slice none 0 0) [] ∧ Below w.heap.size w (wr.setCell ⟨w.heap.size, k * 3 + 1, none⟩ (.int .i64 1)) ∧ (wr.setCell ⟨w.heap.size, k * 3 + 1, none⟩ (.int .i64 1)).heap.size = w.heap.size + 4) := Lib.hid ⟨HT.out.1.setP (by rw [← hnx]; exact peer_set1 _ k 1 _) rfl rfl rfl rfl, HT.out.2.1.setCell (Nat.le_refl _) _, by rw [← HT.out.2.2]; simp [World.setCell]⟩
      clear hnx
      go_wp2
      go_roundw
      case rel => exact ⟨k + 1, by omega, by go_num, HN⟩
      case measure => simp [intOf] <;> omega
    · obtain rfl : k = c.n := by omega
      have HE : Hid (NewP w c (.returned (.tuple #[.pointer (some ⟨w.heap.size + 1 + 1 + 1, 0, none⟩), .int .i64 0])) wr) := by
        obtain ⟨h5, h6, h7⟩ := HT.out
        refine Lib.hid ⟨_, _, rfl, ⟨fun j hj => by omega, _, _, _, _, _, ⟨h5.blk, ?_, h5.shut, h5.slow, h5.way, h5.row, h5.bytes, h5.nodup, h5.ne, h5.fd, h5.fp, h5.fs, h5.fl, h5.fv, h5.fx⟩⟩, fun j hj => hj.1, h6⟩
        have e : rg (c.n * 3) (peerF (PV.newAt c.n)) = rg (c.n * 3) (peerF PV.new) := rg_congr fun j hj => by
          have hlt' : j / 3 < c.n := by omega
          simp only [peerF, PV.newAt, PV.new, hlt', if_true]
        rw [← e]
        exact h5.peers
      go_wp2
      go_ret2
      exact HE.out
set_option maxRecDepth 100000 in
theorem New_no {w : World} (n r : Int) (hno : ¬ NetOk n r) : Calls Try.prog 15 #[.int .i64 n, .int .i64 r] w fun e w' => e = .returned (.tuple #[.pointer none, .int .i64 1]) ∧ w = w' := by
  by_cases h1 : n < 1
  · go_enter Try.func15, Try.ntmps15
    go_wp2
    go_ret2
    exact ⟨rfl, rfl⟩
  · by_cases h2 : n > 16
    · go_enter Try.func15, Try.ntmps15
      go_wp2
      go_ret2
      exact ⟨rfl, rfl⟩
    · by_cases h3 : r < 1
      · go_enter Try.func15, Try.ntmps15
        go_wp2
        go_ret2
        exact ⟨rfl, rfl⟩
      · have h4 : r > 20000 := by unfold NetOk at hno; omega
        clear hno
        go_enter Try.func15, Try.ntmps15
        go_wp2
        go_ret2
        exact ⟨rfl, rfl⟩
end Go.Proofs.Ytgfhmfhhobhojaa
