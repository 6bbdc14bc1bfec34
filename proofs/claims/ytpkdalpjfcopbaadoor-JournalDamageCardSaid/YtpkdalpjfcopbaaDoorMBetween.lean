/-
  JournalBetween: the law, walked.
-/
import Derived.Test.YtpkdalpjfcopbaaDoorMDeskP
import Derived.Test.YtpkdalpjfcopbaaDoorMOps
import Derived.Lib.SlBytesConst
namespace Go.Proofs.YtpkdalpjfcopbaaDoor
open Go.RowKit
/-- A desk behind the law's beginning, its generation bounded. -/
def BDesk (w : World) (tg m : Nat) (wr : World) : Prop := ∃ jg j f, Desk wr tg jg j f ∧ w.heap.size ≤ tg ∧ w.heap.size ≤ jg ∧ j.gen ≤ m ∧ Below w.heap.size w wr
theorem BDesk.below {w wr : World} {tg m : Nat} (h : BDesk w tg m wr) : Below w.heap.size w wr := by
  obtain ⟨_, _, _, _, _, _, _, h⟩ := h
  exact h
theorem BDesk.over {w wr w' : World} {tg m : Nat} (h : BDesk w tg m wr) (hb : Below wr.heap.size wr w') : BDesk w tg m w' := by
  obtain ⟨jg, j, f, hd, h1, h2, h3, h4⟩ := h
  obtain ⟨A0, c0, A1, c1, vb, K, hd, hk, hg⟩ := hd
  exact ⟨jg, j, f, ⟨A0, c0, A1, c1, vb, K, hd.over hb, hk, hg⟩, h1, h2, h3, h4.trans (hb.mono h4.size)⟩
theorem BDesk.plays {w wr : World} {tg m : Nat} (h : BDesk w tg m wr) (kd on kn ln rk : Int) (A : Option Addr) (n cap : Nat) (body : List UInt8) (hr : RdB wr w.heap.size A n body) (hnc : n ≤ cap) (hcap : cap ≤ 140737488351232) (hkn : kn ≤ 9223372036854775807) (hm : m ≤ 1125899906842000) (ht : Nibs w) :
    Calls Tryd.prog 31 #[.pointer (some ⟨tg, 0, none⟩), .agg #[.int .i64 kd, .int .i64 on, .int .i64 kn, .int .i64 ln, .int .i64 rk, .slice A n cap]] wr fun e w' => e = .returned (.bool true) ∧ BDesk w tg (m + 2) w' := by
  obtain ⟨jg, j, f, hd, h1, h2, h3, hb⟩ := h
  refine (dplays_any kd on kn ln rk A n cap body hd (by omega) (hr.more hb.size) (fun h0 b o s e => by have := rd_lt hr h0 e; omega) (by omega) hkn (ht.below hb)).mono fun e w' ⟨he, jg', j', f', hd', hg', hj', hc, _, _⟩ => ⟨he, jg', j', f', hd', h1, ?_, by omega, hb.trans (hc.to_below hb.size fun k e => e.elim (fun e => e ▸ h1) fun e => e ▸ h2)⟩
  have := hb.size
  rcases hj' with h | h <;> omega
theorem Desk.over {w w' : World} {tg jg : Nat} {j : JP} {f : Fls} (h : Desk w tg jg j f) (hb : Below w.heap.size w w') : Desk w' tg jg j f := by
  obtain ⟨A0, c0, A1, c1, vb, K, hd, hk, hg⟩ := h
  exact ⟨A0, c0, A1, c1, vb, K, hd.over hb, hk, hg⟩
theorem Desk.lt {w : World} {tg jg : Nat} {j : JP} {f : Fls} (h : Desk w tg jg j f) : tg < w.heap.size ∧ jg < w.heap.size := by
  obtain ⟨A0, c0, A1, c1, vb, K, hd, hk, hg⟩ := h
  exact ⟨hd.blk.lt, hd.pj.lt⟩
/-- What reads finds at a desk. -/
theorem Desk.reads {w : World} {tg jg : Nat} {j : JP} {f : Fls} (h : Desk w tg jg j f) (ht : Nibs w) : ∃ A0 c0 A1 c1 Ab cb, Blk w tg 63 #[.pointer (some ⟨jg, 0, none⟩), .slice A0 f.a.length c0, .slice A1 f.b.length c1, .slice Ab j.recs.length cb, .int .i64 (j.file : Int)] ∧
    (∀ W, Below w.heap.size w W → Calls Tryd.prog 32 #[.agg #[.slice A0 f.a.length c0, .slice A1 f.b.length c1], .slice Ab j.recs.length cb] W fun e w' => e = .returned (.bool true) ∧ Below W.heap.size W w') := by
  obtain ⟨A0, c0, A1, c1, vb, K, hd, hk, hg⟩ := h
  obtain ⟨Ab, cb, rfl, _, _⟩ := hd.bk.shape hk
  refine ⟨A0, c0, A1, c1, Ab, cb, hd.blk, fun W hW => ?_⟩
  obtain ⟨l0, l1, m0, m1⟩ := hd.lens
  simp only [maxLen] at m0 m1
  have hd2 := hd.over hW
  exact reads_any (Rd.of_own hd2.o0) (Rd.of_own hd2.o1) l0 l1 m0 m1 ((hd2.bk.rdN hk).mono fun _ _ h => h.elim) (Desk.of_good hg) (ht.below hW)
set_option maxRecDepth 100000 in
set_option maxHeartbeats 3200000 in
theorem Between_go (Av : Option Addr) (n cap : Nat) (w : World) (hn : n ≤ 140737488351232) (ho : Ops w w.heap.size Av n) (ht : Nibs w) :
    Calls Tryd.prog 6 #[.slice Av n cap] w fun e w' => e = .returned (.bool true) ∧ Below w.heap.size w w' := by
  have HO := Lib.hid ho
  have HT := Lib.hid ht
  have HFR := Lib.hid (fresh_any ht)
  clear ho ht
  go_enter Tryd.func6, Tryd.ntmps6
  go_upto_region 4 with (go_at_call 30; refine HFR.out.mono ?_; rintro _ w1 ⟨tg, jg, f, rfl, hd1, ht1, hj1, hb1⟩; have H1 := Lib.hid (And.intro hd1 (And.intro ht1 (And.intro hj1 hb1))); clear hd1 ht1 hj1 hb1)
  have kc := fun (w : World) (C : Array Value) (n c : Nat) => Lib.run_convert_bytes_const (P := Tryd.prog) w 22 5 C n c Tryd.underlying22 Tryd.underlying5
  obtain ⟨w2, hw2⟩ : ∃ w2, w2 = w1.alloc (.cells #[.int .u8 97, .int .u8 98] 5 (2, 3)) := ⟨_, rfl⟩
  obtain ⟨w3, hw3⟩ : ∃ w3, w3 = w2.alloc (.cells #[.int .i64 1, .int .i64 0, .int .i64 0, .int .i64 0, .int .i64 2, .slice (some ⟨w1.heap.size, 0, none⟩) 2 2] 57) := ⟨_, rfl⟩
  have hb2 : Below w1.heap.size w1 w2 := by rw [hw2]; exact one_box' _ _
  have hb3 : Below w2.heap.size w2 w3 := by rw [hw3]; exact one_box' _ _
  have hs2 : w2.heap.size = w1.heap.size + 1 := by rw [hw2]; simp
  have hr2 : RdB w2 w2.heap.size (some ⟨w1.heap.size, 0, none⟩) 2 [97, 98] := by
    refine ⟨by simp [bvs], fun _ => ⟨w1.heap.size, 0, rfl, by omega, fun i u hu => ?_⟩⟩
    rw [hw2, Nat.zero_add]
    refine (World.cell?_alloc_mark w1 _ _ _ i).trans ?_
    rw [← Array.getElem?_toList]
    exact hu
  have hX3 : Blk w3 (w1.heap.size + 1) 57 #[.int .i64 1, .int .i64 0, .int .i64 0, .int .i64 0, .int .i64 2, .slice (some ⟨w1.heap.size, 0, none⟩) 2 2] := by rw [hw3, ← hs2]; exact Blk.new _ _ _
  obtain ⟨wd, hwd⟩ : ∃ wd, wd = w3.drew := ⟨_, rfl⟩
  have hbd : Below w3.heap.size w3 wd := by rw [hwd]; exact below_drewN (Below.refl _ _) 1
  have hbD : Below w1.heap.size w1 wd := Below.then (Below.then hb2 hb3) hbd
  have HXD := Lib.hid (hX3.over hbd)
  have HRD := Lib.hid ((hr2.over hb3).over hbd)
  have HBD := Lib.hid hbD
  have HDD : Hid (Desk wd tg jg newJ f) := Lib.hid (H1.out.1.over hbD)
  have HW := Lib.hid (And.intro hw2 (And.intro hw3 hs2))
  have HWD := Lib.hid hwd
  have HTD : Hid (Nibs wd) := Lib.hid (HT.out.below (Below.then H1.out.2.2.2 hbD))
  have HLT : Hid (tg < w1.heap.size ∧ jg < w1.heap.size) := Lib.hid H1.out.1.lt
  clear hw2 hw3 hb2 hb3 hs2 hr2 hX3 hwd hbd hbD
  go_upto_region 5 with fail
  rw [← HW.out.1, ← HW.out.2.1]
  go_cut [36] from 6 to 62 (fun d wc => d = .bool false ∧ Hid (BDesk w tg 3 wc))
  case first =>
    refine wp_region_held_drew (S := fun W => W.cell? ⟨w1.heap.size + 1, 0, none⟩ = some (.int .i64 1) ∧ W.cell? ⟨w1.heap.size + 1, 1, none⟩ = some (.int .i64 0) ∧ W.cell? ⟨w1.heap.size + 1, 2, none⟩ = some (.int .i64 0) ∧ W.cell? ⟨w1.heap.size + 1, 3, none⟩ = some (.int .i64 0) ∧ W.cell? ⟨w1.heap.size + 1, 4, none⟩ = some (.int .i64 2) ∧ W.cell? ⟨w1.heap.size + 1, 5, none⟩ = some (.slice (some ⟨w1.heap.size, 0, none⟩) 2 2)) (by kernel_rfl) (by rw [← HWD.out]; exact ⟨HXD.out.cell 0, HXD.out.cell 1, HXD.out.cell 2, HXD.out.cell 3, HXD.out.cell 4, HXD.out.cell 5⟩) (fun hsw => ?_)
    rw [← HWD.out] at hsw ⊢
    refine wpAnyH_take (i := 0) (oi := ?oi0a) (v := ?v0a) ?hi0a (by kernel_rfl) (by kernel_rfl) (by kernel_rfl) ?hq0a ?hy0a (by assumption) ?rest0a
    case hi0a => (simp only [List.getElem?_toArray, List.getElem?_cons_zero]; rfl)
    case hy0a => (refine Or.inl ⟨by rfl, ?_⟩; intro w hSw; (try dsimp only at hSw); go_simp; try with_reducible rfl)
    case hq0a => exact fun _ _ _ h => h
    try simp only [Act.put, List.setIfInBounds_toArray, List.set_cons_zero, List.set_cons_succ]
    refine wpAnyH_take (i := 1) (oi := ?oi1a) (v := ?v1a) ?hi1a (by kernel_rfl) (by kernel_rfl) (by kernel_rfl) ?hq1a ?hy1a (by assumption) ?rest1a
    case hi1a => (simp only [List.getElem?_toArray, List.getElem?_cons_zero, List.getElem?_cons_succ]; rfl)
    case hy1a => (refine Or.inl ⟨by rfl, ?_⟩; intro w hSw; (try dsimp only at hSw); go_simp; try with_reducible rfl)
    case hq1a => exact fun _ _ _ h => h
    try simp only [Act.put, List.setIfInBounds_toArray, List.set_cons_zero, List.set_cons_succ]
    refine wpAnyH_ready (rs := [2]) (by kernel_rfl) (by simp) ?_
    refine AllReadyH.cons (o := ?o2b) ?ho2b (fun K hK => ?st2b) ?mo2b
    case ho2b => (simp only [List.getElem?_toArray, List.getElem?_cons_zero, List.getElem?_cons_succ]; rfl)
    case mo2b => exact AllReadyH.nil
    have HPL := Lib.hid (dplays_any (w := wd) 1 0 0 0 2 (some ⟨w1.heap.size, 0, none⟩) 2 2 [97, 98] HDD.out (by decide) HRD.out (fun _ b o s e => by injection e with e; injection e with e _; have := HLT.out; omega) (by omega) (by omega) HTD.out)
    go_simp
    refine HPL.out.mono ?_
    rintro _ w5 ⟨rfl, jg5, j5, f5, hd5, hg5, hj5, hc5, hr5, _⟩
    have HR5 : Hid (j5.recs.length = 1) := Lib.hid (by rw [hr5 rfl rfl (by decide)]; rfl)
    have H5 := Lib.hid (And.intro hd5 (And.intro hg5 (And.intro hj5 hc5)))
    clear hd5 hg5 hj5 hc5 hr5 HPL
    have hC5 := H5.out.2.2.2
    have HX5 : Hid (Blk w5 (w1.heap.size + 1) 57 #[.int .i64 1, .int .i64 0, .int .i64 0, .int .i64 0, .int .i64 2, .slice (some ⟨w1.heap.size, 0, none⟩) 2 2]) := Lib.hid (HXD.out.chg hC5 fun e => by have := HLT.out; omega)
    have hsz : w.heap.size ≤ wd.heap.size := Nat.le_trans H1.out.2.2.2.size HBD.out.size
    have HB5 : Hid (Below w.heap.size w w5) := Lib.hid ((Below.then H1.out.2.2.2 HBD.out).trans (hC5.to_below hsz fun k e => e.elim (fun e => e ▸ H1.out.2.1) fun e => e ▸ H1.out.2.2.1))
    obtain ⟨A0, c0, A1, c1, Ab, cb, hB, hRds⟩ := H5.out.1.reads (HT.out.below HB5.out)
    rw [HR5.out] at hB hRds
    have HRDS := Lib.hid hRds
    have p1 : w5.cell? ⟨tg, 1, none⟩ = some (.slice A0 f5.a.length c0) := hB.cell 1
    have p2 : w5.cell? ⟨tg, 2, none⟩ = some (.slice A1 f5.b.length c1) := hB.cell 2
    have p3 : w5.cell? ⟨tg, 3, none⟩ = some (.slice Ab 1 cb) := hB.cell 3
    have HBD5 : Hid (BDesk w tg 3 w5) := Lib.hid ⟨jg5, j5, f5, H5.out.1, H1.out.2.1, by have := H1.out.2.2.1; rcases H5.out.2.2.1 with h | h <;> omega, by have h := H5.out.2.1; have h2 : newJ.gen = 1 := rfl; omega, HB5.out⟩
    go_simp
    refine hK.out _ _ ⟨HX5.out.cell 0, HX5.out.cell 1, HX5.out.cell 2, HX5.out.cell 3, HX5.out.cell 4, HX5.out.cell 5⟩ (fun _ => ?_)
    replace hsw : w5.cell? ⟨w1.heap.size + 1, 0, none⟩ = some (.int .i64 1) ∧ w5.cell? ⟨w1.heap.size + 1, 1, none⟩ = some (.int .i64 0) ∧ w5.cell? ⟨w1.heap.size + 1, 2, none⟩ = some (.int .i64 0) ∧ w5.cell? ⟨w1.heap.size + 1, 3, none⟩ = some (.int .i64 0) ∧ w5.cell? ⟨w1.heap.size + 1, 4, none⟩ = some (.int .i64 2) ∧ w5.cell? ⟨w1.heap.size + 1, 5, none⟩ = some (.slice (some ⟨w1.heap.size, 0, none⟩) 2 2) := ⟨HX5.out.cell 0, HX5.out.cell 1, HX5.out.cell 2, HX5.out.cell 3, HX5.out.cell 4, HX5.out.cell 5⟩
    clear hK K hC5 hsz hB hRds
    try simp only [Act.put, List.setIfInBounds_toArray, List.set_cons_zero, List.set_cons_succ]
    refine wpAnyH_take (i := 3) (oi := ?oi3c) (v := ?v3c) ?hi3c (by kernel_rfl) (by kernel_rfl) (by kernel_rfl) ?hq3c ?hy3c (by assumption) ?rest3c
    case hi3c => (simp only [List.getElem?_toArray, List.getElem?_cons_zero, List.getElem?_cons_succ]; rfl)
    case hy3c => (refine Or.inl ⟨by rfl, ?_⟩; intro w hSw; (try dsimp only at hSw); go_simp; try with_reducible rfl)
    case hq3c => exact fun _ _ _ h => h
    try simp only [Act.put, List.setIfInBounds_toArray, List.set_cons_zero, List.set_cons_succ]
    refine wpAnyH_take (i := 4) (oi := ?oi4c) (v := ?v4c) ?hi4c (by kernel_rfl) (by kernel_rfl) (by kernel_rfl) ?hq4c ?hy4c (by assumption) ?rest4c
    case hi4c => (simp only [List.getElem?_toArray, List.getElem?_cons_zero, List.getElem?_cons_succ]; rfl)
    case hy4c => (refine Or.inl ⟨by rfl, ?_⟩; intro w hSw; (try dsimp only at hSw); go_simp; try with_reducible rfl)
    case hq4c => exact fun _ _ _ h => h
    try simp only [Act.put, List.setIfInBounds_toArray, List.set_cons_zero, List.set_cons_succ]
    refine wpAnyH_take (i := 5) (oi := ?oi5c) (v := ?v5c) ?hi5c (by kernel_rfl) (by kernel_rfl) (by kernel_rfl) ?hq5c ?hy5c (by assumption) ?rest5c
    case hi5c => (simp only [List.getElem?_toArray, List.getElem?_cons_zero, List.getElem?_cons_succ]; rfl)
    case hy5c => (refine Or.inl ⟨by rfl, ?_⟩; intro w hSw; (try dsimp only at hSw); go_simp; try with_reducible rfl)
    case hq5c => exact fun _ _ _ h => h
    try simp only [Act.put, List.setIfInBounds_toArray, List.set_cons_zero, List.set_cons_succ]
    refine wpAnyH_take (i := 6) (oi := ?oi6c) (v := ?v6c) ?hi6c (by kernel_rfl) (by kernel_rfl) (by kernel_rfl) ?hq6c ?hy6c (by assumption) ?rest6c
    case hi6c => (simp only [List.getElem?_toArray, List.getElem?_cons_zero, List.getElem?_cons_succ]; rfl)
    case hy6c => (refine Or.inl ⟨by rfl, ?_⟩; intro w hSw; (try dsimp only at hSw); go_simp; try with_reducible rfl)
    case hq6c => exact fun _ _ _ h => h
    try simp only [Act.put, List.setIfInBounds_toArray, List.set_cons_zero, List.set_cons_succ]
    refine wpAnyH_take (i := 7) (oi := ?oi7c) (v := ?v7c) ?hi7c (by kernel_rfl) (by kernel_rfl) (by kernel_rfl) ?hq7c ?hy7c (by assumption) ?rest7c
    case hi7c => (simp only [List.getElem?_toArray, List.getElem?_cons_zero, List.getElem?_cons_succ]; rfl)
    case hy7c => (refine Or.inl ⟨by rfl, ?_⟩; intro w hSw; (try dsimp only at hSw); go_simp; try with_reducible rfl)
    case hq7c => exact fun _ _ _ h => h
    try simp only [Act.put, List.setIfInBounds_toArray, List.set_cons_zero, List.set_cons_succ]
    refine wpAnyH_ready (rs := [8]) (by kernel_rfl) (by simp) ?_
    refine AllReadyH.cons (o := ?o8d) ?ho8d (fun K hK => ?st8d) ?mo8d
    case ho8d => (simp only [List.getElem?_toArray, List.getElem?_cons_zero, List.getElem?_cons_succ]; rfl)
    case mo8d => exact AllReadyH.nil
    go_simp
    refine hK.out _ _ hsw (fun _ => ?_)
    clear hK K
    try simp only [Act.put, List.setIfInBounds_toArray, List.set_cons_zero, List.set_cons_succ]
    refine wpAnyH_take (i := 9) (oi := ?oi9e) (v := ?v9e) ?hi9e (by kernel_rfl) (by kernel_rfl) (by kernel_rfl) ?hq9e ?hy9e (by assumption) ?rest9e
    case hi9e => (simp only [List.getElem?_toArray, List.getElem?_cons_zero, List.getElem?_cons_succ]; rfl)
    case hy9e => (refine Or.inl ⟨by rfl, ?_⟩; intro w hSw; (try dsimp only at hSw); go_simp; try with_reducible rfl)
    case hq9e => exact fun _ _ _ h => h
    try simp only [Act.put, List.setIfInBounds_toArray, List.set_cons_zero, List.set_cons_succ]
    refine wpAnyH_take (i := 10) (oi := ?oi10e) (v := ?v10e) ?hi10e (by kernel_rfl) (by kernel_rfl) (by kernel_rfl) ?hq10e ?hy10e (by assumption) ?rest10e
    case hi10e => (simp only [List.getElem?_toArray, List.getElem?_cons_zero, List.getElem?_cons_succ]; rfl)
    case hy10e => (refine Or.inl ⟨by rfl, ?_⟩; intro w hSw; (try dsimp only at hSw); go_simp; try with_reducible rfl)
    case hq10e => exact fun _ _ _ h => h
    try simp only [Act.put, List.setIfInBounds_toArray, List.set_cons_zero, List.set_cons_succ]
    refine wpAnyH_take (i := 11) (oi := ?oi11e) (v := ?v11e) ?hi11e (by kernel_rfl) (by kernel_rfl) (by kernel_rfl) ?hq11e ?hy11e (by assumption) ?rest11e
    case hi11e => (simp only [List.getElem?_toArray, List.getElem?_cons_zero, List.getElem?_cons_succ]; rfl)
    case hy11e => (refine Or.inl ⟨by rfl, ?_⟩; intro w hSw; (try dsimp only at hSw); go_simp; try with_reducible rfl)
    case hq11e => exact fun _ _ _ h => h
    try simp only [Act.put, List.setIfInBounds_toArray, List.set_cons_zero, List.set_cons_succ]
    refine wpAnyH_take (i := 12) (oi := ?oi12e) (v := ?v12e) ?hi12e (by kernel_rfl) (by kernel_rfl) (by kernel_rfl) ?hq12e ?hy12e (by assumption) ?rest12e
    case hi12e => (simp only [List.getElem?_toArray, List.getElem?_cons_zero, List.getElem?_cons_succ]; rfl)
    case hy12e => (refine Or.inl ⟨by rfl, ?_⟩; intro w hSw; (try dsimp only at hSw); go_simp; try with_reducible rfl)
    case hq12e => exact fun _ _ _ h => h
    try simp only [Act.put, List.setIfInBounds_toArray, List.set_cons_zero, List.set_cons_succ]
    refine wpAnyH_take (i := 13) (oi := ?oi13e) (v := ?v13e) ?hi13e (by kernel_rfl) (by kernel_rfl) (by kernel_rfl) ?hq13e ?hy13e (by assumption) ?rest13e
    case hi13e => (simp only [List.getElem?_toArray, List.getElem?_cons_zero, List.getElem?_cons_succ]; rfl)
    case hy13e => (refine Or.inl ⟨by rfl, ?_⟩; intro w hSw; (try dsimp only at hSw); go_simp; try with_reducible rfl)
    case hq13e => exact fun _ _ _ h => h
    try simp only [Act.put, List.setIfInBounds_toArray, List.set_cons_zero, List.set_cons_succ]
    refine wpAnyH_take (i := 14) (oi := ?oi14e) (v := ?v14e) ?hi14e (by kernel_rfl) (by kernel_rfl) (by kernel_rfl) ?hq14e ?hy14e (by assumption) ?rest14e
    case hi14e => (simp only [List.getElem?_toArray, List.getElem?_cons_zero, List.getElem?_cons_succ]; rfl)
    case hy14e => (refine Or.inl ⟨by rfl, ?_⟩; intro w hSw; (try dsimp only at hSw); go_simp; try with_reducible rfl)
    case hq14e => exact fun _ _ _ h => h
    try simp only [Act.put, List.setIfInBounds_toArray, List.set_cons_zero, List.set_cons_succ]
    refine wpAnyH_take (i := 15) (oi := ?oi15e) (v := ?v15e) ?hi15e (by kernel_rfl) (by kernel_rfl) (by kernel_rfl) ?hq15e ?hy15e (by assumption) ?rest15e
    case hi15e => (simp only [List.getElem?_toArray, List.getElem?_cons_zero, List.getElem?_cons_succ]; rfl)
    case hy15e => (refine Or.inl ⟨by rfl, ?_⟩; intro w hSw; (try dsimp only at hSw); go_simp; try with_reducible rfl)
    case hq15e => exact fun _ _ _ h => h
    try simp only [Act.put, List.setIfInBounds_toArray, List.set_cons_zero, List.set_cons_succ]
    refine wpAnyH_take (i := 17) (oi := ?oi17e) (v := ?v17e) ?hi17e (by kernel_rfl) (by kernel_rfl) (by kernel_rfl) ?hq17e ?hy17e (by assumption) ?rest17e
    case hi17e => (simp only [List.getElem?_toArray, List.getElem?_cons_zero, List.getElem?_cons_succ]; rfl)
    case hy17e => (refine Or.inl ⟨by rfl, ?_⟩; intro w hSw; (try dsimp only at hSw); go_simp; try with_reducible rfl)
    case hq17e => exact fun _ _ _ h => h
    try simp only [Act.put, List.setIfInBounds_toArray, List.set_cons_zero, List.set_cons_succ]
    refine wpAnyH_take (i := 18) (oi := ?oi18e) (v := ?v18e) ?hi18e (by kernel_rfl) (by kernel_rfl) (by kernel_rfl) ?hq18e ?hy18e (by assumption) ?rest18e
    case hi18e => (simp only [List.getElem?_toArray, List.getElem?_cons_zero, List.getElem?_cons_succ]; rfl)
    case hy18e => (refine Or.inl ⟨by rfl, ?_⟩; intro w hSw; (try dsimp only at hSw); go_simp; try with_reducible rfl)
    case hq18e => exact fun _ _ _ h => h
    try simp only [Act.put, List.setIfInBounds_toArray, List.set_cons_zero, List.set_cons_succ]
    refine wpAnyH_take (i := 19) (oi := ?oi19e) (v := ?v19e) ?hi19e (by kernel_rfl) (by kernel_rfl) (by kernel_rfl) ?hq19e ?hy19e (by assumption) ?rest19e
    case hi19e => (simp only [List.getElem?_toArray, List.getElem?_cons_zero, List.getElem?_cons_succ]; rfl)
    case hy19e => (refine Or.inl ⟨by rfl, ?_⟩; intro w hSw; (try dsimp only at hSw); go_simp; try with_reducible rfl)
    case hq19e => exact fun _ _ _ h => h
    try simp only [Act.put, List.setIfInBounds_toArray, List.set_cons_zero, List.set_cons_succ]
    refine wpAnyH_ready (rs := [16, 20]) (by kernel_rfl) (by simp) ?_
    refine AllReadyH.cons (o := ?o16f) ?ho16f (fun K hK => ?st16f) ?mo16f
    case ho16f => (simp only [List.getElem?_toArray, List.getElem?_cons_zero, List.getElem?_cons_succ]; rfl)
    · skip
      go_simp
      refine hK.out _ _ hsw (fun _ => ?_)
      clear hK K
      try simp only [Act.put, List.setIfInBounds_toArray, List.set_cons_zero, List.set_cons_succ]
      refine wpAnyH_ready (rs := [20]) (by kernel_rfl) (by simp) ?_
      refine AllReadyH.cons (o := ?o20g) ?ho20g (fun K hK => ?st20g) ?mo20g
      case ho20g => (simp only [List.getElem?_toArray, List.getElem?_cons_zero, List.getElem?_cons_succ]; rfl)
      case mo20g => exact AllReadyH.nil
      go_simp
      refine hK.out _ _ hsw (fun _ => ?_)
      clear hK K
      try simp only [Act.put, List.setIfInBounds_toArray, List.set_cons_zero, List.set_cons_succ]
      refine wpAnyH_ready (rs := [21]) (by kernel_rfl) (by simp) ?_
      refine AllReadyH.cons (o := ?o21xg) ?ho21xg (fun K hK => ?st21xg) ?mo21xg
      case ho21xg => (simp only [List.getElem?_toArray, List.getElem?_cons_zero, List.getElem?_cons_succ]; rfl)
      case mo21xg => exact AllReadyH.nil
      have HRE := Lib.hid (HRDS.out w5 (Below.refl _ _))
      go_simp
      refine HRE.out.mono ?_
      rintro _ w6 ⟨rfl, hb6⟩
      have H6 := Lib.hid hb6
      have hX6 := HX5.out.over hb6
      refine hK.out _ _ ⟨hX6.cell 0, hX6.cell 1, hX6.cell 2, hX6.cell 3, hX6.cell 4, hX6.cell 5⟩ (fun _ => ?_)
      clear hK K hb6 hX6
      try simp only [Act.put, List.setIfInBounds_toArray, List.set_cons_zero, List.set_cons_succ]
      refine wpAnyH_take (i := 22) (oi := ?oi22xh) (v := ?v22xh) ?hi22xh (by kernel_rfl) (by kernel_rfl) (by kernel_rfl) ?hq22xh ?hy22xh (by assumption) ?rest22xh
      case hi22xh => (simp only [List.getElem?_toArray, List.getElem?_cons_zero, List.getElem?_cons_succ]; rfl)
      case hy22xh => (refine Or.inl ⟨by rfl, ?_⟩; intro w hSw; (try dsimp only at hSw); go_simp; try with_reducible rfl)
      case hq22xh => exact fun _ _ _ h => h
      try simp only [Act.put, List.setIfInBounds_toArray, List.set_cons_zero, List.set_cons_succ]
      refine wpAnyH_take (i := 23) (oi := ?oi23xh) (v := ?v23xh) ?hi23xh (by kernel_rfl) (by kernel_rfl) (by kernel_rfl) ?hq23xh ?hy23xh (by assumption) ?rest23xh
      case hi23xh => (simp only [List.getElem?_toArray, List.getElem?_cons_zero, List.getElem?_cons_succ]; rfl)
      case hy23xh => (refine Or.inl ⟨by rfl, ?_⟩; intro w hSw; (try dsimp only at hSw); go_simp; try with_reducible rfl)
      case hq23xh => exact fun _ _ _ h => h
      try simp only [Act.put, List.setIfInBounds_toArray, List.set_cons_zero, List.set_cons_succ]
      refine wpAnyH_done (by kernel_rfl) ?_ _
      go_wp2_with fail
      go_meet
      exact ⟨rfl, Lib.hid (HBD5.out.over H6.out)⟩
    refine AllReadyH.cons (o := ?o20k) ?ho20k (fun K hK => ?st20k) ?mo20k
    case ho20k => (simp only [List.getElem?_toArray, List.getElem?_cons_zero, List.getElem?_cons_succ]; rfl)
    · skip
      go_simp
      refine hK.out _ _ hsw (fun _ => ?_)
      clear hK K
      try simp only [Act.put, List.setIfInBounds_toArray, List.set_cons_zero, List.set_cons_succ]
      refine wpAnyH_ready (rs := [16]) (by kernel_rfl) (by simp) ?_
      refine AllReadyH.cons (o := ?o16l) ?ho16l (fun K hK => ?st16l) ?mo16l
      case ho16l => (simp only [List.getElem?_toArray, List.getElem?_cons_zero, List.getElem?_cons_succ]; rfl)
      case mo16l => exact AllReadyH.nil
      go_simp
      refine hK.out _ _ hsw (fun _ => ?_)
      clear hK K
      try simp only [Act.put, List.setIfInBounds_toArray, List.set_cons_zero, List.set_cons_succ]
      refine wpAnyH_ready (rs := [21]) (by kernel_rfl) (by simp) ?_
      refine AllReadyH.cons (o := ?o21yg) ?ho21yg (fun K hK => ?st21yg) ?mo21yg
      case ho21yg => (simp only [List.getElem?_toArray, List.getElem?_cons_zero, List.getElem?_cons_succ]; rfl)
      case mo21yg => exact AllReadyH.nil
      have HRE := Lib.hid (HRDS.out w5 (Below.refl _ _))
      go_simp
      refine HRE.out.mono ?_
      rintro _ w6 ⟨rfl, hb6⟩
      have H6 := Lib.hid hb6
      have hX6 := HX5.out.over hb6
      refine hK.out _ _ ⟨hX6.cell 0, hX6.cell 1, hX6.cell 2, hX6.cell 3, hX6.cell 4, hX6.cell 5⟩ (fun _ => ?_)
      clear hK K hb6 hX6
      try simp only [Act.put, List.setIfInBounds_toArray, List.set_cons_zero, List.set_cons_succ]
      refine wpAnyH_take (i := 22) (oi := ?oi22yh) (v := ?v22yh) ?hi22yh (by kernel_rfl) (by kernel_rfl) (by kernel_rfl) ?hq22yh ?hy22yh (by assumption) ?rest22yh
      case hi22yh => (simp only [List.getElem?_toArray, List.getElem?_cons_zero, List.getElem?_cons_succ]; rfl)
      case hy22yh => (refine Or.inl ⟨by rfl, ?_⟩; intro w hSw; (try dsimp only at hSw); go_simp; try with_reducible rfl)
      case hq22yh => exact fun _ _ _ h => h
      try simp only [Act.put, List.setIfInBounds_toArray, List.set_cons_zero, List.set_cons_succ]
      refine wpAnyH_take (i := 23) (oi := ?oi23yh) (v := ?v23yh) ?hi23yh (by kernel_rfl) (by kernel_rfl) (by kernel_rfl) ?hq23yh ?hy23yh (by assumption) ?rest23yh
      case hi23yh => (simp only [List.getElem?_toArray, List.getElem?_cons_zero, List.getElem?_cons_succ]; rfl)
      case hy23yh => (refine Or.inl ⟨by rfl, ?_⟩; intro w hSw; (try dsimp only at hSw); go_simp; try with_reducible rfl)
      case hq23yh => exact fun _ _ _ h => h
      try simp only [Act.put, List.setIfInBounds_toArray, List.set_cons_zero, List.set_cons_succ]
      refine wpAnyH_done (by kernel_rfl) ?_ _
      go_wp2_with fail
      go_meet
      exact ⟨rfl, Lib.hid (HBD5.out.over H6.out)⟩
    exact AllReadyH.nil
  case rest =>
    obtain ⟨rfl, HBD3⟩ := hcut
    obtain ⟨wp, HWY⟩ : ∃ wp, Hid (wc = wp) := ⟨_, Lib.hid rfl⟩
    rw [HWY.out] at HBD3 ⊢
    clear HWY HWD HXD HRD HDD HTD HLT HW HBD H1
    go_wp2_with fail
    go_loopw [5] (fun i wr => ∃ k : Nat, k ≤ 400 ∧ i = .int .i64 (k : Int) ∧ Hid (BDesk w tg (3 + 2 * k) wr)) (fun i _ => 400 - (intOf i).toNat)
    case atStart => exact ⟨0, by omega, rfl, HBD3⟩
    case round =>
      clear HBD3
      obtain ⟨k, hk, rfl, HTW⟩ := hrel
      have hfin : Hid (∀ W, Below wr.heap.size wr W → Below w.heap.size w W) := Lib.hid fun W hW => HTW.out.below.trans (hW.mono HTW.out.below.size)
      by_cases hlt : k < n
      · have hI : (k : Int) < (n : Int) := by omega
        by_cases h4 : k < 400
        · have hI4 : (k : Int) < 400 := by omega
          obtain ⟨b, off, rfl, hbl, hops⟩ := (HO.out.below HTW.out.below) (by omega)
          obtain ⟨kd, on, kn, ln, rk, Ao, nb, capb, body, hop⟩ := hops k hlt
          have c0 := hop.c0
          have c1 := hop.c1
          have c2 := hop.c2
          have c3 := hop.c3
          have c4 := hop.c4
          have c5 := hop.c5
          have HPL := Lib.hid (HTW.out.plays kd on kn ln rk Ao nb capb body hop.rd hop.le hop.cap hop.bk.2 (by omega) HT.out)
          clear hop hops
          go_wp2_with (go_at_call 31; refine HPL.out.mono ?_; rintro _ w3 ⟨rfl, ht3⟩; have H3 := Lib.hid ht3; clear ht3)
          clear c0 c1 c2 c3 c4 c5
          go_roundw
          case rel => exact ⟨k + 1, by omega, by go_num, Lib.hid (by rw [show 3 + 2 * (k + 1) = 3 + 2 * k + 2 by omega]; exact H3.out)⟩
          case measure => simp [intOf] <;> omega
        · obtain rfl : k = 400 := by omega
          go_upto_region 12 with fail
          obtain ⟨jg, j, f, hd, h1, h2, h3, hbw⟩ := HTW.out
          have hbd : Below wr.heap.size wr wr.drew := below_drewN (Below.refl _ _) 1
          obtain ⟨A0, c0, A1, c1, Ab, cb, hB, hRds⟩ := (hd.over hbd).reads (HT.out.below (Below.then hbw hbd))
          have HBX := Lib.hid hB
          have HRE := Lib.hid (hRds _ (Below.refl _ _))
          have HBW : Hid (Below w.heap.size w wr.drew) := Lib.hid (Below.then hbw hbd)
          clear hd h1 h2 h3 hbw hbd hB hRds
          refine wp_region_held_drew (S := fun W => W.cell? ⟨tg, 1, none⟩ = some (.slice A0 f.a.length c0) ∧ W.cell? ⟨tg, 2, none⟩ = some (.slice A1 f.b.length c1) ∧ W.cell? ⟨tg, 3, none⟩ = some (.slice Ab j.recs.length cb)) (by kernel_rfl) ⟨HBX.out.cell 1, HBX.out.cell 2, HBX.out.cell 3⟩ (fun hsw => ?_)
          refine wpAnyH_take (i := 0) (oi := ?oi0ra) (v := ?v0ra) ?hi0ra (by kernel_rfl) (by kernel_rfl) (by kernel_rfl) ?hq0ra ?hy0ra (by assumption) ?rest0ra
          case hi0ra => (simp only [List.getElem?_toArray, List.getElem?_cons_zero]; rfl)
          case hy0ra => (refine Or.inl ⟨by rfl, ?_⟩; intro w hSw; (try dsimp only at hSw); go_simp; try with_reducible rfl)
          case hq0ra => exact fun _ _ _ h => h
          try simp only [Act.put, List.setIfInBounds_toArray, List.set_cons_zero, List.set_cons_succ]
          refine wpAnyH_take (i := 1) (oi := ?oi1ra) (v := ?v1ra) ?hi1ra (by kernel_rfl) (by kernel_rfl) (by kernel_rfl) ?hq1ra ?hy1ra (by assumption) ?rest1ra
          case hi1ra => (simp only [List.getElem?_toArray, List.getElem?_cons_zero, List.getElem?_cons_succ]; rfl)
          case hy1ra => (refine Or.inl ⟨by rfl, ?_⟩; intro w hSw; (try dsimp only at hSw); go_simp; try with_reducible rfl)
          case hq1ra => exact fun _ _ _ h => h
          try simp only [Act.put, List.setIfInBounds_toArray, List.set_cons_zero, List.set_cons_succ]
          refine wpAnyH_take (i := 2) (oi := ?oi2ra) (v := ?v2ra) ?hi2ra (by kernel_rfl) (by kernel_rfl) (by kernel_rfl) ?hq2ra ?hy2ra (by assumption) ?rest2ra
          case hi2ra => (simp only [List.getElem?_toArray, List.getElem?_cons_zero, List.getElem?_cons_succ]; rfl)
          case hy2ra => (refine Or.inl ⟨by rfl, ?_⟩; intro w hSw; (try dsimp only at hSw); go_simp; try with_reducible rfl)
          case hq2ra => exact fun _ _ _ h => h
          try simp only [Act.put, List.setIfInBounds_toArray, List.set_cons_zero, List.set_cons_succ]
          refine wpAnyH_take (i := 3) (oi := ?oi3ra) (v := ?v3ra) ?hi3ra (by kernel_rfl) (by kernel_rfl) (by kernel_rfl) ?hq3ra ?hy3ra (by assumption) ?rest3ra
          case hi3ra => (simp only [List.getElem?_toArray, List.getElem?_cons_zero, List.getElem?_cons_succ]; rfl)
          case hy3ra => (refine Or.inl ⟨by rfl, ?_⟩; intro w hSw; (try dsimp only at hSw); go_simp; try with_reducible rfl)
          case hq3ra => exact fun _ _ _ h => h
          try simp only [Act.put, List.setIfInBounds_toArray, List.set_cons_zero, List.set_cons_succ]
          refine wpAnyH_take (i := 4) (oi := ?oi4ra) (v := ?v4ra) ?hi4ra (by kernel_rfl) (by kernel_rfl) (by kernel_rfl) ?hq4ra ?hy4ra (by assumption) ?rest4ra
          case hi4ra => (simp only [List.getElem?_toArray, List.getElem?_cons_zero, List.getElem?_cons_succ]; rfl)
          case hy4ra => (refine Or.inl ⟨by rfl, ?_⟩; intro w hSw; (try dsimp only at hSw); go_simp; try with_reducible rfl)
          case hq4ra => exact fun _ _ _ h => h
          try simp only [Act.put, List.setIfInBounds_toArray, List.set_cons_zero, List.set_cons_succ]
          refine wpAnyH_take (i := 5) (oi := ?oi5ra) (v := ?v5ra) ?hi5ra (by kernel_rfl) (by kernel_rfl) (by kernel_rfl) ?hq5ra ?hy5ra (by assumption) ?rest5ra
          case hi5ra => (simp only [List.getElem?_toArray, List.getElem?_cons_zero, List.getElem?_cons_succ]; rfl)
          case hy5ra => (refine Or.inl ⟨by rfl, ?_⟩; intro w hSw; (try dsimp only at hSw); go_simp; try with_reducible rfl)
          case hq5ra => exact fun _ _ _ h => h
          try simp only [Act.put, List.setIfInBounds_toArray, List.set_cons_zero, List.set_cons_succ]
          refine wpAnyH_take (i := 6) (oi := ?oi6ra) (v := ?v6ra) ?hi6ra (by kernel_rfl) (by kernel_rfl) (by kernel_rfl) ?hq6ra ?hy6ra (by assumption) ?rest6ra
          case hi6ra => (simp only [List.getElem?_toArray, List.getElem?_cons_zero, List.getElem?_cons_succ]; rfl)
          case hy6ra => (refine Or.inl ⟨by rfl, ?_⟩; intro w hSw; (try dsimp only at hSw); go_simp; try with_reducible rfl)
          case hq6ra => exact fun _ _ _ h => h
          try simp only [Act.put, List.setIfInBounds_toArray, List.set_cons_zero, List.set_cons_succ]
          refine wpAnyH_take (i := 7) (oi := ?oi7ra) (v := ?v7ra) ?hi7ra (by kernel_rfl) (by kernel_rfl) (by kernel_rfl) ?hq7ra ?hy7ra (by assumption) ?rest7ra
          case hi7ra => (simp only [List.getElem?_toArray, List.getElem?_cons_zero, List.getElem?_cons_succ]; rfl)
          case hy7ra => (refine Or.inl ⟨by rfl, ?_⟩; intro w hSw; (try dsimp only at hSw); go_simp; try with_reducible rfl)
          case hq7ra => exact fun _ _ _ h => h
          try simp only [Act.put, List.setIfInBounds_toArray, List.set_cons_zero, List.set_cons_succ]
          refine wpAnyH_ready (rs := [8]) (by kernel_rfl) (by simp) ?_
          refine AllReadyH.cons (o := ?o8rb) ?ho8rb (fun K hK => ?st8rb) ?mo8rb
          case ho8rb => (simp only [List.getElem?_toArray, List.getElem?_cons_zero, List.getElem?_cons_succ]; rfl)
          case mo8rb => exact AllReadyH.nil
          go_simp
          refine HRE.out.mono ?_
          rintro _ w6 ⟨rfl, hb6⟩
          have H6 := Lib.hid hb6
          have hX6 := HBX.out.over hb6
          refine hK.out _ _ ⟨hX6.cell 1, hX6.cell 2, hX6.cell 3⟩ (fun _ => ?_)
          clear hK K hb6 hX6
          try simp only [Act.put, List.setIfInBounds_toArray, List.set_cons_zero, List.set_cons_succ]
          refine wpAnyH_take (i := 9) (oi := ?oi9rc) (v := ?v9rc) ?hi9rc (by kernel_rfl) (by kernel_rfl) (by kernel_rfl) ?hq9rc ?hy9rc (by assumption) ?rest9rc
          case hi9rc => (simp only [List.getElem?_toArray, List.getElem?_cons_zero, List.getElem?_cons_succ]; rfl)
          case hy9rc => (refine Or.inl ⟨by rfl, ?_⟩; intro w hSw; (try dsimp only at hSw); go_simp; try with_reducible rfl)
          case hq9rc => exact fun _ _ _ h => h
          try simp only [Act.put, List.setIfInBounds_toArray, List.set_cons_zero, List.set_cons_succ]
          refine wpAnyH_done (by kernel_rfl) ?_ _
          go_wp2_with fail
          go_ret
          exact ⟨rfl, HBW.out.trans (H6.out.mono HBW.out.size)⟩
      · have hI : ¬ (k : Int) < (n : Int) := by omega
        have hD : decide ((k : Int) < (n : Int)) = false := by simpa using hI
        clear hI
        go_upto_region 12 with fail
        obtain ⟨jg, j, f, hd, h1, h2, h3, hbw⟩ := HTW.out
        have hbd : Below wr.heap.size wr wr.drew := below_drewN (Below.refl _ _) 1
        obtain ⟨A0, c0, A1, c1, Ab, cb, hB, hRds⟩ := (hd.over hbd).reads (HT.out.below (Below.then hbw hbd))
        have HBX := Lib.hid hB
        have HRE := Lib.hid (hRds _ (Below.refl _ _))
        have HBW : Hid (Below w.heap.size w wr.drew) := Lib.hid (Below.then hbw hbd)
        clear hd h1 h2 h3 hbw hbd hB hRds
        refine wp_region_held_drew (S := fun W => W.cell? ⟨tg, 1, none⟩ = some (.slice A0 f.a.length c0) ∧ W.cell? ⟨tg, 2, none⟩ = some (.slice A1 f.b.length c1) ∧ W.cell? ⟨tg, 3, none⟩ = some (.slice Ab j.recs.length cb)) (by kernel_rfl) ⟨HBX.out.cell 1, HBX.out.cell 2, HBX.out.cell 3⟩ (fun hsw => ?_)
        refine wpAnyH_take (i := 0) (oi := ?oi0sa) (v := ?v0sa) ?hi0sa (by kernel_rfl) (by kernel_rfl) (by kernel_rfl) ?hq0sa ?hy0sa (by assumption) ?rest0sa
        case hi0sa => (simp only [List.getElem?_toArray, List.getElem?_cons_zero]; rfl)
        case hy0sa => (refine Or.inl ⟨by rfl, ?_⟩; intro w hSw; (try dsimp only at hSw); go_simp; try with_reducible rfl)
        case hq0sa => exact fun _ _ _ h => h
        try simp only [Act.put, List.setIfInBounds_toArray, List.set_cons_zero, List.set_cons_succ]
        refine wpAnyH_take (i := 1) (oi := ?oi1sa) (v := ?v1sa) ?hi1sa (by kernel_rfl) (by kernel_rfl) (by kernel_rfl) ?hq1sa ?hy1sa (by assumption) ?rest1sa
        case hi1sa => (simp only [List.getElem?_toArray, List.getElem?_cons_zero, List.getElem?_cons_succ]; rfl)
        case hy1sa => (refine Or.inl ⟨by rfl, ?_⟩; intro w hSw; (try dsimp only at hSw); go_simp; try with_reducible rfl)
        case hq1sa => exact fun _ _ _ h => h
        try simp only [Act.put, List.setIfInBounds_toArray, List.set_cons_zero, List.set_cons_succ]
        refine wpAnyH_take (i := 2) (oi := ?oi2sa) (v := ?v2sa) ?hi2sa (by kernel_rfl) (by kernel_rfl) (by kernel_rfl) ?hq2sa ?hy2sa (by assumption) ?rest2sa
        case hi2sa => (simp only [List.getElem?_toArray, List.getElem?_cons_zero, List.getElem?_cons_succ]; rfl)
        case hy2sa => (refine Or.inl ⟨by rfl, ?_⟩; intro w hSw; (try dsimp only at hSw); go_simp; try with_reducible rfl)
        case hq2sa => exact fun _ _ _ h => h
        try simp only [Act.put, List.setIfInBounds_toArray, List.set_cons_zero, List.set_cons_succ]
        refine wpAnyH_take (i := 3) (oi := ?oi3sa) (v := ?v3sa) ?hi3sa (by kernel_rfl) (by kernel_rfl) (by kernel_rfl) ?hq3sa ?hy3sa (by assumption) ?rest3sa
        case hi3sa => (simp only [List.getElem?_toArray, List.getElem?_cons_zero, List.getElem?_cons_succ]; rfl)
        case hy3sa => (refine Or.inl ⟨by rfl, ?_⟩; intro w hSw; (try dsimp only at hSw); go_simp; try with_reducible rfl)
        case hq3sa => exact fun _ _ _ h => h
        try simp only [Act.put, List.setIfInBounds_toArray, List.set_cons_zero, List.set_cons_succ]
        refine wpAnyH_take (i := 4) (oi := ?oi4sa) (v := ?v4sa) ?hi4sa (by kernel_rfl) (by kernel_rfl) (by kernel_rfl) ?hq4sa ?hy4sa (by assumption) ?rest4sa
        case hi4sa => (simp only [List.getElem?_toArray, List.getElem?_cons_zero, List.getElem?_cons_succ]; rfl)
        case hy4sa => (refine Or.inl ⟨by rfl, ?_⟩; intro w hSw; (try dsimp only at hSw); go_simp; try with_reducible rfl)
        case hq4sa => exact fun _ _ _ h => h
        try simp only [Act.put, List.setIfInBounds_toArray, List.set_cons_zero, List.set_cons_succ]
        refine wpAnyH_take (i := 5) (oi := ?oi5sa) (v := ?v5sa) ?hi5sa (by kernel_rfl) (by kernel_rfl) (by kernel_rfl) ?hq5sa ?hy5sa (by assumption) ?rest5sa
        case hi5sa => (simp only [List.getElem?_toArray, List.getElem?_cons_zero, List.getElem?_cons_succ]; rfl)
        case hy5sa => (refine Or.inl ⟨by rfl, ?_⟩; intro w hSw; (try dsimp only at hSw); go_simp; try with_reducible rfl)
        case hq5sa => exact fun _ _ _ h => h
        try simp only [Act.put, List.setIfInBounds_toArray, List.set_cons_zero, List.set_cons_succ]
        refine wpAnyH_take (i := 6) (oi := ?oi6sa) (v := ?v6sa) ?hi6sa (by kernel_rfl) (by kernel_rfl) (by kernel_rfl) ?hq6sa ?hy6sa (by assumption) ?rest6sa
        case hi6sa => (simp only [List.getElem?_toArray, List.getElem?_cons_zero, List.getElem?_cons_succ]; rfl)
        case hy6sa => (refine Or.inl ⟨by rfl, ?_⟩; intro w hSw; (try dsimp only at hSw); go_simp; try with_reducible rfl)
        case hq6sa => exact fun _ _ _ h => h
        try simp only [Act.put, List.setIfInBounds_toArray, List.set_cons_zero, List.set_cons_succ]
        refine wpAnyH_take (i := 7) (oi := ?oi7sa) (v := ?v7sa) ?hi7sa (by kernel_rfl) (by kernel_rfl) (by kernel_rfl) ?hq7sa ?hy7sa (by assumption) ?rest7sa
        case hi7sa => (simp only [List.getElem?_toArray, List.getElem?_cons_zero, List.getElem?_cons_succ]; rfl)
        case hy7sa => (refine Or.inl ⟨by rfl, ?_⟩; intro w hSw; (try dsimp only at hSw); go_simp; try with_reducible rfl)
        case hq7sa => exact fun _ _ _ h => h
        try simp only [Act.put, List.setIfInBounds_toArray, List.set_cons_zero, List.set_cons_succ]
        refine wpAnyH_ready (rs := [8]) (by kernel_rfl) (by simp) ?_
        refine AllReadyH.cons (o := ?o8sb) ?ho8sb (fun K hK => ?st8sb) ?mo8sb
        case ho8sb => (simp only [List.getElem?_toArray, List.getElem?_cons_zero, List.getElem?_cons_succ]; rfl)
        case mo8sb => exact AllReadyH.nil
        go_simp
        refine HRE.out.mono ?_
        rintro _ w6 ⟨rfl, hb6⟩
        have H6 := Lib.hid hb6
        have hX6 := HBX.out.over hb6
        refine hK.out _ _ ⟨hX6.cell 1, hX6.cell 2, hX6.cell 3⟩ (fun _ => ?_)
        clear hK K hb6 hX6
        try simp only [Act.put, List.setIfInBounds_toArray, List.set_cons_zero, List.set_cons_succ]
        refine wpAnyH_take (i := 9) (oi := ?oi9sc) (v := ?v9sc) ?hi9sc (by kernel_rfl) (by kernel_rfl) (by kernel_rfl) ?hq9sc ?hy9sc (by assumption) ?rest9sc
        case hi9sc => (simp only [List.getElem?_toArray, List.getElem?_cons_zero, List.getElem?_cons_succ]; rfl)
        case hy9sc => (refine Or.inl ⟨by rfl, ?_⟩; intro w hSw; (try dsimp only at hSw); go_simp; try with_reducible rfl)
        case hq9sc => exact fun _ _ _ h => h
        try simp only [Act.put, List.setIfInBounds_toArray, List.set_cons_zero, List.set_cons_succ]
        refine wpAnyH_done (by kernel_rfl) ?_ _
        go_wp2_with fail
        go_ret
        exact ⟨rfl, HBW.out.trans (H6.out.mono HBW.out.size)⟩
theorem JournalBetween_walk (Av : Option Addr) (n cap : Nat) (w : World) (_hn : n ≤ cap) (hn2 : n ≤ 140737488351232) (ho : Ops w w.heap.size Av n) (ht : Nibs w) :
    Calls Tryd.prog 6 #[.slice Av n cap] w fun e w' => e = .returned (.bool true) ∧ Below w.heap.size w w' := Between_go Av n cap w hn2 ho ht
end Go.Proofs.YtpkdalpjfcopbaaDoor
