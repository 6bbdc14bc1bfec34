/-
  JournalDamage: the law, walked.
-/
import Derived.Test.YtpkdalpjfcopbaaDoorMBetween
import Derived.Test.YtpkdalpjfcopbaaDoorMWith
import Derived.Test.YtpkdalpjfcopbaaDoorMHit
import Derived.Deep.CutBlock
namespace Go.Proofs.YtpkdalpjfcopbaaDoor
open Go.RowKit
theorem bvs_setD (l : List UInt8) (k : Nat) (c : UInt8) : bvs (l.set k c) = (bvs l).set k (.int .u8 (c.toNat : Int)) := by simp [bvs, List.map_set]
theorem sub_one (i : Nat) : (i : Int) = ((i + 1 : Nat) : Int) - 1 := by omega
theorem hit_sum {p b q : Nat} (h : q = p + (8 + b)) (hq : q ≤ 65536) : wrap64 (wrap64 (18 + (p : Int) + 8) + (b : Int)) = ((18 + q : Nat) : Int) := by
  unfold wrap64
  omega
theorem succ_sum {i n : Nat} (h : i < n) (hn : n ≤ 65536) : wrap64 ((i : Int) + 1) = ((i + 1 : Nat) : Int) := by
  unfold wrap64
  omega
theorem hit_meas {i n : Nat} (h : i < n) : n - (intOf (.int .i64 ((i + 1 : Nat) : Int))).toNat < n - (intOf (.int .i64 (i : Int))).toNat := by
  simp [intOf]
  omega
theorem RcRd.takeN {w : World} {F : Nat → Prop} {A : Option Addr} {n k : Nat} {rs : List Rc} (h : RcRd w F A n rs) (hk : k ≤ n) : RcRd w F A k (rs.take k) := by
  refine ⟨by have := h.len; rw [List.length_take]; omega, fun i r hr => h.at_ i r ?_⟩
  rw [List.getElem?_take] at hr
  split at hr
  · exact hr
  · cases hr
/-- given, on the desk's disk with other bytes in its present file. -/
theorem given_with {W : World} {tg jg : Nat} {A0 A1 : Option Addr} {c0 c1 : Nat} {vb : Value} {K : List Rk} {j : JP} {f : Fls} {file : Int} (hd : DAt W tg jg A0 c0 A1 c1 vb K j f file) (hG : Good f j) {C : Option Addr} {nb c : Nat} {b' : List UInt8} (hr : RdB W W.heap.size C nb b') (hnb : nb ≤ 65536) (hnib : Nibs W) :
    Calls Tryd.prog 38 #[.agg (if j.file = 0 then #[.slice C nb c, .slice A1 f.b.length c1] else #[.slice A0 f.a.length c0, .slice C nb c])] W fun e W' => ∃ A c, e = .returned (.slice A (giveR (f.withN j.file b')).length c) ∧ RcRd W' (fun _ => False) A (giveR (f.withN j.file b')).length (giveR (f.withN j.file b')) ∧ Below W.heap.size W W' := by
  have hl := hr.lenB
  subst hl
  have hla := hG.half.la
  have fin : ∀ g : Fls, ∀ (D0 D1 : Option Addr) (e0 e1 : Nat), RdB W W.heap.size D0 g.a.length g.a → RdB W W.heap.size D1 g.b.length g.b → g.a.length ≤ 65536 → g.b.length ≤ 65536 →
      Calls Tryd.prog 38 #[.agg #[.slice D0 g.a.length e0, .slice D1 g.b.length e1]] W fun e W' => ∃ A c, e = .returned (.slice A (giveR g).length c) ∧ RcRd W' (fun _ => False) A (giveR g).length (giveR g) ∧ Below W.heap.size W W' := by
    intro g D0 D1 e0 e1 h0 h1 n0 n1
    refine (given_all h0 h1 (by omega) (by omega) hnib).mono ?_
    rintro e W' ⟨A, c, Kg, rfl, hr, hm, hb⟩
    have hl : Kg.length = (giveR g).length := by rw [← hm, List.length_map]
    rw [hl] at hr ⊢
    exact ⟨A, c, rfl, hr.rdN hm, hb⟩
  by_cases e : j.file = 0
  · rw [if_pos e]
    have hf : f.withN j.file b' = { f with a := b' } := by unfold Fls.withN; rw [if_pos e]
    rw [hf]
    exact fin { f with a := b' } C A1 c c1 hr (Rd.of_own hd.o1) hnb hla.2
  · rw [if_neg e]
    have hf : f.withN j.file b' = { f with b := b' } := by unfold Fls.withN; rw [if_neg e]
    rw [hf]
    exact fin { f with b := b' } A0 C c0 c (Rd.of_own hd.o0) hr hla.1 hnb
theorem dmg_shl (r : Nat) (W : World) : Sem.run Tryd.prog (Op.shift BinOp.shl IntKind.u8 1 IntKind.i64 ((r : Int).tmod 8)) W = .ok (.int .u8 ((2 : Int) ^ (r % 8))) W := by
  have e : (r : Int).tmod 8 = ((r % 8 : Nat) : Int) := by rw [Int.tmod_eq_emod_of_nonneg (by omega)]; omega
  rw [e]
  have h : r % 8 < 8 := by omega
  generalize r % 8 = q at h
  match q, h with
  | 0, _ => rfl
  | 1, _ => rfl
  | 2, _ => rfl
  | 3, _ => rfl
  | 4, _ => rfl
  | 5, _ => rfl
  | 6, _ => rfl
  | 7, _ => rfl
theorem dmg_xor (x : UInt8) (r : Nat) : Go.bits .xor .u8 (x.toNat : Int) ((2 : Int) ^ (r % 8)) = ((x ^^^ UInt8.ofNat (2 ^ (r % 8))).toNat : Int) := by
  have h : r % 8 < 8 := by omega
  generalize r % 8 = q at h
  have e : ((2 : Int) ^ q) = (((UInt8.ofNat (2 ^ q)).toNat : Nat) : Int) := by
    match q, h with
    | 0, _ => rfl
    | 1, _ => rfl
    | 2, _ => rfl
    | 3, _ => rfl
    | 4, _ => rfl
    | 5, _ => rfl
    | 6, _ => rfl
    | 7, _ => rfl
  rw [e, xor_u8]
set_option maxRecDepth 100000 in
set_option maxHeartbeats 3200000 in
theorem Damage_go (Av : Option Addr) (n cap : Nat) (bit : Int) (cut : Bool) (w : World) (hn : n ≤ 140737488351232) (hbit : -9223372036854775808 ≤ bit ∧ bit ≤ 9223372036854775807) (ho : Ops w w.heap.size Av n) (ht : Nibs w) :
    Calls Tryd.prog 9 #[.slice Av n cap, .int .i64 bit, .bool cut] w fun e w' => e = .returned (.bool true) ∧ Below w.heap.size w w' := by
  have HO := Lib.hid ho
  have HT := Lib.hid ht
  have HBIT := Lib.hid hbit
  clear hbit
  have HFR := Lib.hid (fresh_any ht)
  clear ho ht
  go_enter Tryd.func9, Tryd.ntmps9
  go_upto_block 0 with (go_at_call 30; refine HFR.out.mono ?_; rintro _ w1 ⟨tg, jg, f, rfl, hd1, ht1, hj1, hb1⟩; have H1 := Lib.hid (And.intro hd1 (And.intro ht1 (And.intro hj1 hb1))); clear hd1 ht1 hj1 hb1)
  have HBD0 : Hid (BDesk w tg 1 w1) := Lib.hid ⟨jg, newJ, f, H1.out.1, H1.out.2.1, H1.out.2.2.1, by decide, H1.out.2.2.2⟩
  clear H1 HFR
  go_cut [8] from 20 to 37 (fun d wc => Hid (∃ m, m ≤ 801 ∧ BDesk w tg m wc))
  case first =>
    go_wp2_with fail
    go_loopw [8] (fun i wr => ∃ k : Nat, k ≤ 400 ∧ i = .int .i64 (k : Int) ∧ Hid (BDesk w tg (1 + 2 * k) wr)) (fun i _ => 400 - (intOf i).toNat)
    case atStart => exact ⟨0, by omega, rfl, HBD0⟩
    case round =>
      clear HBD0
      obtain ⟨k, hk, rfl, HTW⟩ := hrel
      by_cases hlt : k < n
      · have hI : (k : Int) < (n : Int) := by omega
        by_cases h4 : k < 400
        · have hI4 : (k : Int) < 400 := by omega
          obtain ⟨b, off, rfl, hbl, hops⟩ := (HO.out.below HTW.out.below) (by omega)
          obtain ⟨kd, on, kn, ln, rk, Ao, nb, capb, body, hop⟩ := hops k hlt
          have c0 := hop.c0
          have c1 := hop.c1
          have c2 := hop.c2
          have c3 := hop.c3
          have c4 := hop.c4
          have c5 := hop.c5
          have HPL := Lib.hid (HTW.out.plays kd on kn ln rk Ao nb capb body hop.rd hop.le hop.cap hop.bk.2 (by omega) HT.out)
          clear hop hops
          go_wp2_with (go_at_call 31; refine HPL.out.mono ?_; rintro _ w3 ⟨rfl, ht3⟩; have H3 := Lib.hid ht3; clear ht3)
          clear c0 c1 c2 c3 c4 c5
          go_roundw
          case rel => exact ⟨k + 1, by omega, by go_num, Lib.hid (by rw [show 1 + 2 * (k + 1) = 1 + 2 * k + 2 by omega]; exact H3.out)⟩
          case measure => simp [intOf] <;> omega
        · obtain rfl : k = 400 := by omega
          go_wp2_with fail
          go_meet
          exact Lib.hid ⟨_, by omega, HTW.out⟩
      · have hI : ¬ (k : Int) < (n : Int) := by omega
        have hD : decide ((k : Int) < (n : Int)) = false := by simpa using hI
        clear hI
        go_wp2_with fail
        go_meet
        exact Lib.hid ⟨_, by omega, HTW.out⟩
  case rest =>
    obtain ⟨m, hm, jg, j, f, ⟨A0, c0, A1, c1, vb, K, hd, hk, hg⟩, h1, h2, h3, hb⟩ := hcut.out
    clear hcut
    obtain ⟨Ab, cb, rfl, hcb1, _⟩ := hd.bk.shape hk
    have HCB := Lib.hid hcb1
    clear hcb1
    have p0 : wc.cell? ⟨tg, 0, none⟩ = some (.pointer (some ⟨jg, 0, none⟩)) := hd.blk.cell 0
    have p1 : wc.cell? ⟨tg, 1, none⟩ = some (.slice A0 f.a.length c0) := hd.blk.cell 1
    have p2 : wc.cell? ⟨tg, 2, none⟩ = some (.slice A1 f.b.length c1) := hd.blk.cell 2
    have p4 : wc.cell? ⟨tg, 4, none⟩ = some (.int .i64 (j.file : Int)) := hd.blk.cell 4
    have HDA := Lib.hid hd
    have HG := Lib.hid hg
    have HBW := Lib.hid hb
    have HK := Lib.hid hk
    have HJ := Lib.hid (And.intro h1 (And.intro h2 h3))
    have HFB : Hid (∃ Af cf, (if j.file = 0 then Value.slice A0 f.a.length c0 else Value.slice A1 f.b.length c1) = .slice Af j.text.length cf ∧ RdB wc wc.heap.size Af j.text.length j.text) := by
      refine Lib.hid ?_
      have htx := hg.text
      have hk1 := hg.half.k1
      rcases (by omega : j.file = 0 ∨ j.file = 1) with e | e
      · rw [e] at htx ⊢
        exact ⟨A0, c0, by rw [← htx]; rfl, by rw [← htx]; exact Rd.of_own hd.o0⟩
      · rw [e] at htx ⊢
        exact ⟨A1, c1, by rw [← htx]; rfl, by rw [← htx]; exact Rd.of_own hd.o1⟩
    clear hd hk hg hb h1 h2 h3
    go_upto_if 46 with fail
    go_cut [9] from 37 to 52 (fun b wx => b = (if j.file = 0 then Value.slice A0 f.a.length c0 else Value.slice A1 f.b.length c1) ∧ wx = wc)
    case first =>
      have hk1 : j.file ≤ 1 := HG.out.half.k1
      by_cases e : j.file = 0
      · have e1 : ((j.file : Int) == 1) = false := by rw [e]; rfl
        go_wp2_with fail
        go_meet
        exact ⟨by rw [if_pos e], rfl⟩
      · have e0 : j.file = 1 := by omega
        have e1 : ((j.file : Int) == 1) = true := by rw [e0]; rfl
        go_wp2_with fail
        go_meet
        exact ⟨by rw [if_neg e], rfl⟩
    case rest =>
      obtain ⟨rfl, rfl⟩ := hcut
      obtain ⟨Af, cf, he, hrf⟩ := HFB.out
      rw [he]
      have HRF := Lib.hid hrf
      clear he hrf HFB
      go_upto_region 12 with fail
      go_cut [77] from 52 to 78 (fun d wx => d = .bool false ∧ Hid (Below wc.heap.size wc wx))
      case first =>
        have p3 : wc.cell? ⟨tg, 3, none⟩ = some (.slice Ab j.recs.length cb) := HDA.out.blk.cell 3
        have h18 : 18 ≤ j.text.length := by rw [JP.text, textB_length]; omega
        have b1 : (((j.text.length : Nat) : Int) != ((j.text.length : Nat) : Int)) = false := by simp
        have b2 : ¬ ((j.text.length : Nat) : Int) < 18 := by omega
        have b3 : decide (((j.text.length : Nat) : Int) < 18) = false := by simpa using b2
        obtain ⟨wd, hwd⟩ : ∃ wd, wd = wc.drew := ⟨_, rfl⟩
        have hbd : Below wc.heap.size wc wd := by rw [hwd]; exact below_drewN (Below.refl _ _) 1
        have HBD := Lib.hid hbd
        have HSB : Hid (∀ W, Below wd.heap.size wd W → ((W.cell? ⟨tg, 0, none⟩ = some (.pointer (some ⟨jg, 0, none⟩)) ∧ W.cell? ⟨tg, 1, none⟩ = some (.slice A0 f.a.length c0)) ∧ (W.cell? ⟨tg, 2, none⟩ = some (.slice A1 f.b.length c1) ∧ W.cell? ⟨tg, 3, none⟩ = some (.slice Ab j.recs.length cb)))) := by
          refine Lib.hid fun W hW => ?_
          have hX := (HDA.out.over (Below.then hbd hW)).blk
          exact ⟨⟨hX.cell 0, hX.cell 1⟩, hX.cell 2, hX.cell 3⟩
        have HDD := Lib.hid (HDA.out.over hbd)
        have HSZ := Lib.hid (Size_c HDD.out.pj)
        have HGV : Hid (Calls Tryd.prog 38 #[.agg #[.slice A0 f.a.length c0, .slice A1 f.b.length c1]] wd fun e W' => ∃ A c, e = .returned (.slice A j.recs.length c) ∧ RcRd W' (fun _ => False) A j.recs.length j.recs ∧ Below wd.heap.size wd W') := by
          refine Lib.hid ((given_all (c0 := c0) (c1 := c1) (Rd.of_own HDD.out.o0) (Rd.of_own HDD.out.o1) (by have := HG.out.half.la; omega) (by have := HG.out.half.la; omega) ((HT.out.below HBW.out).below hbd)).mono ?_)
          rintro e W' ⟨A, c, Kg, rfl, hr, hm, hb⟩
          have hm2 : Kg.map Rk.rc = j.recs := by rw [hm]; unfold giveR; rw [HG.out.half.pick]; rfl
          have hl : Kg.length = j.recs.length := by rw [← hm2, List.length_map]
          rw [hl] at hr ⊢
          exact ⟨A, c, rfl, hr.rdN hm2, hb⟩
        have HWD := Lib.hid hwd
        clear hwd hbd h18
        refine wp_region_held_drew (S := fun W => ((W.cell? ⟨tg, 0, none⟩ = some (.pointer (some ⟨jg, 0, none⟩)) ∧ W.cell? ⟨tg, 1, none⟩ = some (.slice A0 f.a.length c0)) ∧ (W.cell? ⟨tg, 2, none⟩ = some (.slice A1 f.b.length c1) ∧ W.cell? ⟨tg, 3, none⟩ = some (.slice Ab j.recs.length cb)))) (by kernel_rfl) (by rw [← HWD.out]; exact HSB.out _ (Below.refl _ _)) (fun hsw => ?_)
        rw [← HWD.out] at hsw ⊢
        refine wpAnyH_take (i := 0) (oi := ?oi0a) (v := ?v0a) ?hi0a (by kernel_rfl) (by kernel_rfl) (by kernel_rfl) ?hq0a ?hy0a (by assumption) ?rest0a
        case hi0a => (simp only [List.getElem?_toArray, List.getElem?_cons_zero]; rfl)
        case hy0a => (refine Or.inl ⟨by rfl, ?_⟩; intro w hSw; (try dsimp only at hSw); go_simp; try with_reducible rfl)
        case hq0a => exact fun _ _ _ h => h
        try simp only [Act.put, List.setIfInBounds_toArray, List.set_cons_zero, List.set_cons_succ]
        refine wpAnyH_take (i := 1) (oi := ?oi1a) (v := ?v1a) ?hi1a (by kernel_rfl) (by kernel_rfl) (by kernel_rfl) ?hq1a ?hy1a (by assumption) ?rest1a
        case hi1a => (simp only [List.getElem?_toArray, List.getElem?_cons_zero, List.getElem?_cons_succ]; rfl)
        case hy1a => (refine Or.inl ⟨by rfl, ?_⟩; intro w hSw; (try dsimp only at hSw); go_simp; try with_reducible rfl)
        case hq1a => exact fun _ _ _ h => h
        try simp only [Act.put, List.setIfInBounds_toArray, List.set_cons_zero, List.set_cons_succ]
        refine wpAnyH_take (i := 2) (oi := ?oi2a) (v := ?v2a) ?hi2a (by kernel_rfl) (by kernel_rfl) (by kernel_rfl) ?hq2a ?hy2a (by assumption) ?rest2a
        case hi2a => (simp only [List.getElem?_toArray, List.getElem?_cons_zero, List.getElem?_cons_succ]; rfl)
        case hy2a => (refine Or.inl ⟨by rfl, ?_⟩; intro w hSw; (try dsimp only at hSw); go_simp; try with_reducible rfl)
        case hq2a => exact fun _ _ _ h => h
        try simp only [Act.put, List.setIfInBounds_toArray, List.set_cons_zero, List.set_cons_succ]
        refine wpAnyH_take (i := 3) (oi := ?oi3a) (v := ?v3a) ?hi3a (by kernel_rfl) (by kernel_rfl) (by kernel_rfl) ?hq3a ?hy3a (by assumption) ?rest3a
        case hi3a => (simp only [List.getElem?_toArray, List.getElem?_cons_zero, List.getElem?_cons_succ]; rfl)
        case hy3a => (refine Or.inl ⟨by rfl, ?_⟩; intro w hSw; (try dsimp only at hSw); go_simp; try with_reducible rfl)
        case hq3a => exact fun _ _ _ h => h
        try simp only [Act.put, List.setIfInBounds_toArray, List.set_cons_zero, List.set_cons_succ]
        refine wpAnyH_take (i := 4) (oi := ?oi4a) (v := ?v4a) ?hi4a (by kernel_rfl) (by kernel_rfl) (by kernel_rfl) ?hq4a ?hy4a (by assumption) ?rest4a
        case hi4a => (simp only [List.getElem?_toArray, List.getElem?_cons_zero, List.getElem?_cons_succ]; rfl)
        case hy4a => (refine Or.inl ⟨by rfl, ?_⟩; intro w hSw; (try dsimp only at hSw); go_simp; try with_reducible rfl)
        case hq4a => exact fun _ _ _ h => h
        try simp only [Act.put, List.setIfInBounds_toArray, List.set_cons_zero, List.set_cons_succ]
        refine wpAnyH_take (i := 5) (oi := ?oi5a) (v := ?v5a) ?hi5a (by kernel_rfl) (by kernel_rfl) (by kernel_rfl) ?hq5a ?hy5a (by assumption) ?rest5a
        case hi5a => (simp only [List.getElem?_toArray, List.getElem?_cons_zero, List.getElem?_cons_succ]; rfl)
        case hy5a => (refine Or.inl ⟨by rfl, ?_⟩; intro w hSw; (try dsimp only at hSw); go_simp; try with_reducible rfl)
        case hq5a => exact fun _ _ _ h => h
        try simp only [Act.put, List.setIfInBounds_toArray, List.set_cons_zero, List.set_cons_succ]
        refine wpAnyH_ready (rs := [6]) (by kernel_rfl) (by simp) ?_
        refine AllReadyH.cons (o := ?o6b) ?ho6b (fun K hK => ?st6b) ?mo6b
        case ho6b => (simp only [List.getElem?_toArray, List.getElem?_cons_zero, List.getElem?_cons_succ]; rfl)
        · skip
          go_simp
          refine HSZ.out.mono ?_
          rintro _ _ ⟨rfl, rfl⟩
          go_simp
          refine hK.out _ _ (HSB.out _ (Below.refl _ _)) (fun _ => ?_)
          clear hK K
          try simp only [Act.put, List.setIfInBounds_toArray, List.set_cons_zero, List.set_cons_succ]
          refine wpAnyH_take (i := 7) (oi := ?oi7c) (v := ?v7c) ?hi7c (by kernel_rfl) (by kernel_rfl) (by kernel_rfl) ?hq7c ?hy7c (by assumption) ?rest7c
          case hi7c => (simp only [List.getElem?_toArray, List.getElem?_cons_zero, List.getElem?_cons_succ]; rfl)
          case hy7c => (refine Or.inl ⟨by rfl, ?_⟩; intro w hSw; (try dsimp only at hSw); go_simp; try with_reducible rfl)
          case hq7c => exact fun _ _ _ h => h
          try simp only [Act.put, List.setIfInBounds_toArray, List.set_cons_zero, List.set_cons_succ]
          refine wpAnyH_take (i := 8) (oi := ?oi8c) (v := ?v8c) ?hi8c (by kernel_rfl) (by kernel_rfl) (by kernel_rfl) ?hq8c ?hy8c (by assumption) ?rest8c
          case hi8c => (simp only [List.getElem?_toArray, List.getElem?_cons_zero, List.getElem?_cons_succ]; rfl)
          case hy8c => (refine Or.inl ⟨by rfl, ?_⟩; intro w hSw; (try dsimp only at hSw); go_simp; try with_reducible rfl)
          case hq8c => exact fun _ _ _ h => h
          try simp only [Act.put, List.setIfInBounds_toArray, List.set_cons_zero, List.set_cons_succ]
          refine wpAnyH_take (i := 9) (oi := ?oi9c) (v := ?v9c) ?hi9c (by kernel_rfl) (by kernel_rfl) (by kernel_rfl) ?hq9c ?hy9c (by assumption) ?rest9c
          case hi9c => (simp only [List.getElem?_toArray, List.getElem?_cons_zero, List.getElem?_cons_succ]; rfl)
          case hy9c => (refine Or.inl ⟨by rfl, ?_⟩; intro w hSw; (try dsimp only at hSw); go_simp; try with_reducible rfl)
          case hq9c => exact fun _ _ _ h => h
          try simp only [Act.put, List.setIfInBounds_toArray, List.set_cons_zero, List.set_cons_succ]
          refine wpAnyH_take (i := 10) (oi := ?oi10c) (v := ?v10c) ?hi10c (by kernel_rfl) (by kernel_rfl) (by kernel_rfl) ?hq10c ?hy10c (by assumption) ?rest10c
          case hi10c => (simp only [List.getElem?_toArray, List.getElem?_cons_zero, List.getElem?_cons_succ]; rfl)
          case hy10c => (refine Or.inl ⟨by rfl, ?_⟩; intro w hSw; (try dsimp only at hSw); go_simp; try with_reducible rfl)
          case hq10c => exact fun _ _ _ h => h
          try simp only [Act.put, List.setIfInBounds_toArray, List.set_cons_zero, List.set_cons_succ]
          refine wpAnyH_take (i := 11) (oi := ?oi11c) (v := ?v11c) ?hi11c (by kernel_rfl) (by kernel_rfl) (by kernel_rfl) ?hq11c ?hy11c (by assumption) ?rest11c
          case hi11c => (simp only [List.getElem?_toArray, List.getElem?_cons_zero, List.getElem?_cons_succ]; rfl)
          case hy11c => (refine Or.inl ⟨by rfl, ?_⟩; intro w hSw; (try dsimp only at hSw); go_simp; try with_reducible rfl)
          case hq11c => exact fun _ _ _ h => h
          try simp only [Act.put, List.setIfInBounds_toArray, List.set_cons_zero, List.set_cons_succ]
          refine wpAnyH_take (i := 12) (oi := ?oi12c) (v := ?v12c) ?hi12c (by kernel_rfl) (by kernel_rfl) (by kernel_rfl) ?hq12c ?hy12c (by assumption) ?rest12c
          case hi12c => (simp only [List.getElem?_toArray, List.getElem?_cons_zero, List.getElem?_cons_succ]; rfl)
          case hy12c => (refine Or.inl ⟨by rfl, ?_⟩; intro w hSw; (try dsimp only at hSw); go_simp; try with_reducible rfl)
          case hq12c => exact fun _ _ _ h => h
          try simp only [Act.put, List.setIfInBounds_toArray, List.set_cons_zero, List.set_cons_succ]
          refine wpAnyH_take (i := 13) (oi := ?oi13c) (v := ?v13c) ?hi13c (by kernel_rfl) (by kernel_rfl) (by kernel_rfl) ?hq13c ?hy13c (by assumption) ?rest13c
          case hi13c => (simp only [List.getElem?_toArray, List.getElem?_cons_zero, List.getElem?_cons_succ]; rfl)
          case hy13c => (refine Or.inl ⟨by rfl, ?_⟩; intro w hSw; (try dsimp only at hSw); go_simp; try with_reducible rfl)
          case hq13c => exact fun _ _ _ h => h
          try simp only [Act.put, List.setIfInBounds_toArray, List.set_cons_zero, List.set_cons_succ]
          refine wpAnyH_take (i := 14) (oi := ?oi14c) (v := ?v14c) ?hi14c (by kernel_rfl) (by kernel_rfl) (by kernel_rfl) ?hq14c ?hy14c (by assumption) ?rest14c
          case hi14c => (simp only [List.getElem?_toArray, List.getElem?_cons_zero, List.getElem?_cons_succ]; rfl)
          case hy14c => (refine Or.inl ⟨by rfl, ?_⟩; intro w hSw; (try dsimp only at hSw); go_simp; try with_reducible rfl)
          case hq14c => exact fun _ _ _ h => h
          try simp only [Act.put, List.setIfInBounds_toArray, List.set_cons_zero, List.set_cons_succ]
          refine wpAnyH_take (i := 15) (oi := ?oi15c) (v := ?v15c) ?hi15c (by kernel_rfl) (by kernel_rfl) (by kernel_rfl) ?hq15c ?hy15c (by assumption) ?rest15c
          case hi15c => (simp only [List.getElem?_toArray, List.getElem?_cons_zero, List.getElem?_cons_succ]; rfl)
          case hy15c => (refine Or.inl ⟨by rfl, ?_⟩; intro w hSw; (try dsimp only at hSw); go_simp; try with_reducible rfl)
          case hq15c => exact fun _ _ _ h => h
          try simp only [Act.put, List.setIfInBounds_toArray, List.set_cons_zero, List.set_cons_succ]
          refine wpAnyH_take (i := 16) (oi := ?oi16c) (v := ?v16c) ?hi16c (by kernel_rfl) (by kernel_rfl) (by kernel_rfl) ?hq16c ?hy16c (by assumption) ?rest16c
          case hi16c => (simp only [List.getElem?_toArray, List.getElem?_cons_zero, List.getElem?_cons_succ]; rfl)
          case hy16c => (refine Or.inl ⟨by rfl, ?_⟩; intro w hSw; (try dsimp only at hSw); go_simp; try with_reducible rfl)
          case hq16c => exact fun _ _ _ h => h
          try simp only [Act.put, List.setIfInBounds_toArray, List.set_cons_zero, List.set_cons_succ]
          refine wpAnyH_take (i := 17) (oi := ?oi17c) (v := ?v17c) ?hi17c (by kernel_rfl) (by kernel_rfl) (by kernel_rfl) ?hq17c ?hy17c (by assumption) ?rest17c
          case hi17c => (simp only [List.getElem?_toArray, List.getElem?_cons_zero, List.getElem?_cons_succ]; rfl)
          case hy17c => (refine Or.inl ⟨by rfl, ?_⟩; intro w hSw; (try dsimp only at hSw); go_simp; try with_reducible rfl)
          case hq17c => exact fun _ _ _ h => h
          try simp only [Act.put, List.setIfInBounds_toArray, List.set_cons_zero, List.set_cons_succ]
          refine wpAnyH_take (i := 19) (oi := ?oi19c) (v := ?v19c) ?hi19c (by kernel_rfl) (by kernel_rfl) (by kernel_rfl) ?hq19c ?hy19c (by assumption) ?rest19c
          case hi19c => (simp only [List.getElem?_toArray, List.getElem?_cons_zero, List.getElem?_cons_succ]; rfl)
          case hy19c => (refine Or.inl ⟨by rfl, ?_⟩; intro w hSw; (try dsimp only at hSw); go_simp; try with_reducible rfl)
          case hq19c => exact fun _ _ _ h => h
          try simp only [Act.put, List.setIfInBounds_toArray, List.set_cons_zero, List.set_cons_succ]
          refine wpAnyH_take (i := 20) (oi := ?oi20c) (v := ?v20c) ?hi20c (by kernel_rfl) (by kernel_rfl) (by kernel_rfl) ?hq20c ?hy20c (by assumption) ?rest20c
          case hi20c => (simp only [List.getElem?_toArray, List.getElem?_cons_zero, List.getElem?_cons_succ]; rfl)
          case hy20c => (refine Or.inl ⟨by rfl, ?_⟩; intro w hSw; (try dsimp only at hSw); go_simp; try with_reducible rfl)
          case hq20c => exact fun _ _ _ h => h
          try simp only [Act.put, List.setIfInBounds_toArray, List.set_cons_zero, List.set_cons_succ]
          refine wpAnyH_take (i := 21) (oi := ?oi21c) (v := ?v21c) ?hi21c (by kernel_rfl) (by kernel_rfl) (by kernel_rfl) ?hq21c ?hy21c (by assumption) ?rest21c
          case hi21c => (simp only [List.getElem?_toArray, List.getElem?_cons_zero, List.getElem?_cons_succ]; rfl)
          case hy21c => (refine Or.inl ⟨by rfl, ?_⟩; intro w hSw; (try dsimp only at hSw); go_simp; try with_reducible rfl)
          case hq21c => exact fun _ _ _ h => h
          try simp only [Act.put, List.setIfInBounds_toArray, List.set_cons_zero, List.set_cons_succ]
          refine wpAnyH_take (i := 22) (oi := ?oi22c) (v := ?v22c) ?hi22c (by kernel_rfl) (by kernel_rfl) (by kernel_rfl) ?hq22c ?hy22c (by assumption) ?rest22c
          case hi22c => (simp only [List.getElem?_toArray, List.getElem?_cons_zero, List.getElem?_cons_succ]; rfl)
          case hy22c => (refine Or.inl ⟨by rfl, ?_⟩; intro w hSw; (try dsimp only at hSw); go_simp; try with_reducible rfl)
          case hq22c => exact fun _ _ _ h => h
          try simp only [Act.put, List.setIfInBounds_toArray, List.set_cons_zero, List.set_cons_succ]
          refine wpAnyH_ready (rs := [18]) (by kernel_rfl) (by simp) ?_
          refine AllReadyH.cons (o := ?o18d) ?ho18d (fun K hK => ?st18d) ?mo18d
          case ho18d => (simp only [List.getElem?_toArray, List.getElem?_cons_zero, List.getElem?_cons_succ]; rfl)
          · skip
            go_simp
            refine HGV.out.mono ?_
            rintro _ we ⟨Ae, ce, rfl, hre, hbe⟩
            have HRE := Lib.hid hre
            have HBE := Lib.hid hbe
            clear hre hbe
            go_simp
            refine hK.out _ _ (HSB.out _ HBE.out) (fun _ => ?_)
            clear hK K
            try simp only [Act.put, List.setIfInBounds_toArray, List.set_cons_zero, List.set_cons_succ]
            have HRY := Lib.hid (records_yes (c1 := ce) (c2 := cb) HRE.out (((HDD.out.bk.rdN HK.out).mono (F' := fun _ => False) fun _ _ h => h.elim).below HBE.out) (by have := bodies_le j.recs; have := HG.out.fine.len; have h3 : j.text.length = 18 + bodies j.recs := textB_length _ _ _; omega))
            refine wpAnyH_ready (rs := [23]) (by kernel_rfl) (by simp) ?_
            refine AllReadyH.cons (o := ?o23e) ?ho23e (fun K hK => ?st23e) ?mo23e
            case ho23e => (simp only [List.getElem?_toArray, List.getElem?_cons_zero, List.getElem?_cons_succ]; rfl)
            · skip
              go_simp
              refine HRY.out.mono ?_
              rintro _ wf ⟨rfl, hbf⟩
              have HBF := Lib.hid (Below.then HBE.out hbf)
              clear hbf
              go_simp
              refine hK.out _ _ (HSB.out _ HBF.out) (fun _ => ?_)
              clear hK K
              try simp only [Act.put, List.setIfInBounds_toArray, List.set_cons_zero, List.set_cons_succ]
              refine wpAnyH_take (i := 24) (oi := ?oi24f) (v := ?v24f) ?hi24f (by kernel_rfl) (by kernel_rfl) (by kernel_rfl) ?hq24f ?hy24f (by assumption) ?rest24f
              case hi24f => (simp only [List.getElem?_toArray, List.getElem?_cons_zero, List.getElem?_cons_succ]; rfl)
              case hy24f => (refine Or.inl ⟨by rfl, ?_⟩; intro w hSw; (try dsimp only at hSw); go_simp; try with_reducible rfl)
              case hq24f => exact fun _ _ _ h => h
              try simp only [Act.put, List.setIfInBounds_toArray, List.set_cons_zero, List.set_cons_succ]
              refine wpAnyH_take (i := 25) (oi := ?oi25f) (v := ?v25f) ?hi25f (by kernel_rfl) (by kernel_rfl) (by kernel_rfl) ?hq25f ?hy25f (by assumption) ?rest25f
              case hi25f => (simp only [List.getElem?_toArray, List.getElem?_cons_zero, List.getElem?_cons_succ]; rfl)
              case hy25f => (refine Or.inl ⟨by rfl, ?_⟩; intro w hSw; (try dsimp only at hSw); go_simp; try with_reducible rfl)
              case hq25f => exact fun _ _ _ h => h
              try simp only [Act.put, List.setIfInBounds_toArray, List.set_cons_zero, List.set_cons_succ]
              refine wpAnyH_done (by kernel_rfl) ?_ _
              go_wp2_with fail
              go_meet
              exact ⟨rfl, Lib.hid (Below.then HBD.out HBF.out)⟩
            exact AllReadyH.nil
          exact AllReadyH.nil
        exact AllReadyH.nil
      case rest =>
        obtain ⟨rfl, HBX⟩ := hcut
        go_upto_region 14 with fail
        by_cases hneg : bit < 0
        · have hng : decide (bit < 0) = true := by simpa using hneg
          go_wp2_with fail
          go_ret
          exact ⟨rfl, HBW.out.trans (HBX.out.mono HBW.out.size)⟩
        · obtain ⟨pb, rfl⟩ : ∃ pb : Nat, bit = (pb : Int) := ⟨bit.toNat, by omega⟩
          obtain ⟨m', hm'⟩ : ∃ m', pb / 8 = m' := ⟨_, rfl⟩
          have hw : wrap64 ((pb : Int) / 8) = (m' : Int) := by
            have := HBIT.out.2
            rw [show (pb : Int) / 8 = ((m' : Nat) : Int) by omega]
            unfold wrap64
            omega
          have HM := Lib.hid hm'
          clear hm'
          by_cases hout : j.text.length ≤ m'
          · have hout' : (j.text.length : Int) ≤ (m' : Int) := by omega
            go_wp2_with fail
            go_ret
            exact ⟨rfl, HBW.out.trans (HBX.out.mono HBW.out.size)⟩
          · have hout' : ¬ (j.text.length : Int) ≤ (m' : Int) := by omega
            go_upto_region 17 with fail
            rw [hw]
            clear hw
            have HRN := Lib.hid (HRF.out.over HBX.out)
            clear HRF
            have h18 : 18 ≤ j.text.length := by rw [JP.text, textB_length]; omega
            obtain ⟨fb, fo, x12, rfl, _, hx12, hc12⟩ := HRN.out.byte (k := 12) (by omega)
            obtain ⟨fb', fo', x13, e13, _, hx13, hc13⟩ := HRN.out.byte (k := 13) (by omega)
            injection e13 with e13
            injection e13 with e1 e2 _
            subst e1 e2
            have HCT : Hid (x12.toNat * 256 + x13.toNat = j.count) := Lib.hid (count_low HG.out.head HG.out.count_le hx12 hx13)
            clear hx12 hx13
            go_cut [11] from 89 to 99 (fun ct wx => ct = .int .i64 (j.count : Int) ∧ Hid (Below wc.heap.size wc wx))
            case first =>
              go_quiet (fail)
              go_wp2
              go_meet
              refine ⟨congrArg _ ?_, Lib.hid (below_drewN (Below.refl _ _) nq)⟩
              have b1 := x12.toNat_lt
              have b2 := x13.toNat_lt
              have b3 := HCT.out
              rw [IntWalk.wrap64_in (x12.toNat : Int) ⟨by omega, by omega⟩, IntWalk.wrap64_in (x13.toNat : Int) ⟨by omega, by omega⟩, IntWalk.wrap64_in ((x12.toNat : Int) * 256) ⟨by omega, by omega⟩, IntWalk.wrap64_in _ ⟨by omega, by omega⟩, ← b3]
              push_cast
              rfl
            case rest =>
              obtain ⟨rfl, HBY⟩ := hcut
              clear hc12 hc13
              go_upto_block 2 with fail
              have HDN := Lib.hid (HDA.out.over (Below.then HBX.out HBY.out))
              go_cut [12, 13, 14] from 99 to 126 (fun h e i wx => ∃ i' : Nat, h = .int .i64 ((i' : Int) - 1) ∧ i' ≤ j.recs.length ∧ (i' = 0 ∨ 18 + bodies (j.recs.take (i' - 1)) ≤ m') ∧ m' < 18 + bodies (j.recs.take i') ∧ wx = wc)
              case first =>
                have p3 : wc.cell? ⟨tg, 3, none⟩ = some (.slice Ab j.recs.length cb) := HDN.out.blk.cell 3
                go_wp2_with fail
                go_loopw [12, 13, 14] (fun h e i wr => ∃ i' : Nat, h = .int .i64 ((i' : Int) - 1) ∧ e = .int .i64 ((18 + bodies (j.recs.take i') : Nat) : Int) ∧ i = .int .i64 (i' : Int) ∧ i' ≤ j.recs.length ∧ (i' = 0 ∨ 18 + bodies (j.recs.take (i' - 1)) ≤ m') ∧ wr = wc) (fun _ _ i _ => j.recs.length - (intOf i).toNat)
                case atStart => exact ⟨0, rfl, by simp [bodies], rfl, by omega, .inl rfl, rfl⟩
                case round =>
                  obtain ⟨i', rfl, rfl, rfl, hil, hip, rfl⟩ := hrel
                  have HIP := Lib.hid hip
                  clear hip
                  by_cases hlt : i' < j.recs.length
                  · have hI : (i' : Int) < (j.recs.length : Int) := by omega
                    by_cases hle : 18 + bodies (j.recs.take i') ≤ m'
                    · have hL : ((18 + bodies (j.recs.take i') : Nat) : Int) ≤ (m' : Int) := by omega
                      obtain ⟨r, hr⟩ : ∃ r, j.recs[i']? = some r := ⟨_, List.getElem?_eq_getElem hlt⟩
                      obtain ⟨q, o, bA, bc, rfl, hq, _, x0, x1, _, _, _⟩ := (HDN.out.bk.rdN HK.out).at_ i' r hr
                      have hbk := bodies_take hr
                      have hbl := bodies_take_le j.recs (i' + 1)
                      have htl := HG.out.fine.len
                      have ht : j.text.length = 18 + bodies j.recs := textB_length _ _ _
                      have HN := Lib.hid (And.intro hbk (And.intro hbl (And.intro htl ht)))
                      clear hbk hbl htl ht hr
                      go_wp2_with fail
                      obtain ⟨hn1, hn2, hn3, hn4⟩ := HN.out
                      have hn5 := bodies_le j.recs
                      go_roundw
                      case rel => exact ⟨i' + 1, congrArg _ (sub_one i'), congrArg _ (hit_sum hn1 (by omega)), congrArg _ (succ_sum hlt (by omega)), by omega, .inr (by rw [Nat.add_sub_cancel]; exact hle), trivial⟩
                      case measure => rw [succ_sum hlt (by omega)]; exact hit_meas hlt
                    · have hL : ¬ ((18 + bodies (j.recs.take i') : Nat) : Int) ≤ (m' : Int) := by omega
                      go_wp2_with fail
                      go_meet
                      exact ⟨i', rfl, hil, HIP.out, by omega, rfl⟩
                  · have hI : ¬ (i' : Int) < (j.recs.length : Int) := by omega
                    go_wp2_with fail
                    go_meet
                    refine ⟨i', rfl, hil, HIP.out, ?_, rfl⟩
                    have ht : j.text.length = 18 + bodies j.recs := textB_length _ _ _
                    rw [List.take_of_length_le (by omega)]
                    omega
              case rest =>
                obtain ⟨i', rfl, hi1, hi2, hi3, rfl⟩ := hcut
                have HH := Lib.hid (fun (b' : List UInt8) (hb' : Hurt j.text b' m') => hit_law HG.out (by omega) hb' hi1 hi2 hi3)
                have HI := Lib.hid hi1
                have HMl : Hid (m' < j.text.length) := Lib.hid (by omega)
                have hlen : j.text.length ≤ 65536 := HG.out.fine.len
                obtain ⟨i0, hi0, hz0, hz1, hz2⟩ := info_parts info_u8
                have ho0 : (wc.alloc (.cells #[] 5)).ownsRow wc.heap.size 5 1 (.slice (some ⟨wc.heap.size, 0, none⟩) 0 0) 0 [] := own_bare _ _ (Nat.le_refl _)
                have hr0 := (HRN.out.over HBY.out).over (one_box' wc (.cells #[] 5))
                have HO0 := Lib.hid ho0
                have HR0 := Lib.hid hr0
                clear ho0 hr0 hi1 hi2 hi3
                go_upto_region 25 with fail
                go_upto_if 129 with (
                   at_builtin
                   refine wpList_append_any _ (by rfl) _ _ 22 (by rfl) wc.heap.size 5 i0 _ 1 1 u_bytes hi0 hz0 hz1 hz2 rfl (by omega) _ 0 [] (by rfl) HO0.out _ _ j.text.length cf (bvs j.text) (by rfl) HR0.out (bvs_one _) (by simp only [maxLen]; omega) (by omega) (by simp) ?_
                   intro v5 w5 ho5 hg5 _)
                rw [Nat.zero_add, List.nil_append] at ho5
                have hb5 : Below wc.heap.size wc w5 := (one_box' wc _).trans (below_app HO0.out hg5 (by simp))
                obtain ⟨g5, c5, cur5, rfl, hg5b, hB5, hn5, hm5, hs5, ht5⟩ := own_parts ho5 (by have := HMl.out; omega)
                have HO5 := Lib.hid ho5
                have HB5 := Lib.hid hb5
                have HBL5 := Lib.hid hB5
                clear ho5 hb5 hg5 hB5 hs5 ht5 HO0 HR0
                go_cut [15] from 126 to 144 (fun c wx => ∃ A c' nb b', c = .slice A nb c' ∧ nb ≤ 65536 ∧ Hid (Hurt j.text b' m') ∧ Hid (RdB wx wx.heap.size A nb b') ∧ Hid (Below wc.heap.size wc wx))
                case first =>
                  have hml := HMl.out
                  cases cut with
                  | true =>
                    have hcI : (m' : Int) ≤ (c5 : Int) := by omega
                    go_wp2_with fail
                    go_meet
                    exact ⟨_, _, m', j.text.take m', rfl, by omega, Lib.hid (.inl rfl), Lib.hid ((Rd.of_own HO5.out).takeB (by omega)), HB5⟩
                  | false =>
                    obtain ⟨wd, hwd⟩ : ∃ wd, wd = w5.drew := ⟨_, rfl⟩
                    have hod : wd.ownsRow wc.heap.size 5 1 (.slice (some ⟨g5, 0, none⟩) j.text.length c5) j.text.length (bvs j.text) := by rw [hwd]; exact HO5.out.drew
                    obtain ⟨b, off, cb, e, _, hcb, hcell⟩ := (Rd.of_own hod).byte (k := m') hml
                    injection e with e
                    injection e with e1 e2 _
                    subst e1 e2
                    rw [Nat.zero_add] at hcell
                    have qf : wd.frozen? ⟨g5, m', none⟩ = false := by rw [hwd]; exact (HBL5.out.drewN 1).frozen m'
                    have e8 := dmg_shl pb
                    have e9 := dmg_xor cb pb
                    have hset := own_set hod m' (.int .u8 (((cb ^^^ UInt8.ofNat (2 ^ (pb % 8))).toNat : Nat) : Int)) hml
                    rw [← bvs_setD] at hset
                    have HSET := Lib.hid (Rd.of_own hset)
                    have HHU := Lib.hid (turned hcb (show pb % 8 < 8 by omega))
                    have HB6 : Hid (Below wc.heap.size wc (wd.setCell ⟨g5, m', none⟩ (.int .u8 (((cb ^^^ UInt8.ofNat (2 ^ (pb % 8))).toNat : Nat) : Int)))) := by
                      refine Lib.hid ((HB5.out.trans ?_).setCell ?_ _)
                      · rw [hwd]; exact (below_drewN (Below.refl _ _) 1).mono HB5.out.size
                      · exact hg5b
                    generalize cb ^^^ UInt8.ofNat (2 ^ (pb % 8)) = cx at e9 HSET HHU HB6
                    have HWD := Lib.hid hwd
                    have hmI : (m' : Int) < (j.text.length : Int) := by omega
                    clear hwd hod hset hcb
                    go_upto_region 28 with fail
                    refine region_tail 11 (by kernel_rfl) (by kernel_rfl) ?_
                    simp only [List.take_succ_cons, List.take_zero, List.drop_succ_cons, List.drop_zero]
                    rw [← HWD.out]
                    repeat still_step
                    refine wpStill_nil ?_
                    change wpList _ _ _ _ _ wd
                    go_wp2
                    go_meet
                    exact ⟨_, _, _, _, rfl, hlen, HHU, HSET, HB6⟩
                case rest =>
                  obtain ⟨Ac, cc, nb, b', rfl, hnb, HHU, HRB, HB6⟩ := hcut
                  have HD2 := Lib.hid (HDN.out.over HB6.out)
                  have HBWW := Lib.hid (Below.then (Below.then (Below.then HBW.out HBX.out) HBY.out) HB6.out)
                  obtain ⟨dv, HWT, HGW⟩ : ∃ dv, Hid (Calls Tryd.prog 43 #[.pointer (some ⟨tg, 0, none⟩), .slice Ac nb cc] wc fun e w' => e = .returned dv ∧ Below wc.heap.size wc w') ∧ Hid (∀ W, Below wc.heap.size wc W → Calls Tryd.prog 38 #[dv] W fun e W' => ∃ A c, e = .returned (.slice A (giveR (f.withN j.file b')).length c) ∧ RcRd W' (fun _ => False) A (giveR (f.withN j.file b')).length (giveR (f.withN j.file b')) ∧ Below W.heap.size W W') := by
                    exact ⟨_, Lib.hid (with_any HD2.out.blk Ac nb cc), Lib.hid fun W hW => given_with (c := cc) (HD2.out.over hW) HG.out (HRB.out.over hW) hnb ((HT.out.below HBWW.out).below hW)⟩
                  have HHL := Lib.hid (HH.out b' HHU.out)
                  have HLE := Lib.hid (giveR_le (f.withN j.file b')).1
                  obtain ⟨L, hL⟩ : ∃ L, L = giveR (f.withN j.file b') := ⟨_, rfl⟩
                  rw [← hL] at HGW HHL HLE
                  clear hL
                  go_upto_if 150 with (first
                    | (go_at_call 43; refine HWT.out.mono ?_; rintro _ w7 ⟨rfl, hb7⟩; have H7 := Lib.hid hb7; have HG7 := Lib.hid (HGW.out _ hb7); clear hb7)
                    | (go_at_call 38; refine HG7.out.mono ?_; rintro _ w8 ⟨A8, c8, rfl, hr8, hb8⟩; have HR8 := Lib.hid hr8; have H8 := Lib.hid (Below.then H7.out hb8); clear hr8 hb8))
                  have HD8 := Lib.hid (HD2.out.over H8.out)
                  have HBW8 := Lib.hid (Below.then HBWW.out H8.out)
                  by_cases hlt : (i' : Int) - 1 < (j.count : Int)
                  · obtain ⟨dv2, HW2, HG2⟩ : ∃ dv, Hid (Calls Tryd.prog 43 #[.pointer (some ⟨tg, 0, none⟩), .slice none 0 0] w8 fun e w' => e = .returned dv ∧ Below w8.heap.size w8 w') ∧ Hid (∀ W, Below w8.heap.size w8 W → Calls Tryd.prog 38 #[dv] W fun e W' => ∃ A c, e = .returned (.slice A L.length c) ∧ RcRd W' (fun _ => False) A L.length L ∧ Below W.heap.size W W') := by
                      rw [HHL.out.1 hlt]
                      exact ⟨_, Lib.hid (with_any HD8.out.blk none 0 0), Lib.hid fun W hW => given_with (c := 0) (b' := []) (HD8.out.over hW) HG.out ⟨rfl, fun h => by omega⟩ (by omega) ((HT.out.below HBW8.out).below hW)⟩
                    go_wp2_with (first
                      | (go_at_call 43; refine HW2.out.mono ?_; rintro _ w9 ⟨rfl, hb9⟩; have H9 := Lib.hid hb9; have HG9 := Lib.hid (HG2.out _ hb9); clear hb9)
                      | (go_at_call 38; refine HG9.out.mono ?_; rintro _ w10 ⟨A10, c10, rfl, hr10, hb10⟩; have HR10 := Lib.hid hr10; have H10 := Lib.hid (Below.then H9.out hb10); clear hr10 hb10; have HRY := Lib.hid (records_yes (c1 := c8) (c2 := c10) (HR8.out.below H10.out) HR10.out (by have := HLE.out; omega)))
                      | (go_at_call 14; refine HRY.out.mono ?_; rintro _ w11 ⟨rfl, hb11⟩; have H11 := Lib.hid (Below.then H10.out hb11); clear hb11))
                    go_ret
                    exact ⟨rfl, Below.then HBW8.out H11.out⟩
                  · obtain ⟨h1, hLq⟩ := HHL.out.2 (by omega)
                    obtain ⟨q, rfl⟩ : ∃ q, i' = q + 1 := ⟨i' - 1, by omega⟩
                    rw [Nat.add_sub_cancel] at hLq
                    have hq : L.length = q := by rw [hLq, List.length_take]; have := HI.out; omega
                    subst hq
                    have hqb : (L.length : Int) ≤ (cb : Int) := by have := HI.out; have := HCB.out; omega
                    have p3 : w8.cell? ⟨tg, 3, none⟩ = some (.slice Ab j.recs.length cb) := HD8.out.blk.cell 3
                    have hr9 := ((HD8.out.bk.rdN HK.out).mono (F' := fun _ => False) fun _ _ h => h.elim).takeN (k := L.length) (by have := HI.out; omega)
                    rw [← hLq] at hr9
                    have HRY := Lib.hid (records_yes (c1 := c8) (c2 := cb) HR8.out hr9 (by have := HLE.out; omega))
                    rw [show (((L.length + 1 : Nat) : Int) - 1) = (L.length : Int) by omega] at hlt ⊢
                    clear hr9 hLq h1
                    go_wp2_with (go_at_call 14; refine HRY.out.mono ?_; rintro _ w11 ⟨rfl, hb11⟩; have H11 := Lib.hid hb11; clear hb11)
                    go_ret
                    exact ⟨rfl, Below.then HBW8.out H11.out⟩
theorem JournalDamage_walk (Av : Option Addr) (n cap : Nat) (bit : Int) (cut : Bool) (w : World) (_hn : n ≤ cap) (hn2 : n ≤ 140737488351232) (ho : Ops w w.heap.size Av n) (hb1 : -9223372036854775808 ≤ bit) (hb2 : bit ≤ 9223372036854775807) (ht : Nibs w) :
    Calls Tryd.prog 9 #[.slice Av n cap, .int .i64 bit, .bool cut] w fun e w' => e = .returned (.bool true) ∧ Below w.heap.size w w' := Damage_go Av n cap bit cut w hn2 ⟨hb1, hb2⟩ ho ht
end Go.Proofs.YtpkdalpjfcopbaaDoor
