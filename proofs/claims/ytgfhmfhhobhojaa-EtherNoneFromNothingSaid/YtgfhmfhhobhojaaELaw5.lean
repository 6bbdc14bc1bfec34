/-
  The ether statements' helper: packets, on both networks: Post.
-/
import Derived.Test.YtgfhmfhhobhojaaELaw4
namespace Go.Proofs.Ytgfhmfhhobhojaa
open Go.ChangeShapes Go.WideShapes Go.ChangeAt Go.RowKit
theorem Next.chg_ {w w1 w2 : World} {F1 F2 G1 G2 : Nat → Prop} {c : ECfg} {D K m g : Nat} {p' : PV} {r' : RV} (h : Next w F1 F2 c D K m p' r' G1 G2 w1) (hc : Chg (fun k => k = g) w1 w2) (h1 : ¬ G1 g) (h2 : ¬ G2 g) (hg : w.heap.size ≤ g) : Next w F1 F2 c D K m p' r' G1 G2 w2 :=
  ⟨⟨h.duo.pn.chg hc fun k hk e => h1 (e ▸ hk), h.duo.rn.chg hc fun k hk e => h2 (e ▸ hk), h.duo.tw, h.duo.ne⟩, h.g1, h.g2, h.chg.thenS hc fun k hk e => by omega⟩
theorem post_100 (c : ECfg) (p : PV) (a b : Int) (n : Nat) (lives : Bool) : 0 ≤ postE c p a b n lives ∧ postE c p a b n lives ≤ 100 := by
  unfold postE launchE
  split
  · split
    · omega
    · split
      · omega
      · split <;> omega
  · omega
theorem rd_clear {w w' : World} {S : Nat → Prop} {A : Option Addr} {n : Nat} {bs : List UInt8} {B : Nat} (h : RdB w B A n bs) (hc : Chg S w w') (hB : B ≤ w.heap.size) (hA : 0 < n → ∀ b o s, A = some ⟨b, o, s⟩ → ¬ S b) : RdB w' B A n bs :=
  ⟨h.len, fun hn => by
    obtain ⟨b, off, e, hb, hcell⟩ := h.at_ hn
    exact ⟨b, off, e, hb, fun j u hu => (World.cell?_of_block (hc.block b (by omega) (hA hn _ _ _ e))).trans (hcell j u hu)⟩⟩
set_option maxRecDepth 100000 in
set_option maxHeartbeats 3200000 in
theorem packets_10 {w : World} {F1 F2 : Nat → Prop} {c : ECfg} {D K m : Nat} {p : PV} {r : RV} (hc : c.Ok) (h : Duo w F1 F2 c D K m p r) (hm : m ≤ 16777216) (a b n : Int) (BA SA : Option Addr) (bc sn sc : Nat) (bs : List UInt8) (hr : RdB w w.heap.size BA bs.length bs) (hbn : bs.length ≤ 17592186044416) (hBA : 0 < bs.length → ∀ b o s, BA = some ⟨b, o, s⟩ → ¬ F1 b ∧ ¬ F2 b) : Calls Try.prog 53 #[.pointer (some ⟨D, 0, none⟩), .pointer (some ⟨K, 0, none⟩), .agg #[.int .i64 10, .int .i64 a, .int .i64 b, .int .i64 n, .slice BA bs.length bc, .slice SA sn sc]] w (NextR w F1 F2 c D K m) := by
  have hb0 := one_box' w (.cells #[.int .i64 10, .int .i64 a, .int .i64 b, .int .i64 n, .slice BA bs.length bc, .slice SA sn sc] 33)
  have hE := Blk.new w 33 #[.int .i64 10, .int .i64 a, .int .i64 b, .int .i64 n, .slice BA bs.length bc, .slice SA sn sc]
  obtain ⟨w0, hw0⟩ : ∃ w0, w0 = w.alloc (.cells #[.int .i64 10, .int .i64 a, .int .i64 b, .int .i64 n, .slice BA bs.length bc, .slice SA sn sc] 33) := ⟨_, rfl⟩
  rw [← hw0] at hb0 hE
  have h0 := h.below hb0
  obtain ⟨hfp, hfr⟩ : Fine p m ∧ RFine r := by
    rcases h.tw.fine (by omega) (Nat.le_refl m) with h1 | h1
    · exact h1
    · exact absurd hc h1
  have HW0 := Lib.hid hw0
  have HB0 := Lib.hid hb0
  have HH := Lib.hid h
  have HH0 := Lib.hid h0
  have HE := Lib.hid hE
  have HFP := Lib.hid hfp
  have HFR := Lib.hid hfr
  have HC := Lib.hid hc
  have hr0 := (hr.below hb0).more hb0.size
  have HR0 := Lib.hid hr0
  have HBA := Lib.hid hBA
  have HSP := Lib.hid (spare_any BA bs.length bc bs w0 hr0 (by omega))
  have HT := Lib.hid (h.tw.post hc a b bs true)
  have x0 : w0.cell? ⟨w.heap.size, 0, none⟩ = some (.int .i64 10) := hE.cell 0
  have x4 : w0.cell? ⟨w.heap.size, 4, none⟩ = some (.slice BA bs.length bc) := hE.cell 4
  have HN1 : Hid (¬ F1 w.heap.size ∧ ¬ F2 w.heap.size) := Lib.hid ⟨fun hf => Nat.lt_irrefl _ (h.pn.1 _ hf), fun hf => Nat.lt_irrefl _ (h.rn.1 _ hf)⟩
  clear hw0 hb0 hE h0 h hr hr0 hfp hfr hBA hc
  go_enter Try.func53, Try.ntmps53
  go_upto_region 1 with fail
  rw [← HW0.out]
  go_upto_region 8 with (go_at_call 60; refine HSP.out.mono ?_; rintro _ w1 ⟨g, cap1, cur, rest, rfl, hg, hcp, hcm, hB1, hcur, hb1⟩; have HG := Lib.hid (And.intro hg (And.intro hcp (And.intro hcm (And.intro hB1 (And.intro hcur hb1))))); clear hg hcp hcm hB1 hcur hb1)
  have hX1 := HE.out.over HG.out.2.2.2.2.2
  have hs1 := HG.out.2.2.2.2.2.size
  have hgl : g < w1.heap.size := HG.out.2.2.2.1.lt
  have hg0 : w0.heap.size ≤ g := HG.out.1
  have hF1 : ∀ k, F1 k → k < w0.heap.size := HH0.out.pn.1
  have hF2 : ∀ k, F2 k → k < w0.heap.size := HH0.out.rn.1
  have hgF1 : ¬ F1 g := fun e => by have := hF1 g e; omega
  have hgF2 : ¬ F2 g := fun e => by have := hF2 g e; omega
  have hrg : RdB w1 w1.heap.size (some ⟨g, 0, none⟩) bs.length bs := by
    refine ⟨by rw [bvs_length, Nat.mul_one], fun _ => ⟨g, 0, rfl, hgl, fun j u hu => ?_⟩⟩
    rw [Nat.zero_add, HG.out.2.2.2.1.cell, ← Array.getElem?_toList, HG.out.2.2.2.2.1, bvs_append, List.append_assoc, List.getElem?_append_left (List.getElem?_eq_some_iff.1 hu).1]
    exact hu
  have hD1 := HH0.out.below HG.out.2.2.2.2.2
  have hDF : F1 D := by
    obtain ⟨_, _, _, _, _, _, hP⟩ := HH0.out.pn
    exact hP.fd
  have HPO := Lib.hid (Post_any HC.out hD1.pn a b (some ⟨g, 0, none⟩) cap1 bs hrg (by omega) (fun _ b' o' s' e e2 => by
    injection e with e
    injection e with e
    exact hgF1 (by rw [e, e2]; exact hDF)) HFP.out.way HFP.out.last HFP.out.clk HFP.out.slow)
  have HD1 := Lib.hid hD1
  have hX1c : w1.cell? ⟨w.heap.size, 1, none⟩ = some (.int .i64 a) ∧ w1.cell? ⟨w.heap.size, 2, none⟩ = some (.int .i64 b) := ⟨hX1.cell 1, hX1.cell 2⟩
  obtain ⟨y, hy⟩ : ∃ y, y = postE c p a b bs.length true := ⟨_, rfl⟩
  obtain ⟨z, hz⟩ : ∃ z, z = postR c p a b bs.length true := ⟨_, rfl⟩
  have HY : Hid (0 ≤ y ∧ y ≤ 100) := Lib.hid (by rw [hy]; exact post_100 c p a b bs.length true)
  rw [← hy, ← hz] at HPO
  have HYZ : Hid (postRE c r a b bs.length true = y ∧ postRR c r a b bs.length true = z) := Lib.hid ⟨by rw [hy]; exact HT.out.1.symm, by rw [hz]; exact HT.out.2.1.symm⟩
  have ey : (y == y) = true := by simp
  have ez : (z == z) = true := by simp
  have HX1 := Lib.hid hX1
  have HNG : Hid (¬ F1 g ∧ ¬ F2 g) := Lib.hid ⟨hgF1, hgF2⟩
  have HF := Lib.hid (And.intro hF1 hF2)
  clear x0 x4 hrg hD1 hDF hX1 hy hz hgF1 hgF2 hF1 hF2
  obtain ⟨x1, x2⟩ := hX1c
  go_upto_region 9 with (go_at_call 20; refine HPO.out.mono ?_; rintro _ w2 hst; have hv := hst.1; subst hv; have HST := Lib.hid hst; clear hst)
  have hC2 : Chg F1 w1 w2 := HST.out.2.choose_spec.2.2
  have hX2 := HX1.out.chg hC2 HN1.out.1
  have hr2 : RdB w2 w2.heap.size BA bs.length bs := (rd_clear ((HR0.out.below HG.out.2.2.2.2.2).more hs1) hC2 (Nat.le_refl _) fun hn b' o' s' e => (HBA.out hn b' o' s' e).1).more hC2.size
  have HR2 := Lib.hid hr2
  have HPR := Lib.hid (RPost_any HC.out (HD1.out.stepP HST.out).1 HFR.out a b BA bc bs hr2 (by omega))
  simp only [HYZ.out.1, HYZ.out.2] at HPR
  have HX2 := Lib.hid hX2
  have hs2 := hC2.size
  have HB2 : Hid (Blk w2 g 5 cur) := Lib.hid (HG.out.2.2.2.1.chg hC2 HNG.out.1)
  clear x1 x2 hr2
  have x1 : w2.cell? ⟨w.heap.size, 1, none⟩ = some (.int .i64 a) := hX2.cell 1
  have x2 : w2.cell? ⟨w.heap.size, 2, none⟩ = some (.int .i64 b) := hX2.cell 2
  have x4 : w2.cell? ⟨w.heap.size, 4, none⟩ = some (.slice BA bs.length bc) := hX2.cell 4
  clear hX2 hC2
  go_upto_region 10 with (go_at_call 71; refine HPR.out.mono ?_; rintro _ w3 hst; have hv := hst.1; subst hv; have HST2 := Lib.hid hst; clear hst)
  have hC3 : Chg F2 w2 w3 := HST2.out.2.choose_spec.2.2
  have hX3 := HX2.out.chg hC3 HN1.out.2
  have hB3 : Blk w3 g 5 cur := HB2.out.chg hC3 HNG.out.2
  have hr3 : RdB w3 w2.heap.size BA bs.length bs := rd_clear HR2.out hC3 (Nat.le_refl _) fun hn b' o' s' e => (HBA.out hn b' o' s' e).2
  have HKE := Lib.hid (kept_yes g bs.length cap1 BA bc _ bs cur rest w3 hB3 HG.out.2.2.2.2.1 HG.out.2.1 HG.out.2.2.1 hr3)
  have HB3 := Lib.hid hB3
  clear x1 x2 x4
  have x4 : w3.cell? ⟨w.heap.size, 4, none⟩ = some (.slice BA bs.length bc) := hX3.cell 4
  have hcs : bs.length ≤ cur.size := by
    have h1 := congrArg List.length HG.out.2.2.2.2.1
    rw [List.length_append, bvs_length, List.length_append, Array.length_toList] at h1
    omega
  have HCS := Lib.hid hcs
  have HLP : Hid (∃ cur' : Array Value, Blk w3 g 5 cur' ∧ cur'.size = cur.size ∧ Chg (fun k => k = g) w3 w3) := Lib.hid ⟨cur, hB3, rfl, Chg.refl _ _⟩
  clear hX3 hB3 hr3 hC3 hcs
  go_upto_region 11 with (go_at_call 72; refine HKE.out.mono ?_; rintro _ _ ⟨rfl, rfl⟩)
  clear x4
  go_wp2_with fail
  go_loopw [13] (fun i wr => ∃ k : Nat, k ≤ bs.length ∧ i = .int .i64 (k : Int) ∧ Hid (∃ cur' : Array Value, Blk wr g 5 cur' ∧ cur'.size = cur.size ∧ Chg (fun k => k = g) w3 wr)) (fun i _ => bs.length - (intOf i).toNat)
  case atStart => exact ⟨0, by omega, rfl, HLP⟩
  case round =>
    clear HLP
    obtain ⟨k, hk, rfl, HL⟩ := hrel
    by_cases hlt : k < bs.length
    · have hI : (k : Int) < (bs.length : Int) := by omega
      obtain ⟨cur', hB', hsz', hch'⟩ := HL.out
      obtain ⟨u, hu⟩ : ∃ u, wr.cell? ⟨g, k, none⟩ = some u := by
        rw [hB'.cell]
        exact ⟨_, Array.getElem?_eq_getElem (by have := HCS.out; omega)⟩
      have hfz := hB'.frozen k
      have HN : Hid (∃ cur' : Array Value, Blk (wr.setCell ⟨g, k, none⟩ (.int .u8 238)) g 5 cur' ∧ cur'.size = cur.size ∧ Chg (fun k => k = g) w3 (wr.setCell ⟨g, k, none⟩ (.int .u8 238))) := Lib.hid ⟨_, hB'.set_ k _, by rw [Array.size_setIfInBounds]; exact hsz', hch'.setCell (p := ⟨g, k, none⟩) (.inl rfl) _⟩
      clear hB' hsz' hch'
      go_wp2
      go_roundw
      case rel => exact ⟨k + 1, by omega, by go_num, HN⟩
      case measure => simp [intOf] <;> omega
    · obtain rfl : k = bs.length := by omega
      have HFIN : Hid (∃ p' r' G1 G2, Next w F1 F2 c D K (m + 1) p' r' G1 G2 wr) := by
        obtain ⟨cur', _, _, hch'⟩ := HL.out
        obtain ⟨G1, G2, hn⟩ := HD1.out.both HST.out HST2.out (Nat.le_succ m) HT.out.2.2
        have hsw := HB0.out.size
        have hn2 := (hn.ahead (HB0.out.trans (HG.out.2.2.2.2.2.mono hsw))).chg_ hch' (fun e => by
          rcases hn.g1 g e with h1 | h1
          · exact HNG.out.1 h1
          · omega) (fun e => by
          rcases hn.g2 g e with h1 | h1
          · exact HNG.out.2 h1
          · omega) (by omega)
        exact Lib.hid ⟨_, _, G1, G2, hn2⟩
      go_wp2_with (go_at_call 30; refine (num_any _ _ (by have := HY.out; omega) (by have := HY.out; omega)).mono ?_; rintro _ _ ⟨rfl, rfl⟩)
      go_ret
      exact ⟨rfl, HFIN.out⟩
end Go.Proofs.Ytgfhmfhhobhojaa
