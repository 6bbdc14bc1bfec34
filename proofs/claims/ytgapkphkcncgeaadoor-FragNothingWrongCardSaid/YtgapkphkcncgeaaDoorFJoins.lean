/-
  FragJoins and FragTurns, walked.
-/
import Derived.Test.YtgapkphkcncgeaaDoorJPlays
namespace Go.Proofs.YtgapkphkcncgeaaDoor
open Go.RowKit

/-- A list of ops, opened: what stands in each. -/
structure OpAt (w : World) (B : Nat) (b off k : Nat) (kd sd : Int) (Ac : Option Addr) (nc capc : Nat) (bs : List UInt8) : Prop where
  c0 : w.cell? ⟨b, off + k * 3, none⟩ = some (.int .i64 kd)
  c1 : w.cell? ⟨b, off + k * 3 + 1, none⟩ = some (.int .i64 sd)
  c2 : w.cell? ⟨b, off + k * 3 + 2, none⟩ = some (.slice Ac nc capc)
  le : nc ≤ capc
  cap : capc ≤ 140737488351232
  rd : RdB w B Ac nc bs
  kb : -9223372036854775808 ≤ kd ∧ kd ≤ 9223372036854775807
  sb : -9223372036854775808 ≤ sd ∧ sd ≤ 9223372036854775807
def Ops (w : World) (B : Nat) (A : Option Addr) (n : Nat) : Prop := 0 < n → ∃ b off, A = some ⟨b, off, none⟩ ∧ b < B ∧ ∀ k, k < n → ∃ kd sd Ac nc capc bs, OpAt w B b off k kd sd Ac nc capc bs
theorem Ops.below {w w' : World} {B : Nat} {A : Option Addr} {n : Nat} (h : Ops w B A n) (hb : Below B w w') : Ops w' B A n := fun hn => by
  obtain ⟨b, off, e, hlt, hk⟩ := h hn
  refine ⟨b, off, e, hlt, fun k hk' => ?_⟩
  obtain ⟨kd, sd, Ac, nc, capc, bs, ho⟩ := hk k hk'
  exact ⟨kd, sd, Ac, nc, capc, bs, (hb.cell (p := ⟨b, _, none⟩) hlt).trans ho.c0, (hb.cell (p := ⟨b, _, none⟩) hlt).trans ho.c1, (hb.cell (p := ⟨b, _, none⟩) hlt).trans ho.c2, ho.le, ho.cap, ho.rd.below hb, ho.kb, ho.sb⟩

set_option maxRecDepth 100000 in
set_option maxHeartbeats 3200000 in
theorem FragJoins_walk (x0 : Int) (A1 : Option Addr) (n1 k1 : Nat) (w : World) (hx0 : -9223372036854775808 ≤ x0) (hx1 : x0 ≤ 9223372036854775807) (hn1 : n1 ≤ k1) (hk1 : k1 ≤ 140737488351232) (ho : Ops w w.heap.size A1 n1) (ht : Nibs w) :
    Calls Tryd.prog 4 #[.int .i64 x0, .slice A1 n1 k1] w fun e w' => e = .returned (.bool true) ∧ Below w.heap.size w w' := by
  by_cases hx : x0 < 1 ∨ 16 < x0
  · go_enter Tryd.func4, Tryd.ntmps4
    go_wp2_with fail
    refine (PNew_no x0 w hx).mono ?_
    rintro _ _ ⟨rfl, rfl⟩
    go_wp2_with fail
    refine (RNew_no x0 w hx).mono ?_
    rintro _ _ ⟨rfl, rfl⟩
    clear hx
    go_wp2_with (go_at_call 15; refine (num_any _ _ (by omega) (by omega)).mono ?_; rintro _ _ ⟨rfl, rfl⟩)
    go_ret
    exact ⟨rfl, Below.refl _ _⟩
  · obtain ⟨N, rfl⟩ := Int.eq_ofNat_of_zero_le (show 0 ≤ x0 by omega)
    have hN1 : 1 ≤ N := by omega
    have hN : N ≤ 16 := by omega
    have HO := Lib.hid ho
    clear hx ho
    go_enter Tryd.func4, Tryd.ntmps4
    go_wp2_with fail
    refine (PNew_yes N w hN1 hN).mono ?_
    rintro _ w1 ⟨Ja, Fa, rfl, ha1, hFa, hb1⟩
    have hs1 := hb1.size
    go_wp2_with fail
    refine (RNew_yes N w1 hN1 hN).mono ?_
    rintro _ w2 ⟨Jb, Fb, rfl, hb2, hFb, hbb2⟩
    have ha2 := ha1.below hbb2
    have hbw2 : Below w.heap.size w w2 := hb1.trans (hbb2.mono hs1)
    have hnl := ht.lt
    have hP : Pair w2 (fun k => Fa k ∨ Fb k) N Ja Jb (fun _ => []) := ⟨Fa, Fb, ha2, hb2, fun _ h => .inl h, fun _ h => .inr h, fun k h h' => by have := ha1.1 k h; have := hFb k h'; omega, fun s _ => Part.nil_, fun k h => by
      rcases h with h | h
      · exact ha2.1 k h
      · exact hb2.1 k h, fun h => by
      rcases h with h | h
      · have := hFa _ h; omega
      · have := hFb _ h; omega⟩
    have hFw : ∀ k, (Fa k ∨ Fb k) → w.heap.size ≤ k := fun k h => by
      rcases h with h | h
      · exact hFa k h
      · have := hFb k h; omega
    have HP := Lib.hid hP
    have HFW := Lib.hid hFw
    clear hP hFw ha1 ha2 hFa hb2 hFb hbb2 hb1
    go_wp2_with (go_at_call 15; refine (num_any _ _ (by omega) (by omega)).mono ?_; rintro _ _ ⟨rfl, rfl⟩)
    go_loopw [9] (fun i wr => ∃ (k : Nat) (F : Nat → Prop) (st : JSt), k ≤ n1 ∧ i = .int .i64 (k : Int) ∧ Hid (Pair wr F N Ja Jb st ∧ ∀ k, F k → w.heap.size ≤ k) ∧ Below w.heap.size w wr) (fun i _ => n1 - (intOf i).toNat)
    case atStart => exact ⟨0, _, _, by omega, rfl, ⟨HP.out, HFW.out⟩, hbw2⟩
    case round =>
      clear HP HFW hbw2
      obtain ⟨k, F, st, hk, rfl, HPF, hb⟩ := hrel
      by_cases hlt : k < n1
      · obtain ⟨b, off, rfl, hbl, hops⟩ := (HO.out.below hb) (by omega)
        obtain ⟨kd, sd, Ac, nc, capc, bs, hop⟩ := hops k hlt
        have c0 := hop.c0
        have c1 := hop.c1
        have c2 := hop.c2
        have hltI : (k : Int) < (n1 : Int) := by omega
        have HOP := Lib.hid hop
        have hsz := hb.size
        clear hop hops
        go_wp2_with fail
        refine (plays_any Ac nc capc N Ja Jb F st bs kd sd wr HPF.out.1 hN1 hN (HOP.out.rd.more hsz) HOP.out.le HOP.out.cap (fun hp b' o' s' e h => by
          obtain ⟨b2, o2, e', hlt', _⟩ := HOP.out.rd.at_ hp
          rw [e] at e'; injection e' with e'; injection e' with e'
          have := HPF.out.2 b' h
          omega) (fun k hk => (hb.cell (p := ⟨0, k, none⟩) ht.lt).trans (ht k hk))).mono ?_
        rintro _ w3 ⟨rfl, F', st', hp', hm⟩
        have HN : Hid ((Pair w3 F' N Ja Jb st' ∧ ∀ k, F' k → w.heap.size ≤ k) ∧ Below w.heap.size w w3) := by
          refine ⟨⟨hp', fun k hk => ?_⟩, hb.trans (hm.2.to_below hsz fun k hk => HPF.out.2 k hk)⟩
          rcases hm.1 k hk with h | h
          · exact HPF.out.2 k h
          · omega
        clear hp' hm c0 c1 c2
        go_wp2
        go_roundw
        case rel => exact ⟨k + 1, F', st', by omega, by go_num, HN.out.1, HN.out.2⟩
        case measure => simp [intOf] <;> omega
      · go_wp2
        go_ret
        exact ⟨rfl, hb⟩
/-- A step of a joiner, the other one beside it. -/
def Two (w w0 : World) (v1 v2 : Bool) (N1 N2 Ja Jb Jc Jd : Nat) : Prop := ∃ F1 F2 : Nat → Prop, (v1 = true → ∃ st, Pair w F1 N1 Ja Jb st) ∧ (v2 = true → ∃ st, Pair w F2 N2 Jc Jd st) ∧ (∀ k, F1 k → w0.heap.size ≤ k) ∧ (∀ k, F2 k → w0.heap.size ≤ k) ∧ (∀ k, F1 k → ¬ F2 k) ∧ (∀ k, F1 k → k < w.heap.size) ∧ (∀ k, F2 k → k < w.heap.size) ∧ Below w0.heap.size w0 w
theorem Two.one {w w' w0 : World} {v2 : Bool} {N1 N2 Ja Jb Jc Jd : Nat} {F F' : Nat → Prop} {st' : JSt} {F2 : Nat → Prop} (hp : Pair w' F' N1 Ja Jb st') (hm : Moved w w' F F') (h2 : v2 = true → ∃ st, Pair w F2 N2 Jc Jd st) (hF : ∀ k, F k → w0.heap.size ≤ k) (hF2 : ∀ k, F2 k → w0.heap.size ≤ k) (hd : ∀ k, F k → ¬ F2 k) (hl2 : ∀ k, F2 k → k < w.heap.size) (hb : Below w0.heap.size w0 w) : Two w' w0 true v2 N1 N2 Ja Jb Jc Jd := by
  have hs := hb.size
  refine ⟨F', F2, fun _ => ⟨st', hp⟩, fun e => ?_, fun k hk => ?_, hF2, fun k hk h => ?_, fun k hk => ?_, fun k hk => ?_, ?_⟩
  · obtain ⟨st, h⟩ := h2 e
    exact ⟨st, h.chg hm.2 fun k hk h => hd k h hk⟩
  · rcases hm.1 k hk with h | h
    · exact hF k h
    · omega
  · rcases hm.1 k hk with h3 | h3
    · exact hd k h3 h
    · have := hl2 k h; omega
  · obtain ⟨Fa, Fb, _, _, _, _, _, _, h7, _⟩ := hp
    exact h7 k hk
  · have := hl2 k hk; have := hm.2.size; omega
  · exact hb.trans (hm.2.to_below hs fun k hk => hF k hk)
theorem Two.swap {w w0 : World} {v1 v2 : Bool} {N1 N2 Ja Jb Jc Jd : Nat} (h : Two w w0 v1 v2 N1 N2 Ja Jb Jc Jd) : Two w w0 v2 v1 N2 N1 Jc Jd Ja Jb := by
  obtain ⟨F1, F2, h1, h2, h3, h4, h5, h6, h7, h8⟩ := h
  exact ⟨F2, F1, h2, h1, h4, h3, fun k hk h => h5 k h hk, h7, h6, h8⟩
/-- One op on the first pair. -/
theorem Two.plays {w w0 : World} {v2 : Bool} {N1 N2 Ja Jb Jc Jd : Nat} (h : Two w w0 true v2 N1 N2 Ja Jb Jc Jd) (hN1 : 1 ≤ N1) (hN : N1 ≤ 16) (ht : Nibs w0) {b off k : Nat} {kd sd : Int} {Ac : Option Addr} {nc capc : Nat} {bs : List UInt8} (ho : OpAt w w0.heap.size b off k kd sd Ac nc capc bs) :
    Calls Tryd.prog 19 #[.pointer (some ⟨Ja, 0, none⟩), .pointer (some ⟨Jb, 0, none⟩), .agg #[.int .i64 kd, .int .i64 sd, .slice Ac nc capc]] w fun e w' => e = .returned (.bool true) ∧ Hid (Two w' w0 true v2 N1 N2 Ja Jb Jc Jd) ∧ Below w0.heap.size w w' := by
  obtain ⟨F1, F2, h1, h2, h3, h4, h5, h6, h7, h8⟩ := h
  obtain ⟨st, hp⟩ := h1 rfl
  have hs := h8.size
  refine (plays_any Ac nc capc N1 Ja Jb F1 st bs kd sd w hp hN1 hN (ho.rd.more hs) ho.le ho.cap (fun hp b o s' e h => ?_) (fun k hk => ?_)).mono ?_
  · obtain ⟨b', o', e', hlt, _⟩ := ho.rd.at_ hp
    rw [e] at e'; injection e' with e'; injection e' with e'
    have := h3 b h
    omega
  · exact (h8.cell (p := ⟨0, k, none⟩) ht.lt).trans (ht k hk)
  · rintro e w' ⟨rfl, F', st', hp', hm⟩
    exact ⟨rfl, Two.one hp' hm h2 h3 h4 h5 h7 h8, hm.2.to_below hs fun k hk => h3 k hk⟩
theorem OpAt.below {w w' : World} {B b off k : Nat} {kd sd : Int} {Ac : Option Addr} {nc capc : Nat} {bs : List UInt8} (ho : OpAt w B b off k kd sd Ac nc capc bs) (hlt : b < B) (hb : Below B w w') : OpAt w' B b off k kd sd Ac nc capc bs :=
  ⟨(hb.cell (p := ⟨b, _, none⟩) hlt).trans ho.c0, (hb.cell (p := ⟨b, _, none⟩) hlt).trans ho.c1, (hb.cell (p := ⟨b, _, none⟩) hlt).trans ho.c2, ho.le, ho.cap, ho.rd.below hb, ho.kb, ho.sb⟩
theorem Pair.new {w w1 w2 : World} {N Ja Jb : Nat} {Fa Fb : Nat → Prop} (ht : Nibs w) (ha : PJx w1 Fa N Ja (fun _ => [])) (hFa : ∀ k, Fa k → w.heap.size ≤ k) (hb1 : Below w.heap.size w w1) (hb : RJx w2 Fb N Jb (fun _ => [])) (hFb : ∀ k, Fb k → w1.heap.size ≤ k) (hb2 : Below w1.heap.size w1 w2) :
    Pair w2 (fun k => Fa k ∨ Fb k) N Ja Jb (fun _ => []) ∧ ∀ k, (Fa k ∨ Fb k) → w.heap.size ≤ k := by
  have ha2 := ha.below hb2
  have hnl := ht.lt
  have hs1 := hb1.size
  exact ⟨⟨Fa, Fb, ha2, hb, fun _ h => .inl h, fun _ h => .inr h, fun k h h' => by have := ha.1 k h; have := hFb k h'; omega, fun s _ => Part.nil_, fun k h => by
      rcases h with h | h
      · exact ha2.1 k h
      · exact hb.1 k h, fun h => by
      rcases h with h | h
      · have := hFa _ h; omega
      · have := hFb _ h; omega⟩, fun k h => by
      rcases h with h | h
      · exact hFa k h
      · have := hFb k h; omega⟩

set_option maxRecDepth 100000 in
set_option maxHeartbeats 3200000 in
theorem FragTurns_yy (N1 : Nat) (h11 : 1 ≤ N1) (h12 : N1 ≤ 16) (N2 : Nat) (h21 : 1 ≤ N2) (h22 : N2 ≤ 16) (A2 : Option Addr) (n2 k2 : Nat) (A3 : Option Addr) (n3 k3 : Nat) (w : World) (hn2 : n2 ≤ k2) (hk2 : k2 ≤ 140737488351232) (hn3 : n3 ≤ k3) (hk3 : k3 ≤ 140737488351232) (HO2 : Hid (Ops w w.heap.size A2 n2)) (HO3 : Hid (Ops w w.heap.size A3 n3)) (ht : Nibs w) :
    Calls Tryd.prog 5 #[.int .i64 (N1 : Int), .int .i64 (N2 : Int), .slice A2 n2 k2, .slice A3 n3 k3] w fun e w' => e = .returned (.bool true) ∧ Below w.heap.size w w' := by
  go_enter Tryd.func5, Tryd.ntmps5
  go_wp2_with fail
  refine (PNew_yes N1 w h11 h12).mono ?_
  rintro _ wa1 ⟨Ja, Fa1, rfl, ha1, hFa1, hba1⟩
  go_wp2_with fail
  refine (RNew_yes N1 wa1 h11 h12).mono ?_
  rintro _ wb1 ⟨Jb, Fb1, rfl, hb1, hFb1, hbb1⟩
  go_wp2_with fail
  refine (PNew_yes N2 wb1 h21 h22).mono ?_
  rintro _ wa2 ⟨Jc, Fa2, rfl, ha2, hFa2, hba2⟩
  go_wp2_with fail
  refine (RNew_yes N2 wa2 h21 h22).mono ?_
  rintro _ wb2 ⟨Jd, Fb2, rfl, hb2, hFb2, hbb2⟩
  have hbw1 : Below w.heap.size w wb1 := hba1.trans (hbb1.mono hba1.size)
  obtain ⟨hp1, hf1⟩ := Pair.new ht ha1 hFa1 hba1 hb1 hFb1 hbb1
  have hbw2 : Below wb1.heap.size wb1 wb2 := hba2.trans (hbb2.mono hba2.size)
  obtain ⟨hp2, hf2⟩ := Pair.new (ht.below hbw1) ha2 hFa2 hba2 hb2 hFb2 hbb2
  have hsw1 := hbw1.size
  have hsw2 := hbw2.size
  have HTWO : Hid (Two wb2 w true true N1 N2 Ja Jb Jc Jd) := ⟨fun k => Fa1 k ∨ Fb1 k, fun k => Fa2 k ∨ Fb2 k, fun _ => ⟨_, hp1.chg (Chg.of_below hbw2 fun _ => False) (fun _ _ h => h)⟩, fun _ => ⟨_, hp2⟩, hf1, fun k hk => by have := hf2 k hk; omega, fun k hk h => by have := hf2 k h; obtain ⟨_, _, _, _, _, _, _, _, h7, _⟩ := hp1; have := h7 k hk; omega, fun k hk => Nat.lt_of_lt_of_le (by obtain ⟨_, _, _, _, _, _, _, _, h7, _⟩ := hp1; exact h7 k hk) hbw2.size, fun k hk => by obtain ⟨_, _, _, _, _, _, _, _, h7, _⟩ := hp2; exact h7 k hk, hbw1.trans (hbw2.mono hsw1)⟩
  clear hbw1 hbw2 hsw1 hsw2 hp1 hf1 ha1 hFa1 hba1 hb1 hFb1 hbb1 hp2 hf2 ha2 hFa2 hba2 hb2 hFb2 hbb2
  go_wp2_with (go_at_call 15; refine (num_any _ _ (by omega) (by omega)).mono ?_; rintro _ _ ⟨rfl, rfl⟩)
  go_loopw [17] (fun i wr => ∃ k : Nat, (k ≤ n2 ∨ k ≤ n3) ∧ i = .int .i64 (k : Int) ∧ Hid (Two wr w true true N1 N2 Ja Jb Jc Jd)) (fun i _ => n2 + n3 - (intOf i).toNat)
  case atStart => exact ⟨0, by omega, rfl, HTWO.out⟩
  case round =>
    clear HTWO
    obtain ⟨k, hk, rfl, HT⟩ := hrel
    have hbr : Below w.heap.size w wr := by obtain ⟨_, _, _, _, _, _, _, _, _, h8⟩ := HT.out; exact h8
    by_cases hlt2 : k < n2
    · by_cases hlt3 : k < n3
      · have i2 : (k : Int) < (n2 : Int) := by omega
        have i3 : (k : Int) < (n3 : Int) := by omega
        obtain ⟨b2, off2, rfl, hbl2, hops2⟩ := (HO2.out.below hbr) (by omega)
        obtain ⟨kd2, sd2, Ac2, nc2, capc2, bs2, hop2⟩ := hops2 k hlt2
        have c20 := hop2.c0
        have c21 := hop2.c1
        have c22 := hop2.c2
        have HOP2 := Lib.hid hop2
        clear hop2 hops2
        obtain ⟨b3, off3, rfl, hbl3, hops3⟩ := (HO3.out.below hbr) (by omega)
        obtain ⟨kd3, sd3, Ac3, nc3, capc3, bs3, hop3⟩ := hops3 k hlt3
        have c30 := hop3.c0
        have c31 := hop3.c1
        have c32 := hop3.c2
        have HOP3 := Lib.hid hop3
        clear hop3 hops3
        go_wp2_with fail
        refine (Two.plays HT.out h11 h12 ht HOP2.out).mono ?_
        rintro _ wy ⟨rfl, HT2, hby⟩
        have HOP3' := Lib.hid (HOP3.out.below hbl3 hby)
        clear c30 c31 c32 HOP3
        have c30 := HOP3'.out.c0
        have c31 := HOP3'.out.c1
        have c32 := HOP3'.out.c2
        go_wp2_with fail
        refine (Two.plays HT2.out.swap h21 h22 ht HOP3'.out).mono ?_
        rintro _ wz ⟨rfl, HT3, hbz⟩
        go_wp2
        go_roundw
        case rel => exact ⟨k + 1, by omega, by go_num, HT3.out.swap⟩
        case measure => simp [intOf] <;> omega
      · have i2 : (k : Int) < (n2 : Int) := by omega
        have i3 : ¬ (k : Int) < (n3 : Int) := by omega
        obtain ⟨b2, off2, rfl, hbl2, hops2⟩ := (HO2.out.below hbr) (by omega)
        obtain ⟨kd2, sd2, Ac2, nc2, capc2, bs2, hop2⟩ := hops2 k hlt2
        have c20 := hop2.c0
        have c21 := hop2.c1
        have c22 := hop2.c2
        have HOP2 := Lib.hid hop2
        clear hop2 hops2
        go_wp2_with fail
        refine (Two.plays HT.out h11 h12 ht HOP2.out).mono ?_
        rintro _ wy ⟨rfl, HT2, hby⟩
        go_wp2
        go_roundw
        case rel => exact ⟨k + 1, by omega, by go_num, HT2⟩
        case measure => simp [intOf] <;> omega
    · by_cases hlt3 : k < n3
      · have i2 : ¬ (k : Int) < (n2 : Int) := by omega
        have i3 : (k : Int) < (n3 : Int) := by omega
        obtain ⟨b3, off3, rfl, hbl3, hops3⟩ := (HO3.out.below hbr) (by omega)
        obtain ⟨kd3, sd3, Ac3, nc3, capc3, bs3, hop3⟩ := hops3 k hlt3
        have c30 := hop3.c0
        have c31 := hop3.c1
        have c32 := hop3.c2
        have HOP3 := Lib.hid hop3
        clear hop3 hops3
        go_wp2_with fail
        refine (Two.plays HT.out.swap h21 h22 ht HOP3.out).mono ?_
        rintro _ wz ⟨rfl, HT3, hbz⟩
        go_wp2
        go_roundw
        case rel => exact ⟨k + 1, by omega, by go_num, HT3.out.swap⟩
        case measure => simp [intOf] <;> omega
      · have i2 : ¬ (k : Int) < (n2 : Int) := by omega
        have i3 : ¬ (k : Int) < (n3 : Int) := by omega
        go_wp2
        go_ret
        exact ⟨rfl, hbr⟩
set_option maxRecDepth 100000 in
set_option maxHeartbeats 3200000 in
theorem FragTurns_yn (N1 : Nat) (h11 : 1 ≤ N1) (h12 : N1 ≤ 16) (x2 : Int) (h2 : x2 < 1 ∨ 16 < x2) (A2 : Option Addr) (n2 k2 : Nat) (A3 : Option Addr) (n3 k3 : Nat) (w : World) (hn2 : n2 ≤ k2) (hk2 : k2 ≤ 140737488351232) (hn3 : n3 ≤ k3) (hk3 : k3 ≤ 140737488351232) (HO2 : Hid (Ops w w.heap.size A2 n2)) (HO3 : Hid (Ops w w.heap.size A3 n3)) (ht : Nibs w) :
    Calls Tryd.prog 5 #[.int .i64 (N1 : Int), .int .i64 x2, .slice A2 n2 k2, .slice A3 n3 k3] w fun e w' => e = .returned (.bool true) ∧ Below w.heap.size w w' := by
  go_enter Tryd.func5, Tryd.ntmps5
  go_wp2_with fail
  refine (PNew_yes N1 w h11 h12).mono ?_
  rintro _ wa1 ⟨Ja, Fa1, rfl, ha1, hFa1, hba1⟩
  go_wp2_with fail
  refine (RNew_yes N1 wa1 h11 h12).mono ?_
  rintro _ wb1 ⟨Jb, Fb1, rfl, hb1, hFb1, hbb1⟩
  go_wp2_with fail
  refine (PNew_no x2 wb1 h2).mono ?_
  rintro _ _ ⟨rfl, rfl⟩
  go_wp2_with fail
  refine (RNew_no x2 wb1 h2).mono ?_
  rintro _ _ ⟨rfl, rfl⟩
  have hbw1 : Below w.heap.size w wb1 := hba1.trans (hbb1.mono hba1.size)
  obtain ⟨hp1, hf1⟩ := Pair.new ht ha1 hFa1 hba1 hb1 hFb1 hbb1
  have hbw2 : Below wb1.heap.size wb1 wb1 := Below.refl _ _
  have hsw1 := hbw1.size
  have hsw2 := hbw2.size
  have HTWO : Hid (Two wb1 w true false N1 0 Ja Jb 0 0) := ⟨fun k => Fa1 k ∨ Fb1 k, fun _ => False, fun _ => ⟨_, hp1.chg (Chg.of_below hbw2 fun _ => False) (fun _ _ h => h)⟩, (fun h => Bool.noConfusion h), hf1, (fun _ h => False.elim h), (fun _ _ h => False.elim h), fun k hk => Nat.lt_of_lt_of_le (by obtain ⟨_, _, _, _, _, _, _, _, h7, _⟩ := hp1; exact h7 k hk) hbw2.size, (fun _ h => False.elim h), hbw1.trans (hbw2.mono hsw1)⟩
  clear hbw1 hbw2 hsw1 hsw2 hp1 hf1 ha1 hFa1 hba1 hb1 hFb1 hbb1 h2
  go_wp2_with (go_at_call 15; refine (num_any _ _ (by omega) (by omega)).mono ?_; rintro _ _ ⟨rfl, rfl⟩)
  go_loopw [17] (fun i wr => ∃ k : Nat, (k ≤ n2 ∨ k ≤ n3) ∧ i = .int .i64 (k : Int) ∧ Hid (Two wr w true false N1 0 Ja Jb 0 0)) (fun i _ => n2 + n3 - (intOf i).toNat)
  case atStart => exact ⟨0, by omega, rfl, HTWO.out⟩
  case round =>
    clear HTWO
    obtain ⟨k, hk, rfl, HT⟩ := hrel
    have hbr : Below w.heap.size w wr := by obtain ⟨_, _, _, _, _, _, _, _, _, h8⟩ := HT.out; exact h8
    by_cases hlt2 : k < n2
    · by_cases hlt3 : k < n3
      · have i2 : (k : Int) < (n2 : Int) := by omega
        have i3 : (k : Int) < (n3 : Int) := by omega
        obtain ⟨b2, off2, rfl, hbl2, hops2⟩ := (HO2.out.below hbr) (by omega)
        obtain ⟨kd2, sd2, Ac2, nc2, capc2, bs2, hop2⟩ := hops2 k hlt2
        have c20 := hop2.c0
        have c21 := hop2.c1
        have c22 := hop2.c2
        have HOP2 := Lib.hid hop2
        clear hop2 hops2
        go_wp2_with fail
        refine (Two.plays HT.out h11 h12 ht HOP2.out).mono ?_
        rintro _ wy ⟨rfl, HT2, hby⟩
        go_wp2
        go_roundw
        case rel => exact ⟨k + 1, by omega, by go_num, HT2⟩
        case measure => simp [intOf] <;> omega
      · have i2 : (k : Int) < (n2 : Int) := by omega
        have i3 : ¬ (k : Int) < (n3 : Int) := by omega
        obtain ⟨b2, off2, rfl, hbl2, hops2⟩ := (HO2.out.below hbr) (by omega)
        obtain ⟨kd2, sd2, Ac2, nc2, capc2, bs2, hop2⟩ := hops2 k hlt2
        have c20 := hop2.c0
        have c21 := hop2.c1
        have c22 := hop2.c2
        have HOP2 := Lib.hid hop2
        clear hop2 hops2
        go_wp2_with fail
        refine (Two.plays HT.out h11 h12 ht HOP2.out).mono ?_
        rintro _ wy ⟨rfl, HT2, hby⟩
        go_wp2
        go_roundw
        case rel => exact ⟨k + 1, by omega, by go_num, HT2⟩
        case measure => simp [intOf] <;> omega
    · by_cases hlt3 : k < n3
      · have i2 : ¬ (k : Int) < (n2 : Int) := by omega
        have i3 : (k : Int) < (n3 : Int) := by omega
        go_wp2
        go_roundw
        case rel => exact ⟨k + 1, by omega, by go_num, HT⟩
        case measure => simp [intOf] <;> omega
      · have i2 : ¬ (k : Int) < (n2 : Int) := by omega
        have i3 : ¬ (k : Int) < (n3 : Int) := by omega
        go_wp2
        go_ret
        exact ⟨rfl, hbr⟩
set_option maxRecDepth 100000 in
set_option maxHeartbeats 3200000 in
theorem FragTurns_ny (x1 : Int) (h1 : x1 < 1 ∨ 16 < x1) (N2 : Nat) (h21 : 1 ≤ N2) (h22 : N2 ≤ 16) (A2 : Option Addr) (n2 k2 : Nat) (A3 : Option Addr) (n3 k3 : Nat) (w : World) (hn2 : n2 ≤ k2) (hk2 : k2 ≤ 140737488351232) (hn3 : n3 ≤ k3) (hk3 : k3 ≤ 140737488351232) (HO2 : Hid (Ops w w.heap.size A2 n2)) (HO3 : Hid (Ops w w.heap.size A3 n3)) (ht : Nibs w) :
    Calls Tryd.prog 5 #[.int .i64 x1, .int .i64 (N2 : Int), .slice A2 n2 k2, .slice A3 n3 k3] w fun e w' => e = .returned (.bool true) ∧ Below w.heap.size w w' := by
  go_enter Tryd.func5, Tryd.ntmps5
  go_wp2_with fail
  refine (PNew_no x1 w h1).mono ?_
  rintro _ _ ⟨rfl, rfl⟩
  go_wp2_with fail
  refine (RNew_no x1 w h1).mono ?_
  rintro _ _ ⟨rfl, rfl⟩
  go_wp2_with fail
  refine (PNew_yes N2 w h21 h22).mono ?_
  rintro _ wa2 ⟨Jc, Fa2, rfl, ha2, hFa2, hba2⟩
  go_wp2_with fail
  refine (RNew_yes N2 wa2 h21 h22).mono ?_
  rintro _ wb2 ⟨Jd, Fb2, rfl, hb2, hFb2, hbb2⟩
  have hbw1 : Below w.heap.size w w := Below.refl _ _
  have hbw2 : Below w.heap.size w wb2 := hba2.trans (hbb2.mono hba2.size)
  obtain ⟨hp2, hf2⟩ := Pair.new (ht.below hbw1) ha2 hFa2 hba2 hb2 hFb2 hbb2
  have hsw1 := hbw1.size
  have hsw2 := hbw2.size
  have HTWO : Hid (Two wb2 w false true 0 N2 0 0 Jc Jd) := ⟨fun _ => False, fun k => Fa2 k ∨ Fb2 k, (fun h => Bool.noConfusion h), fun _ => ⟨_, hp2⟩, (fun _ h => False.elim h), fun k hk => by have := hf2 k hk; omega, (fun _ h => False.elim h), (fun _ h => False.elim h), fun k hk => by obtain ⟨_, _, _, _, _, _, _, _, h7, _⟩ := hp2; exact h7 k hk, hbw1.trans (hbw2.mono hsw1)⟩
  clear hbw1 hbw2 hsw1 hsw2 h1 hp2 hf2 ha2 hFa2 hba2 hb2 hFb2 hbb2
  go_wp2_with (go_at_call 15; refine (num_any _ _ (by omega) (by omega)).mono ?_; rintro _ _ ⟨rfl, rfl⟩)
  go_loopw [17] (fun i wr => ∃ k : Nat, (k ≤ n2 ∨ k ≤ n3) ∧ i = .int .i64 (k : Int) ∧ Hid (Two wr w false true 0 N2 0 0 Jc Jd)) (fun i _ => n2 + n3 - (intOf i).toNat)
  case atStart => exact ⟨0, by omega, rfl, HTWO.out⟩
  case round =>
    clear HTWO
    obtain ⟨k, hk, rfl, HT⟩ := hrel
    have hbr : Below w.heap.size w wr := by obtain ⟨_, _, _, _, _, _, _, _, _, h8⟩ := HT.out; exact h8
    by_cases hlt2 : k < n2
    · by_cases hlt3 : k < n3
      · have i2 : (k : Int) < (n2 : Int) := by omega
        have i3 : (k : Int) < (n3 : Int) := by omega
        obtain ⟨b3, off3, rfl, hbl3, hops3⟩ := (HO3.out.below hbr) (by omega)
        obtain ⟨kd3, sd3, Ac3, nc3, capc3, bs3, hop3⟩ := hops3 k hlt3
        have c30 := hop3.c0
        have c31 := hop3.c1
        have c32 := hop3.c2
        have HOP3 := Lib.hid hop3
        clear hop3 hops3
        go_wp2_with fail
        refine (Two.plays HT.out.swap h21 h22 ht HOP3.out).mono ?_
        rintro _ wz ⟨rfl, HT3, hbz⟩
        go_wp2
        go_roundw
        case rel => exact ⟨k + 1, by omega, by go_num, HT3.out.swap⟩
        case measure => simp [intOf] <;> omega
      · have i2 : (k : Int) < (n2 : Int) := by omega
        have i3 : ¬ (k : Int) < (n3 : Int) := by omega
        go_wp2
        go_roundw
        case rel => exact ⟨k + 1, by omega, by go_num, HT⟩
        case measure => simp [intOf] <;> omega
    · by_cases hlt3 : k < n3
      · have i2 : ¬ (k : Int) < (n2 : Int) := by omega
        have i3 : (k : Int) < (n3 : Int) := by omega
        obtain ⟨b3, off3, rfl, hbl3, hops3⟩ := (HO3.out.below hbr) (by omega)
        obtain ⟨kd3, sd3, Ac3, nc3, capc3, bs3, hop3⟩ := hops3 k hlt3
        have c30 := hop3.c0
        have c31 := hop3.c1
        have c32 := hop3.c2
        have HOP3 := Lib.hid hop3
        clear hop3 hops3
        go_wp2_with fail
        refine (Two.plays HT.out.swap h21 h22 ht HOP3.out).mono ?_
        rintro _ wz ⟨rfl, HT3, hbz⟩
        go_wp2
        go_roundw
        case rel => exact ⟨k + 1, by omega, by go_num, HT3.out.swap⟩
        case measure => simp [intOf] <;> omega
      · have i2 : ¬ (k : Int) < (n2 : Int) := by omega
        have i3 : ¬ (k : Int) < (n3 : Int) := by omega
        go_wp2
        go_ret
        exact ⟨rfl, hbr⟩
set_option maxRecDepth 100000 in
set_option maxHeartbeats 3200000 in
theorem FragTurns_nn (x1 : Int) (h1 : x1 < 1 ∨ 16 < x1) (x2 : Int) (h2 : x2 < 1 ∨ 16 < x2) (A2 : Option Addr) (n2 k2 : Nat) (A3 : Option Addr) (n3 k3 : Nat) (w : World) (hn2 : n2 ≤ k2) (hk2 : k2 ≤ 140737488351232) (hn3 : n3 ≤ k3) (hk3 : k3 ≤ 140737488351232) (HO2 : Hid (Ops w w.heap.size A2 n2)) (HO3 : Hid (Ops w w.heap.size A3 n3)) (ht : Nibs w) :
    Calls Tryd.prog 5 #[.int .i64 x1, .int .i64 x2, .slice A2 n2 k2, .slice A3 n3 k3] w fun e w' => e = .returned (.bool true) ∧ Below w.heap.size w w' := by
  go_enter Tryd.func5, Tryd.ntmps5
  go_wp2_with fail
  refine (PNew_no x1 w h1).mono ?_
  rintro _ _ ⟨rfl, rfl⟩
  go_wp2_with fail
  refine (RNew_no x1 w h1).mono ?_
  rintro _ _ ⟨rfl, rfl⟩
  go_wp2_with fail
  refine (PNew_no x2 w h2).mono ?_
  rintro _ _ ⟨rfl, rfl⟩
  go_wp2_with fail
  refine (RNew_no x2 w h2).mono ?_
  rintro _ _ ⟨rfl, rfl⟩
  have hbw1 : Below w.heap.size w w := Below.refl _ _
  have hbw2 : Below w.heap.size w w := Below.refl _ _
  have hsw1 := hbw1.size
  have hsw2 := hbw2.size
  have HTWO : Hid (Two w w false false 0 0 0 0 0 0) := ⟨fun _ => False, fun _ => False, (fun h => Bool.noConfusion h), (fun h => Bool.noConfusion h), (fun _ h => False.elim h), (fun _ h => False.elim h), (fun _ h => False.elim h), (fun _ h => False.elim h), (fun _ h => False.elim h), hbw1.trans (hbw2.mono hsw1)⟩
  clear hbw1 hbw2 hsw1 hsw2 h1 h2
  go_wp2_with (go_at_call 15; refine (num_any _ _ (by omega) (by omega)).mono ?_; rintro _ _ ⟨rfl, rfl⟩)
  go_loopw [17] (fun i wr => ∃ k : Nat, (k ≤ n2 ∨ k ≤ n3) ∧ i = .int .i64 (k : Int) ∧ Hid (Two wr w false false 0 0 0 0 0 0)) (fun i _ => n2 + n3 - (intOf i).toNat)
  case atStart => exact ⟨0, by omega, rfl, HTWO.out⟩
  case round =>
    clear HTWO
    obtain ⟨k, hk, rfl, HT⟩ := hrel
    have hbr : Below w.heap.size w wr := by obtain ⟨_, _, _, _, _, _, _, _, _, h8⟩ := HT.out; exact h8
    by_cases hlt2 : k < n2
    · by_cases hlt3 : k < n3
      · have i2 : (k : Int) < (n2 : Int) := by omega
        have i3 : (k : Int) < (n3 : Int) := by omega
        go_wp2
        go_roundw
        case rel => exact ⟨k + 1, by omega, by go_num, HT⟩
        case measure => simp [intOf] <;> omega
      · have i2 : (k : Int) < (n2 : Int) := by omega
        have i3 : ¬ (k : Int) < (n3 : Int) := by omega
        go_wp2
        go_roundw
        case rel => exact ⟨k + 1, by omega, by go_num, HT⟩
        case measure => simp [intOf] <;> omega
    · by_cases hlt3 : k < n3
      · have i2 : ¬ (k : Int) < (n2 : Int) := by omega
        have i3 : (k : Int) < (n3 : Int) := by omega
        go_wp2
        go_roundw
        case rel => exact ⟨k + 1, by omega, by go_num, HT⟩
        case measure => simp [intOf] <;> omega
      · have i2 : ¬ (k : Int) < (n2 : Int) := by omega
        have i3 : ¬ (k : Int) < (n3 : Int) := by omega
        go_wp2
        go_ret
        exact ⟨rfl, hbr⟩
theorem FragTurns_walk (x0 x1 : Int) (A2 : Option Addr) (n2 k2 : Nat) (A3 : Option Addr) (n3 k3 : Nat) (w : World) (h0 : -9223372036854775808 ≤ x0) (h0' : x0 ≤ 9223372036854775807) (h1 : -9223372036854775808 ≤ x1) (h1' : x1 ≤ 9223372036854775807) (hn2 : n2 ≤ k2) (hk2 : k2 ≤ 140737488351232) (ho2 : Ops w w.heap.size A2 n2) (hn3 : n3 ≤ k3) (hk3 : k3 ≤ 140737488351232) (ho3 : Ops w w.heap.size A3 n3) (ht : Nibs w) :
    Calls Tryd.prog 5 #[.int .i64 x0, .int .i64 x1, .slice A2 n2 k2, .slice A3 n3 k3] w fun e w' => e = .returned (.bool true) ∧ Below w.heap.size w w' := by
  by_cases hx : x0 < 1 ∨ 16 < x0
  · by_cases hy : x1 < 1 ∨ 16 < x1
    · exact FragTurns_nn x0 hx x1 hy A2 n2 k2 A3 n3 k3 w hn2 hk2 hn3 hk3 ho2 ho3 ht
    · obtain ⟨N, rfl⟩ := Int.eq_ofNat_of_zero_le (show 0 ≤ x1 by omega)
      exact FragTurns_ny x0 hx N (by omega) (by omega) A2 n2 k2 A3 n3 k3 w hn2 hk2 hn3 hk3 ho2 ho3 ht
  · obtain ⟨M, rfl⟩ := Int.eq_ofNat_of_zero_le (show 0 ≤ x0 by omega)
    by_cases hy : x1 < 1 ∨ 16 < x1
    · exact FragTurns_yn M (by omega) (by omega) x1 hy A2 n2 k2 A3 n3 k3 w hn2 hk2 hn3 hk3 ho2 ho3 ht
    · obtain ⟨N, rfl⟩ := Int.eq_ofNat_of_zero_le (show 0 ≤ x1 by omega)
      exact FragTurns_yy M (by omega) (by omega) N (by omega) (by omega) A2 n2 k2 A3 n3 k3 w hn2 hk2 hn3 hk3 ho2 ho3 ht
end Go.Proofs.YtgapkphkcncgeaaDoor
