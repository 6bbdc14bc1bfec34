/-
  One op on both joiners.
-/
import Derived.Test.YtgapkphkcncgeaaDoorJRestP
import Derived.Test.YtgapkphkcncgeaaDoorStruct
import Derived.Deep.RegionHeld3
namespace Go.Proofs.YtgapkphkcncgeaaDoor
open Go.RowKit

theorem Rd.chgZ {w w' : World} {S : Nat → Prop} {B sz n : Nat} {A : Option Addr} {xs : List Value} (h : Rd w B sz A n xs) (hc : Chg S w w') (hB : B ≤ w.heap.size) (hA : 0 < n → ∀ b o s, A = some ⟨b, o, s⟩ → b < B → ¬ S b) : Rd w' B sz A n xs :=
  ⟨h.len, fun hn => by
    obtain ⟨b, off, e, hb, hx⟩ := h.at_ hn
    exact ⟨b, off, e, hb, fun j u hu => (World.cell?_of_block (hc.block b (by omega) (hA hn b off none e hb))).trans (hx j u hu)⟩⟩
theorem Nibs.lt {w : World} (h : Nibs w) : 0 < w.heap.size := by
  rcases Nat.lt_or_ge 0 w.heap.size with h3 | h3
  · exact h3
  · have := h 0 (by omega)
    unfold World.cell? at this
    rw [Array.getElem?_eq_none h3] at this
    cases this
/-- Both joiners, what they own in F: they hold the same chunks. -/
def Pair (w : World) (F : Nat → Prop) (N Ja Jb : Nat) (st : JSt) : Prop :=
  ∃ Fa Fb : Nat → Prop, PJx w Fa N Ja st ∧ RJx w Fb N Jb st ∧ (∀ k, Fa k → F k) ∧ (∀ k, Fb k → F k) ∧ (∀ k, Fa k → ¬ Fb k) ∧ PartsOk N st ∧ (∀ k, F k → k < w.heap.size) ∧ ¬ F 0
theorem Pair.chg {w w' : World} {F S : Nat → Prop} {N Ja Jb : Nat} {st : JSt} (h : Pair w F N Ja Jb st) (hc : Chg S w w') (hS : ∀ k, F k → ¬ S k) : Pair w' F N Ja Jb st := by
  obtain ⟨Fa, Fb, h1, h2, h3, h4, h5, h6, h7, h8⟩ := h
  exact ⟨Fa, Fb, h1.chg hc (fun k hk => hS k (h3 k hk)), h2.chg hc (fun k hk => hS k (h4 k hk)), h3, h4, h5, h6, fun k hk => Nat.lt_of_lt_of_le (h7 k hk) hc.size, h8⟩
/-- What a play leaves. -/
def PlaysOk (w : World) (F : Nat → Prop) (N Ja Jb : Nat) (e : Ending) (w' : World) : Prop :=
  e = .returned (.bool true) ∧ ∃ F' st', Pair w' F' N Ja Jb st' ∧ Moved w w' F F'
theorem num_c (x : Int) (w : World) (h0 : -9223372036854775808 ≤ x) (h1 : x ≤ 9223372036854775807) : Calls Tryd.prog 15 #[.int .i64 x] w fun e w' => e = .returned (.int .i64 x) ∧ w' = w :=
  (num_any x w h0 h1).mono fun _ _ ⟨h, h2⟩ => ⟨h, h2.symm⟩

theorem heldS_lt {N : Nat} {st : JSt} (hok : PartsOk N st) (s : Int) : heldS N st s < 5000 := by
  unfold heldS
  split
  · omega
  · have hp := hok s.toNat (by omega)
    by_cases hne : st s.toNat = []
    · rw [hne]; simp [blobS]
    · have := hp.len; have := hp.lt hne; have := hp.le hne; omega
theorem plays_same {w w0 w' : World} {F : Nat → Prop} {N Ja Jb : Nat} {st : JSt} (h : Pair w F N Ja Jb st) (hb : Below w.heap.size w w0) (hk : Hid (Below w0.heap.size w0 w')) : PlaysOk w F N Ja Jb (.returned (.bool true)) w' :=
  ⟨rfl, F, st, h.chg (Chg.of_below (Below.then hb hk.out) fun _ => False) (fun _ _ h => h), Moved.of_below _ (Below.then hb hk.out)⟩
theorem PHeld_k (J N : Nat) (F : Nat → Prop) (st : JSt) (s : Int) (w0 : World) (h : PJx w0 F N J st) (hok : PartsOk N st) (w : World) (hk : Hid (Below w0.heap.size w0 w)) :
    Calls Tryd.prog 22 #[.pointer (some ⟨J, 0, none⟩), .int .i64 s] w fun e w' => e = .returned (.int .i64 (heldS N st s : Int)) ∧ w = w' := PHeld_any J N F st s w (h.below hk.out) hok
theorem RHeld_k (J N : Nat) (F : Nat → Prop) (st : JSt) (s : Int) (w0 : World) (h : RJx w0 F N J st) (hN : N ≤ 16) (hok : PartsOk N st) (w : World) (hk : Hid (Below w0.heap.size w0 w)) (g i : Nat) (v : Value) (hg : g < w0.heap.size) (hc : w.cell? ⟨g, i, none⟩ = some v) :
    Calls Tryd.prog 32 #[.pointer (some ⟨J, 0, none⟩), .int .i64 s] w fun e w' => e = .returned (.int .i64 (heldS N st s : Int)) ∧ w'.cell? ⟨g, i, none⟩ = some v ∧ Hid (Below w0.heap.size w0 w') :=
  (RHeld_any J N F st s w (h.below hk.out) hN hok).mono fun _ _ ⟨h1, h2⟩ => ⟨h1, ((bcell h2).1 g i (Nat.lt_of_lt_of_le hg hk.out.size)).trans hc, Below.then hk.out h2⟩
section
variable (A : Option Addr) (n cap N Ja Jb B : Nat) (F : Nat → Prop) (st : JSt) (bs : List UInt8) (kd sd : Int) (w : World)
set_option maxRecDepth 100000 in
set_option maxHeartbeats 3200000 in
theorem plays_take (h : Pair w F N Ja Jb st) (hN : N ≤ 16) (hr : RdB w w.heap.size A n bs) (hn : n ≤ cap) (hm : cap ≤ 140737488351232) (hA : 0 < n → ∀ b o s, A = some ⟨b, o, s⟩ → ¬ F b) (ht : Nibs w) :
    Calls Tryd.prog 19 #[.pointer (some ⟨Ja, 0, none⟩), .pointer (some ⟨Jb, 0, none⟩), .agg #[.int .i64 1, .int .i64 sd, .slice A n cap]] w (PlaysOk w F N Ja Jb) := by
  obtain ⟨Fa, Fb, ha, hb, hFa, hFb, hab, hok, hFl, hnb⟩ := h
  have hl := hr.lenB
  have HL := Lib.hid hl
  clear hl
  have hb0 := one_box' w (.cells #[.int .i64 1, .int .i64 sd, .slice A n cap] 41)
  go_enter Tryd.func19, Tryd.ntmps19
  go_wp2_with fail
  obtain ⟨w0, hw0⟩ : ∃ w0, w0 = w.alloc (.cells #[.int .i64 1, .int .i64 sd, .slice A n cap] 41) := ⟨_, rfl⟩
  have hO := Blk.new w 41 #[.int .i64 1, .int .i64 sd, .slice A n cap]
  have hz0 : w0.heap.size = w.heap.size + 1 := by rw [hw0]; simp
  rw [← hw0] at hb0 hO ⊢
  have hs0 := hb0.size
  have hr0 := hr.over hb0
  clear hw0
  refine (spare_any _ _ _ _ w0 hr0 (by omega)).mono ?_
  rintro _ w1 ⟨g, cap1, cur, rest, rfl, hg, h1, h2, hB, hc, hb1⟩
  have HC := Lib.hid hc
  clear hc
  have hs1 := hb1.size
  have hO1 := hO.over hb1
  have c0 : w1.cell? ⟨w.heap.size, 0, none⟩ = some (.int .i64 1) := hO1.cell 0
  have c1 : w1.cell? ⟨w.heap.size, 1, none⟩ = some (.int .i64 sd) := hO1.cell 1
  have c2 : w1.cell? ⟨w.heap.size, 2, none⟩ = some (.slice A n cap) := hO1.cell 2
  go_wp2_with fail
  have hFlt : ∀ k, F k → k < w.heap.size := hFl
  have hb01 : Below w.heap.size w w1 := hb0.trans (hb1.mono hs0)
  have ha1 := ha.below hb01
  have hnl : 0 < w.heap.size := by
    rcases Nat.lt_or_ge 0 w.heap.size with h3 | h3
    · exact h3
    · have := ht 0 (by omega)
      unfold World.cell? at this
      rw [Array.getElem?_eq_none h3] at this
      cases this
  have ht1 := ht.below hb01
  have hrg : RdB w1 w1.heap.size (some ⟨g, 0, none⟩) n bs := by
    refine ⟨by rw [bvs_length, HL.out]; omega, fun _ => ⟨g, 0, rfl, hB.lt, fun j u hu => ?_⟩⟩
    rw [Nat.zero_add, hB.cell, ← Array.getElem?_toList, HC.out, bvs_append, List.append_assoc, List.getElem?_append_left (List.getElem?_eq_some_iff.1 hu).1]
    exact hu
  have hgF : ¬ F g := fun h => by have := hFl g h; omega
  have hcm : cap1 ≤ 9223372036854775807 := by simp only [maxLen] at h2; omega
  refine (PTake_any (some ⟨g, 0, none⟩) n cap1 Ja N Fa st bs sd w1 ha1 hN hok hrg (by omega) hcm (fun _ b o s' e h => by
    injection e with e; injection e with e; subst e; exact hgF (hFa _ h)) ht1 (fun h => hnb (hFa _ h))).mono ?_
  rintro _ w2 ⟨u, b, ok, er, st', Fa', hT, rfl, hret, ha2, hmv⟩
  have hB2 := hB.chg hmv.2 (fun h => hgF (hFa _ h))
  have hs2 := hmv.2.size
  have hO2 := hO1.chg hmv.2 (fun h => by have := hFl _ (hFa _ h); omega)
  have hr2 := (hr.below hb01).chgZ hmv.2 hb01.size (fun hp b o s' e _ h => hA hp b o s' e (hFa _ h))
  have hcs : n ≤ cur.size := by
    have := congrArg List.length HC.out
    rw [List.length_append, bvs_length, List.length_append, HL.out, Array.length_toList] at this
    omega
  have HT := Lib.hid hT
  have HRET := Lib.hid hret
  clear hT hret c0 c1 c2
  have c0 : w2.cell? ⟨w.heap.size, 0, none⟩ = some (.int .i64 1) := hO2.cell 0
  have c1 : w2.cell? ⟨w.heap.size, 1, none⟩ = some (.int .i64 sd) := hO2.cell 1
  have c2 : w2.cell? ⟨w.heap.size, 2, none⟩ = some (.slice A n cap) := hO2.cell 2
  go_wp2_with fail
  refine (intact_yes g n cap1 A cap w.heap.size bs cur rest w2 hB2 HC.out h1 h2 hr2).mono ?_
  rintro _ _ ⟨rfl, rfl⟩
  go_wp2_with fail
  refine (full_any g n cap1 238 cur w2 hB2 hcs (by omega)).mono ?_
  rintro _ w3 ⟨rfl, cur3, hB3, hc3, hch3⟩
  clear hc3
  have hs3 := hch3.size
  have hO3 := hO2.chg hch3 (by omega)
  have hF'g : ¬ Fa' g := fun h => by
    rcases hmv.1 g h with h | h
    · exact hgF (hFa _ h)
    · have := hB.lt; omega
  have ha3 := ha2.chg hch3 (fun k hk e => hF'g (by rw [← e]; exact hk))
  have hb3 : RJx w3 Fb N Jb st := ((hb.below hb01).chg hmv.2 (fun k hk h => hab k h hk)).chg hch3 (fun k hk e => hgF (by rw [← e]; exact hFb _ hk))
  have hr3 := hr2.chgZ hch3 (by omega) (fun _ b o s' e hlt h => by omega)
  clear c0 c1 c2
  have c0 : w3.cell? ⟨w.heap.size, 0, none⟩ = some (.int .i64 1) := hO3.cell 0
  have c1 : w3.cell? ⟨w.heap.size, 1, none⟩ = some (.int .i64 sd) := hO3.cell 1
  have c2 : w3.cell? ⟨w.heap.size, 2, none⟩ = some (.slice A n cap) := hO3.cell 2
  go_wp2_with fail
  refine (RTake_any A n cap Jb N Fb st bs sd w3 hb3 hN hok (hr3.more (by omega)) hn (by omega) (fun hp b o s' e h => hA hp b o s' e (hFb _ h))).mono ?_
  rintro _ w4 ⟨v, b', ok', er', st2, Fb', hT', rfl, hretv, hb4, hmv4⟩
  rw [← HT.out] at hT'
  simp only [Prod.mk.injEq] at hT'
  obtain ⟨⟨rfl, rfl, rfl⟩, rfl⟩ := hT'
  have HRV := Lib.hid hretv
  clear hretv hr2 hr3 hrg
  have hs4 := hmv4.2.size
  have hdis : ∀ k, Fa' k → ¬ Fb' k := fun k hk hk' => by
    have hk2 := ha2.1 k hk
    rcases hmv4.1 k hk' with h | h
    · rcases hmv.1 k hk with h3 | h3
      · exact hab k h3 h
      · have := hFl k (hFb k h); omega
    · omega
  have ha4 := ha3.chg hmv4.2 (fun k hk h => by
    rcases hmv.1 k hk with h3 | h3
    · exact hab k h3 h
    · have := hFl k (hFb k h); omega)
  have hFin : Hid (∃ F' st', Pair w4 F' N Ja Jb st' ∧ Moved w w4 F F') := by
    refine ⟨fun k => Fa' k ∨ Fb' k, st2, ⟨Fa', Fb', ha4, hb4, fun _ h => .inl h, fun _ h => .inr h, hdis, ?_, fun k hk => ?_, fun hk => ?_⟩, fun k hk => ?_, ?_⟩
    · have := takeS_ok hok sd bs
      rw [← HT.out] at this
      exact this
    · rcases hk with hk | hk
      · exact ha4.1 k hk
      · exact hb4.1 k hk
    · rcases hk with hk | hk
      · rcases hmv.1 _ hk with h | h
        · exact hnb (hFa _ h)
        · omega
      · rcases hmv4.1 _ hk with h | h
        · exact hnb (hFb _ h)
        · omega
    · rcases hk with hk | hk
      · rcases hmv.1 _ hk with h | h
        · exact .inl (hFa _ h)
        · exact .inr (by omega)
      · rcases hmv4.1 _ hk with h | h
        · exact .inl (hFb _ h)
        · exact .inr (by omega)
    · refine (((Chg.of_below hb01 F).thenS hmv.2 fun k _ h => hFa k h).thenS hch3 fun k hk e => ?_).thenS hmv4.2 fun k _ h => hFb k h
      omega
  obtain ⟨Av, capv, rfl, hq1, hq2, hrv⟩ := HRV.out
  have HRU : Hid (∃ Au capu, u = .slice Au b'.length capu ∧ RdB w4 w4.heap.size Au b'.length b') := by
    rcases HRET.out with ⟨_, h1, h2⟩ | ⟨_, g', cur', h1, h2, h3, h4, h5⟩
    · exact ⟨none, 0, by rw [h1, h2]; rfl, by rw [h2]; exact Rd.nil_ _⟩
    · have hg'g : g' ≠ g := by
        rintro rfl
        rcases h5 with h5 | h5
        · exact hgF (hFa _ h5)
        · have := hB.lt; omega
      have h2' := (h2.chg hch3 hg'g).chg hmv4.2 (fun h => by
        rcases h5 with h5 | h5
        · exact hab _ h5 h
        · have := hFl _ (hFb _ h); omega)
      refine ⟨_, _, h1, ⟨by rw [bvs_length]; omega, fun _ => ⟨g', 0, rfl, h2'.lt, fun j x hx => ?_⟩⟩⟩
      rw [Nat.zero_add, h2'.cell, ← Array.getElem?_toList, h3]
      exact hx
  obtain ⟨Au, capu, rfl, hru⟩ := HRU.out
  clear HRU
  have hoke : (ok' == ok') = true := by simp
  have hee : ((er' : Int) == (er' : Int)) = true := by simp
  have herr : Hid (er' < 100) := by
    have := congrArg (fun x => x.1.2.2) HT.out
    show er' < 100
    simp only at this
    rw [this]
    unfold takeS
    split <;> (try split) <;> (try split) <;> (try split) <;> (try split) <;> simp
  have her := herr.out
  clear hFa hFb hab hmv hmv4 hch3 hdis ha ha1 ha2 ha3 ha4 hb hb3 hb4 hB2 hB3 hB hok hFl hFlt
  generalize b'.length = L at *
  go_wp2_with fail
  refine (same_yes _ _ _ _ _ _ _ _ b' w4 hru hrv).mono ?_
  rintro _ _ ⟨rfl, rfl⟩
  go_wp2_with fail
  refine (num_any _ _ (by omega) (by omega)).mono ?_
  rintro _ _ ⟨rfl, rfl⟩
  go_wp2_with fail
  refine (num_any _ _ (by omega) (by omega)).mono ?_
  rintro _ _ ⟨rfl, rfl⟩
  go_wp2
  go_ret
  exact ⟨rfl, hFin.out⟩
set_option maxRecDepth 100000 in
set_option maxHeartbeats 3200000 in
theorem plays_held (h : Pair w F N Ja Jb st) (hN : N ≤ 16) :
    Calls Tryd.prog 19 #[.pointer (some ⟨Ja, 0, none⟩), .pointer (some ⟨Jb, 0, none⟩), .agg #[.int .i64 2, .int .i64 sd, .slice A n cap]] w (PlaysOk w F N Ja Jb) := by
  have h0 := h
  obtain ⟨Fa, Fb, ha, hb, hFa, hFb, hab, hok, hFl, hnb⟩ := h
  have hb0 := one_box' w (.cells #[.int .i64 2, .int .i64 sd, .slice A n cap] 41)
  go_enter Tryd.func19, Tryd.ntmps19
  go_wp2_with fail
  obtain ⟨w0, hw0⟩ : ∃ w0, w0 = w.alloc (.cells #[.int .i64 2, .int .i64 sd, .slice A n cap] 41) := ⟨_, rfl⟩
  have hO := Blk.new w 41 #[.int .i64 2, .int .i64 sd, .slice A n cap]
  rw [← hw0] at hb0 hO ⊢
  clear hw0
  have c1 : w0.cell? ⟨w.heap.size, 1, none⟩ = some (.int .i64 sd) := hO.cell 1
  have hhl := heldS_lt hok sd
  have hlt0 := hO.lt
  have ha0 := ha.below hb0
  have hbb0 := hb.below hb0
  have HH0 := Lib.hid h0
  clear h0 hFa hFb hab hFl ha hb
  go_region_held3 (fun w' => w'.cell? ⟨w.heap.size, 1, none⟩ = some (.int .i64 sd) ∧ Hid (Below w0.heap.size w0 w')) ((first | assumption | exact ⟨c1, below_drewN (Below.refl _ _) 1⟩ | (exact ⟨by assumption, by assumption⟩)))
    ((first
      | (go_at_call 22; refine (PHeld_k Ja N Fa st sd w0 ha0 hok _ (by first | assumption | exact And.right ‹_ ∧ Hid (Below w0.heap.size w0 _)›)).mono ?_; rintro _ _ ⟨rfl, rfl⟩)
      | (go_at_call 32; refine (RHeld_k Jb N Fb st sd w0 hbb0 hN hok _ (by first | assumption | exact And.right ‹_ ∧ Hid (Below w0.heap.size w0 _)›) w.heap.size 1 (.int .i64 sd) hlt0 (by first | assumption | exact And.left ‹_ ∧ Hid (Below w0.heap.size w0 _)›)).mono ?_; rintro _ _ ⟨rfl, _, _⟩)))
  all_goals
    go_wp2
    go_ret
    exact plays_same HH0.out hb0 (by first | assumption | exact And.right ‹_ ∧ Hid (Below w0.heap.size w0 _)›)
set_option maxRecDepth 100000 in
set_option maxHeartbeats 3200000 in
theorem plays_reset (h : Pair w F N Ja Jb st) (hN : 1 ≤ N) :
    Calls Tryd.prog 19 #[.pointer (some ⟨Ja, 0, none⟩), .pointer (some ⟨Jb, 0, none⟩), .agg #[.int .i64 3, .int .i64 sd, .slice A n cap]] w (PlaysOk w F N Ja Jb) := by
  obtain ⟨Fa, Fb, ha, hb, hFa, hFb, hab, hok, hFl, hnb⟩ := h
  have hb0 := one_box' w (.cells #[.int .i64 3, .int .i64 sd, .slice A n cap] 41)
  go_enter Tryd.func19, Tryd.ntmps19
  go_wp2_with fail
  generalize w.alloc (.cells #[.int .i64 3, .int .i64 sd, .slice A n cap] 41) = w0 at hb0 ⊢
  have hs0 := hb0.size
  have ha0 := ha.below hb0
  have hbb0 := hb.below hb0
  refine (PReset_any Ja N Fa st w0 ha0 hN).mono ?_
  rintro _ w1 ⟨rfl, ha1, hm1⟩
  have hbb1 := hbb0.chg hm1.2 (fun k hk h => hab k h hk)
  go_wp2_with fail
  refine (RReset_any Jb N Fb st w1 hbb1).mono ?_
  rintro _ w2 ⟨rfl, hb2, hm2⟩
  have ha2 := ha1.chg hm2.2 (fun k hk h => hab k hk h)
  have hFin : Hid (∃ F' st', Pair w2 F' N Ja Jb st' ∧ Moved w w2 F F') :=
    ⟨F, fun _ => [], ⟨Fa, Fb, ha2, hb2, hFa, hFb, hab, fun s _ => Part.nil_, fun k hk => by have := hFl k hk; have := hm1.2.size; have := hm2.2.size; omega, hnb⟩, fun k hk => .inl hk, ((Chg.of_below hb0 F).thenS hm1.2 fun k _ h => hFa k h).thenS hm2.2 fun k _ h => hFb k h⟩
  clear hFa hFb hab hm1 hm2 ha ha0 ha1 ha2 hb hb2 hbb0 hbb1 hok hFl
  go_wp2
  go_ret
  exact ⟨rfl, hFin.out⟩
set_option maxRecDepth 100000 in
set_option maxHeartbeats 3200000 in
theorem plays_other (h : Pair w F N Ja Jb st) (h1 : kd ≠ 1) (h2 : kd ≠ 2) (h3 : kd ≠ 3) :
    Calls Tryd.prog 19 #[.pointer (some ⟨Ja, 0, none⟩), .pointer (some ⟨Jb, 0, none⟩), .agg #[.int .i64 kd, .int .i64 sd, .slice A n cap]] w (PlaysOk w F N Ja Jb) := by
  have hb0 := one_box' w (.cells #[.int .i64 kd, .int .i64 sd, .slice A n cap] 41)
  have hFin : Hid (∃ F' st', Pair (w.alloc (.cells #[.int .i64 kd, .int .i64 sd, .slice A n cap] 41)) F' N Ja Jb st' ∧ Moved w (w.alloc (.cells #[.int .i64 kd, .int .i64 sd, .slice A n cap] 41)) F F') :=
    ⟨F, st, h.chg (Chg.of_below hb0 fun _ => False) (fun _ _ h => h), Moved.of_below _ hb0⟩
  have e1 : (kd == 1) = false := by simpa using h1
  have e2 : (kd == 2) = false := by simpa using h2
  have e3 : (kd == 3) = false := by simpa using h3
  clear h h1 h2 h3 hb0
  go_enter Tryd.func19, Tryd.ntmps19
  go_wp2
  go_ret
  exact ⟨rfl, hFin.out⟩
theorem plays_any (h : Pair w F N Ja Jb st) (hN1 : 1 ≤ N) (hN : N ≤ 16) (hr : RdB w w.heap.size A n bs) (hn : n ≤ cap) (hm : cap ≤ 140737488351232) (hA : 0 < n → ∀ b o s, A = some ⟨b, o, s⟩ → ¬ F b) (ht : Nibs w) :
    Calls Tryd.prog 19 #[.pointer (some ⟨Ja, 0, none⟩), .pointer (some ⟨Jb, 0, none⟩), .agg #[.int .i64 kd, .int .i64 sd, .slice A n cap]] w (PlaysOk w F N Ja Jb) := by
  by_cases h1 : kd = 1
  · subst h1; exact plays_take A n cap N Ja Jb F st bs sd w h hN hr hn hm hA ht
  by_cases h2 : kd = 2
  · subst h2; exact plays_held A n cap N Ja Jb F st sd w h hN
  by_cases h3 : kd = 3
  · subst h3; exact plays_reset A n cap N Ja Jb F st sd w h hN1
  exact plays_other A n cap N Ja Jb F st kd sd w h h1 h2 h3
end
end Go.Proofs.YtgapkphkcncgeaaDoor
