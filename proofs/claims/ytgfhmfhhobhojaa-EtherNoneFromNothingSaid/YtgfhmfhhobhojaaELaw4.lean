/-
  The ether statements' helper: packets, on both networks: Take.
-/
import Derived.Test.YtgfhmfhhobhojaaELaw3
namespace Go.Proofs.Ytgfhmfhhobhojaa
open Go.ChangeShapes Go.WideShapes Go.ChangeAt Go.RowKit
def TakeA (w : World) (F : Nat → Prop) (c : ECfg) (D m : Nat) (p' : PV) (f : Flt) (err : Int) (e : Ending) (w' : World) : Prop :=
  ∃ A cap, e = .returned (.tuple #[.agg #[.int .i64 (f.id : Int), .int .i64 (f.src : Int), .int .i64 (f.dst : Int), .int .i64 (f.due : Int), .slice A f.bs.length cap], .int .i64 err]) ∧ (∃ F', PNx w' F' c D p' m ∧ (∀ k, F' k → F k ∨ w.heap.size ≤ k) ∧ Chg F w w') ∧ RdB w' w'.heap.size A f.bs.length f.bs ∧ ∀ b o s, 0 < f.bs.length → A = some ⟨b, o, s⟩ → F b
def TakeB (w : World) (F : Nat → Prop) (c : ECfg) (D : Nat) (r' : RV) (f : Flt) (err : Int) (e : Ending) (w' : World) : Prop :=
  ∃ A cap, e = .returned (.tuple #[.agg #[.int .i64 (f.id : Int), .int .i64 (f.src : Int), .int .i64 (f.dst : Int), .int .i64 (f.due : Int), .slice A f.bs.length cap], .int .i64 err]) ∧ (∃ F', RNx w' F' c D r' ∧ (∀ k, F' k → F k ∨ w.heap.size ≤ k) ∧ Chg F w w') ∧ RdB w' w'.heap.size A f.bs.length f.bs
def Flt.zero : Flt := ⟨0, 0, 0, 0, []⟩
theorem TakeA.no {w : World} {F : Nat → Prop} {c : ECfg} {D m : Nat} {p : PV} {err : Int} {e : Ending} {w' : World} (h : TakeNo w F c D p m err e w') : TakeA w F c D m p Flt.zero err e w' := by
  obtain ⟨h1, h2, h3⟩ := h
  exact ⟨none, 0, h1, ⟨F, h2, fun _ h => .inl h, Chg.of_below h3 F⟩, Rd.nil_ _, fun b o s hn => absurd hn (by simp [Flt.zero])⟩
theorem TakeA.yes {w : World} {F : Nat → Prop} {c : ECfg} {D m k : Nat} {p : PV} {f : Flt} {e : Ending} {w' : World} (_hF : ∀ k, F k → k < w.heap.size) (h : TakeYes w F c D p m k f e w') : TakeA w F c D m { p with way := p.way.eraseIdx k } f 0 e w' := by
  obtain ⟨y, h1, h2, h3, h4, h5⟩ := h
  refine ⟨some ⟨y, 0, none⟩, f.bs.length, h1, ⟨F, h2, fun _ h => .inl h, h4⟩, ⟨by rw [bvs_length, Nat.mul_one], fun _ => ⟨y, 0, rfl, h3.lt, fun q u hu => by rw [Nat.zero_add, h3.cell, List.getElem?_toArray]; exact hu⟩⟩, fun b o s _ e => ?_⟩
  injection e with e
  injection e with e
  rw [← e]; exact h5
theorem TakeB.no {w : World} {F : Nat → Prop} {c : ECfg} {D : Nat} {r : RV} {err : Int} {e : Ending} {w' : World} (h : RTakeNo w F c D r err e w') : TakeB w F c D r Flt.zero err e w' := by
  obtain ⟨h1, h2, h3⟩ := h
  exact ⟨none, 0, h1, ⟨F, h2, fun _ h => .inl h, Chg.of_below h3 F⟩, Rd.nil_ _⟩
theorem TakeB.yes {w : World} {F : Nat → Prop} {c : ECfg} {D i : Nat} {r : RV} {f : Flt} {e : Ending} {w' : World} (h : RTakeYes w F c D r i f e w') : TakeB w F c D { r with all := r.all.set i (f, true) } f 0 e w' := by
  obtain ⟨uA, uc, h1, h2, h3, h4⟩ := h
  exact ⟨uA, uc, h1, ⟨F, h2, fun _ h => .inl h, h4⟩, Rd.of_own h3⟩
set_option maxRecDepth 100000 in
set_option maxHeartbeats 3200000 in
theorem take_both {w : World} {F1 F2 : Nat → Prop} {c : ECfg} {D K m : Nat} {p p' : PV} {r r' : RV} {f : Flt} {err : Int} (h : Duo w F1 F2 c D K m p r) (ht : TwinS c p' r' (m + 1)) (herr : 0 ≤ err ∧ err ≤ 100) (a b n : Int) (BA SA : Option Addr) (bn bc sn sc : Nat)
    (hP : ∀ W, Duo W F1 F2 c D K m p r → Calls Try.prog 38 #[.pointer (some ⟨D, 0, none⟩), .int .i64 a] W (TakeA W F1 c D m p' f err))
    (hR : ∀ W, RNx W F2 c K r → Calls Try.prog 74 #[.pointer (some ⟨K, 0, none⟩), .int .i64 a] W (TakeB W F2 c K r' f err)) : Calls Try.prog 53 #[.pointer (some ⟨D, 0, none⟩), .pointer (some ⟨K, 0, none⟩), .agg #[.int .i64 12, .int .i64 a, .int .i64 b, .int .i64 n, .slice BA bn bc, .slice SA sn sc]] w (NextR w F1 F2 c D K m) := by
  have hb0 := one_box' w (.cells #[.int .i64 12, .int .i64 a, .int .i64 b, .int .i64 n, .slice BA bn bc, .slice SA sn sc] 33)
  have hE := Blk.new w 33 #[.int .i64 12, .int .i64 a, .int .i64 b, .int .i64 n, .slice BA bn bc, .slice SA sn sc]
  obtain ⟨w0, hw0⟩ : ∃ w0, w0 = w.alloc (.cells #[.int .i64 12, .int .i64 a, .int .i64 b, .int .i64 n, .slice BA bn bc, .slice SA sn sc] 33) := ⟨_, rfl⟩
  rw [← hw0] at hb0 hE
  have h0 := h.below hb0
  have HW0 := Lib.hid hw0
  have HB0 := Lib.hid hb0
  have HH0 := Lib.hid h0
  have HE := Lib.hid hE
  have HER := Lib.hid herr
  have HT := Lib.hid ht
  have x0 : w0.cell? ⟨w.heap.size, 0, none⟩ = some (.int .i64 12) := hE.cell 0
  have x1 : w0.cell? ⟨w.heap.size, 1, none⟩ = some (.int .i64 a) := hE.cell 1
  have HNW : Hid (¬ F1 w.heap.size) := Lib.hid fun hf => Nat.lt_irrefl _ (h.pn.1 _ hf)
  have HP := Lib.hid (hP w0 h0)
  have HR := Lib.hid hR
  have ez : (err == err) = true := by simp
  have hsz0 : w.heap.size < w0.heap.size := hE.lt
  clear hw0 hb0 hE h0 h hP hR ht herr
  go_enter Try.func53, Try.ntmps53
  go_upto_region 1 with fail
  rw [← HW0.out]
  go_upto_region 22 with (go_at_call 38; refine HP.out.mono ?_; rintro _ w1 ⟨A1, cap1, rfl, ⟨G1, hp1, hg1, hc1⟩, hr1, hf1⟩; have HS1 := Lib.hid (And.intro hp1 (And.intro hg1 hc1)); have HRD1 := Lib.hid (And.intro hr1 hf1); clear hp1 hg1 hc1 hr1 hf1)
  have hst : StepP w0 F1 c D m (.int .i64 0) p' (.returned (.int .i64 0)) w1 := ⟨rfl, G1, HS1.out.1, HS1.out.2.1, HS1.out.2.2⟩
  have hRN1 := (HH0.out.stepP hst).1
  have HST := Lib.hid hst
  obtain ⟨wa, hwa⟩ : ∃ wa, wa = w1.alloc (.cells #[.int .i64 (f.id : Int), .int .i64 (f.src : Int), .int .i64 (f.dst : Int), .int .i64 (f.due : Int), .slice A1 f.bs.length cap1] 48) := ⟨_, rfl⟩
  have hba := one_box' w1 (.cells #[.int .i64 (f.id : Int), .int .i64 (f.src : Int), .int .i64 (f.dst : Int), .int .i64 (f.due : Int), .slice A1 f.bs.length cap1] 48)
  have hY1 := Blk.new w1 48 #[.int .i64 (f.id : Int), .int .i64 (f.src : Int), .int .i64 (f.dst : Int), .int .i64 (f.due : Int), .slice A1 f.bs.length cap1]
  rw [← hwa] at hba hY1
  rw [← hwa]
  have hXa := (HE.out.chg HS1.out.2.2 HNW.out).over hba
  have HRa := Lib.hid (HR.out wa (hRN1.below hba))
  have HF2 : Hid (∀ k, F2 k → k < w0.heap.size) := Lib.hid HH0.out.rn.1
  have HBA := Lib.hid hba
  have HY1 := Lib.hid hY1
  have hs1 := HS1.out.2.2.size
  have hsa := hba.size
  clear x0 x1
  have x1 : wa.cell? ⟨w.heap.size, 1, none⟩ = some (.int .i64 a) := hXa.cell 1
  clear hst hRN1 hwa hba hY1 hXa
  go_upto_region 23 with (go_at_call 74; refine HRa.out.mono ?_; rintro _ w2 ⟨A2, cap2, rfl, ⟨G2, hp2, hg2, hc2⟩, hr2⟩; have HS2 := Lib.hid (And.intro hp2 (And.intro hg2 hc2)); have HRD2 := Lib.hid hr2; clear hp2 hg2 hc2 hr2)
  obtain ⟨wb, hwb⟩ : ∃ wb, wb = w2.alloc (.cells #[.int .i64 (f.id : Int), .int .i64 (f.src : Int), .int .i64 (f.dst : Int), .int .i64 (f.due : Int), .slice A2 f.bs.length cap2] 48) := ⟨_, rfl⟩
  have hbb := one_box' w2 (.cells #[.int .i64 (f.id : Int), .int .i64 (f.src : Int), .int .i64 (f.dst : Int), .int .i64 (f.due : Int), .slice A2 f.bs.length cap2] 48)
  have hY2 := Blk.new w2 48 #[.int .i64 (f.id : Int), .int .i64 (f.src : Int), .int .i64 (f.dst : Int), .int .i64 (f.due : Int), .slice A2 f.bs.length cap2]
  rw [← hwb] at hbb hY2
  rw [← hwb]
  have hc2 := HS2.out.2.2
  have hs2 := hc2.size
  have hN1 : ¬ F2 w1.heap.size := fun e => by have := HF2.out _ e; omega
  have hY1b := (HY1.out.chg hc2 hN1).over hbb
  have hRd1 : RdB wb wb.heap.size A1 f.bs.length f.bs := by
    have h1 := HRD1.out.1.below HBA.out
    refine ⟨h1.len, fun hn => ?_⟩
    obtain ⟨b', off, e, hb, hcell⟩ := h1.at_ hn
    have hnF : ¬ F2 b' := HH0.out.ne _ (HRD1.out.2 b' off none hn e)
    refine ⟨b', off, e, by have := hbb.size; omega, fun j u hu => ?_⟩
    have e1 : w2.cell? ⟨b', off + j, none⟩ = wa.cell? ⟨b', off + j, none⟩ := World.cell?_of_block (hc2.block b' (by omega) hnF)
    exact ((hbb.cell (p := ⟨b', off + j, none⟩) (by show b' < w2.heap.size; omega)).trans e1).trans (hcell j u hu)
  have HAL := Lib.hid (alike_yes f A1 A2 cap1 cap2 hRd1 ((HRD2.out.below hbb).more hbb.size))
  have HST2 : Hid (StepR w1 F2 c K (.int .i64 0) r' (.returned (.int .i64 0)) w2) := Lib.hid (StepR.below (fun k hk => by have := HF2.out k hk; omega) HBA.out ⟨rfl, G2, HS2.out.1, HS2.out.2.1, HS2.out.2.2⟩)
  have HBB := Lib.hid hbb
  have y0 : wb.cell? ⟨w1.heap.size, 0, none⟩ = some (.int .i64 (f.id : Int)) := hY1b.cell 0
  have y1 : wb.cell? ⟨w1.heap.size, 1, none⟩ = some (.int .i64 (f.src : Int)) := hY1b.cell 1
  have y2 : wb.cell? ⟨w1.heap.size, 2, none⟩ = some (.int .i64 (f.dst : Int)) := hY1b.cell 2
  have y3 : wb.cell? ⟨w1.heap.size, 3, none⟩ = some (.int .i64 (f.due : Int)) := hY1b.cell 3
  have y4 : wb.cell? ⟨w1.heap.size, 4, none⟩ = some (.slice A1 f.bs.length cap1) := hY1b.cell 4
  have z0 : wb.cell? ⟨w2.heap.size, 0, none⟩ = some (.int .i64 (f.id : Int)) := hY2.cell 0
  have z1 : wb.cell? ⟨w2.heap.size, 1, none⟩ = some (.int .i64 (f.src : Int)) := hY2.cell 1
  have z2 : wb.cell? ⟨w2.heap.size, 2, none⟩ = some (.int .i64 (f.dst : Int)) := hY2.cell 2
  have z3 : wb.cell? ⟨w2.heap.size, 3, none⟩ = some (.int .i64 (f.due : Int)) := hY2.cell 3
  have z4 : wb.cell? ⟨w2.heap.size, 4, none⟩ = some (.slice A2 f.bs.length cap2) := hY2.cell 4
  clear hwb hbb hY2 hY1b hRd1 hc2 hN1 x1
  go_wp2_with (first
    | (go_at_call 55; refine HAL.out.mono ?_; rintro _ w4 ⟨rfl, hb4⟩; have HB4 := Lib.hid hb4; clear hb4)
    | (go_at_call 30; refine (num_any _ _ (by have := HER.out; omega) (by have := HER.out; omega)).mono ?_; rintro _ _ ⟨rfl, rfl⟩))
  go_ret
  obtain ⟨G1', G2', hn⟩ := HH0.out.both HST.out HST2.out (Nat.le_succ m) HT.out
  exact ⟨rfl, _, _, G1', G2', ((hn.below (HBB.out.trans (HB4.out.mono HBB.out.size)))).ahead HB0.out⟩
theorem packets_12 {w : World} {F1 F2 : Nat → Prop} {c : ECfg} {D K m : Nat} {p : PV} {r : RV} (hc : c.Ok) (h : Duo w F1 F2 c D K m p r) (hm : m ≤ 16777216) (a b n : Int) (BA SA : Option Addr) (bn bc sn sc : Nat) : Calls Try.prog 53 #[.pointer (some ⟨D, 0, none⟩), .pointer (some ⟨K, 0, none⟩), .agg #[.int .i64 12, .int .i64 a, .int .i64 b, .int .i64 n, .slice BA bn bc, .slice SA sn sc]] w (NextR w F1 F2 c D K m) := by
  obtain ⟨hfp, hfr⟩ : Fine p m ∧ RFine r := by
    rcases h.tw.fine (by omega) (Nat.le_refl m) with h1 | h1
    · exact h1
    · exact absurd hc h1
  have h1 := h.tw.more (Nat.le_succ m)
  by_cases hno : a < 0 ∨ (p.way.length : Int) ≤ a
  · refine take_both h h1 (by decide : (0 : Int) ≤ 34 ∧ (34 : Int) ≤ 100) a b n BA SA bn bc sn sc (fun W hW => (Take_none hc hW.pn hfp a hno).mono fun _ _ => TakeA.no) fun W hW => (RTake_none hc hW hfr a (by rw [← h.tw.way]; exact hno)).mono fun _ _ => TakeB.no
  · obtain ⟨k, hk, hkl⟩ : ∃ k : Nat, a = (k : Int) ∧ k < p.way.length := ⟨a.toNat, by omega, by omega⟩
    have hkf : p.way[k]? = some p.way[k] := List.getElem?_eq_getElem hkl
    obtain ⟨f, hf⟩ : ∃ f, f = p.way[k] := ⟨_, rfl⟩
    rw [← hf] at hkf
    obtain ⟨i, hki, hfi⟩ := h.tw.at_some hkf
    have hfm : f ∈ wayOf r.all := by rw [← h.tw.way]; exact List.mem_of_getElem? hkf
    have hg := h.tw.goneE hfm
    have hG : Go.Proofs.Ytgfhmfhhobhojaa.goneE c p f = goneRE r f := hg
    unfold Go.Proofs.Ytgfhmfhhobhojaa.goneE goneRE at hg
    cases hs : r.shut f.src f.dst with
    | true =>
      have ho : openB c p.shut (f.src : Int) (f.dst : Int) = false := by
        cases e : openB c p.shut (f.src : Int) (f.dst : Int) with
        | false => rfl
        | true =>
          rw [if_pos e, if_pos hs] at hg
          split at hg <;> omega
      exact take_both h h1 (by decide : (0 : Int) ≤ 30 ∧ (30 : Int) ≤ 100) a b n BA SA bn bc sn sc (fun W hW => (Take_shut hc hW.pn hfp a hkf hk ho).mono fun _ _ => TakeA.no) fun W hW => (RTake_shut hc hW hfr a hki hfi hk hs).mono fun _ _ => TakeB.no
    | false =>
      have ho : openB c p.shut (f.src : Int) (f.dst : Int) = true := by
        cases e : openB c p.shut (f.src : Int) (f.dst : Int) with
        | true => rfl
        | false =>
          rw [if_neg (by simp [e]), if_neg (by simp [hs])] at hg
          split at hg <;> omega
      rw [if_pos ho, hs] at hg
      simp only [Bool.false_eq_true, if_false] at hg
      cases hu : r.up f.dst with
      | true =>
        have hup : upA c p.down (f.dst : Int) = true := by
          cases e : upA c p.down (f.dst : Int) with
          | true => rfl
          | false => rw [e, hu] at hg; simp at hg
        exact take_both h (h.tw.gone hki hfi) (by decide : (0 : Int) ≤ 0 ∧ (0 : Int) ≤ 100) a b n BA SA bn bc sn sc (fun W hW => (Take_yes hc hW.pn hfp a hkf hk ho hup).mono fun _ _ => TakeA.yes hW.pn.1) fun W hW => (RTake_yes hc hW hfr a hki hfi hk hs hu).mono fun _ _ => TakeB.yes
      | false =>
        have hup : upA c p.down (f.dst : Int) = false := by
          cases e : upA c p.down (f.dst : Int) with
          | false => rfl
          | true => rw [e, hu] at hg; simp at hg
        exact take_both h h1 (by decide : (0 : Int) ≤ 32 ∧ (32 : Int) ≤ 100) a b n BA SA bn bc sn sc (fun W hW => (Take_down hc hW.pn hfp a hkf hk ho hup).mono fun _ _ => TakeA.no) fun W hW => (RTake_down hc hW hfr a hki hfi hk hs hu).mono fun _ _ => TakeB.no
end Go.Proofs.Ytgfhmfhhobhojaa
