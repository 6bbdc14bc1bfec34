/-
  The program's reader of a file: head.
-/
import Derived.Test.YtpkdalpjfcopbaaDoorKRec
namespace Go.Proofs.YtpkdalpjfcopbaaDoor
open Go.RowKit
def HeadP (w : World) (gr B : Nat) (A : Option Addr) (n cap : Nat) (bs : List UInt8) (e : Ending) (w' : World) : Prop :=
  Chg (fun k => k = gr) w w' ∧ match headR bs with
    | none => Dam e
    | some (g, c) => e = .returned (.tuple #[.int .i64 (g : Int), .int .i64 (c : Int)]) ∧ ∃ A2 c2, RdAt w' gr B A n cap bs 18 (.slice A2 4 c2) ∧ 4 ≤ c2 ∧ RdB w' B A2 4 (part bs 14 4)
theorem magic_iff {l : List UInt8} (h : l.length = 2) : l = [113, 106] ↔ numB l = 29034 := by
  match l, h with
  | [a, b], _ =>
    rw [numB_two]
    have ha : a.toNat < 256 := a.toNat_lt
    have hb : b.toNat < 256 := b.toNat_lt
    constructor
    · intro e
      injection e with e1 e
      injection e with e2 _
      subst e1 e2
      rfl
    · intro e
      have e1 : a = 113 := UInt8.toNat_inj.mp (by show a.toNat = 113; omega)
      have e2 : b = 106 := UInt8.toNat_inj.mp (by show b.toNat = 106; omega)
      rw [e1, e2]
theorem gen_iff (x : Nat) (hx : x < 18446744073709551616) : (1 ≤ IntKind.i64.wrap (x : Int) ∧ IntKind.i64.wrap (x : Int) ≤ 4611686018427387904) ↔ (1 ≤ x ∧ x ≤ 4611686018427387904) := by
  rw [IntKind.wrap_i64]
  omega
theorem num_wrap {l : List UInt8} {m : Nat} (h : l.length = m) (hm : m ≤ 4) : IntKind.i64.wrap ((numB l : Nat) : Int) = ((numB l : Nat) : Int) := by
  have h1 := numB_lt l
  have h2 : 256 ^ l.length ≤ 256 ^ 4 := Nat.pow_le_pow_right (by omega) (by omega)
  exact IntWalk.i64_in _ (by omega)
set_option maxRecDepth 100000 in
set_option maxHeartbeats 1600000 in
theorem head_any {w : World} {gr B n cap : Nat} {A : Option Addr} {bs : List UInt8} {S : Value} (h : RdAt w gr B A n cap bs 0 S) (hn : n ≤ cap) (hc : cap ≤ 9223372036854775807) (ht : Nibs w) (hgn : 0 ≠ gr) :
    Calls Tryd.prog 81 #[.pointer (some ⟨gr, 0, none⟩)] w (HeadP w gr B A n cap bs) := by
  have hl := h.rd.lenB
  have hcm : cap ≤ maxLen := by simp only [maxLen]; omega
  have c0 : w.cell? ⟨gr, 0, none⟩ = some (.slice A n cap) := h.blk.cell 0
  have HN1 := Lib.hid (readN_any h hn hcm 2 (by omega))
  have HL := Lib.hid hl
  have HT := Lib.hid ht
  have HNE := Lib.hid hgn
  clear h hl ht hgn
  have HXD : Hid (headR bs = none → ∀ (e : Ending) (w' : World), Chg (fun k => k = gr) w w' → Dam e → HeadP w gr B A n cap bs e w') := Lib.hid fun hx e w' h1 h2 => ⟨h1, by rw [hx]; exact h2⟩
  have HXS : Hid (∀ g c, headR bs = some (g, c) → ∀ (e : Ending) (w' : World), Chg (fun k => k = gr) w w' → (e = .returned (.tuple #[.int .i64 (g : Int), .int .i64 (c : Int)]) ∧ ∃ A2 c2, RdAt w' gr B A n cap bs 18 (.slice A2 4 c2) ∧ 4 ≤ c2 ∧ RdB w' B A2 4 (part bs 14 4)) → HeadP w gr B A n cap bs e w') := Lib.hid fun g c hx e w' h1 h2 => ⟨h1, by rw [hx]; exact h2⟩
  generalize HeadP w gr B A n cap bs = PP at HXD HXS ⊢
  have HR : Hid (headR bs = if 18 ≤ n ∧ n ≤ 65536 ∧ part bs 0 2 = [113, 106] ∧ 1 ≤ numB (part bs 2 8) ∧ numB (part bs 2 8) ≤ 4611686018427387904 ∧ numB (part bs 14 4) = Crc.crc (part bs 0 14) then some (numB (part bs 2 8), numB (part bs 10 4)) else none) := Lib.hid (by rw [← HL.out]; rfl)
  by_cases hbig : n ≤ 65536
  · have dbig : decide (65536 < (n : Int)) = false := by simp; omega
    by_cases h2 : n < 0 + 2
    · have hx0 : headR bs = none := by rw [HR.out, if_neg (by omega)]
      have HX := Lib.hid (HXD.out hx0)
      clear HXD HXS HR hx0
      go_enter Tryd.func81, Tryd.ntmps81
      go_wp2_with (go_at_call 85; refine HN1.out.mono ?_; rintro e w2 ⟨hc2, hp⟩; rw [if_pos h2] at hp; obtain ⟨q, rfl⟩ := hp)
      exact ⟨rfl, HX.out _ _ hc2 ⟨_, rfl⟩⟩
    · have hw2 := num_wrap (part_length (l := bs) (p := 0) (n := 2) (by have := HL.out; omega)) (by omega)
      have hmi := magic_iff (part_length (l := bs) (p := 0) (n := 2) (by have := HL.out; omega))
      generalize hm : numB (part bs 0 2) = m at hw2 hmi
      have HM := Lib.hid hm
      have HW2 := Lib.hid hw2
      have HMI := Lib.hid hmi
      clear hm hw2 hmi
      by_cases hmg : m = 29034
      · have hb0 : ((m : Int) != 29034) = false := by rw [hmg]; rfl
        have HMG := Lib.hid hmg
        clear hmg
        go_enter Tryd.func81, Tryd.ntmps81
        go_upto_region 3 with (go_at_call 85; refine HN1.out.mono ?_; rintro e w2 ⟨hc2, hp⟩; rw [if_neg h2, HM.out, HW2.out] at hp; obtain ⟨rfl, hat2⟩ := hp)
        have HC2 := Lib.hid hc2
        have HN2 := Lib.hid (readN_any hat2 hn hcm 8 (by omega))
        have HPM : Hid (part bs 0 2 = [113, 106]) := Lib.hid (HMI.out.2 HMG.out)
        clear HN1 c0 hat2 hc2 h2
        by_cases h10 : n < 0 + 2 + 8
        · have hx0 : headR bs = none := by rw [HR.out, if_neg (by omega)]
          have HX := Lib.hid (HXD.out hx0)
          clear HXD HXS HR hx0
          go_wp2_with (go_at_call 85; refine HN2.out.mono ?_; rintro e w3 ⟨hc3, hp⟩; rw [if_pos h10] at hp; obtain ⟨q, rfl⟩ := hp)
          exact ⟨rfl, HX.out _ _ (HC2.out.trans hc3) ⟨_, rfl⟩⟩
        · go_upto_region 4 with (go_at_call 85; refine HN2.out.mono ?_; rintro e w3 ⟨hc3, hp⟩; rw [if_neg h10] at hp; obtain ⟨rfl, hat3⟩ := hp)
          have HC3 := Lib.hid (HC2.out.trans hc3)
          have HN3 := Lib.hid (readN_any hat3 hn hcm 4 (by omega))
          have hgi := gen_iff (numB (part bs 2 8)) (by have := numB_lt (part bs 2 8); rw [part_length (by have := HL.out; omega)] at this; exact this)
          clear HN2 hat3 hc3 HC2
          obtain ⟨G, hG⟩ : ∃ G, G = IntKind.i64.wrap ((numB (part bs 2 8) : Nat) : Int) := ⟨_, rfl⟩
          rw [← hG] at hgi ⊢
          have HGI := Lib.hid hgi
          have HG := Lib.hid hG
          clear hgi hG
          by_cases h14 : n < 0 + 2 + 8 + 4
          · have hx0 : headR bs = none := by rw [HR.out, if_neg (by omega)]
            have HX := Lib.hid (HXD.out hx0)
            clear HXD HXS HR hx0
            go_wp2_with (go_at_call 85; refine HN3.out.mono ?_; rintro e w4 ⟨hc4, hp⟩; rw [if_pos h14] at hp; obtain ⟨q, rfl⟩ := hp)
            exact ⟨rfl, HX.out _ _ (HC3.out.trans hc4) ⟨_, rfl⟩⟩
          · have hw4 := num_wrap (part_length (l := bs) (p := 0 + 2 + 8) (n := 4) (by have := HL.out; omega)) (by omega)
            have HW4 := Lib.hid hw4
            clear hw4
            go_upto_region 5 with (go_at_call 85; refine HN3.out.mono ?_; rintro e w4 ⟨hc4, hp⟩; rw [if_neg h14, HW4.out] at hp; obtain ⟨rfl, hat4⟩ := hp)
            have HC4 := Lib.hid (HC3.out.trans hc4)
            have HAT4 := Lib.hid hat4
            clear HN3 HC3 hat4 hc4
            have e14 : 0 + 2 + 8 + 4 = 14 := rfl
            rw [e14] at HAT4
            have HSE := Lib.hid (seal_any HAT4.out hn hc (by omega) 0 (by omega) none 0 0 [] (Rd.nil_ none) (by omega) (HT.out.chg HC4.out HNE.out) HNE.out)
            obtain ⟨cr, hcr⟩ : ∃ cr, cr = Crc.crc (part bs 0 14) := ⟨_, rfl⟩
            rw [List.nil_append, Nat.sub_zero, ← hcr] at HSE
            have HCR := Lib.hid hcr
            clear hcr
            by_cases hG1 : G < 1
            · have hx0 : headR bs = none := by rw [HR.out, if_neg (fun h => by have := HGI.out.2 ⟨h.2.2.2.1, h.2.2.2.2.1⟩; omega)]
              have HX := Lib.hid (HXD.out hx0)
              have dg1 : decide (G < 1) = true := by simpa using hG1
              clear HXD HXS HR hx0
              go_wp2_with fail
              exact ⟨rfl, HX.out _ _ HC4.out ⟨_, rfl⟩⟩
            · have dg1 : decide (G < 1) = false := by simpa using hG1
              by_cases hG2 : 4611686018427387904 < G
              · have hx0 : headR bs = none := by rw [HR.out, if_neg (fun h => by have := HGI.out.2 ⟨h.2.2.2.1, h.2.2.2.2.1⟩; omega)]
                have HX := Lib.hid (HXD.out hx0)
                have dg2 : decide (4611686018427387904 < G) = true := by simpa using hG2
                clear HXD HXS HR hx0
                go_wp2_with fail
                exact ⟨rfl, HX.out _ _ HC4.out ⟨_, rfl⟩⟩
              · have dg2 : decide (4611686018427387904 < G) = false := by simpa using hG2
                have hgg := HGI.out.1 ⟨by omega, by omega⟩
                have hGn : G = ((numB (part bs 2 8) : Nat) : Int) := by
                  have h1 := HG.out
                  rw [IntKind.wrap_i64] at h1
                  omega
                rw [hGn]
                rw [hGn] at dg1 dg2
                have HGG := Lib.hid hgg
                clear hGn hgg HG HGI hG1 hG2
                by_cases hgood : 18 ≤ n ∧ numB (part bs 14 4) = cr
                · have hx0 : headR bs = some (numB (part bs 2 8), numB (part bs 10 4)) := by
                    rw [HR.out, if_pos ⟨hgood.1, hbig, HPM.out, HGG.out.1, HGG.out.2, by rw [← HCR.out]; exact hgood.2⟩]
                  have HX := Lib.hid (HXS.out _ _ hx0)
                  have HGD := Lib.hid hgood
                  clear HXD HXS HR hx0 hgood
                  go_wp2_with (go_at_call 86; refine HSE.out.mono ?_; rintro e w5 ⟨hc5, hp⟩; rw [if_neg (by have := HGD.out.1; omega), if_pos HGD.out.2] at hp; obtain ⟨rfl, A2, cc2, hat5, hcc2, hrd5⟩ := hp)
                  exact HX.out _ _ (HC4.out.trans hc5) ⟨rfl, A2, cc2, hat5, hcc2, hrd5⟩
                · have hx0 : headR bs = none := by rw [HR.out, if_neg (fun h => hgood ⟨h.1, by rw [HCR.out]; exact h.2.2.2.2.2⟩)]
                  have HX := Lib.hid (HXD.out hx0)
                  have HGD := Lib.hid hgood
                  clear HXD HXS HR hx0 hgood
                  go_wp2_with (go_at_call 86; refine HSE.out.mono ?_; rintro e w5 ⟨hc5, hp⟩; obtain ⟨qq, rfl⟩ := seal_bad hp (fun h => HGD.out ⟨by omega, h.2⟩))
                  exact ⟨rfl, HX.out _ _ (HC4.out.trans hc5) ⟨_, rfl⟩⟩
      · have hb0 : ((m : Int) != 29034) = true := by simp only [bne_iff_ne, ne_eq]; omega
        have hx0 : headR bs = none := by rw [HR.out, if_neg (fun h => hmg (HMI.out.1 h.2.2.1))]
        have HX := Lib.hid (HXD.out hx0)
        clear HXD HXS HR hx0 hmg
        go_enter Tryd.func81, Tryd.ntmps81
        go_wp2_with (go_at_call 85; refine HN1.out.mono ?_; rintro e w2 ⟨hc2, hp⟩; rw [if_neg h2, HM.out, HW2.out] at hp; obtain ⟨rfl, hat2⟩ := hp)
        exact ⟨rfl, HX.out _ _ hc2 ⟨_, rfl⟩⟩
  · have dbig : 65536 < (n : Int) := by omega
    have dbig2 : decide (65536 < (n : Int)) = true := by simpa using dbig
    have hx0 : headR bs = none := by rw [HR.out, if_neg (by omega)]
    have HX := Lib.hid (HXD.out hx0)
    clear HXD HXS HR hx0
    go_enter Tryd.func81, Tryd.ntmps81
    go_wp2_with fail
    exact ⟨rfl, HX.out _ _ (Chg.refl _ _) ⟨_, rfl⟩⟩
end Go.Proofs.YtpkdalpjfcopbaaDoor
