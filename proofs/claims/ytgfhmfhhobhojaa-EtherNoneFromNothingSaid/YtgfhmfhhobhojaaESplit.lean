/-
  The program's network: split.
-/
import Derived.Test.YtgfhmfhhobhojaaETurn
namespace Go.Proofs.Ytgfhmfhhobhojaa
open Go.ChangeShapes Go.WideShapes Go.ChangeAt Go.RowKit
variable {w : World} {F : Nat → Prop} {c : ECfg} {D : Nat} {p : PV} {m : Nat}
def splitOk (c : ECfg) (sides : List Int) : Prop := sides.length = c.n ∧ ∀ s ∈ sides, 0 ≤ s ∧ s < 16
def splitS (c : ECfg) (sides : List Int) : Nat → Nat → Bool := fun a b => decide (a < c.n ∧ b < c.n ∧ sides.getD a 0 ≠ sides.getD b 0)
def splitN (c : ECfg) (sides : List Int) (k l : Nat) : Nat → Nat → Nat := fun a b => if (a < k ∨ (a = k ∧ b < l)) ∧ b < c.n ∧ sides.getD a 0 ≠ sides.getD b 0 then 1 else 0
theorem splitN_row (c : ECfg) (sides : List Int) (k : Nat) : splitN c sides k c.n = splitN c sides (k + 1) 0 := by
  funext a b
  unfold splitN
  have : ((a < k ∨ (a = k ∧ b < c.n)) ∧ b < c.n ∧ sides.getD a 0 ≠ sides.getD b 0) ↔ ((a < k + 1 ∨ (a = k + 1 ∧ b < 0)) ∧ b < c.n ∧ sides.getD a 0 ≠ sides.getD b 0) := by
    constructor
    · rintro ⟨h1, h2, h3⟩; exact ⟨by omega, h2, h3⟩
    · rintro ⟨h1, h2, h3⟩; exact ⟨by omega, h2, h3⟩
  simp only [this]
theorem splitN_eq {c : ECfg} {sides : List Int} {k l : Nat} (h : sides.getD k 0 = sides.getD l 0) : splitN c sides k l = splitN c sides k (l + 1) := by
  funext a b
  unfold splitN
  have : ((a < k ∨ (a = k ∧ b < l)) ∧ b < c.n ∧ sides.getD a 0 ≠ sides.getD b 0) ↔ ((a < k ∨ (a = k ∧ b < l + 1)) ∧ b < c.n ∧ sides.getD a 0 ≠ sides.getD b 0) := by
    constructor
    · rintro ⟨h1, h2, h3⟩; exact ⟨by omega, h2, h3⟩
    · rintro ⟨h1, h2, h3⟩
      refine ⟨?_, h2, h3⟩
      rcases h1 with h1 | ⟨rfl, h1⟩
      · exact .inl h1
      · by_cases e : b = l
        · subst e; exact absurd h h3
        · exact .inr ⟨rfl, by omega⟩
  simp only [this]
theorem splitN_ne {c : ECfg} {sides : List Int} {k l : Nat} (h : sides.getD k 0 ≠ sides.getD l 0) (hl : l < c.n) : upd2 (splitN c sides k l) k l 1 = splitN c sides k (l + 1) := by
  funext a b
  unfold upd2 splitN
  by_cases e : a = k ∧ b = l
  · obtain ⟨rfl, rfl⟩ := e
    rw [if_pos ⟨rfl, rfl⟩, if_pos ⟨by omega, hl, h⟩]
  · rw [if_neg e]
    have : ((a < k ∨ (a = k ∧ b < l)) ∧ b < c.n ∧ sides.getD a 0 ≠ sides.getD b 0) ↔ ((a < k ∨ (a = k ∧ b < l + 1)) ∧ b < c.n ∧ sides.getD a 0 ≠ sides.getD b 0) := by
      constructor
      · rintro ⟨h1, h2, h3⟩; exact ⟨by omega, h2, h3⟩
      · rintro ⟨h1, h2, h3⟩; exact ⟨by omega, h2, h3⟩
    simp only [this]
theorem splitN_end (c : ECfg) (sides : List Int) : splitN c sides c.n 0 = fun a b => if splitS c sides a b = true then 1 else 0 := by
  funext a b
  unfold splitN splitS
  simp only [decide_eq_true_eq]
  have : ((a < c.n ∨ (a = c.n ∧ b < 0)) ∧ b < c.n ∧ sides.getD a 0 ≠ sides.getD b 0) ↔ (a < c.n ∧ b < c.n ∧ sides.getD a 0 ≠ sides.getD b 0) := by
    constructor
    · rintro ⟨h1, h2, h3⟩; exact ⟨by omega, h2, h3⟩
    · rintro ⟨h1, h2, h3⟩; exact ⟨.inl h1, h2, h3⟩
  simp only [this]
def splitP (c : ECfg) (p : PV) (sides : List Int) : PV := { p with shut := splitS c sides }
def SplitR (w : World) (F : Nat → Prop) (c : ECfg) (D : Nat) (p : PV) (m : Nat) (sides : List Int) (e : Ending) (w' : World) : Prop :=
  (splitOk c sides ∧ StepP w F c D m (.int .i64 0) (splitP c p sides) e w') ∨ (¬ splitOk c sides ∧ StepP w F c D m (.int .i64 1) p e w')
set_option maxRecDepth 100000 in
set_option maxHeartbeats 3200000 in
theorem split_any (hc : c.Ok) (h : PNx w F c D p m) (hm : m < 17592186044416) (SA : Option Addr) (sn sc : Nat) (sides : List Int) (hr : RdI w w.heap.size SA sn sides) (hn0 : sn ≤ 140737488351232) (hSA : 0 < sn → ∀ b o s, SA = some ⟨b, o, s⟩ → ¬ F b) : Calls Try.prog 43 #[.pointer (some ⟨D, 0, none⟩), .slice SA sn sc] w (SplitR w F c D p (m + 1) sides) := by
  have hn := hc.2.1
  have hlen := hr.lenI
  have HX := Lib.hid h
  obtain ⟨hF, P, S, L, v, X, hP⟩ := h
  have HF := Lib.hid hF
  have HP := Lib.hid hP
  obtain ⟨c0, c1, c2, c3, c4, c5, c6⟩ := hP.cell
  have HR := Lib.hid hr
  have HLN := Lib.hid hlen
  clear hF hP hlen hr c0 c1 c2 c5 c6
  by_cases hl : sn = c.n
  · have hl0 : ((sn : Int) != (c.n : Int)) = false := by simp [hl]
    have HL := Lib.hid hl
    clear hl
    go_enter Try.func43, Try.ntmps43
    go_wp2_with fail
    go_loopw [6, 21] (fun _ i wr => ∃ k : Nat, k ≤ sn ∧ i = .int .i64 (k : Int) ∧ (∀ s ∈ sides.take k, 0 ≤ s ∧ s < 16) ∧ Hid (Below w.heap.size w wr)) (fun _ i _ => sn - (intOf i).toNat)
    case atStart => exact ⟨0, by omega, rfl, by simp, Lib.hid (Below.refl _ _)⟩
    case round =>
      obtain ⟨k, hk, rfl, hall, HB⟩ := hrel
      have c4' : wr.cell? ⟨D, 4, none⟩ = some (.map (some S)) := (HP.out.below HF.out HB.out).blk.cell 4
      by_cases hlt : k < sn
      · have hI : (k : Int) < (sn : Int) := by omega
        obtain ⟨b, off, x, rfl, hbl, hx, hcx⟩ := (HR.out.below HB.out).int hlt
        have hxm : x ∈ sides := List.mem_of_getElem? hx
        have HXM := Lib.hid hxm
        have HT : Hid (sides.take (k + 1) = sides.take k ++ [x]) := Lib.hid (by rw [List.take_add_one, hx]; rfl)
        have HALL := Lib.hid hall
        clear hx hxm hall c4'
        by_cases h1 : x < 0
        · have HS : Hid (SplitR w F c D p (m + 1) sides (.returned (.int .i64 1)) wr) := Lib.hid (.inr ⟨fun h => by have := h.2 x HXM.out; omega, StepP.same (HX.out.mono (Nat.le_succ m)) HB.out⟩)
          go_wp2
          go_ret
          exact HS.out
        · by_cases h2 : x ≥ 16
          · have HS : Hid (SplitR w F c D p (m + 1) sides (.returned (.int .i64 1)) wr) := Lib.hid (.inr ⟨fun h => by have := h.2 x HXM.out; omega, StepP.same (HX.out.mono (Nat.le_succ m)) HB.out⟩)
            go_wp2
            go_ret
            exact HS.out
          · go_wp2
            go_roundw
            case rel =>
              refine ⟨k + 1, by omega, by go_num, fun s hs => ?_, HB⟩
              rw [HT.out] at hs
              rcases List.mem_append.1 hs with h | h
              · exact HALL.out s h
              · simp only [List.mem_cons, List.not_mem_nil, or_false] at h
                subst h
                omega
            case measure => simp [intOf] <;> omega
      · obtain rfl : k = sn := by omega
        have HOK : Hid (splitOk c sides) := Lib.hid ⟨by rw [HLN.out, HL.out], by rwa [List.take_of_length_le (by rw [HLN.out]; omega)] at hall⟩
        have HPr := Lib.hid (HP.out.below HF.out HB.out)
        clear hall
        go_upto_region 10 with (refine mapClear (by rfl) _ (by rfl) (by rfl) HPr.out.shut ?_; intro w1 hz1 hg1)
        have HG : Hid (Chg (fun j => j = S) w w1) := Lib.hid ((Chg.of_below HB.out _).thenS (Chg.of_grown hg1) fun j _ e => by injection e with e)
        have HZ : Hid (MapZ w1 S (16 * 0 + 0) (splitN c sides 0 0)) := Lib.hid (hz1.congr fun a b _ _ => by simp [splitN])
        have hsz1 := hg1.size
        clear hz1 hg1 c4'
        have HC1 : Hid (∀ W, Chg (fun j => j = S) w1 W → PN W F c D p (m + 1) P S L v X → True) := Lib.hid fun _ _ _ => trivial
        clear HC1
        have hSd : Hid (S ≠ D) := Lib.hid (HP.out.shut.ne_blk HP.out.blk)
        have HRS : Hid (∀ W, Chg (fun j => j = S) w W → RdI W w.heap.size SA k sides) := Lib.hid fun W hW => by
          refine ⟨HR.out.len, fun h0 => ?_⟩
          obtain ⟨b, off, e, hb, hcell⟩ := HR.out.at_ h0
          refine ⟨b, off, e, hb, fun j u hu => (World.cell?_of_block (hW.block b hb fun e2 => ?_)).trans (hcell j u hu)⟩
          subst e2
          exact hSA h0 _ _ _ e HP.out.fs
        have HCD : Hid (∀ W, Chg (fun j => j = S) w W → W.cell? ⟨D, 4, none⟩ = some (.map (some S))) := Lib.hid fun W hW => (HP.out.blk.chg hW fun e => hSd.out e.symm).cell 4
        go_wp2_with fail
        go_loopw [7, 8, 9, 10, 38] (fun _ _ _ _ i wr => ∃ k1 : Nat, k1 ≤ k ∧ i = .int .i64 (k1 : Int) ∧ Hid (Chg (fun j => j = S) w wr ∧ MapZ wr S (16 * k1 + 0) (splitN c sides k1 0))) (fun _ _ _ _ i _ => k - (intOf i).toNat)
        case atStart => exact ⟨0, by omega, rfl, Lib.hid ⟨HG.out, HZ.out⟩⟩
        case round =>
          clear HZ HG
          obtain ⟨k1, hk1, rfl, HR1⟩ := hrel
          by_cases hlt1 : k1 < k
          · have hI : (k1 : Int) < (k : Int) := by omega
            obtain ⟨b, off, x, rfl, hbl, hx, hcx⟩ := (HRS.out wr HR1.out.1).int hlt1
            have HXD : Hid (sides.getD k1 0 = x) := Lib.hid (by rw [List.getD_eq_getElem?_getD, hx]; rfl)
            clear hx
            go_wp2_with fail
            go_loopw [9, 10, 45] (fun _ _ i wr => ∃ l1 : Nat, l1 ≤ k ∧ i = .int .i64 (l1 : Int) ∧ Hid (Chg (fun j => j = S) w wr ∧ MapZ wr S (16 * k1 + l1) (splitN c sides k1 l1))) (fun _ _ i _ => k - (intOf i).toNat)
            case atStart => exact ⟨0, by omega, rfl, HR1⟩
            case round =>
              clear HR1 hcx
              obtain ⟨l1, hl1, rfl, HR2⟩ := hrel
              by_cases hlt2 : l1 < k
              · have hI2 : (l1 : Int) < (k : Int) := by omega
                obtain ⟨b', off', y, hbo, hbl', hy, hcy⟩ := (HRS.out wr HR2.out.1).int hlt2
                injection hbo with hbo
                injection hbo with h1 h2 h3
                subst h1 h2
                have HYD : Hid (sides.getD l1 0 = y) := Lib.hid (by rw [List.getD_eq_getElem?_getD, hy]; rfl)
                have hmp := HCD.out wr HR2.out.1
                clear hy h3
                by_cases he : x = y
                · have e1 : (x != y) = false := by simpa using he
                  have HN : Hid (Chg (fun j => j = S) w wr ∧ MapZ wr S (16 * k1 + (l1 + 1)) (splitN c sides k1 (l1 + 1))) := Lib.hid ⟨HR2.out.1, by rw [← splitN_eq (by rw [HXD.out, HYD.out, he])]; exact HR2.out.2.mono (by omega)⟩
                  clear he
                  go_wp2
                  go_roundw
                  case rel => exact ⟨l1 + 1, by omega, by go_num, HN⟩
                  case measure => simp [intOf] <;> omega
                · have e1 : (x != y) = true := by simpa using he
                  have HN : Hid (∀ w2, MapZ w2 S (16 * k1 + l1 + 1) (upd2 (splitN c sides k1 l1) k1 l1 1) → wr.grownBy w2 (some S) → Chg (fun j => j = S) w w2 ∧ MapZ w2 S (16 * k1 + (l1 + 1)) (splitN c sides k1 (l1 + 1))) := Lib.hid fun w2 hz hg => ⟨HR2.out.1.thenS (Chg.of_grown hg) fun j _ e => by injection e with e, by rw [← splitN_ne (by rw [HXD.out, HYD.out]; exact he) (by have := HL.out; omega)]; exact hz⟩
                  have hkk : k = c.n := HL.out
                  have hmx : 16 * k1 + l1 < maxLen := by simp only [maxLen]; omega
                  have h16a : k1 < 16 := by omega
                  have h16b : l1 < 16 := by omega
                  clear he hkk
                  go_wp2_with (refine mapPut (by rfl) _ _ _ (by rfl) (by rfl) HR2.out.2 hmx (p := k1) (q := l1) (z := 1) h16a h16b (by rfl) (by rfl) (by omega) ?_; intro w2 hz2 hg2; have HN2 := Lib.hid (HN.out w2 hz2 hg2); clear hz2 hg2)
                  go_roundw
                  case rel => exact ⟨l1 + 1, by omega, by go_num, HN2⟩
                  case measure => simp [intOf] <;> omega
              · obtain rfl : l1 = k := by omega
                have HN : Hid (Chg (fun j => j = S) w wr ∧ MapZ wr S (16 * (k1 + 1) + 0) (splitN c sides (k1 + 1) 0)) := Lib.hid ⟨HR2.out.1, by
                  rw [← splitN_row, ← HL.out]
                  exact HR2.out.2.mono (by have := HL.out; omega)⟩
                go_wp2
                go_roundw
                case rel => exact ⟨k1 + 1, by omega, by go_num, HN⟩
                case measure => simp [intOf] <;> omega
          · obtain rfl : k1 = k := by omega
            have HS : Hid (SplitR w F c D p (m + 1) sides (.returned (.int .i64 0)) wr) := Lib.hid (.inl ⟨HOK.out, rfl, F, ⟨fun j hj => Nat.lt_of_lt_of_le (HF.out j hj) HR1.out.1.size, P, S, L, v, X, by
              have hz : MapZ wr S (256 + (m + 1)) (fun a b => if (splitP c p sides).shut a b = true then 1 else 0) := by
                have h1 := HR1.out.2
                rw [HL.out, splitN_end] at h1
                exact h1.mono (by omega)
              have hgr : w.grownBy wr (some S) := ⟨HR1.out.1.os, HR1.out.1.tape, HR1.out.1.output, HR1.out.1.size, fun i hi hne => HR1.out.1.block i hi fun e => hne (by rw [e])⟩
              exact (HP.out.mono (Nat.le_succ m)).setS hgr hz rfl rfl rfl rfl⟩, fun _ h => .inl h, HR1.out.1.mono fun j _ e => by rw [e]; exact HP.out.fs⟩)
            go_wp2
            go_ret
            exact HS.out
  · have hl0 : ((sn : Int) != (c.n : Int)) = true := by simp; omega
    have HS : Hid (SplitR w F c D p (m + 1) sides (.returned (.int .i64 1)) w) := Lib.hid (.inr ⟨fun h => hl (by rw [← HLN.out]; exact h.1), StepP.same (HX.out.mono (Nat.le_succ m)) (Below.refl _ _)⟩)
    clear hl
    go_enter Try.func43, Try.ntmps43
    go_wp2
    go_ret
    exact HS.out
end Go.Proofs.Ytgfhmfhhobhojaa
