/-
  The document's network: split.
-/
import Derived.Test.YtgfhmfhhobhojaaERefU
namespace Go.Proofs.Ytgfhmfhhobhojaa
open Go.ChangeShapes Go.WideShapes Go.ChangeAt Go.RowKit
variable {w : World} {F : Nat → Prop} {c : ECfg} {D : Nat} {r : RV}
def splitK (c : ECfg) (r : RV) (sides : List Int) (k l : Nat) : Nat → Nat → Bool := fun a b => if (a < k ∨ (a = k ∧ b < l)) ∧ b < c.n then decide (sides.getD a 0 ≠ sides.getD b 0) else r.shut a b
theorem splitK_zero (c : ECfg) (r : RV) (sides : List Int) : splitK c r sides 0 0 = r.shut := by
  funext a b
  unfold splitK
  rw [if_neg (by omega)]
theorem splitK_row (c : ECfg) (r : RV) (sides : List Int) (k : Nat) : splitK c r sides k c.n = splitK c r sides (k + 1) 0 := by
  funext a b
  unfold splitK
  have : ((a < k ∨ (a = k ∧ b < c.n)) ∧ b < c.n) ↔ ((a < k + 1 ∨ (a = k + 1 ∧ b < 0)) ∧ b < c.n) := by omega
  simp only [this]
theorem splitK_put {c : ECfg} {r : RV} {sides : List Int} {k l : Nat} {x : Bool} (hl : l < c.n) (hx : decide (sides.getD k 0 ≠ sides.getD l 0) = x) : updS (splitK c r sides k l) k l x = splitK c r sides k (l + 1) := by
  funext a b
  unfold updS splitK
  by_cases e : a = k ∧ b = l
  · obtain ⟨rfl, rfl⟩ := e
    rw [if_pos ⟨rfl, rfl⟩, if_pos ⟨by omega, hl⟩, hx]
  · rw [if_neg e]
    have : ((a < k ∨ (a = k ∧ b < l)) ∧ b < c.n) ↔ ((a < k ∨ (a = k ∧ b < l + 1)) ∧ b < c.n) := by omega
    simp only [this]
def splitRP (c : ECfg) (r : RV) (sides : List Int) : RV := { r with shut := splitK c r sides c.n 0 }
structure SplS (w : World) (F : Nat → Prop) (c : ECfg) (D : Nat) (r : RV) (v : Value) (X : List Pkt) (s : Nat → Nat → Bool) (wr : World) : Prop where
  rn : RN wr F c D { r with shut := s } v X
  chg : Chg F w wr
theorem SplS.put {v : Value} {X : List Pkt} {s : Nat → Nat → Bool} {wr : World} (h : SplS w F c D r v X s wr) {k l : Nat} (hk : k < 16) (hl : l < 16) (x : Bool) : SplS w F c D r v X (updS s k l x) (wr.setCell ⟨D, 51 + k * 16 + l, none⟩ (.bool x)) :=
  ⟨h.rn.setD (net_shut c { r with shut := s } v hk hl x) rfl, h.chg.setCell (.inl h.rn.fd) _⟩
theorem SplS.drew {v : Value} {X : List Pkt} {s : Nat → Nat → Bool} {wr : World} (h : SplS w F c D r v X s wr) : SplS w F c D r v X s wr.drew :=
  ⟨h.rn.chg ((Chg.refl (fun _ => False) wr).drewN 1) fun _ _ h => h, h.chg.drewN 1⟩
def RSplitR (w : World) (F : Nat → Prop) (c : ECfg) (D : Nat) (r : RV) (sides : List Int) (e : Ending) (w' : World) : Prop :=
  (splitB c sides = true ∧ StepR w F c D (.int .i64 0) (splitRP c r sides) e w') ∨ (splitB c sides = false ∧ StepR w F c D (.int .i64 1) r e w')
theorem splitB_no {c : ECfg} {sides : List Int} (h : ¬ splitOk c sides) : splitB c sides = false := by
  cases hs : splitB c sides with
  | false => rfl
  | true => exact absurd ((splitB_iff c sides).1 hs) h
set_option maxRecDepth 100000 in
set_option maxHeartbeats 3200000 in
theorem rsplit_any (hc : c.Ok) (h : RNx w F c D r) (SA : Option Addr) (sn sc : Nat) (sides : List Int) (hr : RdI w w.heap.size SA sn sides) (hn0 : sn ≤ 140737488351232) (hSA : 0 < sn → ∀ b o s, SA = some ⟨b, o, s⟩ → ¬ F b) : Calls Try.prog 84 #[.pointer (some ⟨D, 0, none⟩), .slice SA sn sc] w (RSplitR w F c D r sides) := by
  have hn := hc.2.1
  have hlen := hr.lenI
  have HX := Lib.hid h
  obtain ⟨hF, v, X, hP⟩ := h
  have HF := Lib.hid hF
  have HP := Lib.hid hP
  obtain ⟨c0, c1, c2, c3⟩ := hP.cell
  have HR := Lib.hid hr
  have HLN := Lib.hid hlen
  clear hF hP hlen hr c1 c2 c3
  by_cases hl : sn = c.n
  · have hl0 : ((sn : Int) != (c.n : Int)) = false := by simp [hl]
    have HL := Lib.hid hl
    clear hl
    go_enter Try.func84, Try.ntmps84
    go_wp2_with fail
    clear c0
    go_loopw [5] (fun i wr => ∃ k : Nat, k ≤ sn ∧ i = .int .i64 (k : Int) ∧ (∀ s ∈ sides.take k, 0 ≤ s ∧ s < 16) ∧ Hid (Below w.heap.size w wr)) (fun i _ => sn - (intOf i).toNat)
    case atStart => exact ⟨0, by omega, rfl, by simp, Lib.hid (Below.refl _ _)⟩
    case round =>
      obtain ⟨k, hk, rfl, hall, HB⟩ := hrel
      have c0 : wr.cell? ⟨D, 0, none⟩ = some (.int .i64 (sn : Int)) := by rw [HL.out]; exact (HP.out.below HF.out HB.out).cell.1
      by_cases hlt : k < sn
      · have hI : (k : Int) < (sn : Int) := by omega
        obtain ⟨b, off, x, rfl, hbl, hx, hcx⟩ := (HR.out.below HB.out).int hlt
        have hxm : x ∈ sides := List.mem_of_getElem? hx
        have HXM := Lib.hid hxm
        have HT : Hid (sides.take (k + 1) = sides.take k ++ [x]) := Lib.hid (by rw [List.take_add_one, hx]; rfl)
        have HALL := Lib.hid hall
        clear hx hxm hall
        by_cases h1 : x < 0
        · have HS : Hid (RSplitR w F c D r sides (.returned (.int .i64 1)) wr) := Lib.hid (.inr ⟨splitB_no fun h => by have := h.2 x HXM.out; omega, StepR.same HX.out HB.out⟩)
          go_wp2
          go_ret
          exact HS.out
        · by_cases h2 : x ≥ 16
          · have HS : Hid (RSplitR w F c D r sides (.returned (.int .i64 1)) wr) := Lib.hid (.inr ⟨splitB_no fun h => by have := h.2 x HXM.out; omega, StepR.same HX.out HB.out⟩)
            go_wp2
            go_ret
            exact HS.out
          · go_wp2
            go_roundw
            case rel =>
              refine ⟨k + 1, by omega, by go_num, fun s hs => ?_, HB⟩
              rw [HT.out] at hs
              rcases List.mem_append.1 hs with h | h
              · exact HALL.out s h
              · simp only [List.mem_cons, List.not_mem_nil, or_false] at h
                subst h
                omega
            case measure => simp [intOf] <;> omega
      · obtain rfl : k = sn := by omega
        have HOK : Hid (splitB c sides = true) := Lib.hid ((splitB_iff c sides).2 ⟨by rw [HLN.out, HL.out], by rwa [List.take_of_length_le (by rw [HLN.out]; omega)] at hall⟩)
        have HZ : Hid (SplS w F c D r v X (splitK c r sides 0 0) wr) := Lib.hid ⟨by rw [splitK_zero]; exact HP.out.below HF.out HB.out, Chg.of_below HB.out F⟩
        have HRS : Hid (∀ W, Chg F w W → RdI W w.heap.size SA k sides) := Lib.hid fun W hW => by
          refine ⟨HR.out.len, fun h0 => ?_⟩
          obtain ⟨b, off, e, hb, hcell⟩ := HR.out.at_ h0
          exact ⟨b, off, e, hb, fun j u hu => (World.cell?_of_block (hW.block b hb fun e2 => hSA h0 _ _ _ e e2)).trans (hcell j u hu)⟩
        clear hall
        go_wp2_with fail
        clear c0
        go_loopw [6] (fun i wr => ∃ k1 : Nat, k1 ≤ k ∧ i = .int .i64 (k1 : Int) ∧ Hid (SplS w F c D r v X (splitK c r sides k1 0) wr)) (fun i _ => k - (intOf i).toNat)
        case atStart => exact ⟨0, by omega, rfl, HZ⟩
        case round =>
          clear HZ
          obtain ⟨k1, hk1, rfl, HR1⟩ := hrel
          have c0 : wr.cell? ⟨D, 0, none⟩ = some (.int .i64 (k : Int)) := by rw [HL.out]; exact HR1.out.rn.cell.1
          by_cases hlt1 : k1 < k
          · have hI : (k1 : Int) < (k : Int) := by omega
            go_wp2_with fail
            clear c0
            go_loopw [7] (fun i wr => ∃ l1 : Nat, l1 ≤ k ∧ i = .int .i64 (l1 : Int) ∧ Hid (SplS w F c D r v X (splitK c r sides k1 l1) wr)) (fun i _ => k - (intOf i).toNat)
            case atStart => exact ⟨0, by omega, rfl, HR1⟩
            case round =>
              clear HR1
              obtain ⟨l1, hl1, rfl, HR2⟩ := hrel
              have c0 : wr.cell? ⟨D, 0, none⟩ = some (.int .i64 (k : Int)) := by rw [HL.out]; exact HR2.out.rn.cell.1
              by_cases hlt2 : l1 < k
              · have hI2 : (l1 : Int) < (k : Int) := by omega
                have h16a : (k1 : Int) < 16 := by have := HL.out; omega
                have h16b : (l1 : Int) < 16 := by have := HL.out; omega
                obtain ⟨b, off, x, rfl, hbl, hx, hcx⟩ := (HRS.out wr HR2.out.chg).int hlt1
                obtain ⟨b', off', y, hbo, hbl', hy, hcy⟩ := (HRS.out wr HR2.out.chg).int hlt2
                injection hbo with hbo
                injection hbo with h1 h2 h3
                subst h1 h2
                have HXD : Hid (sides.getD k1 0 = x) := Lib.hid (by rw [List.getD_eq_getElem?_getD, hx]; rfl)
                have HYD : Hid (sides.getD l1 0 = y) := Lib.hid (by rw [List.getD_eq_getElem?_getD, hy]; rfl)
                clear hx hy h3
                obtain ⟨wd, hwd⟩ : ∃ wd, wd = wr.drew := ⟨_, rfl⟩
                have HSD : Hid (SplS w F c D r v X (splitK c r sides k1 l1) wd) := Lib.hid (by rw [hwd]; exact HR2.out.drew)
                have qx := hcx
                have qy := hcy
                change wr.drew.cell? _ = _ at qx
                change wr.drew.cell? _ = _ at qy
                rw [← hwd] at qx qy
                obtain ⟨p0, _⟩ := HSD.out.rn.path (show k1 < 16 by omega) (show l1 < 16 by omega)
                have pf : wd.frozen? ⟨D, 51 + k1 * 16 + l1, none⟩ = false := HSD.out.rn.blk.frozen _
                have HWD := Lib.hid hwd
                clear hwd
                by_cases he : x = y
                · skip
                  have e1 : (x != y) = false := by simpa using he
                  have HN : Hid (∀ W, W = wd.setCell ⟨D, 51 + k1 * 16 + l1, none⟩ (.bool false) → SplS w F c D r v X (splitK c r sides k1 (l1 + 1)) W) := Lib.hid fun W hW => by
                    rw [hW]
                    have h1 := HSD.out.put (show k1 < 16 by omega) (show l1 < 16 by omega) (false) 
                    rw [splitK_put (show l1 < c.n by have := HL.out; omega) (by rw [HXD.out, HYD.out]; simp [he])] at h1
                    exact h1
                  obtain ⟨w2, hw2⟩ : ∃ w2, w2 = wd.setCell ⟨D, 51 + k1 * 16 + l1, none⟩ (.bool false) := ⟨_, rfl⟩
                  have HN2 := Lib.hid (HN.out w2 hw2)
                  have HW2 := Lib.hid hw2
                  clear he hw2 HN
                  go_upto_region 14 with fail
                  refine region_tail 16 (by kernel_rfl) (by kernel_rfl) ?_
                  simp only [List.take_succ_cons, List.take_zero, List.drop_succ_cons, List.drop_zero]
                  rw [← HWD.out]
                  clear hcx hcy c0
                  repeat still_step
                  refine wpStill_nil ?_
                  change wpList _ _ _ _ _ wd
                  go_upto_region 13 with fail
                  rw [← HW2.out]
                  clear qx qy pf p0
                  go_wp2_with fail
                  go_roundw
                  case rel => exact ⟨l1 + 1, by omega, by go_num, HN2⟩
                  case measure => simp [intOf] <;> omega
                · skip
                  have e1 : (x != y) = true := by simpa using he
                  have HN : Hid (∀ W, W = wd.setCell ⟨D, 51 + k1 * 16 + l1, none⟩ (.bool true) → SplS w F c D r v X (splitK c r sides k1 (l1 + 1)) W) := Lib.hid fun W hW => by
                    rw [hW]
                    have h1 := HSD.out.put (show k1 < 16 by omega) (show l1 < 16 by omega) (true) 
                    rw [splitK_put (show l1 < c.n by have := HL.out; omega) (by rw [HXD.out, HYD.out]; simp [he])] at h1
                    exact h1
                  obtain ⟨w2, hw2⟩ : ∃ w2, w2 = wd.setCell ⟨D, 51 + k1 * 16 + l1, none⟩ (.bool true) := ⟨_, rfl⟩
                  have HN2 := Lib.hid (HN.out w2 hw2)
                  have HW2 := Lib.hid hw2
                  clear he hw2 HN
                  go_upto_region 14 with fail
                  refine region_tail 16 (by kernel_rfl) (by kernel_rfl) ?_
                  simp only [List.take_succ_cons, List.take_zero, List.drop_succ_cons, List.drop_zero]
                  rw [← HWD.out]
                  clear hcx hcy c0
                  repeat still_step
                  refine wpStill_nil ?_
                  change wpList _ _ _ _ _ wd
                  go_upto_region 13 with fail
                  rw [← HW2.out]
                  clear qx qy pf p0
                  go_wp2_with fail
                  go_roundw
                  case rel => exact ⟨l1 + 1, by omega, by go_num, HN2⟩
                  case measure => simp [intOf] <;> omega
              · obtain rfl : l1 = k := by omega
                have HN : Hid (SplS w F c D r v X (splitK c r sides (k1 + 1) 0) wr) := Lib.hid (by
                  rw [← splitK_row, ← HL.out]
                  exact HR2.out)
                go_wp2
                go_roundw
                case rel => exact ⟨k1 + 1, by omega, by go_num, HN⟩
                case measure => simp [intOf] <;> omega
          · obtain rfl : k1 = k := by omega
            have HS : Hid (RSplitR w F c D r sides (.returned (.int .i64 0)) wr) := Lib.hid (.inl ⟨HOK.out, by
              have h1 := HR1.out.rn
              rw [HL.out] at h1
              exact StepR.of HF.out HR1.out.chg h1⟩)
            go_wp2
            go_ret
            exact HS.out
  · have hl0 : ((sn : Int) != (c.n : Int)) = true := by simp; omega
    have HS : Hid (RSplitR w F c D r sides (.returned (.int .i64 1)) w) := Lib.hid (.inr ⟨splitB_no fun h => hl (by rw [← HLN.out]; exact h.1), StepR.same HX.out (Below.refl _ _)⟩)
    clear hl
    go_enter Try.func84, Try.ntmps84
    go_wp2
    go_ret
    exact HS.out
end Go.Proofs.Ytgfhmfhhobhojaa
