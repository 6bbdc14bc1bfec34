/-
  The reference's blob of some chunks.
-/
import Derived.Test.YtgapkphkcncgeaaDoorJRef
namespace Go.Proofs.YtgapkphkcncgeaaDoor
open Go.RowKit

theorem blobS_take (cs : List (List UInt8)) (k : Nat) {c : List UInt8} (h : cs[k]? = some c) : blobS (cs.take (k + 1)) = blobS (cs.take k) ++ c.drop 8 := by
  rw [List.take_add_one, h]; exact blobS_snoc _ _
theorem blobS_le {cs : List (List UInt8)} {k : Nat} (h : ∀ c ∈ cs, 8 ≤ c.length ∧ c.length ≤ 256) : (blobS (cs.take k)).length ≤ 248 * k := by
  induction k with
  | zero => simp [blobS]
  | succ k ih =>
    rcases hk : cs[k]? with _ | c
    · rw [List.take_add_one, hk]; simp; omega
    · rw [blobS_take cs k hk, List.length_append, List.length_drop]
      have := h c (List.mem_of_getElem? hk)
      omega
/-- 'c[8:]', as the model has it. -/
theorem Rd.tail8 {w : World} {B n cap : Nat} {A : Option Addr} {bs : List UInt8} (h : RdB w B A n bs) (h8 : 8 ≤ n) (hc : n ≤ cap) : RdB w B (if cap = 8 then A else A.map (·.add (8 * 1))) (n - 8) (bs.drop 8) := by
  have hl := h.lenB
  refine ⟨by rw [bvs_length, List.length_drop]; omega, fun hn => ?_⟩
  obtain ⟨b, off, rfl, hb, hcell⟩ := h.at_ (by omega)
  rw [if_neg (by omega)]
  refine ⟨b, off + 8, by simp [addr_add], hb, fun j u hu => ?_⟩
  rw [Nat.add_assoc]
  exact hcell _ u (by rw [← hu, bvs_drop, List.getElem?_drop])

set_option maxRecDepth 100000 in
set_option maxHeartbeats 1600000 in
theorem blob_any (A : Option Addr) (n cap : Nat) (vs : List Value) (cs : List (List UInt8)) (w : World) (hr : Rd w w.heap.size 1 A n vs) (hll : LL w w.heap.size vs cs) (h8 : ∀ c ∈ cs, 8 ≤ c.length ∧ c.length ≤ 256) (hn : cs.length = n) (hn17 : n ≤ 17) :
    Calls Tryd.prog 39 #[.slice A n cap] w fun e w' => ∃ u, e = .returned u ∧ w'.ownsRow w.heap.size 5 1 u (blobS cs).length (bvs (blobS cs)) ∧ Below w.heap.size w w' := by
  obtain ⟨i0, hi0, hz0, hz1, hz2⟩ := info_parts info_u8
  have HN := Lib.hid hn
  clear hn
  have H8 := Lib.hid h8
  clear h8
  go_enter Tryd.func39, Tryd.ntmps39
  go_wp2_with fail
  go_loopw [3, 4] (fun b i wr => ∃ k : Nat, k ≤ n ∧ i = .int .i64 (k : Int) ∧ wr.ownsRow w.heap.size 5 1 b (blobS (cs.take k)).length (bvs (blobS (cs.take k))) ∧ Below w.heap.size w wr) (fun _ i _ => n - (intOf i).toNat)
  case atStart => exact ⟨0, by omega, rfl, ⟨by simp [blobS, bvs], .inl ⟨rfl, by simp [blobS]⟩⟩, Below.refl _ _⟩
  case round =>
    obtain ⟨k, hk, rfl, ho, hb⟩ := hrel
    obtain ⟨Al, capl, rfl, _, _⟩ := own_shape ho
    by_cases hlt : k < n
    · obtain ⟨c, hck⟩ : ∃ c, cs[k]? = some c := ⟨_, List.getElem?_eq_getElem (by rw [HN.out]; exact hlt)⟩
      obtain ⟨v, hvk⟩ : ∃ v, vs[k]? = some v := ⟨_, List.getElem?_eq_getElem (by have := hr.len; omega)⟩
      obtain ⟨Ac, capc, rfl, hc1, hc2, hrc⟩ := hll.2 k v c hvk hck
      obtain ⟨ba, oa, rfl, hba, hcell⟩ := hr.at_ (by omega)
      have hcell := (bcell hb).1 ba (oa + k) hba |>.trans (hcell k _ hvk)
      obtain ⟨hc8, hc256⟩ := H8.out c (List.mem_of_getElem? hck)
      have HT := Lib.hid (blobS_take cs k hck)
      have hle := blobS_le (k := k) H8.out
      have hltI : (k : Int) < (n : Int) := by omega
      have hrt := (hrc.below hb).tail8 hc8 hc1
      have hcm : capc ≤ 9223372036854775807 := by simp only [maxLen] at hc2; omega
      generalize hL : c.length = L at *
      have HLc := Lib.hid hL
      generalize hX : (if capc = 8 then Ac else Ac.map (·.add (8 * 1))) = X at hrt
      have hsl : ∀ W, Sem.run Tryd.prog (Instr.slice 22 (.slice Ac L capc) (some (.int .i64 8)) none none) W = .ok (.slice X (L - 8) (capc - 8)) W := by
        intro W
        rw [run_slice_l (P := Tryd.prog) W 22 Ac L capc Tryd.underlying22 .i64 8 (by omega) (by omega), ← hX]
        rfl
      have HX := Lib.hid hX
      clear hvk hck hrc hX hL
      generalize hM : (blobS (cs.take k)).length = M at *
      have HM := Lib.hid hM
      clear hM
      go_wp2_with (first
        | (at_builtin
           refine wpList_append_any _ (by rfl) _ _ 22 (by rfl) w.heap.size 5 i0 _ 1 1 u_bytes hi0 hz0 hz1 hz2 rfl (by omega) _ M _ (by rfl) ho w.heap.size X (L - 8) (capc - 8) _ (by rfl) hrt (bvs_one _) (by simp only [maxLen]; omega) (by omega) hb.size ?_
           intro v2 w2 ho2 hg2 hat2
           have hb2 : Below w.heap.size wr w2 := below_app ho hg2 hb.size))
      go_roundw
      case rel =>
        refine ⟨k + 1, by omega, by go_num, ?_, hb.trans hb2⟩
        rw [HT.out, bvs_append, List.length_append, List.length_drop, HLc.out]
        rw [HM.out]
        exact ho2
      case measure => simp [intOf] <;> omega
    · obtain rfl : k = n := by omega
      have e : cs.take k = cs := List.take_of_length_le (by rw [HN.out]; exact Nat.le_refl _)
      have E := Lib.hid e
      clear e
      go_wp2
      go_ret
      refine ⟨_, rfl, ?_, hb⟩
      show wr.ownsRow _ _ _ (.slice Al (blobS (cs.take k)).length capl) _ _
      rw [E.out] at ho ⊢
      exact ho
end Go.Proofs.YtgapkphkcncgeaaDoor
