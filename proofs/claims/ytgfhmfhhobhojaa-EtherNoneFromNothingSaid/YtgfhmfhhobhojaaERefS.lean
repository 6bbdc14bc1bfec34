/-
  The document's network in memory: what a packet's turns do to it. And: The document's network: way, at.
-/
import Derived.Test.YtgfhmfhhobhojaaERefL
namespace Go.Proofs.Ytgfhmfhhobhojaa
open Go.ChangeShapes Go.WideShapes Go.ChangeAt Go.RowKit
variable {w : World} {F : Nat → Prop} {c : ECfg} {D : Nat} {r : RV}
def kvs (l : List Nat) : List Value := l.map fun k : Nat => Value.int .i64 (k : Int)
theorem kvs_length (l : List Nat) : (kvs l).length = l.length := by simp [kvs]
theorem kvs_append (a b : List Nat) : kvs (a ++ b) = kvs a ++ kvs b := by simp [kvs]
theorem idx_take {a : List (Flt × Bool)} {k : Nat} {f : Flt} {q : Bool} (h : a[k]? = some (f, q)) : idxOf (a.take (k + 1)) = idxOf (a.take k) ++ if q = true then [] else [k] := by
  have hk : k < a.length := (List.getElem?_eq_some_iff.1 h).1
  rw [List.take_add_one, h, idxOf_append]
  have e : (a.take k).length = k := by rw [List.length_take]; omega
  cases q <;> simp [idxOf, e] <;> omega
theorem idx_le (a : List (Flt × Bool)) (k : Nat) : (idxOf (a.take k)).length ≤ k := by
  rw [idxOf_length]
  exact Nat.le_trans (wayOf_le _) (by rw [List.length_take]; omega)
structure WayS (w : World) (a : List (Flt × Bool)) (v : Value) (n : Nat) (w' : World) : Prop where
  len : n = (idxOf a).length
  row : w'.ownsRow w.heap.size 3 1 v n (kvs (idxOf a))
  below : Below w.heap.size w w'
def WayR (w : World) (a : List (Flt × Bool)) (e : Ending) (w' : World) : Prop := ∃ A n cap, e = .returned (.slice A n cap) ∧ WayS w a (.slice A n cap) n w'
set_option maxRecDepth 100000 in
set_option maxHeartbeats 1600000 in
theorem way_any (h : RNx w F c D r) (hl : r.all.length ≤ 1099511627776) : Calls Try.prog 82 #[.pointer (some ⟨D, 0, none⟩)] w (WayR w r.all) := by
  obtain ⟨i0, hi0, hz0, hz1, hz2⟩ := info_parts info_int
  obtain ⟨hF, v, X, hP⟩ := h
  obtain ⟨A6, cap6, rfl, hcp6, hcm6⟩ := own_shape hP.row
  have HP := Lib.hid hP
  have HF := Lib.hid hF
  have HL := Lib.hid hP.len
  have hXl : X.length ≤ 1099511627776 := by rw [← hP.len]; exact hl
  have HST : Hid (WayS w (r.all.take 0) (.slice none 0 0) 0 w) := Lib.hid ⟨by simp [idxOf], ⟨by simp [idxOf, kvs], .inl ⟨rfl, rfl⟩⟩, Below.refl _ _⟩
  clear hP hF hl
  go_enter Try.func82, Try.ntmps82
  go_wp2_with fail
  go_loopw [3, 4] (fun v3 i wr => ∃ k n : Nat, k ≤ X.length ∧ n ≤ k ∧ i = .int .i64 (k : Int) ∧ Hid (WayS w (r.all.take k) v3 n wr)) (fun _ i _ => X.length - (intOf i).toNat)
  case atStart => exact ⟨0, 0, by omega, by omega, rfl, HST⟩
  case round =>
    clear HST
    obtain ⟨k, n, hk, hn, rfl, HT⟩ := hrel
    obtain ⟨A3, cap3, rfl, hcp3, hcm3⟩ := own_shape HT.out.row
    have c6 : wr.cell? ⟨D, 563, none⟩ = some (.slice A6 X.length cap6) := (HP.out.below HF.out HT.out.below).cell.2.2.2
    by_cases hlt : k < X.length
    · have hI : (k : Int) < (X.length : Int) := by omega
      obtain ⟨g, cp, f, q, u, hv, hx, ha, _, _, _, _, _, m5⟩ := (HP.out.below HF.out HT.out.below).pkt hlt
      injection hv with hv1 _ hv2
      subst hv1
      have HK := Lib.hid (idx_take ha)
      have hsr := HT.out.below.size
      clear hx ha hv2
      cases q with
      | true =>
        have HN9 : Hid (WayS w (r.all.take (k + 1)) (.slice A3 n cap3) n wr) := Lib.hid ⟨by rw [HK.out]; simpa using HT.out.len, by rw [HK.out]; simpa using HT.out.row, HT.out.below⟩
        go_wp2_with fail
        go_roundw
        case rel => exact ⟨k + 1, n, by omega, by omega, by go_num, HN9⟩
        case measure => simp [intOf] <;> omega
      | false =>
        go_wp2_with (at_builtin; refine appN wr (by rfl) _ _ 31 (by rfl) w.heap.size 3 i0 _ 1 8 u_ints hi0 hz0 hz1 hz2 rfl (by decide) _ n _ (by rfl) HT.out.row #[.int .i64 (k : Int)] rfl (by rfl) (by simp; rfl) (by simp only [maxLen]; omega) (by omega) hsr ?_; intro v9 w9 own9 hb9 _)
        have HN9 : Hid (WayS w (r.all.take (k + 1)) v9 (n + 1) w9) := Lib.hid ⟨by rw [HK.out, List.length_append, ← HT.out.len]; rfl, by rw [HK.out, kvs_append]; exact own9, HT.out.below.trans hb9⟩
        clear own9 hb9
        go_roundw
        case rel => exact ⟨k + 1, n + 1, by omega, by omega, by go_num, HN9⟩
        case measure => simp [intOf] <;> omega
    · obtain rfl : k = X.length := by omega
      have HE : Hid (WayR w r.all (.returned (.slice A3 n cap3)) wr) := Lib.hid ⟨A3, n, cap3, rfl, by
        have h := HT.out
        rw [List.take_of_length_le (by rw [HL.out]; exact Nat.le_refl _)] at h
        exact h⟩
      go_wp2
      go_ret
      exact HE.out
set_option maxRecDepth 100000 in
theorem at_no (h : RNx w F c D r) (hl : r.all.length ≤ 1099511627776) (q : Int) (hq : q < 0 ∨ ((wayOf r.all).length : Int) ≤ q) : Calls Try.prog 81 #[.pointer (some ⟨D, 0, none⟩), .int .i64 q] w fun e w' => e = .returned (.int .i64 (-1)) ∧ Below w.heap.size w w' := by
  have HW := Lib.hid (way_any h hl)
  have HQ : Hid (q < 0 ∨ ((idxOf r.all).length : Int) ≤ q) := Lib.hid (by rw [idxOf_length]; exact hq)
  clear h hl hq
  go_enter Try.func81, Try.ntmps81
  go_upto_region 2 with (go_at_call 82; refine HW.out.mono ?_; rintro _ w1 ⟨A, n, cap, rfl, hs⟩; have HS := Lib.hid hs; clear hs)
  have hq := HQ.out
  rw [← HS.out.len] at hq
  have HB := Lib.hid HS.out.below
  clear HS
  by_cases h0 : q < 0
  · go_wp2
    go_ret
    exact ⟨rfl, HB.out⟩
  · have h1 : (n : Int) ≤ q := by omega
    go_wp2
    go_ret
    exact ⟨rfl, HB.out⟩
set_option maxRecDepth 100000 in
theorem at_yes (h : RNx w F c D r) (hl : r.all.length ≤ 1099511627776) (k i : Nat) (hk : (idxOf r.all)[k]? = some i) : Calls Try.prog 81 #[.pointer (some ⟨D, 0, none⟩), .int .i64 (k : Int)] w fun e w' => e = .returned (.int .i64 (i : Int)) ∧ Below w.heap.size w w' := by
  have HW := Lib.hid (way_any h hl)
  have HK := Lib.hid hk
  clear h hl hk
  go_enter Try.func81, Try.ntmps81
  go_upto_region 2 with (go_at_call 82; refine HW.out.mono ?_; rintro _ w1 ⟨A, n, cap, rfl, hs⟩; have HS := Lib.hid hs; clear hs)
  have hkn : k < n := by rw [HS.out.len]; exact (List.getElem?_eq_some_iff.1 HK.out).1
  have hkI : (k : Int) < (n : Int) := by omega
  have HB := Lib.hid HS.out.below
  obtain ⟨g, cap', cur, hv, hg, hB, hle, hcm, hsz, htk⟩ := own_parts HS.out.row (by omega)
  injection hv with hv1 _ hv2
  subst hv1
  have m0 : w1.cell? ⟨g, k, none⟩ = some (.int .i64 (i : Int)) := by
    have hr := HS.out.row.cells (g := g) rfl k (.int .i64 (i : Int)) (by rw [kvs, List.getElem?_map, HK.out]; rfl)
    rw [addr_add, Nat.zero_add] at hr
    exact hr
  clear HS hB hsz htk hcm hle hv2
  go_wp2
  go_ret
  exact ⟨rfl, HB.out⟩
end Go.Proofs.Ytgfhmfhhobhojaa
namespace Go.Proofs.Ytgfhmfhhobhojaa
open Go.ChangeShapes Go.WideShapes Go.ChangeAt Go.RowKit
section
variable {w w' : World} {F F' S' : Nat → Prop} {c : ECfg} {D : Nat} {r r' : RV} {v : Value} {X : List Pkt}
theorem rowsR_set {X : List Pkt} {k i : Nat} {x y : Pkt} {u : Value} (hx : X[k]? = some x) (hi : i < 6) (he : (x.1.1.rowR x.1.2 x.2).set i u = y.1.1.rowR y.1.2 y.2) : (rowsR X).set (k * 6 + i) u = rowsR (X.set k y) := by
  obtain ⟨h1, h2, _⟩ := split_at hx
  have hlt : k < X.length := (List.getElem?_eq_some_iff.1 hx).1
  have e2 : X.set k y = X.take k ++ y :: X.drop (k + 1) := by
    rw [List.set_eq_take_append_cons_drop, if_pos hlt]
  have e1 : rowsR X = rowsR (X.take k) ++ (x.1.1.rowR x.1.2 x.2 ++ rowsR (X.drop (k + 1))) := by
    have h3 : rowsR X = rowsR (X.take k ++ x :: X.drop (k + 1)) := by rw [← h1]
    rw [h3, rowsR_append]
    simp [rowsR]
  have e3 : rowsR (X.set k y) = rowsR (X.take k) ++ (y.1.1.rowR y.1.2 y.2 ++ rowsR (X.drop (k + 1))) := by
    rw [e2, rowsR_append]
    simp [rowsR]
  rw [e1, e3, List.set_append_right _ _ (by rw [rowsR_length, h2]; omega), rowsR_length, h2, show k * 6 + i - k * 6 = i by omega, ← he, List.set_append_left _ _ (by simp [Flt.rowR]; omega)]
theorem map_set2 {X : List Pkt} {k : Nat} {f f' : Flt} {q q' : Bool} {u : Value} (hx : X[k]? = some ((f, q), u)) : (X.set k ((f', q'), u)).map (·.2) = X.map (·.2) := by
  rw [List.map_set]
  have h1 : (X.map (·.2))[k]? = some u := by rw [List.getElem?_map, hx]; rfl
  obtain ⟨h2, h3⟩ := List.getElem?_eq_some_iff.1 h1
  rw [← h3, List.set_getElem_self]
def FarV (a b : Value) : Prop := ∀ g, a.ownBlock = some g → b.ownBlock ≠ some g
theorem apart_of {X Y : List Pkt} (h : X.Pairwise fun x y => ∀ g, x.2.ownBlock = some g → y.2.ownBlock ≠ some g) (e : Y.map (·.2) = X.map (·.2)) : Y.Pairwise fun x y => ∀ g, x.2.ownBlock = some g → y.2.ownBlock ≠ some g := by
  have h1 : (X.map (·.2)).Pairwise FarV := List.pairwise_map.2 h
  rw [← e] at h1
  exact List.pairwise_map.1 h1
theorem RN.setR {g cap k i : Nat} {f f' : Flt} {q q' : Bool} {u u' : Value} (h : RN w F c D r (.slice (some ⟨g, 0, none⟩) X.length cap) X) (hx : X[k]? = some ((f, q), u)) (hi : i < 6) (hbs : f'.bs = f.bs) (he : (f.rowR q u).set i u' = f'.rowR q' u) : RN (w.setCell ⟨g, k * 6 + i, none⟩ u') F c D { r with all := r.all.set k (f', q') } (.slice (some ⟨g, 0, none⟩) X.length cap) (X.set k ((f', q'), u)) := by
  have hlt : k < X.length := (List.getElem?_eq_some_iff.1 hx).1
  obtain ⟨v1, v2⟩ := h.vne (g := g) rfl
  have hmem : ∀ x ∈ X.set k ((f', q'), u), ∃ x' ∈ X, x'.2 = x.2 ∧ x'.1.1.bs = x.1.1.bs := fun x hxx => by
    rcases List.mem_or_eq_of_mem_set hxx with h1 | rfl
    · exact ⟨x, h1, rfl, rfl⟩
    · exact ⟨((f, q), u), List.mem_of_getElem? hx, rfl, hbs.symm⟩
  refine ⟨h.blk.far (Ne.symm v1) _, by rw [List.map_set, h.all], ?_, fun x hxx => ?_, apart_of h.apart (map_set2 hx), h.fd, h.fv, fun x hxx => ?_⟩
  · have h1 := own_setZ (u := u') h.row (show k * 6 + i < X.length * 6 by omega)
    rw [rowsR_set (y := ((f', q'), u)) hx hi he] at h1
    rw [List.length_set]
    exact h1
  · obtain ⟨x', h1, h2, h3⟩ := hmem x hxx
    rw [← h2, ← h3]
    exact own_far (h.bytes x' h1) fun g' e e' => v2 x' h1 (e.trans (congrArg some e'))
  · obtain ⟨x', h1, h2, _⟩ := hmem x hxx
    rw [← h2]; exact h.fx x' h1
theorem RN.setB {b cap k i : Nat} {f : Flt} {q : Bool} {y : UInt8} (h : RN w F c D r v X) (hx : X[k]? = some ((f, q), .slice (some ⟨b, 0, none⟩) f.bs.length cap)) (hi : i < f.bs.length) : RN (w.setCell ⟨b, i, none⟩ (.int .u8 (y.toNat : Int))) F c D { r with all := r.all.set k ({ f with bs := f.bs.set i y }, q) } v (X.set k (({ f with bs := f.bs.set i y }, q), .slice (some ⟨b, 0, none⟩) f.bs.length cap)) := by
  have hlt : k < X.length := (List.getElem?_eq_some_iff.1 hx).1
  have hxm := List.mem_of_getElem? hx
  have hy := h.bytes _ hxm
  have hbD : b ≠ D := h.xne hxm rfl
  have hrow : rowsR (X.set k (({ f with bs := f.bs.set i y }, q), .slice (some ⟨b, 0, none⟩) f.bs.length cap)) = rowsR X := by
    have h1 := rowsR_set (i := 0) (u := .int .i64 (f.id : Int)) (y := (({ f with bs := f.bs.set i y }, q), .slice (some ⟨b, 0, none⟩) f.bs.length cap)) hx (by omega) rfl
    rw [← h1]
    obtain ⟨s1, s2, _⟩ := split_at hx
    have e1 : rowsR X = rowsR (X.take k) ++ (f.rowR q (.slice (some ⟨b, 0, none⟩) f.bs.length cap) ++ rowsR (X.drop (k + 1))) := by
      have h3 : rowsR X = rowsR (X.take k ++ ((f, q), .slice (some ⟨b, 0, none⟩) f.bs.length cap) :: X.drop (k + 1)) := by rw [← s1]
      rw [h3, rowsR_append]
      simp [rowsR]
    rw [e1, List.set_append_right _ _ (by rw [rowsR_length, s2]; omega), rowsR_length, s2, show k * 6 + 0 - k * 6 = 0 by omega]
    rfl
  refine ⟨h.blk.far (Ne.symm hbD) _, by rw [List.map_set, h.all], ?_, fun x hxx => ?_, apart_of h.apart (map_set2 hx), h.fd, h.fv, fun x hxx => ?_⟩
  · rw [hrow, List.length_set]
    exact own_far h.row fun g hg e => (h.vne hg).2 _ hxm (by rw [e]; rfl)
  · obtain ⟨j, hj, he⟩ := List.getElem_of_mem hxx
    rw [List.length_set] at hj
    by_cases hk : j = k
    · subst hk
      rw [List.getElem_set_self] at he
      subst he
      show (w.setCell ⟨b, i, none⟩ (.int .u8 (y.toNat : Int))).ownsRow 0 _ 1 (.slice (some ⟨b, 0, none⟩) f.bs.length cap) (f.bs.set i y).length (bvs (f.bs.set i y))
      rw [List.length_set]
      have h1 := own_setZ (q := i) (u := .int .u8 (y.toNat : Int)) hy (by simp only [Nat.mul_one]; exact hi)
      have e : bvs (f.bs.set i y) = (bvs f.bs).set i (.int .u8 (y.toNat : Int)) := by simp [bvs, List.map_set]
      rw [e]
      exact h1
    · rw [List.getElem_set_ne (by omega)] at he
      subst he
      refine own_far (h.bytes _ (List.getElem_mem hj)) fun g hg e => ?_
      have h1 := List.pairwise_iff_getElem.1 h.apart
      have h3 : X[k].2 = .slice (some ⟨b, 0, none⟩) f.bs.length cap := by
        obtain ⟨_, h4⟩ := List.getElem?_eq_some_iff.1 hx
        rw [h4]
      have h4 : X[k].2.ownBlock = some b := by rw [h3]; rfl
      have hg' : X[j].2.ownBlock = some b := by rw [hg, e]
      rcases Nat.lt_or_gt_of_ne hk with h5 | h5
      · exact h1 j k hj hlt h5 b hg' h4
      · exact h1 k j hlt hj h5 b h4 hg'
  · rcases List.mem_or_eq_of_mem_set hxx with h1 | rfl
    · exact h.fx x h1
    · exact fun g hg => h.fx ((f, q), .slice (some ⟨b, 0, none⟩) f.bs.length cap) hxm g hg
theorem RN.push {v' u : Value} {f : Flt} (h : RN w F c D r v X) (hc : Chg (fun j => v.ownBlock = some j) w w') (ho : w'.ownsRow 0 115 6 v' (X.length + 1) (rowsR X ++ f.rowR false u)) (hby : w'.ownsRow 0 5 1 u f.bs.length (bvs f.bs)) (hap : ∀ x ∈ X, ∀ g, x.2.ownBlock = some g → u.ownBlock ≠ some g) :
    RN (w'.setCell ⟨D, 563, none⟩ v') (fun k => F k ∨ u.ownBlock = some k ∨ v'.ownBlock = some k) c D { r with all := r.all ++ [(f, false)] } v' (X ++ [((f, false), u)]) := by
  have hD := h.blk.chg hc fun e => (h.vne e).1 rfl
  have hDS : Blk (w'.setCell ⟨D, 563, none⟩ v') D 106 (rg 564 (netF c r v')) := by rw [← net_all c r v v']; exact hD.set_ 563 v'
  refine ⟨hDS, by rw [List.map_append, h.all]; rfl, ?_, fun x hx => ?_, ?_, .inl h.fd, fun g e => .inr (.inr e), fun x hx g hg => ?_⟩
  · rw [List.length_append, rowsR_append]
    have e : rowsR [((f, false), u)] = f.rowR false u := by simp [rowsR]
    rw [e]
    exact own_far ho fun g hg => by
      obtain ⟨_, _, cu, hB⟩ := own_block_lt ho hg
      exact hB.ne_ hD (by decide)
  · rcases List.mem_append.1 hx with h1 | h1
    · refine own_far (own_chg (h.bytes x h1) hc fun g hg e => (h.vne e).2 x h1 hg) fun g hg => h.xne h1 hg
    · simp only [List.mem_cons, List.not_mem_nil, or_false] at h1
      subst h1
      exact own_far hby fun g hg => by
        obtain ⟨_, _, cu, hB⟩ := own_block_lt hby hg
        exact hB.ne_ hD (by decide)
  · rw [List.pairwise_append]
    refine ⟨h.apart, List.pairwise_singleton _ _, fun a ha b hb => ?_⟩
    simp only [List.mem_cons, List.not_mem_nil, or_false] at hb
    subst hb
    exact hap a ha
  · rcases List.mem_append.1 hx with h1 | h1
    · exact .inl (h.fx x h1 g hg)
    · simp only [List.mem_cons, List.not_mem_nil, or_false] at h1
      subst h1
      exact .inr (.inl hg)
end
end Go.Proofs.Ytgfhmfhhobhojaa
