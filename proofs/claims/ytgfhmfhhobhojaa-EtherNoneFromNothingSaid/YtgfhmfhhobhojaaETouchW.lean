/-
  The program's network: touch. And: The program's network: what touch does to the list.
-/
import Derived.Test.YtgfhmfhhobhojaaEPost
namespace Go.Proofs.Ytgfhmfhhobhojaa
open Go.ChangeShapes Go.WideShapes Go.ChangeAt Go.RowKit
variable {w : World} {F : Nat → Prop} {c : ECfg} {D : Nat} {p : PV} {m : Nat}
theorem own_setZ {w : World} {base z : Nat} {e : TypeId} {g n cap q : Nat} {xs : List Value} {u : Value} (h : w.ownsRow base e z (.slice (some ⟨g, 0, none⟩) n cap) n xs) (hq : q < n * z) : (w.setCell ⟨g, q, none⟩ u).ownsRow base e z (.slice (some ⟨g, 0, none⟩) n cap) n (xs.set q u) := by
  have hn : 0 < n := by
    rcases Nat.eq_zero_or_pos n with h0 | h0
    · subst h0; omega
    · exact h0
  obtain ⟨g', cap', cur, hv, hg, hB, hle, hcm, hsz, htk⟩ := own_parts h hn
  simp only [Value.slice.injEq, Option.some.injEq, Addr.mk.injEq] at hv
  obtain ⟨⟨rfl, _⟩, _, rfl⟩ := hv
  refine ⟨by rw [List.length_set]; exact h.1, .inr ⟨g, cap, cur.setIfInBounds q u, rfl, hg, hB.set_ q u, hle, hcm, by rw [Array.size_setIfInBounds]; exact hsz, ?_⟩⟩
  rw [Array.toList_setIfInBounds, List.take_set, htk]
theorem rowsP_due {X : List (Flt × Nat)} {k : Nat} {f : Flt} {y : Nat} (hx : X[k]? = some (f, y)) (d : Nat) : (rowsP X).set (k * 5 + 3) (.int .i64 (d : Int)) = rowsP (X.set k ({ f with due := d }, y)) := by
  obtain ⟨h1, h2, _⟩ := split_at hx
  have hlt : k < X.length := (List.getElem?_eq_some_iff.1 hx).1
  have e2 : X.set k ({ f with due := d }, y) = X.take k ++ ({ f with due := d }, y) :: X.drop (k + 1) := by
    rw [List.set_eq_take_append_cons_drop, if_pos hlt]
  have e1 : rowsP X = rowsP (X.take k) ++ (f.row y ++ rowsP (X.drop (k + 1))) := by
    have h3 : rowsP X = rowsP (X.take k ++ (f, y) :: X.drop (k + 1)) := by rw [← h1]
    rw [h3, rowsP_append]
    simp [rowsP]
  have e3 : rowsP (X.set k ({ f with due := d }, y)) = rowsP (X.take k) ++ (({ f with due := d } : Flt).row y ++ rowsP (X.drop (k + 1))) := by
    rw [e2, rowsP_append]
    simp [rowsP]
  rw [e1, e3, List.set_append_right _ _ (by rw [rowsP_length, h2]; omega), rowsP_length, h2, show k * 5 + 3 - k * 5 = 3 by omega]
  rfl
/-- One packet's due round. -/
theorem PN.setW {P S L : Nat} {g cap : Nat} {X : List (Flt × Nat)} {k : Nat} {f : Flt} {y : Nat} (h : PN w F c D p m P S L (.slice (some ⟨g, 0, none⟩) X.length cap) X) (hx : X[k]? = some (f, y)) (d : Nat) : PN (w.setCell ⟨g, k * 5 + 3, none⟩ (.int .i64 (d : Int))) F c D { p with way := p.way.set k { f with due := d } } m P S L (.slice (some ⟨g, 0, none⟩) X.length cap) (X.set k ({ f with due := d }, y)) := by
  have hlt : k < X.length := (List.getElem?_eq_some_iff.1 hx).1
  obtain ⟨_, _, cu, hB⟩ := own_block_lt h.row (g := g) rfl
  obtain ⟨v1, v2, v3⟩ := h.vne (g := g) rfl
  have hmem : ∀ x ∈ X.set k ({ f with due := d }, y), ∃ x' ∈ X, x'.2 = x.2 ∧ x'.1.bs = x.1.bs := fun x hxx => by
    rcases List.mem_or_eq_of_mem_set hxx with h1 | rfl
    · exact ⟨x, h1, rfl, rfl⟩
    · exact ⟨(f, y), List.mem_of_getElem? hx, rfl, rfl⟩
  have hmap : (X.set k ({ f with due := d }, y)).map (·.2) = X.map (·.2) := by
    rw [List.map_set]
    have h1 : (X.map (·.2))[k]? = some y := by rw [List.getElem?_map, hx]; rfl
    obtain ⟨h2, h3⟩ := List.getElem?_eq_some_iff.1 h1
    rw [← h3, List.set_getElem_self]
  refine ⟨h.blk.far (Ne.symm v1) _, h.peers.far (Ne.symm v2) _, h.shut.setCell (h.shut.ne_blk hB) _, h.slow.setCell (h.slow.ne_blk hB) _, by rw [List.map_set, h.way], ?_, fun x hxx => ?_, by rw [hmap]; exact h.nodup, h.ne, h.fd, h.fp, h.fs, h.fl, h.fv, fun x hxx => ?_⟩
  · have h1 := own_setZ (u := .int .i64 (d : Int)) h.row (show k * 5 + 3 < X.length * 5 by omega)
    rw [rowsP_due hx d] at h1
    rw [List.length_set]
    exact h1
  · obtain ⟨x', h1, h2, h3⟩ := hmem x hxx
    rw [← h2, ← h3]
    exact (h.bytes x' h1).far (v3 x' h1) _
  · obtain ⟨x', h1, h2, _⟩ := hmem x hxx
    rw [← h2]; exact h.fx x' h1
/-- One packet's byte. -/
theorem PN.setY {P S L : Nat} {v : Value} {X : List (Flt × Nat)} {k q : Nat} {f : Flt} {y : Nat} {b : UInt8} (h : PN w F c D p m P S L v X) (hx : X[k]? = some (f, y)) : PN (w.setCell ⟨y, q, none⟩ (.int .u8 (b.toNat : Int))) F c D { p with way := p.way.set k { f with bs := f.bs.set q b } } m P S L v (X.set k ({ f with bs := f.bs.set q b }, y)) := by
  have hlt : k < X.length := (List.getElem?_eq_some_iff.1 hx).1
  have hxm := List.mem_of_getElem? hx
  have hy := h.bytes _ hxm
  have hmap : (X.set k ({ f with bs := f.bs.set q b }, y)).map (·.2) = X.map (·.2) := by
    rw [List.map_set]
    have h1 : (X.map (·.2))[k]? = some y := by rw [List.getElem?_map, hx]; rfl
    obtain ⟨h2, h3⟩ := List.getElem?_eq_some_iff.1 h1
    rw [← h3, List.set_getElem_self]
  have hrow : rowsP (X.set k ({ f with bs := f.bs.set q b }, y)) = rowsP X := by
    unfold rowsP
    rw [List.map_set]
    have h1 : (X.map fun x => x.1.row x.2)[k]? = some (f.row y) := by rw [List.getElem?_map, hx]; rfl
    obtain ⟨h2, h3⟩ := List.getElem?_eq_some_iff.1 h1
    have e : (({ f with bs := f.bs.set q b } : Flt).row y) = f.row y := by simp [Flt.row]
    simp only [e]
    rw [← h3, List.set_getElem_self]
  refine ⟨h.blk.far (h.blk.ne_ hy (by decide)) _, h.peers.far (h.peers.ne_ hy (by decide)) _, h.shut.setCell (h.shut.ne_blk hy) _, h.slow.setCell (h.slow.ne_blk hy) _, by rw [List.map_set, h.way], ?_, fun x hxx => ?_, by rw [hmap]; exact h.nodup, h.ne, h.fd, h.fp, h.fs, h.fl, h.fv, fun x hxx => ?_⟩
  · rw [hrow, List.length_set]
    exact own_far h.row fun g hg => (h.vne hg).2.2 _ hxm |>.symm
  · obtain ⟨i, hi, he⟩ := List.getElem_of_mem hxx
    rw [List.length_set] at hi
    by_cases hk : i = k
    · subst hk
      rw [List.getElem_set_self] at he
      subst he
      have e : (bvs (f.bs.set q b)).toArray = (bvs f.bs).toArray.setIfInBounds q (.int .u8 (b.toNat : Int)) := by
        apply Array.toList_inj.1
        simp [bvs, List.map_set]
      show Blk _ y _ (bvs (f.bs.set q b)).toArray
      rw [e]
      exact hy.set_ q _
    · rw [List.getElem_set_ne (by omega)] at he
      subst he
      refine (h.bytes _ (List.getElem_mem hi)).far (fun e => ?_) _
      have h1 := List.pairwise_iff_getElem.1 h.nodup
      have hk2 : (X.map (·.2)).length = X.length := List.length_map ..
      have h3 : X[k].2 = y := by
        obtain ⟨_, h4⟩ := List.getElem?_eq_some_iff.1 hx
        rw [h4]
      rcases Nat.lt_or_gt_of_ne hk with h4 | h4
      · exact h1 i k (by omega) (by omega) h4 (by simp only [List.getElem_map]; rw [h3]; exact e)
      · exact h1 k i (by omega) (by omega) h4 (by simp only [List.getElem_map]; rw [h3]; exact e.symm)
  · rcases List.mem_or_eq_of_mem_set hxx with h1 | rfl
    · exact h.fx x h1
    · exact h.fx (f, y) hxm
end Go.Proofs.Ytgfhmfhhobhojaa
namespace Go.Proofs.Ytgfhmfhhobhojaa
open Go.ChangeShapes Go.WideShapes Go.ChangeAt Go.RowKit
variable {w : World} {F : Nat → Prop} {c : ECfg} {D : Nat} {p : PV} {m : Nat}
def flipV (x : UInt8) (r : Nat) : UInt8 := x ^^^ ((1 : UInt8) <<< (UInt8.ofNat r))
theorem PNx.flt0 (h : PNx w F c D p m) {k : Nat} {f : Flt} (hk : p.way[k]? = some f) (hlen : p.way.length ≤ 1099511627776) : ∃ P S L g cap X y, PN w F c D p m P S L (.slice (some ⟨g, 0, none⟩) X.length cap) X ∧ k < X.length ∧ X.length ≤ 1099511627776 ∧ X.length ≤ cap ∧ X[k]? = some (f, y) ∧ X.length = p.way.length := by
  obtain ⟨_, P, S, L, v, X, hP⟩ := h
  have hkX : k < X.length := by rw [← hP.len]; exact (List.getElem?_eq_some_iff.1 hk).1
  obtain ⟨g, cap, f', y, rfl, hx, hf', _⟩ := hP.flt hkX
  obtain rfl : f' = f := by rw [hk] at hf'; injection hf' with hf'; exact hf'.symm
  obtain ⟨_, cap', cur, hv, _, hB, hle, hcm, hsz, htk⟩ := own_parts hP.row (by omega)
  simp only [Value.slice.injEq, Option.some.injEq, Addr.mk.injEq] at hv
  obtain ⟨⟨rfl, _⟩, _, rfl⟩ := hv
  exact ⟨P, S, L, g, cap, X, y, hP, hkX, by rw [← hP.len]; exact hlen, hle, hx, hP.len.symm⟩
theorem PN.fcell {P S L g cap : Nat} {X : List (Flt × Nat)} {k : Nat} {f : Flt} {y : Nat} (h : PN w F c D p m P S L (.slice (some ⟨g, 0, none⟩) X.length cap) X) (hx : X[k]? = some (f, y)) :
    w.cell? ⟨g, k * 5, none⟩ = some (.int .i64 (f.id : Int)) ∧ w.cell? ⟨g, k * 5 + 1, none⟩ = some (.int .i64 (f.src : Int)) ∧ w.cell? ⟨g, k * 5 + 2, none⟩ = some (.int .i64 (f.dst : Int)) ∧ w.cell? ⟨g, k * 5 + 3, none⟩ = some (.int .i64 (f.due : Int)) ∧ w.cell? ⟨g, k * 5 + 4, none⟩ = some (.slice (some ⟨y, 0, none⟩) f.bs.length f.bs.length) := by
  obtain ⟨g', cap', f', y', hv, hx', _, h0, h1, h2, h3, h4⟩ := h.flt (List.getElem?_eq_some_iff.1 hx).1
  simp only [Value.slice.injEq, Option.some.injEq, Addr.mk.injEq] at hv
  obtain ⟨⟨rfl, _⟩, _, rfl⟩ := hv
  rw [hx] at hx'
  injection hx' with hx'
  injection hx' with e1 e2
  subst e1 e2
  exact ⟨h0, h1, h2, h3, h4⟩
theorem PN.frow {P S L g cap : Nat} {X : List (Flt × Nat)} (h : PN w F c D p m P S L (.slice (some ⟨g, 0, none⟩) X.length cap) X) (i : Nat) : w.frozen? ⟨g, i, none⟩ = false := by
  obtain ⟨_, _, cu, hB⟩ := own_block_lt h.row (g := g) rfl
  exact hB.frozen i
set_option maxRecDepth 100000 in
set_option maxHeartbeats 3200000 in
theorem touch_12 (h : PNx w F c D p m) {k : Nat} {f : Flt} (hk : p.way[k]? = some f) (hlen : p.way.length ≤ 1099511627776) (a b n : Int) (BA SA : Option Addr) (bn bc sn sc : Nat) : Calls Try.prog 44 #[.pointer (some ⟨D, 0, none⟩), .int .i64 (k : Int), .agg #[.int .i64 12, .int .i64 a, .int .i64 b, .int .i64 n, .slice BA bn bc, .int .i64 0, .int .i64 0, .int .i64 0, .int .i64 0, .string ByteArray.empty, .string ByteArray.empty, .string ByteArray.empty, .slice SA sn sc]] w (StepP w F c D m (.int .i64 0) ({ p with way := p.way.eraseIdx k })) := by
  have hb0 := one_box' w (.cells #[.int .i64 12, .int .i64 a, .int .i64 b, .int .i64 n, .slice BA bn bc, .int .i64 0, .int .i64 0, .int .i64 0, .int .i64 0, .string ByteArray.empty, .string ByteArray.empty, .string ByteArray.empty, .slice SA sn sc] 41)
  have hE := Blk.new w 41 #[.int .i64 12, .int .i64 a, .int .i64 b, .int .i64 n, .slice BA bn bc, .int .i64 0, .int .i64 0, .int .i64 0, .int .i64 0, .string ByteArray.empty, .string ByteArray.empty, .string ByteArray.empty, .slice SA sn sc]
  obtain ⟨w0, hw0⟩ : ∃ w0, w0 = w.alloc (.cells #[.int .i64 12, .int .i64 a, .int .i64 b, .int .i64 n, .slice BA bn bc, .int .i64 0, .int .i64 0, .int .i64 0, .int .i64 0, .string ByteArray.empty, .string ByteArray.empty, .string ByteArray.empty, .slice SA sn sc] 41) := ⟨_, rfl⟩
  rw [← hw0] at hb0 hE
  have hp0 := h.below hb0
  obtain ⟨P, S, L, g, cap, X, y, hP, hkX, hXl, hXc, hx, hxw⟩ := hp0.flt0 hk hlen
  obtain ⟨m0, m1, m2, m3, m4⟩ := hP.fcell hx
  have HF0 := Lib.hid hp0.1
  have HFw := Lib.hid h.1
  have HX := Lib.hid h
  have HW := Lib.hid hw0
  have HB := Lib.hid hb0
  have HP := Lib.hid hP
  have HXk := Lib.hid hx
  have HXW := Lib.hid hxw
  have HE := Lib.hid hE
  have g6 : w0.cell? ⟨D, 6, none⟩ = some (.slice (some ⟨g, 0, none⟩) X.length cap) := hP.blk.cell 6
  have k0 : w0.cell? ⟨w.heap.size, 0, none⟩ = some (.int .i64 12) := hE.cell 0
  have k3 : w0.cell? ⟨w.heap.size, 3, none⟩ = some (.int .i64 n) := hE.cell 3
  have hkI : (k : Int) < (X.length : Int) := by omega
  have HO := Lib.hid (out_any hp0 hk (by omega))
  clear hw0 hb0 hE hp0 h hP hx hxw m0 m1 m2 m3 m4
  go_enter Try.func44, Try.ntmps44
  go_upto_region 1 with fail
  rw [← HW.out]
  go_wp2_with fail
  refine HO.out.mono ?_
  rintro _ w1 ⟨y', rfl, h1, _, h3, _⟩
  have HS : Hid (StepP w F c D m (.int .i64 0) { p with way := p.way.eraseIdx k } (.returned (.int .i64 0)) w1) := Lib.hid ⟨rfl, F, h1, fun _ h => .inl h, (Chg.of_below HB.out F).trans h3⟩
  clear h1 h3
  go_wp2
  go_ret
  exact HS.out
set_option maxRecDepth 100000 in
set_option maxHeartbeats 3200000 in
theorem touch_13no (h : PNx w F c D p m) {k : Nat} {f : Flt} (hk : p.way[k]? = some f) (hlen : p.way.length ≤ 1099511627776) (a b n : Int) (BA SA : Option Addr) (bn bc sn sc : Nat) (hrm : c.room ≤ p.way.length) : Calls Try.prog 44 #[.pointer (some ⟨D, 0, none⟩), .int .i64 (k : Int), .agg #[.int .i64 13, .int .i64 a, .int .i64 b, .int .i64 n, .slice BA bn bc, .int .i64 0, .int .i64 0, .int .i64 0, .int .i64 0, .string ByteArray.empty, .string ByteArray.empty, .string ByteArray.empty, .slice SA sn sc]] w (StepP w F c D m (.int .i64 31) (p)) := by
  have hb0 := one_box' w (.cells #[.int .i64 13, .int .i64 a, .int .i64 b, .int .i64 n, .slice BA bn bc, .int .i64 0, .int .i64 0, .int .i64 0, .int .i64 0, .string ByteArray.empty, .string ByteArray.empty, .string ByteArray.empty, .slice SA sn sc] 41)
  have hE := Blk.new w 41 #[.int .i64 13, .int .i64 a, .int .i64 b, .int .i64 n, .slice BA bn bc, .int .i64 0, .int .i64 0, .int .i64 0, .int .i64 0, .string ByteArray.empty, .string ByteArray.empty, .string ByteArray.empty, .slice SA sn sc]
  obtain ⟨w0, hw0⟩ : ∃ w0, w0 = w.alloc (.cells #[.int .i64 13, .int .i64 a, .int .i64 b, .int .i64 n, .slice BA bn bc, .int .i64 0, .int .i64 0, .int .i64 0, .int .i64 0, .string ByteArray.empty, .string ByteArray.empty, .string ByteArray.empty, .slice SA sn sc] 41) := ⟨_, rfl⟩
  rw [← hw0] at hb0 hE
  have hp0 := h.below hb0
  obtain ⟨P, S, L, g, cap, X, y, hP, hkX, hXl, hXc, hx, hxw⟩ := hp0.flt0 hk hlen
  obtain ⟨m0, m1, m2, m3, m4⟩ := hP.fcell hx
  have HF0 := Lib.hid hp0.1
  have HFw := Lib.hid h.1
  have HX := Lib.hid h
  have HW := Lib.hid hw0
  have HB := Lib.hid hb0
  have HP := Lib.hid hP
  have HXk := Lib.hid hx
  have HXW := Lib.hid hxw
  have HE := Lib.hid hE
  have g6 : w0.cell? ⟨D, 6, none⟩ = some (.slice (some ⟨g, 0, none⟩) X.length cap) := hP.blk.cell 6
  have k0 : w0.cell? ⟨w.heap.size, 0, none⟩ = some (.int .i64 13) := hE.cell 0
  have k3 : w0.cell? ⟨w.heap.size, 3, none⟩ = some (.int .i64 n) := hE.cell 3
  have hkI : (k : Int) < (X.length : Int) := by omega
  have d6 : w0.drew.cell? ⟨D, 6, none⟩ = some (.slice (some ⟨g, 0, none⟩) X.length cap) := g6
  have hI : (c.room : Int) ≤ (X.length : Int) := by omega
  have e1 : decide ((X.length : Int) ≥ (c.room : Int)) = true := by simp; omega
  have c0 : w0.cell? ⟨D, 0, none⟩ = some (.int .i64 (c.room : Int)) := hP.blk.cell 0
  clear hw0 hb0 hE hp0 h hP hx hxw m0 m1 m2 m3 m4 hrm
  go_enter Try.func44, Try.ntmps44
  go_upto_region 1 with fail
  rw [← HW.out]
  go_upto_region 6 with fail
  go_quiet (fail)
  have HB2 : Hid (Below w.heap.size w (w0.drewN nq)) := Lib.hid (below_drewN HB.out nq)
  go_wp2
  go_ret
  exact StepP.same HX.out HB2.out
set_option maxRecDepth 100000 in
set_option maxHeartbeats 3200000 in
theorem touch_13yes (h : PNx w F c D p m) {k : Nat} {f : Flt} (hk : p.way[k]? = some f) (hlen : p.way.length ≤ 1099511627776) (a b n : Int) (BA SA : Option Addr) (bn bc sn sc : Nat) (hrm : ¬ c.room ≤ p.way.length) (hlast : p.last ≤ 4611686018427387904) (hbl : f.bs.length ≤ 140737488351232) : Calls Try.prog 44 #[.pointer (some ⟨D, 0, none⟩), .int .i64 (k : Int), .agg #[.int .i64 13, .int .i64 a, .int .i64 b, .int .i64 n, .slice BA bn bc, .int .i64 0, .int .i64 0, .int .i64 0, .int .i64 0, .string ByteArray.empty, .string ByteArray.empty, .string ByteArray.empty, .slice SA sn sc]] w (StepP w F c D m (.int .i64 0) (addP p f.src f.dst f.due f.bs)) := by
  have hb0 := one_box' w (.cells #[.int .i64 13, .int .i64 a, .int .i64 b, .int .i64 n, .slice BA bn bc, .int .i64 0, .int .i64 0, .int .i64 0, .int .i64 0, .string ByteArray.empty, .string ByteArray.empty, .string ByteArray.empty, .slice SA sn sc] 41)
  have hE := Blk.new w 41 #[.int .i64 13, .int .i64 a, .int .i64 b, .int .i64 n, .slice BA bn bc, .int .i64 0, .int .i64 0, .int .i64 0, .int .i64 0, .string ByteArray.empty, .string ByteArray.empty, .string ByteArray.empty, .slice SA sn sc]
  obtain ⟨w0, hw0⟩ : ∃ w0, w0 = w.alloc (.cells #[.int .i64 13, .int .i64 a, .int .i64 b, .int .i64 n, .slice BA bn bc, .int .i64 0, .int .i64 0, .int .i64 0, .int .i64 0, .string ByteArray.empty, .string ByteArray.empty, .string ByteArray.empty, .slice SA sn sc] 41) := ⟨_, rfl⟩
  rw [← hw0] at hb0 hE
  have hp0 := h.below hb0
  obtain ⟨P, S, L, g, cap, X, y, hP, hkX, hXl, hXc, hx, hxw⟩ := hp0.flt0 hk hlen
  obtain ⟨m0, m1, m2, m3, m4⟩ := hP.fcell hx
  have HF0 := Lib.hid hp0.1
  have HFw := Lib.hid h.1
  have HX := Lib.hid h
  have HW := Lib.hid hw0
  have HB := Lib.hid hb0
  have HP := Lib.hid hP
  have HXk := Lib.hid hx
  have HXW := Lib.hid hxw
  have HE := Lib.hid hE
  have g6 : w0.cell? ⟨D, 6, none⟩ = some (.slice (some ⟨g, 0, none⟩) X.length cap) := hP.blk.cell 6
  have k0 : w0.cell? ⟨w.heap.size, 0, none⟩ = some (.int .i64 13) := hE.cell 0
  have k3 : w0.cell? ⟨w.heap.size, 3, none⟩ = some (.int .i64 n) := hE.cell 3
  have hkI : (k : Int) < (X.length : Int) := by omega
  have hI : ¬ (c.room : Int) ≤ (X.length : Int) := by omega
  have e1 : decide ((X.length : Int) ≥ (c.room : Int)) = false := by simp; omega
  have c0 : w0.cell? ⟨D, 0, none⟩ = some (.int .i64 (c.room : Int)) := hP.blk.cell 0
  have HAD : Hid (∀ d, Calls Try.prog 61 #[.pointer (some ⟨D, 0, none⟩), .agg #[.int .i64 (f.src : Int), .int .i64 (f.dst : Int)], .int .i64 (f.due : Int), .slice (some ⟨y, 0, none⟩) f.bs.length f.bs.length] (w0.drewN d) (StepP (w0.drewN d) F c D m (.int .i64 ((p.last : Int) + 1)) (addP p f.src f.dst f.due f.bs))) := Lib.hid fun d => by
    have hxm := List.mem_of_getElem? hx
    have hPd := hP.below hp0.1 (below_drewN (Below.refl _ _) d)
    have hy := hPd.bytes _ hxm
    refine add_any ((h.below hb0).below (below_drewN (Below.refl _ _) d)) f.src f.dst f.due (some ⟨y, 0, none⟩) f.bs.length f.bs.length f.bs ⟨by rw [bvs_length, Nat.mul_one], fun _ => ⟨y, 0, rfl, hy.lt, fun q u hu => ?_⟩⟩ hbl (fun _ b' o' s' e => ?_) hlen hlast
    · rw [Nat.zero_add, hy.cell, List.getElem?_toArray]; exact hu
    · injection e with e; injection e with e
      subst e
      exact hy.ne_ hPd.blk (by decide)
  clear hw0 hb0 hE hp0 h hP hx hxw hrm
  go_enter Try.func44, Try.ntmps44
  go_upto_region 1 with fail
  rw [← HW.out]
  go_upto_region 6 with fail
  go_quiet (fail)
  have HB2 : Hid (Below w.heap.size w (w0.drewN nq)) := Lib.hid (below_drewN HB.out nq)
  have HQ := Lib.hid (HAD.out (nq + 1))
  obtain ⟨w1, hw1⟩ : ∃ w1, w1 = (w0.drewN nq) := ⟨_, rfl⟩
  have HW1 := Lib.hid hw1
  have M1 : w1.drew.cell? ⟨g, k * 5 + 1, none⟩ = some (.int .i64 (f.src : Int)) ∧ w1.drew.cell? ⟨g, k * 5 + 2, none⟩ = some (.int .i64 (f.dst : Int)) ∧ w1.drew.cell? ⟨g, k * 5 + 3, none⟩ = some (.int .i64 (f.due : Int)) ∧ w1.drew.cell? ⟨g, k * 5 + 4, none⟩ = some (.slice (some ⟨y, 0, none⟩) f.bs.length f.bs.length) := by rw [hw1]; exact ⟨m1, m2, m3, m4⟩
  clear m0 m1 m2 m3 m4 hw1
  go_upto_region 8 with fail
  rw [← HW1.out]
  have HQ2 : Hid (Calls Try.prog 61 #[.pointer (some ⟨D, 0, none⟩), .agg #[.int .i64 (f.src : Int), .int .i64 (f.dst : Int)], .int .i64 (f.due : Int), .slice (some ⟨y, 0, none⟩) f.bs.length f.bs.length] w1.drew (StepP w1.drew F c D m (.int .i64 ((p.last : Int) + 1)) (addP p f.src f.dst f.due f.bs))) := Lib.hid (by rw [HW1.out]; exact HQ.out)
  have HB3 : Hid (Below w.heap.size w w1.drew) := Lib.hid (by rw [HW1.out]; exact below_drewN HB2.out 1)
  have HFb : Hid (∀ (F' : Nat → Prop) (W : World), PNx W F' c D (addP p f.src f.dst f.due f.bs) m → (∀ q, F' q → F q ∨ w1.drew.heap.size ≤ q) → Chg F w1.drew W → StepP w F c D m (.int .i64 0) (addP p f.src f.dst f.due f.bs) (.returned (.int .i64 0)) W) := Lib.hid fun F' W h1 h2 h3 => ⟨rfl, F', h1, fun q hq => (h2 q hq).imp id fun h => Nat.le_trans HB3.out.size h, (Chg.of_below HB3.out F).trans h3⟩
  refine region_tail 18 (by kernel_rfl) (by kernel_rfl) ?_
  simp only [List.take_succ_cons, List.take_zero, List.drop_succ_cons, List.drop_zero]
  obtain ⟨M1a, M1b, M1c, M1d⟩ := M1
  repeat still_step
  refine wpStill_nil ?_
  change wpList _ _ _ _ _ w1.drew
  go_wp2_with fail
  refine HQ2.out.mono ?_
  rintro _ w2 ⟨rfl, F', h1, h2, h3⟩
  have HS := Lib.hid (HFb.out F' w2 h1 h2 h3)
  clear h1 h2 h3
  go_wp2
  go_ret
  exact HS.out
set_option maxRecDepth 100000 in
set_option maxHeartbeats 3200000 in
theorem touch_15no (h : PNx w F c D p m) {k : Nat} {f : Flt} (hk : p.way[k]? = some f) (hlen : p.way.length ≤ 1099511627776) (a b n : Int) (BA SA : Option Addr) (bn bc sn sc : Nat) (hno : n < 1 ∨ 16 < n) : Calls Try.prog 44 #[.pointer (some ⟨D, 0, none⟩), .int .i64 (k : Int), .agg #[.int .i64 15, .int .i64 a, .int .i64 b, .int .i64 n, .slice BA bn bc, .int .i64 0, .int .i64 0, .int .i64 0, .int .i64 0, .string ByteArray.empty, .string ByteArray.empty, .string ByteArray.empty, .slice SA sn sc]] w (StepP w F c D m (.int .i64 1) (p)) := by
  have hb0 := one_box' w (.cells #[.int .i64 15, .int .i64 a, .int .i64 b, .int .i64 n, .slice BA bn bc, .int .i64 0, .int .i64 0, .int .i64 0, .int .i64 0, .string ByteArray.empty, .string ByteArray.empty, .string ByteArray.empty, .slice SA sn sc] 41)
  have hE := Blk.new w 41 #[.int .i64 15, .int .i64 a, .int .i64 b, .int .i64 n, .slice BA bn bc, .int .i64 0, .int .i64 0, .int .i64 0, .int .i64 0, .string ByteArray.empty, .string ByteArray.empty, .string ByteArray.empty, .slice SA sn sc]
  obtain ⟨w0, hw0⟩ : ∃ w0, w0 = w.alloc (.cells #[.int .i64 15, .int .i64 a, .int .i64 b, .int .i64 n, .slice BA bn bc, .int .i64 0, .int .i64 0, .int .i64 0, .int .i64 0, .string ByteArray.empty, .string ByteArray.empty, .string ByteArray.empty, .slice SA sn sc] 41) := ⟨_, rfl⟩
  rw [← hw0] at hb0 hE
  have hp0 := h.below hb0
  obtain ⟨P, S, L, g, cap, X, y, hP, hkX, hXl, hXc, hx, hxw⟩ := hp0.flt0 hk hlen
  obtain ⟨m0, m1, m2, m3, m4⟩ := hP.fcell hx
  have HF0 := Lib.hid hp0.1
  have HFw := Lib.hid h.1
  have HX := Lib.hid h
  have HW := Lib.hid hw0
  have HB := Lib.hid hb0
  have HP := Lib.hid hP
  have HXk := Lib.hid hx
  have HXW := Lib.hid hxw
  have HE := Lib.hid hE
  have g6 : w0.cell? ⟨D, 6, none⟩ = some (.slice (some ⟨g, 0, none⟩) X.length cap) := hP.blk.cell 6
  have k0 : w0.cell? ⟨w.heap.size, 0, none⟩ = some (.int .i64 15) := hE.cell 0
  have k3 : w0.cell? ⟨w.heap.size, 3, none⟩ = some (.int .i64 n) := hE.cell 3
  have hkI : (k : Int) < (X.length : Int) := by omega
  have HS : Hid (StepP w F c D m (.int .i64 1) p (.returned (.int .i64 1)) w0) := Lib.hid (StepP.same HX.out hb0)
  clear hw0 hb0 hE hp0 h hP hx hxw m0 m1 m2 m3 m4
  by_cases h1 : n < 1
  · go_enter Try.func44, Try.ntmps44
    go_upto_region 1 with fail
    rw [← HW.out]
    go_wp2
    go_ret
    exact HS.out
  · have h2 : n > 16 := by omega
    go_enter Try.func44, Try.ntmps44
    go_upto_region 1 with fail
    rw [← HW.out]
    go_wp2
    go_ret
    exact HS.out
set_option maxRecDepth 100000 in
set_option maxHeartbeats 3200000 in
theorem touch_15yes (h : PNx w F c D p m) {k : Nat} {f : Flt} (hk : p.way[k]? = some f) (hlen : p.way.length ≤ 1099511627776) (a b n : Int) (BA SA : Option Addr) (bn bc sn sc : Nat) (d : Nat) (hd : n = (d : Int)) (hd1 : 1 ≤ d) (hd2 : d ≤ 16) (hdue : f.due ≤ 4611686018427387904) : Calls Try.prog 44 #[.pointer (some ⟨D, 0, none⟩), .int .i64 (k : Int), .agg #[.int .i64 15, .int .i64 a, .int .i64 b, .int .i64 n, .slice BA bn bc, .int .i64 0, .int .i64 0, .int .i64 0, .int .i64 0, .string ByteArray.empty, .string ByteArray.empty, .string ByteArray.empty, .slice SA sn sc]] w (StepP w F c D m (.int .i64 0) ({ p with way := p.way.set k { f with due := f.due + d } })) := by
  have hb0 := one_box' w (.cells #[.int .i64 15, .int .i64 a, .int .i64 b, .int .i64 n, .slice BA bn bc, .int .i64 0, .int .i64 0, .int .i64 0, .int .i64 0, .string ByteArray.empty, .string ByteArray.empty, .string ByteArray.empty, .slice SA sn sc] 41)
  have hE := Blk.new w 41 #[.int .i64 15, .int .i64 a, .int .i64 b, .int .i64 n, .slice BA bn bc, .int .i64 0, .int .i64 0, .int .i64 0, .int .i64 0, .string ByteArray.empty, .string ByteArray.empty, .string ByteArray.empty, .slice SA sn sc]
  obtain ⟨w0, hw0⟩ : ∃ w0, w0 = w.alloc (.cells #[.int .i64 15, .int .i64 a, .int .i64 b, .int .i64 n, .slice BA bn bc, .int .i64 0, .int .i64 0, .int .i64 0, .int .i64 0, .string ByteArray.empty, .string ByteArray.empty, .string ByteArray.empty, .slice SA sn sc] 41) := ⟨_, rfl⟩
  rw [← hw0] at hb0 hE
  have hp0 := h.below hb0
  obtain ⟨P, S, L, g, cap, X, y, hP, hkX, hXl, hXc, hx, hxw⟩ := hp0.flt0 hk hlen
  obtain ⟨m0, m1, m2, m3, m4⟩ := hP.fcell hx
  have HF0 := Lib.hid hp0.1
  have HFw := Lib.hid h.1
  have HX := Lib.hid h
  have HW := Lib.hid hw0
  have HB := Lib.hid hb0
  have HP := Lib.hid hP
  have HXk := Lib.hid hx
  have HXW := Lib.hid hxw
  have HE := Lib.hid hE
  have g6 : w0.cell? ⟨D, 6, none⟩ = some (.slice (some ⟨g, 0, none⟩) X.length cap) := hP.blk.cell 6
  have k0 : w0.cell? ⟨w.heap.size, 0, none⟩ = some (.int .i64 15) := hE.cell 0
  have k3 : w0.cell? ⟨w.heap.size, 3, none⟩ = some (.int .i64 n) := hE.cell 3
  have hkI : (k : Int) < (X.length : Int) := by omega
  have h1 : ¬ n < 1 := by omega
  have h2 : ¬ n > 16 := by omega
  have hwk : IntKind.i64.wrap ((f.due : Int) + n) = (f.due : Int) + (d : Int) := (IntWalk.i64_in _ (by omega)).trans (by omega)
  obtain ⟨w1, hw1⟩ : ∃ w1, w1 = w0.drew := ⟨_, rfl⟩
  have hP1 : PN w1 F c D p m P S L (.slice (some ⟨g, 0, none⟩) X.length cap) X := by rw [hw1]; exact hP.below HF0.out (below_drewN (Below.refl _ _) 1)
  have q3 : w1.cell? ⟨g, k * 5 + 3, none⟩ = some (.int .i64 (f.due : Int)) := (hP1.fcell hx).2.2.2.1
  have qf : w1.frozen? ⟨g, k * 5 + 3, none⟩ = false := hP1.frow _
  have e3 : w1.cell? ⟨w.heap.size, 3, none⟩ = some (.int .i64 n) := by rw [hw1]; exact hE.cell 3
  obtain ⟨w2, hw2⟩ : ∃ w2, w2 = w1.setCell ⟨g, k * 5 + 3, none⟩ (.int .i64 ((f.due : Int) + (d : Int))) := ⟨_, rfl⟩
  have HS : Hid (StepP w F c D m (.int .i64 0) { p with way := p.way.set k { f with due := f.due + d } } (.returned (.int .i64 0)) w2) := by
    have hc : Chg F w w2 := by
      rw [hw2, hw1]
      exact ((Chg.of_below hb0 F).drewN 1).setCell (.inl (hP.fv g rfl)) _
    have hs := hP1.setW hx (f.due + d)
    rw [Int.natCast_add, ← hw2] at hs
    exact Lib.hid ⟨rfl, F, ⟨fun q hq => Nat.lt_of_lt_of_le (HFw.out q hq) hc.size, P, S, L, _, _, hs⟩, fun _ h => .inl h, hc⟩
  have HW1 := Lib.hid hw1
  have HW2 := Lib.hid hw2
  clear hd hw0 hw1 hw2 hb0 hE hp0 h hP hP1 hx hxw m0 m1 m2 m3 m4
  go_enter Try.func44, Try.ntmps44
  go_upto_region 1 with fail
  rw [← HW.out]
  go_upto_region 12 with fail
  refine region_tail 9 (by kernel_rfl) (by kernel_rfl) ?_
  simp only [List.take_succ_cons, List.take_zero, List.drop_succ_cons, List.drop_zero]
  rw [← HW1.out]
  repeat still_step
  refine wpStill_nil ?_
  change wpList _ _ _ _ _ w1
  go_upto_region 17 with fail
  rw [← HW2.out]
  go_wp2
  go_ret
  exact HS.out
end Go.Proofs.Ytgfhmfhhobhojaa
