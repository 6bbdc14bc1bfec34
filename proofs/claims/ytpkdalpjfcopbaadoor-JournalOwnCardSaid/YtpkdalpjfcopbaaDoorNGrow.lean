/-
  JournalOwn: the lists grown, plainly. And: JournalOwn's store: the lists that were handed out; whole. And: JournalOwn's marks: sign.
-/
import Derived.Test.YtpkdalpjfcopbaaDoorKFrame
import Derived.Test.YtpkdalpjfcopbaaDoorNLst
namespace Go.Proofs.YtpkdalpjfcopbaaDoor
open Go.RowKit
/-- The mark of the list of number n at its place k. -/
def sgn (n k : Nat) : UInt8 := UInt8.ofNat (n / 256 ^ (k % 3)) ^^^ UInt8.ofNat (53 * (k % 3))
/-- A list written full. -/
def sg (n m : Nat) : List UInt8 := (List.range m).map (sgn n)
theorem sg_length (n m : Nat) : (sg n m).length = m := by simp [sg]
theorem sg_at {n m k : Nat} (h : k < m) : (sg n m)[k]? = some (sgn n k) := by simp [sg, h]
theorem sg_succ (n m : Nat) : sg n (m + 1) = sg n m ++ [sgn n m] := by simp [sg, List.range_succ]
theorem sg_take {n m k : Nat} (h : k ≤ m) : (sg n m).take k = sg n k := by
  unfold sg
  rw [← List.map_take, List.take_range, Nat.min_eq_left h]
theorem sgn_int (n k : Nat) : (bits .xor .u8 (((n / 256 ^ (k % 3)) % 256 : Nat) : Int) (((53 * (k % 3)) % 256 : Nat) : Int)) = ((sgn n k).toNat : Int) := by
  unfold sgn
  rw [← xor_u8]
  congr 2 <;> simp
set_option maxRecDepth 100000 in
theorem sign_any (n k : Nat) (w : World) (_hn : n ≤ 4611686018427387904) (hk : k ≤ 4611686018427387904) :
    Calls Tryd.prog 66 #[.int .i64 (n : Int), .int .i64 (k : Int)] w fun e w' => e = .returned (.int .u8 ((sgn n k).toNat : Int)) ∧ w = w' := by
  have hs := sgn_int n k
  generalize (sgn n k).toNat = s at hs ⊢
  have e : bits .xor .u8 ((n : Int) / 2 ^ (8 * (k % 3)) % 256) (53 * ((k : Int) % 3)) = (s : Int) := by
    rw [← hs]
    congr 1
    · rw [show (256 : Nat) ^ (k % 3) = 2 ^ (8 * (k % 3)) from by rw [Nat.pow_mul]]
      push_cast
      rfl
    · omega
  clear hs
  go_enter Tryd.func66, Tryd.ntmps66
  go_wp2
  go_ret
  exact ⟨rfl, rfl⟩
end Go.Proofs.YtpkdalpjfcopbaaDoor
namespace Go.Proofs.YtpkdalpjfcopbaaDoor
open Go.RowKit
/-- A list of bytes, as a value. -/
structure Tv where
  A : Option Addr
  n : Nat
  c : Nat
def Tv.v (t : Tv) : Value := .slice t.A t.n t.c
/-- The store's two lists. -/
structure StO (w : World) (s : Nat) (vt vm : Value) (T M : List Tv) : Prop where
  blk : Blk w s 73 #[vt, vm]
  tx : w.ownsRow 0 22 1 vt T.length (T.map Tv.v)
  mo : w.ownsRow 0 22 1 vm M.length (M.map Tv.v)
  ne : ∀ g, vt.ownBlock = some g → vm.ownBlock = some g → False
/-- A list that was written full, and what came of growing it. -/
structure Done (w : World) (k : Nat) (t m : Tv) : Prop where
  tx : Lr w t.A t.n (sg k t.n)
  n : m.n = t.n + 64
  mo : Lr w m.A m.n (sg k m.n)
  lt : t.n ≤ 1099511627776
structure StAt (w : World) (s : Nat) (vt vm : Value) (T M : List Tv) : Prop where
  so : StO w s vt vm T M
  len : M.length = T.length
  ok : ∀ (k : Nat) (t m : Tv), T[k]? = some t → M[k]? = some m → Done w k t m
  few : T.length ≤ 1099511627776
section
variable {w w' : World} {s k : Nat} {vt vm : Value} {T M : List Tv} {t m : Tv} {S : Nat → Prop}
theorem StO.over (h : StO w s vt vm T M) (hb : Below w.heap.size w w') : StO w' s vt vm T M := ⟨h.blk.over hb, own_over h.tx hb, own_over h.mo hb, h.ne⟩
theorem Done.over (h : Done w k t m) (hb : Below w.heap.size w w') : Done w' k t m := ⟨h.tx.over hb, h.n, h.mo.over hb, h.lt⟩
theorem Done.chg (h : Done w k t m) (hc : Chg S w w') (hS : ∀ g, IsT w 5 g → ¬ S g) : Done w' k t m := ⟨h.tx.chg hc fun g _ _ ht => hS g ht, h.n, h.mo.chg hc fun g _ _ ht => hS g ht, h.lt⟩
theorem StAt.over (h : StAt w s vt vm T M) (hb : Below w.heap.size w w') : StAt w' s vt vm T M := ⟨h.so.over hb, h.len, fun k t m h1 h2 => (h.ok k t m h1 h2).over hb, h.few⟩
/-- A row of a list of lists. -/
theorem row_at {w : World} {v : Value} {T : List Tv} {k : Nat} {t : Tv} (h : w.ownsRow 0 22 1 v T.length (T.map Tv.v)) (hk : T[k]? = some t) : ∃ q cap, v = .slice (some ⟨q, 0, none⟩) T.length cap ∧ q < w.heap.size ∧ IsT w 22 q ∧ w.cell? ⟨q, k, none⟩ = some t.v := by
  have hlt := (List.getElem?_eq_some_iff.1 hk).1
  obtain ⟨q, cap, cur, hv, _, hB, _, _, _, h2⟩ := own_parts h (by omega)
  refine ⟨q, cap, hv, hB.lt, hB.isT, ?_⟩
  have h3 : (T.map Tv.v)[k]? = some t.v := by rw [List.getElem?_map, hk]; rfl
  rw [← h2, List.getElem?_take, if_pos (by omega), Array.getElem?_toList] at h3
  rw [hB.cell]
  exact h3
theorem Lr.byte {A : Option Addr} {n j : Nat} {bs : List UInt8} {c : UInt8} (h : Lr w A n bs) (hj : bs[j]? = some c) : ∃ g o, A = some ⟨g, o, none⟩ ∧ g < w.heap.size ∧ w.cell? ⟨g, o + j, none⟩ = some (.int .u8 (c.toNat : Int)) := by
  have hl := (List.getElem?_eq_some_iff.1 hj).1
  rw [h.len] at hl
  obtain ⟨g, o, cur, e, hB, hx⟩ := h.at_ (by omega)
  exact ⟨g, o, e, hB.lt, by rw [hB.cell]; exact hx j c hj⟩
end
theorem cell_over {W W' : World} {p : Addr} {v : Value} (hb : Below W.heap.size W W') (h : W.cell? p = some v) : W'.cell? p = some v :=
  (World.cell?_of_block (hb.block _ (World.block_lt_of_cell? W p h))).trans h
set_option maxRecDepth 100000 in
set_option maxHeartbeats 3200000 in
theorem whole_any {w : World} {s fr : Nat} {vt vm : Value} {T M : List Tv} (h : StAt w s vt vm T M) (hf : fr ≤ T.length) :
    Calls Tryd.prog 42 #[.pointer (some ⟨s, 0, none⟩), .int .i64 (fr : Int)] w fun e w' => e = .returned (.bool true) ∧ Below w.heap.size w w' := by
  obtain ⟨At, ct, rfl, _, _⟩ := own_shape h.so.tx
  obtain ⟨Am, cm, rfl, _, _⟩ := own_shape h.so.mo
  have HL := Lib.hid h.len
  have HF := h.few
  have H := Lib.hid h
  clear h
  go_enter Tryd.func42, Tryd.ntmps42
  go_wp2_with fail
  go_loopw [5, 6] (fun k _ wr => ∃ k' : Nat, k = .int .i64 (k' : Int) ∧ k' ≤ T.length ∧ Hid (Below w.heap.size w wr)) (fun k _ _ => T.length - (intOf k).toNat)
  case atStart => exact ⟨fr, rfl, hf, Lib.hid (Below.refl _ _)⟩
  case round =>
    obtain ⟨k, rfl, hk, HB⟩ := hrel
    have s0 : wr.cell? ⟨s, 0, none⟩ = some (.slice At T.length ct) := (H.out.so.blk.over HB.out).cell 0
    by_cases hlt : k < T.length
    · have hI : (k : Int) < (T.length : Int) := by omega
      obtain ⟨t, ht⟩ : ∃ t, T[k]? = some t := ⟨_, List.getElem?_eq_getElem hlt⟩
      obtain ⟨m, hm⟩ : ∃ m, M[k]? = some m := ⟨_, List.getElem?_eq_getElem (by rw [HL.out]; exact hlt)⟩
      have hd := H.out.ok k t m ht hm
      obtain ⟨qt, cap', e1, _, _, y0⟩ := row_at H.out.so.tx ht
      obtain ⟨qm, cap2, e2, _, _, y1⟩ := row_at H.out.so.mo hm
      rw [HL.out] at e2
      injection e1 with e1 _ _
      injection e2 with e2 _ _
      subst e1 e2
      unfold Tv.v at y0 y1
      have hsm := H.out.so.blk.cell 1
      have hsm2 : w.cell? ⟨s, 1, none⟩ = some (.slice (some ⟨qm, 0, none⟩) T.length cm) := by rw [← HL.out]; exact hsm
      have hst2 : w.cell? ⟨s, 0, none⟩ = some (.slice (some ⟨qt, 0, none⟩) T.length ct) := H.out.so.blk.cell 0
      have HC := Lib.hid (fun (W : World) (hW : Below w.heap.size w W) => And.intro (cell_over hW hst2) (And.intro (cell_over hW hsm2) (And.intro (cell_over hW y0) (cell_over hW y1))))
      have HDN := Lib.hid hd
      have hmn := hd.n
      have hmb := hd.lt
      clear y0 y1 hsm hsm2 hst2 hd ht hm
      have hk2 : k ≤ 1099511627776 := by omega
      go_wp2_with fail
      go_loopw [6] (fun i wr => ∃ i' : Nat, i = .int .i64 (i' : Int) ∧ i' ≤ m.n ∧ Hid (Below w.heap.size w wr)) (fun i _ => m.n - (intOf i).toNat)
      case atStart => exact ⟨0, rfl, by omega, HB⟩
      case round =>
        clear HB s0
        obtain ⟨i, rfl, hi, HB2⟩ := hrel
        obtain ⟨s0, s1, x0, x1⟩ := HC.out _ HB2.out
        by_cases hil : i < m.n
        · have hiI : (i : Int) < (m.n : Int) := by omega
          obtain ⟨gm, om, hAm, _, hym⟩ := HDN.out.mo.byte (sg_at (n := k) hil)
          rw [hAm] at x1
          have c1 := fun W hW => (HC.out W hW).1
          have c2 := fun W hW => (HC.out W hW).2.1
          have c3 := fun W hW => (HC.out W hW).2.2.1
          have c4 := fun W hW => (HC.out W hW).2.2.2
          rw [hAm] at c4
          have c5 := fun (W : World) (hW : Below w.heap.size w W) => cell_over hW hym
          have HIL := Lib.hid hil
          have hi2 : i ≤ 4611686018427387904 := by omega
          clear hym hAm
          by_cases hit : i < t.n
          · have hitI : (i : Int) < (t.n : Int) := by omega
            obtain ⟨gt, ot, hAt, _, hyt⟩ := HDN.out.tx.byte (sg_at (n := k) hit)
            rw [hAt] at x0 c3
            have c6 := fun (W : World) (hW : Below w.heap.size w W) => cell_over hW hyt
            clear hyt hAt
            go_upto_region 7 with fail
            obtain ⟨wd, hwd⟩ : ∃ wd, wd = wr.drew := ⟨_, rfl⟩
            have hbd : Below w.heap.size w wd := by rw [hwd]; exact HB2.out.trans ((below_drewN (Below.refl _ _) 1).mono HB2.out.size)
            have HS : Hid (∀ W, Below wd.heap.size wd W → (fun W : World => ((W.cell? ⟨s, 0, none⟩ = some (.slice (some ⟨qt, 0, none⟩) T.length ct) ∧ W.cell? ⟨s, 1, none⟩ = some (.slice (some ⟨qm, 0, none⟩) T.length cm)) ∧ (W.cell? ⟨qt, k, none⟩ = some (.slice (some ⟨gt, ot, none⟩) t.n t.c) ∧ W.cell? ⟨qm, k, none⟩ = some (.slice (some ⟨gm, om, none⟩) m.n m.c))) ∧ (W.cell? ⟨gm, om + i, none⟩ = some (.int .u8 ((sgn k i).toNat : Int)) ∧ W.cell? ⟨gt, ot + i, none⟩ = some (.int .u8 ((sgn k i).toNat : Int)))) W) := by
              refine Lib.hid fun W hW => ?_
              have hW := hbd.trans (hW.mono hbd.size)
              exact ⟨⟨⟨c1 W hW, c2 W hW⟩, c3 W hW, c4 W hW⟩, c5 W hW, c6 W hW⟩
            have HWD := Lib.hid hwd
            have HBD := Lib.hid hbd
            clear hwd hbd c1 c2 c3 c4 c5 c6 s0 s1 x0 x1
            refine wp_region_held_drew (S := fun W => ((W.cell? ⟨s, 0, none⟩ = some (.slice (some ⟨qt, 0, none⟩) T.length ct) ∧ W.cell? ⟨s, 1, none⟩ = some (.slice (some ⟨qm, 0, none⟩) T.length cm)) ∧ (W.cell? ⟨qt, k, none⟩ = some (.slice (some ⟨gt, ot, none⟩) t.n t.c) ∧ W.cell? ⟨qm, k, none⟩ = some (.slice (some ⟨gm, om, none⟩) m.n m.c))) ∧ (W.cell? ⟨gm, om + i, none⟩ = some (.int .u8 ((sgn k i).toNat : Int)) ∧ W.cell? ⟨gt, ot + i, none⟩ = some (.int .u8 ((sgn k i).toNat : Int)))) (by kernel_rfl) (by rw [← HWD.out]; exact HS.out _ (Below.refl _ _)) (fun hsw => ?_)
            rw [← HWD.out] at hsw ⊢
            refine wpAnyH_take (i := 0) (oi := ?oi0pa) (v := ?v0pa) ?hi0pa (by kernel_rfl) (by kernel_rfl) (by kernel_rfl) ?hq0pa ?hy0pa (by assumption) ?rest0pa
            case hi0pa => (simp only [List.getElem?_toArray, List.getElem?_cons_zero]; rfl)
            case hy0pa => (refine Or.inl ⟨by rfl, ?_⟩; intro w hSw; (try dsimp only at hSw); go_simp; try with_reducible rfl)
            case hq0pa => exact fun _ _ _ h => h
            try simp only [Act.put, List.setIfInBounds_toArray, List.set_cons_zero, List.set_cons_succ]
            refine wpAnyH_take (i := 1) (oi := ?oi1pa) (v := ?v1pa) ?hi1pa (by kernel_rfl) (by kernel_rfl) (by kernel_rfl) ?hq1pa ?hy1pa (by assumption) ?rest1pa
            case hi1pa => (simp only [List.getElem?_toArray, List.getElem?_cons_zero, List.getElem?_cons_succ]; rfl)
            case hy1pa => (refine Or.inl ⟨by rfl, ?_⟩; intro w hSw; (try dsimp only at hSw); go_simp; try with_reducible rfl)
            case hq1pa => exact fun _ _ _ h => h
            try simp only [Act.put, List.setIfInBounds_toArray, List.set_cons_zero, List.set_cons_succ]
            refine wpAnyH_take (i := 2) (oi := ?oi2pa) (v := ?v2pa) ?hi2pa (by kernel_rfl) (by kernel_rfl) (by kernel_rfl) ?hq2pa ?hy2pa (by assumption) ?rest2pa
            case hi2pa => (simp only [List.getElem?_toArray, List.getElem?_cons_zero, List.getElem?_cons_succ]; rfl)
            case hy2pa => (refine Or.inl ⟨by rfl, ?_⟩; intro w hSw; (try dsimp only at hSw); go_simp; try with_reducible rfl)
            case hq2pa => exact fun _ _ _ h => h
            try simp only [Act.put, List.setIfInBounds_toArray, List.set_cons_zero, List.set_cons_succ]
            refine wpAnyH_take (i := 3) (oi := ?oi3pa) (v := ?v3pa) ?hi3pa (by kernel_rfl) (by kernel_rfl) (by kernel_rfl) ?hq3pa ?hy3pa (by assumption) ?rest3pa
            case hi3pa => (simp only [List.getElem?_toArray, List.getElem?_cons_zero, List.getElem?_cons_succ]; rfl)
            case hy3pa => (refine Or.inl ⟨by rfl, ?_⟩; intro w hSw; (try dsimp only at hSw); go_simp; try with_reducible rfl)
            case hq3pa => exact fun _ _ _ h => h
            try simp only [Act.put, List.setIfInBounds_toArray, List.set_cons_zero, List.set_cons_succ]
            refine wpAnyH_take (i := 4) (oi := ?oi4pa) (v := ?v4pa) ?hi4pa (by kernel_rfl) (by kernel_rfl) (by kernel_rfl) ?hq4pa ?hy4pa (by assumption) ?rest4pa
            case hi4pa => (simp only [List.getElem?_toArray, List.getElem?_cons_zero, List.getElem?_cons_succ]; rfl)
            case hy4pa => (refine Or.inl ⟨by rfl, ?_⟩; intro w hSw; (try dsimp only at hSw); go_simp; try with_reducible rfl)
            case hq4pa => exact fun _ _ _ h => h
            try simp only [Act.put, List.setIfInBounds_toArray, List.set_cons_zero, List.set_cons_succ]
            refine wpAnyH_take (i := 5) (oi := ?oi5pa) (v := ?v5pa) ?hi5pa (by kernel_rfl) (by kernel_rfl) (by kernel_rfl) ?hq5pa ?hy5pa (by assumption) ?rest5pa
            case hi5pa => (simp only [List.getElem?_toArray, List.getElem?_cons_zero, List.getElem?_cons_succ]; rfl)
            case hy5pa => (refine Or.inl ⟨by rfl, ?_⟩; intro w hSw; (try dsimp only at hSw); go_simp; try with_reducible rfl)
            case hq5pa => exact fun _ _ _ h => h
            try simp only [Act.put, List.setIfInBounds_toArray, List.set_cons_zero, List.set_cons_succ]
            refine wpAnyH_take (i := 6) (oi := ?oi6pa) (v := ?v6pa) ?hi6pa (by kernel_rfl) (by kernel_rfl) (by kernel_rfl) ?hq6pa ?hy6pa (by assumption) ?rest6pa
            case hi6pa => (simp only [List.getElem?_toArray, List.getElem?_cons_zero, List.getElem?_cons_succ]; rfl)
            case hy6pa => (refine Or.inl ⟨by rfl, ?_⟩; intro w hSw; (try dsimp only at hSw); go_simp; try with_reducible rfl)
            case hq6pa => exact fun _ _ _ h => h
            try simp only [Act.put, List.setIfInBounds_toArray, List.set_cons_zero, List.set_cons_succ]
            refine wpAnyH_take (i := 7) (oi := ?oi7pa) (v := ?v7pa) ?hi7pa (by kernel_rfl) (by kernel_rfl) (by kernel_rfl) ?hq7pa ?hy7pa (by assumption) ?rest7pa
            case hi7pa => (simp only [List.getElem?_toArray, List.getElem?_cons_zero, List.getElem?_cons_succ]; rfl)
            case hy7pa => (refine Or.inl ⟨by rfl, ?_⟩; intro w hSw; (try dsimp only at hSw); go_simp; try with_reducible rfl)
            case hq7pa => exact fun _ _ _ h => h
            try simp only [Act.put, List.setIfInBounds_toArray, List.set_cons_zero, List.set_cons_succ]
            refine wpAnyH_take (i := 8) (oi := ?oi8pa) (v := ?v8pa) ?hi8pa (by kernel_rfl) (by kernel_rfl) (by kernel_rfl) ?hq8pa ?hy8pa (by assumption) ?rest8pa
            case hi8pa => (simp only [List.getElem?_toArray, List.getElem?_cons_zero, List.getElem?_cons_succ]; rfl)
            case hy8pa => (refine Or.inl ⟨by rfl, ?_⟩; intro w hSw; (try dsimp only at hSw); go_simp; try with_reducible rfl)
            case hq8pa => exact fun _ _ _ h => h
            try simp only [Act.put, List.setIfInBounds_toArray, List.set_cons_zero, List.set_cons_succ]
            refine wpAnyH_take (i := 9) (oi := ?oi9pa) (v := ?v9pa) ?hi9pa (by kernel_rfl) (by kernel_rfl) (by kernel_rfl) ?hq9pa ?hy9pa (by assumption) ?rest9pa
            case hi9pa => (simp only [List.getElem?_toArray, List.getElem?_cons_zero, List.getElem?_cons_succ]; rfl)
            case hy9pa => (refine Or.inl ⟨by rfl, ?_⟩; intro w hSw; (try dsimp only at hSw); go_simp; try with_reducible rfl)
            case hq9pa => exact fun _ _ _ h => h
            try simp only [Act.put, List.setIfInBounds_toArray, List.set_cons_zero, List.set_cons_succ]
            refine wpAnyH_take (i := 10) (oi := ?oi10pa) (v := ?v10pa) ?hi10pa (by kernel_rfl) (by kernel_rfl) (by kernel_rfl) ?hq10pa ?hy10pa (by assumption) ?rest10pa
            case hi10pa => (simp only [List.getElem?_toArray, List.getElem?_cons_zero, List.getElem?_cons_succ]; rfl)
            case hy10pa => (refine Or.inl ⟨by rfl, ?_⟩; intro w hSw; (try dsimp only at hSw); go_simp; try with_reducible rfl)
            case hq10pa => exact fun _ _ _ h => h
            try simp only [Act.put, List.setIfInBounds_toArray, List.set_cons_zero, List.set_cons_succ]
            refine wpAnyH_take (i := 11) (oi := ?oi11pa) (v := ?v11pa) ?hi11pa (by kernel_rfl) (by kernel_rfl) (by kernel_rfl) ?hq11pa ?hy11pa (by assumption) ?rest11pa
            case hi11pa => (simp only [List.getElem?_toArray, List.getElem?_cons_zero, List.getElem?_cons_succ]; rfl)
            case hy11pa => (refine Or.inl ⟨by rfl, ?_⟩; intro w hSw; (try dsimp only at hSw); go_simp; try with_reducible rfl)
            case hq11pa => exact fun _ _ _ h => h
            try simp only [Act.put, List.setIfInBounds_toArray, List.set_cons_zero, List.set_cons_succ]
            refine wpAnyH_ready (rs := [12]) (by kernel_rfl) (by simp) ?_
            refine AllReadyH.cons (o := ?o12pb) ?ho12pb (fun K hK => ?st12pb) ?mo12pb
            case ho12pb => (simp only [List.getElem?_toArray, List.getElem?_cons_zero, List.getElem?_cons_succ]; rfl)
            · skip
              go_simp
              refine (sign_any k i wd (by omega) (by omega)).mono ?_
              rintro _ _ ⟨rfl, rfl⟩
              go_simp
              refine hK.out _ _ (HS.out _ (Below.refl _ _)) (fun _ => ?_)
              clear hK K
              try simp only [Act.put, List.setIfInBounds_toArray, List.set_cons_zero, List.set_cons_succ]
              refine wpAnyH_take (i := 13) (oi := ?oi13pc) (v := ?v13pc) ?hi13pc (by kernel_rfl) (by kernel_rfl) (by kernel_rfl) ?hq13pc ?hy13pc (by assumption) ?rest13pc
              case hi13pc => (simp only [List.getElem?_toArray, List.getElem?_cons_zero, List.getElem?_cons_succ]; rfl)
              case hy13pc => (refine Or.inl ⟨by rfl, ?_⟩; intro w hSw; (try dsimp only at hSw); go_simp; try with_reducible rfl)
              case hq13pc => exact fun _ _ _ h => h
              try simp only [Act.put, List.setIfInBounds_toArray, List.set_cons_zero, List.set_cons_succ]
              refine wpAnyH_take (i := 14) (oi := ?oi14pc) (v := ?v14pc) ?hi14pc (by kernel_rfl) (by kernel_rfl) (by kernel_rfl) ?hq14pc ?hy14pc (by assumption) ?rest14pc
              case hi14pc => (simp only [List.getElem?_toArray, List.getElem?_cons_zero, List.getElem?_cons_succ]; rfl)
              case hy14pc => (refine Or.inl ⟨by rfl, ?_⟩; intro w hSw; (try dsimp only at hSw); go_simp; try with_reducible rfl)
              case hq14pc => exact fun _ _ _ h => h
              try simp only [Act.put, List.setIfInBounds_toArray, List.set_cons_zero, List.set_cons_succ]
              refine wpAnyH_take (i := 15) (oi := ?oi15pc) (v := ?v15pc) ?hi15pc (by kernel_rfl) (by kernel_rfl) (by kernel_rfl) ?hq15pc ?hy15pc (by assumption) ?rest15pc
              case hi15pc => (simp only [List.getElem?_toArray, List.getElem?_cons_zero, List.getElem?_cons_succ]; rfl)
              case hy15pc => (refine Or.inl ⟨by rfl, ?_⟩; intro w hSw; (try dsimp only at hSw); go_simp; try with_reducible rfl)
              case hq15pc => exact fun _ _ _ h => h
              try simp only [Act.put, List.setIfInBounds_toArray, List.set_cons_zero, List.set_cons_succ]
              refine wpAnyH_take (i := 16) (oi := ?oi16pc) (v := ?v16pc) ?hi16pc (by kernel_rfl) (by kernel_rfl) (by kernel_rfl) ?hq16pc ?hy16pc (by assumption) ?rest16pc
              case hi16pc => (simp only [List.getElem?_toArray, List.getElem?_cons_zero, List.getElem?_cons_succ]; rfl)
              case hy16pc => (refine Or.inl ⟨by rfl, ?_⟩; intro w hSw; (try dsimp only at hSw); go_simp; try with_reducible rfl)
              case hq16pc => exact fun _ _ _ h => h
              try simp only [Act.put, List.setIfInBounds_toArray, List.set_cons_zero, List.set_cons_succ]
              refine wpAnyH_take (i := 17) (oi := ?oi17pc) (v := ?v17pc) ?hi17pc (by kernel_rfl) (by kernel_rfl) (by kernel_rfl) ?hq17pc ?hy17pc (by assumption) ?rest17pc
              case hi17pc => (simp only [List.getElem?_toArray, List.getElem?_cons_zero, List.getElem?_cons_succ]; rfl)
              case hy17pc => (refine Or.inl ⟨by rfl, ?_⟩; intro w hSw; (try dsimp only at hSw); go_simp; try with_reducible rfl)
              case hq17pc => exact fun _ _ _ h => h
              try simp only [Act.put, List.setIfInBounds_toArray, List.set_cons_zero, List.set_cons_succ]
              refine wpAnyH_take (i := 18) (oi := ?oi18pc) (v := ?v18pc) ?hi18pc (by kernel_rfl) (by kernel_rfl) (by kernel_rfl) ?hq18pc ?hy18pc (by assumption) ?rest18pc
              case hi18pc => (simp only [List.getElem?_toArray, List.getElem?_cons_zero, List.getElem?_cons_succ]; rfl)
              case hy18pc => (refine Or.inl ⟨by rfl, ?_⟩; intro w hSw; (try dsimp only at hSw); go_simp; try with_reducible rfl)
              case hq18pc => exact fun _ _ _ h => h
              try simp only [Act.put, List.setIfInBounds_toArray, List.set_cons_zero, List.set_cons_succ]
              refine wpAnyH_take (i := 19) (oi := ?oi19pc) (v := ?v19pc) ?hi19pc (by kernel_rfl) (by kernel_rfl) (by kernel_rfl) ?hq19pc ?hy19pc (by assumption) ?rest19pc
              case hi19pc => (simp only [List.getElem?_toArray, List.getElem?_cons_zero, List.getElem?_cons_succ]; rfl)
              case hy19pc => (refine Or.inl ⟨by rfl, ?_⟩; intro w hSw; (try dsimp only at hSw); go_simp; try with_reducible rfl)
              case hq19pc => exact fun _ _ _ h => h
              try simp only [Act.put, List.setIfInBounds_toArray, List.set_cons_zero, List.set_cons_succ]
              refine wpAnyH_take (i := 20) (oi := ?oi20pc) (v := ?v20pc) ?hi20pc (by kernel_rfl) (by kernel_rfl) (by kernel_rfl) ?hq20pc ?hy20pc (by assumption) ?rest20pc
              case hi20pc => (simp only [List.getElem?_toArray, List.getElem?_cons_zero, List.getElem?_cons_succ]; rfl)
              case hy20pc => (refine Or.inl ⟨by rfl, ?_⟩; intro w hSw; (try dsimp only at hSw); go_simp; try with_reducible rfl)
              case hq20pc => exact fun _ _ _ h => h
              try simp only [Act.put, List.setIfInBounds_toArray, List.set_cons_zero, List.set_cons_succ]
              refine wpAnyH_take (i := 21) (oi := ?oi21pc) (v := ?v21pc) ?hi21pc (by kernel_rfl) (by kernel_rfl) (by kernel_rfl) ?hq21pc ?hy21pc (by assumption) ?rest21pc
              case hi21pc => (simp only [List.getElem?_toArray, List.getElem?_cons_zero, List.getElem?_cons_succ]; rfl)
              case hy21pc => (refine Or.inl ⟨by rfl, ?_⟩; intro w hSw; (try dsimp only at hSw); go_simp; try with_reducible rfl)
              case hq21pc => exact fun _ _ _ h => h
              try simp only [Act.put, List.setIfInBounds_toArray, List.set_cons_zero, List.set_cons_succ]
              refine wpAnyH_take (i := 22) (oi := ?oi22pc) (v := ?v22pc) ?hi22pc (by kernel_rfl) (by kernel_rfl) (by kernel_rfl) ?hq22pc ?hy22pc (by assumption) ?rest22pc
              case hi22pc => (simp only [List.getElem?_toArray, List.getElem?_cons_zero, List.getElem?_cons_succ]; rfl)
              case hy22pc => (refine Or.inl ⟨by rfl, ?_⟩; intro w hSw; (try dsimp only at hSw); go_simp; try with_reducible rfl)
              case hq22pc => exact fun _ _ _ h => h
              try simp only [Act.put, List.setIfInBounds_toArray, List.set_cons_zero, List.set_cons_succ]
              refine wpAnyH_take (i := 23) (oi := ?oi23pc) (v := ?v23pc) ?hi23pc (by kernel_rfl) (by kernel_rfl) (by kernel_rfl) ?hq23pc ?hy23pc (by assumption) ?rest23pc
              case hi23pc => (simp only [List.getElem?_toArray, List.getElem?_cons_zero, List.getElem?_cons_succ]; rfl)
              case hy23pc => (refine Or.inl ⟨by rfl, ?_⟩; intro w hSw; (try dsimp only at hSw); go_simp; try with_reducible rfl)
              case hq23pc => exact fun _ _ _ h => h
              try simp only [Act.put, List.setIfInBounds_toArray, List.set_cons_zero, List.set_cons_succ]
              refine wpAnyH_take (i := 24) (oi := ?oi24pc) (v := ?v24pc) ?hi24pc (by kernel_rfl) (by kernel_rfl) (by kernel_rfl) ?hq24pc ?hy24pc (by assumption) ?rest24pc
              case hi24pc => (simp only [List.getElem?_toArray, List.getElem?_cons_zero, List.getElem?_cons_succ]; rfl)
              case hy24pc => (refine Or.inl ⟨by rfl, ?_⟩; intro w hSw; (try dsimp only at hSw); go_simp; try with_reducible rfl)
              case hq24pc => exact fun _ _ _ h => h
              try simp only [Act.put, List.setIfInBounds_toArray, List.set_cons_zero, List.set_cons_succ]
              refine wpAnyH_take (i := 25) (oi := ?oi25pc) (v := ?v25pc) ?hi25pc (by kernel_rfl) (by kernel_rfl) (by kernel_rfl) ?hq25pc ?hy25pc (by assumption) ?rest25pc
              case hi25pc => (simp only [List.getElem?_toArray, List.getElem?_cons_zero, List.getElem?_cons_succ]; rfl)
              case hy25pc => (refine Or.inl ⟨by rfl, ?_⟩; intro w hSw; (try dsimp only at hSw); go_simp; try with_reducible rfl)
              case hq25pc => exact fun _ _ _ h => h
              try simp only [Act.put, List.setIfInBounds_toArray, List.set_cons_zero, List.set_cons_succ]
              refine wpAnyH_take (i := 26) (oi := ?oi26pc) (v := ?v26pc) ?hi26pc (by kernel_rfl) (by kernel_rfl) (by kernel_rfl) ?hq26pc ?hy26pc (by assumption) ?rest26pc
              case hi26pc => (simp only [List.getElem?_toArray, List.getElem?_cons_zero, List.getElem?_cons_succ]; rfl)
              case hy26pc => (refine Or.inl ⟨by rfl, ?_⟩; intro w hSw; (try dsimp only at hSw); go_simp; try with_reducible rfl)
              case hq26pc => exact fun _ _ _ h => h
              try simp only [Act.put, List.setIfInBounds_toArray, List.set_cons_zero, List.set_cons_succ]
              refine wpAnyH_take (i := 27) (oi := ?oi27pc) (v := ?v27pc) ?hi27pc (by kernel_rfl) (by kernel_rfl) (by kernel_rfl) ?hq27pc ?hy27pc (by assumption) ?rest27pc
              case hi27pc => (simp only [List.getElem?_toArray, List.getElem?_cons_zero, List.getElem?_cons_succ]; rfl)
              case hy27pc => (refine Or.inl ⟨by rfl, ?_⟩; intro w hSw; (try dsimp only at hSw); go_simp; try with_reducible rfl)
              case hq27pc => exact fun _ _ _ h => h
              try simp only [Act.put, List.setIfInBounds_toArray, List.set_cons_zero, List.set_cons_succ]
              refine wpAnyH_take (i := 28) (oi := ?oi28pc) (v := ?v28pc) ?hi28pc (by kernel_rfl) (by kernel_rfl) (by kernel_rfl) ?hq28pc ?hy28pc (by assumption) ?rest28pc
              case hi28pc => (simp only [List.getElem?_toArray, List.getElem?_cons_zero, List.getElem?_cons_succ]; rfl)
              case hy28pc => (refine Or.inl ⟨by rfl, ?_⟩; intro w hSw; (try dsimp only at hSw); go_simp; try with_reducible rfl)
              case hq28pc => exact fun _ _ _ h => h
              try simp only [Act.put, List.setIfInBounds_toArray, List.set_cons_zero, List.set_cons_succ]
              refine wpAnyH_take (i := 29) (oi := ?oi29pc) (v := ?v29pc) ?hi29pc (by kernel_rfl) (by kernel_rfl) (by kernel_rfl) ?hq29pc ?hy29pc (by assumption) ?rest29pc
              case hi29pc => (simp only [List.getElem?_toArray, List.getElem?_cons_zero, List.getElem?_cons_succ]; rfl)
              case hy29pc => (refine Or.inl ⟨by rfl, ?_⟩; intro w hSw; (try dsimp only at hSw); go_simp; try with_reducible rfl)
              case hq29pc => exact fun _ _ _ h => h
              try simp only [Act.put, List.setIfInBounds_toArray, List.set_cons_zero, List.set_cons_succ]
              refine wpAnyH_take (i := 30) (oi := ?oi30pc) (v := ?v30pc) ?hi30pc (by kernel_rfl) (by kernel_rfl) (by kernel_rfl) ?hq30pc ?hy30pc (by assumption) ?rest30pc
              case hi30pc => (simp only [List.getElem?_toArray, List.getElem?_cons_zero, List.getElem?_cons_succ]; rfl)
              case hy30pc => (refine Or.inl ⟨by rfl, ?_⟩; intro w hSw; (try dsimp only at hSw); go_simp; try with_reducible rfl)
              case hq30pc => exact fun _ _ _ h => h
              try simp only [Act.put, List.setIfInBounds_toArray, List.set_cons_zero, List.set_cons_succ]
              refine wpAnyH_take (i := 31) (oi := ?oi31pc) (v := ?v31pc) ?hi31pc (by kernel_rfl) (by kernel_rfl) (by kernel_rfl) ?hq31pc ?hy31pc (by assumption) ?rest31pc
              case hi31pc => (simp only [List.getElem?_toArray, List.getElem?_cons_zero, List.getElem?_cons_succ]; rfl)
              case hy31pc => (refine Or.inl ⟨by rfl, ?_⟩; intro w hSw; (try dsimp only at hSw); go_simp; try with_reducible rfl)
              case hq31pc => exact fun _ _ _ h => h
              try simp only [Act.put, List.setIfInBounds_toArray, List.set_cons_zero, List.set_cons_succ]
              refine wpAnyH_take (i := 32) (oi := ?oi32pc) (v := ?v32pc) ?hi32pc (by kernel_rfl) (by kernel_rfl) (by kernel_rfl) ?hq32pc ?hy32pc (by assumption) ?rest32pc
              case hi32pc => (simp only [List.getElem?_toArray, List.getElem?_cons_zero, List.getElem?_cons_succ]; rfl)
              case hy32pc => (refine Or.inl ⟨by rfl, ?_⟩; intro w hSw; (try dsimp only at hSw); go_simp; try with_reducible rfl)
              case hq32pc => exact fun _ _ _ h => h
              try simp only [Act.put, List.setIfInBounds_toArray, List.set_cons_zero, List.set_cons_succ]
              refine wpAnyH_take (i := 33) (oi := ?oi33pc) (v := ?v33pc) ?hi33pc (by kernel_rfl) (by kernel_rfl) (by kernel_rfl) ?hq33pc ?hy33pc (by assumption) ?rest33pc
              case hi33pc => (simp only [List.getElem?_toArray, List.getElem?_cons_zero, List.getElem?_cons_succ]; rfl)
              case hy33pc => (refine Or.inl ⟨by rfl, ?_⟩; intro w hSw; (try dsimp only at hSw); go_simp; try with_reducible rfl)
              case hq33pc => exact fun _ _ _ h => h
              try simp only [Act.put, List.setIfInBounds_toArray, List.set_cons_zero, List.set_cons_succ]
              refine wpAnyH_take (i := 34) (oi := ?oi34pc) (v := ?v34pc) ?hi34pc (by kernel_rfl) (by kernel_rfl) (by kernel_rfl) ?hq34pc ?hy34pc (by assumption) ?rest34pc
              case hi34pc => (simp only [List.getElem?_toArray, List.getElem?_cons_zero, List.getElem?_cons_succ]; rfl)
              case hy34pc => (refine Or.inl ⟨by rfl, ?_⟩; intro w hSw; (try dsimp only at hSw); go_simp; try with_reducible rfl)
              case hq34pc => exact fun _ _ _ h => h
              try simp only [Act.put, List.setIfInBounds_toArray, List.set_cons_zero, List.set_cons_succ]
              refine wpAnyH_take (i := 35) (oi := ?oi35pc) (v := ?v35pc) ?hi35pc (by kernel_rfl) (by kernel_rfl) (by kernel_rfl) ?hq35pc ?hy35pc (by assumption) ?rest35pc
              case hi35pc => (simp only [List.getElem?_toArray, List.getElem?_cons_zero, List.getElem?_cons_succ]; rfl)
              case hy35pc => (refine Or.inl ⟨by rfl, ?_⟩; intro w hSw; (try dsimp only at hSw); go_simp; try with_reducible rfl)
              case hq35pc => exact fun _ _ _ h => h
              try simp only [Act.put, List.setIfInBounds_toArray, List.set_cons_zero, List.set_cons_succ]
              refine wpAnyH_take (i := 36) (oi := ?oi36pc) (v := ?v36pc) ?hi36pc (by kernel_rfl) (by kernel_rfl) (by kernel_rfl) ?hq36pc ?hy36pc (by assumption) ?rest36pc
              case hi36pc => (simp only [List.getElem?_toArray, List.getElem?_cons_zero, List.getElem?_cons_succ]; rfl)
              case hy36pc => (refine Or.inl ⟨by rfl, ?_⟩; intro w hSw; (try dsimp only at hSw); go_simp; try with_reducible rfl)
              case hq36pc => exact fun _ _ _ h => h
              try simp only [Act.put, List.setIfInBounds_toArray, List.set_cons_zero, List.set_cons_succ]
              refine wpAnyH_take (i := 37) (oi := ?oi37pc) (v := ?v37pc) ?hi37pc (by kernel_rfl) (by kernel_rfl) (by kernel_rfl) ?hq37pc ?hy37pc (by assumption) ?rest37pc
              case hi37pc => (simp only [List.getElem?_toArray, List.getElem?_cons_zero, List.getElem?_cons_succ]; rfl)
              case hy37pc => (refine Or.inl ⟨by rfl, ?_⟩; intro w hSw; (try dsimp only at hSw); go_simp; try with_reducible rfl)
              case hq37pc => exact fun _ _ _ h => h
              try simp only [Act.put, List.setIfInBounds_toArray, List.set_cons_zero, List.set_cons_succ]
              refine wpAnyH_ready (rs := [38]) (by kernel_rfl) (by simp) ?_
              refine AllReadyH.cons (o := ?o38pd) ?ho38pd (fun K hK => ?st38pd) ?mo38pd
              case ho38pd => (simp only [List.getElem?_toArray, List.getElem?_cons_zero, List.getElem?_cons_succ]; rfl)
              · skip
                go_simp
                refine (sign_any k i wd (by omega) (by omega)).mono ?_
                rintro _ _ ⟨rfl, rfl⟩
                go_simp
                refine hK.out _ _ (HS.out _ (Below.refl _ _)) (fun _ => ?_)
                clear hK K
                try simp only [Act.put, List.setIfInBounds_toArray, List.set_cons_zero, List.set_cons_succ]
                refine wpAnyH_take (i := 39) (oi := ?oi39pe) (v := ?v39pe) ?hi39pe (by kernel_rfl) (by kernel_rfl) (by kernel_rfl) ?hq39pe ?hy39pe (by assumption) ?rest39pe
                case hi39pe => (simp only [List.getElem?_toArray, List.getElem?_cons_zero, List.getElem?_cons_succ]; rfl)
                case hy39pe => (refine Or.inl ⟨by rfl, ?_⟩; intro w hSw; (try dsimp only at hSw); go_simp; try with_reducible rfl)
                case hq39pe => exact fun _ _ _ h => h
                try simp only [Act.put, List.setIfInBounds_toArray, List.set_cons_zero, List.set_cons_succ]
                refine wpAnyH_take (i := 40) (oi := ?oi40pe) (v := ?v40pe) ?hi40pe (by kernel_rfl) (by kernel_rfl) (by kernel_rfl) ?hq40pe ?hy40pe (by assumption) ?rest40pe
                case hi40pe => (simp only [List.getElem?_toArray, List.getElem?_cons_zero, List.getElem?_cons_succ]; rfl)
                case hy40pe => (refine Or.inl ⟨by rfl, ?_⟩; intro w hSw; (try dsimp only at hSw); go_simp; try with_reducible rfl)
                case hq40pe => exact fun _ _ _ h => h
                try simp only [Act.put, List.setIfInBounds_toArray, List.set_cons_zero, List.set_cons_succ]
                refine wpAnyH_take (i := 41) (oi := ?oi41pe) (v := ?v41pe) ?hi41pe (by kernel_rfl) (by kernel_rfl) (by kernel_rfl) ?hq41pe ?hy41pe (by assumption) ?rest41pe
                case hi41pe => (simp only [List.getElem?_toArray, List.getElem?_cons_zero, List.getElem?_cons_succ]; rfl)
                case hy41pe => (refine Or.inl ⟨by rfl, ?_⟩; intro w hSw; (try dsimp only at hSw); go_simp; try with_reducible rfl)
                case hq41pe => exact fun _ _ _ h => h
                try simp only [Act.put, List.setIfInBounds_toArray, List.set_cons_zero, List.set_cons_succ]
                refine wpAnyH_done (by kernel_rfl) ?_ _
                go_wp2_with fail
                go_roundw
                case rel => exact ⟨i + 1, by go_num, by omega, HBD⟩
                case measure => simp [intOf] <;> omega
              exact AllReadyH.nil
            exact AllReadyH.nil
          · have hitI : ¬ (i : Int) < (t.n : Int) := by omega
            have hitD : decide ((i : Int) < (t.n : Int)) = false := by simpa using hitI
            have hitN : decide (i < t.n) = false := by simpa using hit
            go_upto_region 7 with fail
            obtain ⟨wd, hwd⟩ : ∃ wd, wd = wr.drew := ⟨_, rfl⟩
            have hbd : Below w.heap.size w wd := by rw [hwd]; exact HB2.out.trans ((below_drewN (Below.refl _ _) 1).mono HB2.out.size)
            have HS : Hid (∀ W, Below wd.heap.size wd W → (fun W : World => ((W.cell? ⟨s, 0, none⟩ = some (.slice (some ⟨qt, 0, none⟩) T.length ct) ∧ W.cell? ⟨s, 1, none⟩ = some (.slice (some ⟨qm, 0, none⟩) T.length cm)) ∧ (W.cell? ⟨qt, k, none⟩ = some (.slice t.A t.n t.c) ∧ W.cell? ⟨qm, k, none⟩ = some (.slice (some ⟨gm, om, none⟩) m.n m.c))) ∧ W.cell? ⟨gm, om + i, none⟩ = some (.int .u8 ((sgn k i).toNat : Int))) W) := by
              refine Lib.hid fun W hW => ?_
              have hW := hbd.trans (hW.mono hbd.size)
              exact ⟨⟨⟨c1 W hW, c2 W hW⟩, c3 W hW, c4 W hW⟩, c5 W hW⟩
            have HWD := Lib.hid hwd
            have HBD := Lib.hid hbd
            clear hwd hbd c1 c2 c3 c4 c5 s0 s1 x0 x1
            refine wp_region_held_drew (S := fun W => ((W.cell? ⟨s, 0, none⟩ = some (.slice (some ⟨qt, 0, none⟩) T.length ct) ∧ W.cell? ⟨s, 1, none⟩ = some (.slice (some ⟨qm, 0, none⟩) T.length cm)) ∧ (W.cell? ⟨qt, k, none⟩ = some (.slice t.A t.n t.c) ∧ W.cell? ⟨qm, k, none⟩ = some (.slice (some ⟨gm, om, none⟩) m.n m.c))) ∧ W.cell? ⟨gm, om + i, none⟩ = some (.int .u8 ((sgn k i).toNat : Int))) (by kernel_rfl) (by rw [← HWD.out]; exact HS.out _ (Below.refl _ _)) (fun hsw => ?_)
            rw [← HWD.out] at hsw ⊢
            refine wpAnyH_take (i := 0) (oi := ?oi0qa) (v := ?v0qa) ?hi0qa (by kernel_rfl) (by kernel_rfl) (by kernel_rfl) ?hq0qa ?hy0qa (by assumption) ?rest0qa
            case hi0qa => (simp only [List.getElem?_toArray, List.getElem?_cons_zero]; rfl)
            case hy0qa => (refine Or.inl ⟨by rfl, ?_⟩; intro w hSw; (try dsimp only at hSw); go_simp; try with_reducible rfl)
            case hq0qa => exact fun _ _ _ h => h
            try simp only [Act.put, List.setIfInBounds_toArray, List.set_cons_zero, List.set_cons_succ]
            refine wpAnyH_take (i := 1) (oi := ?oi1qa) (v := ?v1qa) ?hi1qa (by kernel_rfl) (by kernel_rfl) (by kernel_rfl) ?hq1qa ?hy1qa (by assumption) ?rest1qa
            case hi1qa => (simp only [List.getElem?_toArray, List.getElem?_cons_zero, List.getElem?_cons_succ]; rfl)
            case hy1qa => (refine Or.inl ⟨by rfl, ?_⟩; intro w hSw; (try dsimp only at hSw); go_simp; try with_reducible rfl)
            case hq1qa => exact fun _ _ _ h => h
            try simp only [Act.put, List.setIfInBounds_toArray, List.set_cons_zero, List.set_cons_succ]
            refine wpAnyH_take (i := 2) (oi := ?oi2qa) (v := ?v2qa) ?hi2qa (by kernel_rfl) (by kernel_rfl) (by kernel_rfl) ?hq2qa ?hy2qa (by assumption) ?rest2qa
            case hi2qa => (simp only [List.getElem?_toArray, List.getElem?_cons_zero, List.getElem?_cons_succ]; rfl)
            case hy2qa => (refine Or.inl ⟨by rfl, ?_⟩; intro w hSw; (try dsimp only at hSw); go_simp; try with_reducible rfl)
            case hq2qa => exact fun _ _ _ h => h
            try simp only [Act.put, List.setIfInBounds_toArray, List.set_cons_zero, List.set_cons_succ]
            refine wpAnyH_take (i := 3) (oi := ?oi3qa) (v := ?v3qa) ?hi3qa (by kernel_rfl) (by kernel_rfl) (by kernel_rfl) ?hq3qa ?hy3qa (by assumption) ?rest3qa
            case hi3qa => (simp only [List.getElem?_toArray, List.getElem?_cons_zero, List.getElem?_cons_succ]; rfl)
            case hy3qa => (refine Or.inl ⟨by rfl, ?_⟩; intro w hSw; (try dsimp only at hSw); go_simp; try with_reducible rfl)
            case hq3qa => exact fun _ _ _ h => h
            try simp only [Act.put, List.setIfInBounds_toArray, List.set_cons_zero, List.set_cons_succ]
            refine wpAnyH_take (i := 4) (oi := ?oi4qa) (v := ?v4qa) ?hi4qa (by kernel_rfl) (by kernel_rfl) (by kernel_rfl) ?hq4qa ?hy4qa (by assumption) ?rest4qa
            case hi4qa => (simp only [List.getElem?_toArray, List.getElem?_cons_zero, List.getElem?_cons_succ]; rfl)
            case hy4qa => (refine Or.inl ⟨by rfl, ?_⟩; intro w hSw; (try dsimp only at hSw); go_simp; try with_reducible rfl)
            case hq4qa => exact fun _ _ _ h => h
            try simp only [Act.put, List.setIfInBounds_toArray, List.set_cons_zero, List.set_cons_succ]
            refine wpAnyH_take (i := 5) (oi := ?oi5qa) (v := ?v5qa) ?hi5qa (by kernel_rfl) (by kernel_rfl) (by kernel_rfl) ?hq5qa ?hy5qa (by assumption) ?rest5qa
            case hi5qa => (simp only [List.getElem?_toArray, List.getElem?_cons_zero, List.getElem?_cons_succ]; rfl)
            case hy5qa => (refine Or.inl ⟨by rfl, ?_⟩; intro w hSw; (try dsimp only at hSw); go_simp; try with_reducible rfl)
            case hq5qa => exact fun _ _ _ h => h
            try simp only [Act.put, List.setIfInBounds_toArray, List.set_cons_zero, List.set_cons_succ]
            refine wpAnyH_take (i := 6) (oi := ?oi6qa) (v := ?v6qa) ?hi6qa (by kernel_rfl) (by kernel_rfl) (by kernel_rfl) ?hq6qa ?hy6qa (by assumption) ?rest6qa
            case hi6qa => (simp only [List.getElem?_toArray, List.getElem?_cons_zero, List.getElem?_cons_succ]; rfl)
            case hy6qa => (refine Or.inl ⟨by rfl, ?_⟩; intro w hSw; (try dsimp only at hSw); go_simp; try with_reducible rfl)
            case hq6qa => exact fun _ _ _ h => h
            try simp only [Act.put, List.setIfInBounds_toArray, List.set_cons_zero, List.set_cons_succ]
            refine wpAnyH_take (i := 7) (oi := ?oi7qa) (v := ?v7qa) ?hi7qa (by kernel_rfl) (by kernel_rfl) (by kernel_rfl) ?hq7qa ?hy7qa (by assumption) ?rest7qa
            case hi7qa => (simp only [List.getElem?_toArray, List.getElem?_cons_zero, List.getElem?_cons_succ]; rfl)
            case hy7qa => (refine Or.inl ⟨by rfl, ?_⟩; intro w hSw; (try dsimp only at hSw); go_simp; try with_reducible rfl)
            case hq7qa => exact fun _ _ _ h => h
            try simp only [Act.put, List.setIfInBounds_toArray, List.set_cons_zero, List.set_cons_succ]
            refine wpAnyH_take (i := 8) (oi := ?oi8qa) (v := ?v8qa) ?hi8qa (by kernel_rfl) (by kernel_rfl) (by kernel_rfl) ?hq8qa ?hy8qa (by assumption) ?rest8qa
            case hi8qa => (simp only [List.getElem?_toArray, List.getElem?_cons_zero, List.getElem?_cons_succ]; rfl)
            case hy8qa => (refine Or.inl ⟨by rfl, ?_⟩; intro w hSw; (try dsimp only at hSw); go_simp; try with_reducible rfl)
            case hq8qa => exact fun _ _ _ h => h
            try simp only [Act.put, List.setIfInBounds_toArray, List.set_cons_zero, List.set_cons_succ]
            refine wpAnyH_take (i := 9) (oi := ?oi9qa) (v := ?v9qa) ?hi9qa (by kernel_rfl) (by kernel_rfl) (by kernel_rfl) ?hq9qa ?hy9qa (by assumption) ?rest9qa
            case hi9qa => (simp only [List.getElem?_toArray, List.getElem?_cons_zero, List.getElem?_cons_succ]; rfl)
            case hy9qa => (refine Or.inl ⟨by rfl, ?_⟩; intro w hSw; (try dsimp only at hSw); go_simp; try with_reducible rfl)
            case hq9qa => exact fun _ _ _ h => h
            try simp only [Act.put, List.setIfInBounds_toArray, List.set_cons_zero, List.set_cons_succ]
            refine wpAnyH_take (i := 10) (oi := ?oi10qa) (v := ?v10qa) ?hi10qa (by kernel_rfl) (by kernel_rfl) (by kernel_rfl) ?hq10qa ?hy10qa (by assumption) ?rest10qa
            case hi10qa => (simp only [List.getElem?_toArray, List.getElem?_cons_zero, List.getElem?_cons_succ]; rfl)
            case hy10qa => (refine Or.inl ⟨by rfl, ?_⟩; intro w hSw; (try dsimp only at hSw); go_simp; try with_reducible rfl)
            case hq10qa => exact fun _ _ _ h => h
            try simp only [Act.put, List.setIfInBounds_toArray, List.set_cons_zero, List.set_cons_succ]
            refine wpAnyH_take (i := 11) (oi := ?oi11qa) (v := ?v11qa) ?hi11qa (by kernel_rfl) (by kernel_rfl) (by kernel_rfl) ?hq11qa ?hy11qa (by assumption) ?rest11qa
            case hi11qa => (simp only [List.getElem?_toArray, List.getElem?_cons_zero, List.getElem?_cons_succ]; rfl)
            case hy11qa => (refine Or.inl ⟨by rfl, ?_⟩; intro w hSw; (try dsimp only at hSw); go_simp; try with_reducible rfl)
            case hq11qa => exact fun _ _ _ h => h
            try simp only [Act.put, List.setIfInBounds_toArray, List.set_cons_zero, List.set_cons_succ]
            refine wpAnyH_ready (rs := [12]) (by kernel_rfl) (by simp) ?_
            refine AllReadyH.cons (o := ?o12qb) ?ho12qb (fun K hK => ?st12qb) ?mo12qb
            case ho12qb => (simp only [List.getElem?_toArray, List.getElem?_cons_zero, List.getElem?_cons_succ]; rfl)
            · skip
              go_simp
              refine (sign_any k i wd (by omega) (by omega)).mono ?_
              rintro _ _ ⟨rfl, rfl⟩
              go_simp
              refine hK.out _ _ (HS.out _ (Below.refl _ _)) (fun _ => ?_)
              clear hK K
              try simp only [Act.put, List.setIfInBounds_toArray, List.set_cons_zero, List.set_cons_succ]
              refine wpAnyH_take (i := 13) (oi := ?oi13qc) (v := ?v13qc) ?hi13qc (by kernel_rfl) (by kernel_rfl) (by kernel_rfl) ?hq13qc ?hy13qc (by assumption) ?rest13qc
              case hi13qc => (simp only [List.getElem?_toArray, List.getElem?_cons_zero, List.getElem?_cons_succ]; rfl)
              case hy13qc => (refine Or.inl ⟨by rfl, ?_⟩; intro w hSw; (try dsimp only at hSw); go_simp; try with_reducible rfl)
              case hq13qc => exact fun _ _ _ h => h
              try simp only [Act.put, List.setIfInBounds_toArray, List.set_cons_zero, List.set_cons_succ]
              refine wpAnyH_take (i := 14) (oi := ?oi14qc) (v := ?v14qc) ?hi14qc (by kernel_rfl) (by kernel_rfl) (by kernel_rfl) ?hq14qc ?hy14qc (by assumption) ?rest14qc
              case hi14qc => (simp only [List.getElem?_toArray, List.getElem?_cons_zero, List.getElem?_cons_succ]; rfl)
              case hy14qc => (refine Or.inl ⟨by rfl, ?_⟩; intro w hSw; (try dsimp only at hSw); go_simp; try with_reducible rfl)
              case hq14qc => exact fun _ _ _ h => h
              try simp only [Act.put, List.setIfInBounds_toArray, List.set_cons_zero, List.set_cons_succ]
              refine wpAnyH_take (i := 15) (oi := ?oi15qc) (v := ?v15qc) ?hi15qc (by kernel_rfl) (by kernel_rfl) (by kernel_rfl) ?hq15qc ?hy15qc (by assumption) ?rest15qc
              case hi15qc => (simp only [List.getElem?_toArray, List.getElem?_cons_zero, List.getElem?_cons_succ]; rfl)
              case hy15qc => (refine Or.inl ⟨by rfl, ?_⟩; intro w hSw; (try dsimp only at hSw); go_simp; try with_reducible rfl)
              case hq15qc => exact fun _ _ _ h => h
              try simp only [Act.put, List.setIfInBounds_toArray, List.set_cons_zero, List.set_cons_succ]
              refine wpAnyH_take (i := 16) (oi := ?oi16qc) (v := ?v16qc) ?hi16qc (by kernel_rfl) (by kernel_rfl) (by kernel_rfl) ?hq16qc ?hy16qc (by assumption) ?rest16qc
              case hi16qc => (simp only [List.getElem?_toArray, List.getElem?_cons_zero, List.getElem?_cons_succ]; rfl)
              case hy16qc => (refine Or.inl ⟨by rfl, ?_⟩; intro w hSw; (try dsimp only at hSw); go_simp; try with_reducible rfl)
              case hq16qc => exact fun _ _ _ h => h
              try simp only [Act.put, List.setIfInBounds_toArray, List.set_cons_zero, List.set_cons_succ]
              refine wpAnyH_take (i := 17) (oi := ?oi17qc) (v := ?v17qc) ?hi17qc (by kernel_rfl) (by kernel_rfl) (by kernel_rfl) ?hq17qc ?hy17qc (by assumption) ?rest17qc
              case hi17qc => (simp only [List.getElem?_toArray, List.getElem?_cons_zero, List.getElem?_cons_succ]; rfl)
              case hy17qc => (refine Or.inl ⟨by rfl, ?_⟩; intro w hSw; (try dsimp only at hSw); go_simp; try with_reducible rfl)
              case hq17qc => exact fun _ _ _ h => h
              try simp only [Act.put, List.setIfInBounds_toArray, List.set_cons_zero, List.set_cons_succ]
              refine wpAnyH_take (i := 18) (oi := ?oi18qc) (v := ?v18qc) ?hi18qc (by kernel_rfl) (by kernel_rfl) (by kernel_rfl) ?hq18qc ?hy18qc (by assumption) ?rest18qc
              case hi18qc => (simp only [List.getElem?_toArray, List.getElem?_cons_zero, List.getElem?_cons_succ]; rfl)
              case hy18qc => (refine Or.inl ⟨by rfl, ?_⟩; intro w hSw; (try dsimp only at hSw); go_simp; try with_reducible rfl)
              case hq18qc => exact fun _ _ _ h => h
              try simp only [Act.put, List.setIfInBounds_toArray, List.set_cons_zero, List.set_cons_succ]
              refine wpAnyH_take (i := 19) (oi := ?oi19qc) (v := ?v19qc) ?hi19qc (by kernel_rfl) (by kernel_rfl) (by kernel_rfl) ?hq19qc ?hy19qc (by assumption) ?rest19qc
              case hi19qc => (simp only [List.getElem?_toArray, List.getElem?_cons_zero, List.getElem?_cons_succ]; rfl)
              case hy19qc => (refine Or.inl ⟨by rfl, ?_⟩; intro w hSw; (try dsimp only at hSw); go_simp; try with_reducible rfl)
              case hq19qc => exact fun _ _ _ h => h
              try simp only [Act.put, List.setIfInBounds_toArray, List.set_cons_zero, List.set_cons_succ]
              refine wpAnyH_take (i := 20) (oi := ?oi20qc) (v := ?v20qc) ?hi20qc (by kernel_rfl) (by kernel_rfl) (by kernel_rfl) ?hq20qc ?hy20qc (by assumption) ?rest20qc
              case hi20qc => (simp only [List.getElem?_toArray, List.getElem?_cons_zero, List.getElem?_cons_succ]; rfl)
              case hy20qc => (refine Or.inl ⟨by rfl, ?_⟩; intro w hSw; (try dsimp only at hSw); go_simp; try with_reducible rfl)
              case hq20qc => exact fun _ _ _ h => h
              try simp only [Act.put, List.setIfInBounds_toArray, List.set_cons_zero, List.set_cons_succ]
              refine wpAnyH_take (i := 21) (oi := ?oi21qc) (v := ?v21qc) ?hi21qc (by kernel_rfl) (by kernel_rfl) (by kernel_rfl) ?hq21qc ?hy21qc (by assumption) ?rest21qc
              case hi21qc => (simp only [List.getElem?_toArray, List.getElem?_cons_zero, List.getElem?_cons_succ]; rfl)
              case hy21qc => (refine Or.inl ⟨by rfl, ?_⟩; intro w hSw; (try dsimp only at hSw); go_simp; try with_reducible rfl)
              case hq21qc => exact fun _ _ _ h => h
              try simp only [Act.put, List.setIfInBounds_toArray, List.set_cons_zero, List.set_cons_succ]
              refine wpAnyH_take (i := 22) (oi := ?oi22qc) (v := ?v22qc) ?hi22qc (by kernel_rfl) (by kernel_rfl) (by kernel_rfl) ?hq22qc ?hy22qc (by assumption) ?rest22qc
              case hi22qc => (simp only [List.getElem?_toArray, List.getElem?_cons_zero, List.getElem?_cons_succ]; rfl)
              case hy22qc => (refine Or.inl ⟨by rfl, ?_⟩; intro w hSw; (try dsimp only at hSw); go_simp; try with_reducible rfl)
              case hq22qc => exact fun _ _ _ h => h
              try simp only [Act.put, List.setIfInBounds_toArray, List.set_cons_zero, List.set_cons_succ]
              refine wpAnyH_take (i := 23) (oi := ?oi23qc) (v := ?v23qc) ?hi23qc (by kernel_rfl) (by kernel_rfl) (by kernel_rfl) ?hq23qc ?hy23qc (by assumption) ?rest23qc
              case hi23qc => (simp only [List.getElem?_toArray, List.getElem?_cons_zero, List.getElem?_cons_succ]; rfl)
              case hy23qc => (refine Or.inl ⟨by rfl, ?_⟩; intro w hSw; (try dsimp only at hSw); go_simp; try with_reducible rfl)
              case hq23qc => exact fun _ _ _ h => h
              try simp only [Act.put, List.setIfInBounds_toArray, List.set_cons_zero, List.set_cons_succ]
              refine wpAnyH_take (i := 24) (oi := ?oi24qc) (v := ?v24qc) ?hi24qc (by kernel_rfl) (by kernel_rfl) (by kernel_rfl) ?hq24qc ?hy24qc (by assumption) ?rest24qc
              case hi24qc => (simp only [List.getElem?_toArray, List.getElem?_cons_zero, List.getElem?_cons_succ]; rfl)
              case hy24qc => (refine Or.inl ⟨by rfl, ?_⟩; intro w hSw; (try dsimp only at hSw); go_simp; try with_reducible rfl)
              case hq24qc => exact fun _ _ _ h => h
              try simp only [Act.put, List.setIfInBounds_toArray, List.set_cons_zero, List.set_cons_succ]
              refine wpAnyH_take (i := 25) (oi := ?oi25qc) (v := ?v25qc) ?hi25qc (by kernel_rfl) (by kernel_rfl) (by kernel_rfl) ?hq25qc ?hy25qc (by assumption) ?rest25qc
              case hi25qc => (simp only [List.getElem?_toArray, List.getElem?_cons_zero, List.getElem?_cons_succ]; rfl)
              case hy25qc => (refine Or.inl ⟨by rfl, ?_⟩; intro w hSw; (try dsimp only at hSw); go_simp; try with_reducible rfl)
              case hq25qc => exact fun _ _ _ h => h
              try simp only [Act.put, List.setIfInBounds_toArray, List.set_cons_zero, List.set_cons_succ]
              refine wpAnyH_take (i := 26) (oi := ?oi26qs) (v := undef) ?hi26qs (by kernel_rfl) (by kernel_rfl) (by kernel_rfl) ?hq26qs ?hy26qs (by assumption) ?rest26qs
              case hi26qs => (simp only [List.getElem?_toArray, List.getElem?_cons_zero, List.getElem?_cons_succ]; rfl)
              case hy26qs => exact Or.inr ⟨by rfl, rfl⟩
              case hq26qs => exact fun _ _ _ h => h
              try simp only [Act.put, List.setIfInBounds_toArray, List.set_cons_zero, List.set_cons_succ]
              refine wpAnyH_take (i := 27) (oi := ?oi27qs) (v := undef) ?hi27qs (by kernel_rfl) (by kernel_rfl) (by kernel_rfl) ?hq27qs ?hy27qs (by assumption) ?rest27qs
              case hi27qs => (simp only [List.getElem?_toArray, List.getElem?_cons_zero, List.getElem?_cons_succ]; rfl)
              case hy27qs => exact Or.inr ⟨by rfl, rfl⟩
              case hq27qs => exact fun _ _ _ h => h
              try simp only [Act.put, List.setIfInBounds_toArray, List.set_cons_zero, List.set_cons_succ]
              refine wpAnyH_take (i := 28) (oi := ?oi28qs) (v := undef) ?hi28qs (by kernel_rfl) (by kernel_rfl) (by kernel_rfl) ?hq28qs ?hy28qs (by assumption) ?rest28qs
              case hi28qs => (simp only [List.getElem?_toArray, List.getElem?_cons_zero, List.getElem?_cons_succ]; rfl)
              case hy28qs => exact Or.inr ⟨by rfl, rfl⟩
              case hq28qs => exact fun _ _ _ h => h
              try simp only [Act.put, List.setIfInBounds_toArray, List.set_cons_zero, List.set_cons_succ]
              refine wpAnyH_take (i := 29) (oi := ?oi29qs) (v := undef) ?hi29qs (by kernel_rfl) (by kernel_rfl) (by kernel_rfl) ?hq29qs ?hy29qs (by assumption) ?rest29qs
              case hi29qs => (simp only [List.getElem?_toArray, List.getElem?_cons_zero, List.getElem?_cons_succ]; rfl)
              case hy29qs => exact Or.inr ⟨by rfl, rfl⟩
              case hq29qs => exact fun _ _ _ h => h
              try simp only [Act.put, List.setIfInBounds_toArray, List.set_cons_zero, List.set_cons_succ]
              refine wpAnyH_take (i := 30) (oi := ?oi30qs) (v := undef) ?hi30qs (by kernel_rfl) (by kernel_rfl) (by kernel_rfl) ?hq30qs ?hy30qs (by assumption) ?rest30qs
              case hi30qs => (simp only [List.getElem?_toArray, List.getElem?_cons_zero, List.getElem?_cons_succ]; rfl)
              case hy30qs => exact Or.inr ⟨by rfl, rfl⟩
              case hq30qs => exact fun _ _ _ h => h
              try simp only [Act.put, List.setIfInBounds_toArray, List.set_cons_zero, List.set_cons_succ]
              refine wpAnyH_take (i := 31) (oi := ?oi31qs) (v := undef) ?hi31qs (by kernel_rfl) (by kernel_rfl) (by kernel_rfl) ?hq31qs ?hy31qs (by assumption) ?rest31qs
              case hi31qs => (simp only [List.getElem?_toArray, List.getElem?_cons_zero, List.getElem?_cons_succ]; rfl)
              case hy31qs => exact Or.inr ⟨by rfl, rfl⟩
              case hq31qs => exact fun _ _ _ h => h
              try simp only [Act.put, List.setIfInBounds_toArray, List.set_cons_zero, List.set_cons_succ]
              refine wpAnyH_take (i := 32) (oi := ?oi32qs) (v := undef) ?hi32qs (by kernel_rfl) (by kernel_rfl) (by kernel_rfl) ?hq32qs ?hy32qs (by assumption) ?rest32qs
              case hi32qs => (simp only [List.getElem?_toArray, List.getElem?_cons_zero, List.getElem?_cons_succ]; rfl)
              case hy32qs => exact Or.inr ⟨by rfl, rfl⟩
              case hq32qs => exact fun _ _ _ h => h
              try simp only [Act.put, List.setIfInBounds_toArray, List.set_cons_zero, List.set_cons_succ]
              refine wpAnyH_take (i := 33) (oi := ?oi33qs) (v := undef) ?hi33qs (by kernel_rfl) (by kernel_rfl) (by kernel_rfl) ?hq33qs ?hy33qs (by assumption) ?rest33qs
              case hi33qs => (simp only [List.getElem?_toArray, List.getElem?_cons_zero, List.getElem?_cons_succ]; rfl)
              case hy33qs => exact Or.inr ⟨by rfl, rfl⟩
              case hq33qs => exact fun _ _ _ h => h
              try simp only [Act.put, List.setIfInBounds_toArray, List.set_cons_zero, List.set_cons_succ]
              refine wpAnyH_take (i := 34) (oi := ?oi34qs) (v := undef) ?hi34qs (by kernel_rfl) (by kernel_rfl) (by kernel_rfl) ?hq34qs ?hy34qs (by assumption) ?rest34qs
              case hi34qs => (simp only [List.getElem?_toArray, List.getElem?_cons_zero, List.getElem?_cons_succ]; rfl)
              case hy34qs => exact Or.inr ⟨by rfl, rfl⟩
              case hq34qs => exact fun _ _ _ h => h
              try simp only [Act.put, List.setIfInBounds_toArray, List.set_cons_zero, List.set_cons_succ]
              refine wpAnyH_take (i := 35) (oi := ?oi35qs) (v := undef) ?hi35qs (by kernel_rfl) (by kernel_rfl) (by kernel_rfl) ?hq35qs ?hy35qs (by assumption) ?rest35qs
              case hi35qs => (simp only [List.getElem?_toArray, List.getElem?_cons_zero, List.getElem?_cons_succ]; rfl)
              case hy35qs => exact Or.inr ⟨by rfl, rfl⟩
              case hq35qs => exact fun _ _ _ h => h
              try simp only [Act.put, List.setIfInBounds_toArray, List.set_cons_zero, List.set_cons_succ]
              refine wpAnyH_take (i := 36) (oi := ?oi36qs) (v := undef) ?hi36qs (by kernel_rfl) (by kernel_rfl) (by kernel_rfl) ?hq36qs ?hy36qs (by assumption) ?rest36qs
              case hi36qs => (simp only [List.getElem?_toArray, List.getElem?_cons_zero, List.getElem?_cons_succ]; rfl)
              case hy36qs => exact Or.inr ⟨by rfl, rfl⟩
              case hq36qs => exact fun _ _ _ h => h
              try simp only [Act.put, List.setIfInBounds_toArray, List.set_cons_zero, List.set_cons_succ]
              refine wpAnyH_take (i := 37) (oi := ?oi37qs) (v := undef) ?hi37qs (by kernel_rfl) (by kernel_rfl) (by kernel_rfl) ?hq37qs ?hy37qs (by assumption) ?rest37qs
              case hi37qs => (simp only [List.getElem?_toArray, List.getElem?_cons_zero, List.getElem?_cons_succ]; rfl)
              case hy37qs => exact Or.inr ⟨by rfl, rfl⟩
              case hq37qs => exact fun _ _ _ h => h
              try simp only [Act.put, List.setIfInBounds_toArray, List.set_cons_zero, List.set_cons_succ]
              refine wpAnyH_take (i := 38) (oi := ?oi38qs) (v := undef) ?hi38qs (by kernel_rfl) (by kernel_rfl) (by kernel_rfl) ?hq38qs ?hy38qs (by assumption) ?rest38qs
              case hi38qs => (simp only [List.getElem?_toArray, List.getElem?_cons_zero, List.getElem?_cons_succ]; rfl)
              case hy38qs => exact Or.inr ⟨by rfl, rfl⟩
              case hq38qs => exact fun _ _ _ h => h
              try simp only [Act.put, List.setIfInBounds_toArray, List.set_cons_zero, List.set_cons_succ]
              refine wpAnyH_take (i := 39) (oi := ?oi39qs) (v := undef) ?hi39qs (by kernel_rfl) (by kernel_rfl) (by kernel_rfl) ?hq39qs ?hy39qs (by assumption) ?rest39qs
              case hi39qs => (simp only [List.getElem?_toArray, List.getElem?_cons_zero, List.getElem?_cons_succ]; rfl)
              case hy39qs => exact Or.inr ⟨by rfl, rfl⟩
              case hq39qs => exact fun _ _ _ h => h
              try simp only [Act.put, List.setIfInBounds_toArray, List.set_cons_zero, List.set_cons_succ]
              refine wpAnyH_take (i := 40) (oi := ?oi40qe) (v := ?v40qe) ?hi40qe (by kernel_rfl) (by kernel_rfl) (by kernel_rfl) ?hq40qe ?hy40qe (by assumption) ?rest40qe
              case hi40qe => (simp only [List.getElem?_toArray, List.getElem?_cons_zero, List.getElem?_cons_succ]; rfl)
              case hy40qe => (refine Or.inl ⟨by rfl, ?_⟩; intro w hSw; (try dsimp only at hSw); go_simp; try with_reducible rfl)
              case hq40qe => exact fun _ _ _ h => h
              try simp only [Act.put, List.setIfInBounds_toArray, List.set_cons_zero, List.set_cons_succ]
              refine wpAnyH_take (i := 41) (oi := ?oi41qe) (v := ?v41qe) ?hi41qe (by kernel_rfl) (by kernel_rfl) (by kernel_rfl) ?hq41qe ?hy41qe (by assumption) ?rest41qe
              case hi41qe => (simp only [List.getElem?_toArray, List.getElem?_cons_zero, List.getElem?_cons_succ]; rfl)
              case hy41qe => (refine Or.inl ⟨by rfl, ?_⟩; intro w hSw; (try dsimp only at hSw); go_simp; try with_reducible rfl)
              case hq41qe => exact fun _ _ _ h => h
              try simp only [Act.put, List.setIfInBounds_toArray, List.set_cons_zero, List.set_cons_succ]
              refine wpAnyH_done (by kernel_rfl) ?_ _
              go_wp2_with fail
              go_roundw
              case rel => exact ⟨i + 1, by go_num, by omega, HBD⟩
              case measure => simp [intOf] <;> omega
            exact AllReadyH.nil
        · have hiI : ¬ (i : Int) < (m.n : Int) := by omega
          have hiD : decide ((i : Int) < (m.n : Int)) = false := by simpa using hiI
          go_wp2_with fail
          go_roundw
          case rel => exact ⟨k + 1, by go_num, by omega, HB2⟩
          case measure => simp [intOf] <;> omega
    · have hI : ¬ (k : Int) < (T.length : Int) := by omega
      have hD : decide ((k : Int) < (T.length : Int)) = false := by simpa using hI
      go_wp2_with fail
      go_ret
      exact ⟨rfl, HB.out⟩
end Go.Proofs.YtpkdalpjfcopbaaDoor
namespace Go.Proofs.YtpkdalpjfcopbaaDoor
open Go.RowKit
/-- The same, by the place in the whole list. -/
structure NewF (base fr : Nat) (w : World) (TE : List Tv) : Prop where
  lo : ∀ (k : Nat) (e : Tv), fr ≤ k → TE[k]? = some e → Lo w base e.A e.n e.c ∧ e.n ≤ 1099511627776
  pw : ∀ (k k' : Nat) (e e' : Tv) (g : Nat), fr ≤ k → fr ≤ k' → TE[k]? = some e → TE[k']? = some e' → blkO e.A e.c = some g → blkO e'.A e'.c = some g → k = k'
/-- The new lists' blocks. -/
def EbF (fr : Nat) (TE : List Tv) (q : Nat) : Prop := ∃ (k : Nat) (e : Tv), fr ≤ k ∧ TE[k]? = some e ∧ blkO e.A e.c = some q
theorem NewF.ty {base fr : Nat} {w : World} {TE : List Tv} (h : NewF base fr w TE) {q : Nat} (hq : EbF fr TE q) : base ≤ q ∧ q < w.heap.size ∧ IsT w 5 q := by
  obtain ⟨k, e, hk, he, hb⟩ := hq
  exact (h.lo k e hk he).1.blk hb
theorem NewF.chg {base fr : Nat} {w w' : World} {TE : List Tv} {S : Nat → Prop} (h : NewF base fr w TE) (hc : Chg S w w') (hS : ∀ g, IsT w 5 g → ¬ S g) : NewF base fr w' TE :=
  ⟨fun k e hk he => ⟨(h.lo k e hk he).1.chg hc fun g _ _ ht => hS g ht, (h.lo k e hk he).2⟩, h.pw⟩
theorem NewF.over {base fr : Nat} {w w' : World} {TE : List Tv} (h : NewF base fr w TE) (hb : Below w.heap.size w w') : NewF base fr w' TE := h.chg (Chg.of_below hb (fun _ => False)) fun _ _ h => h
theorem NewF.any_set {base fr : Nat} {w : World} {TE : List Tv} (h : NewF base fr w TE) (g i : Nat) (u : Value) : NewF base fr (w.setCell ⟨g, i, none⟩ u) TE :=
  ⟨fun k e hk he => ⟨(h.lo k e hk he).1.any_set g i u, (h.lo k e hk he).2⟩, h.pw⟩
theorem StO.chgU {w w' : World} {s : Nat} {vt vm : Value} {T M : List Tv} {S : Nat → Prop} (h : StO w s vt vm T M) (hc : Chg S w w') (hS : ∀ q, q < w.heap.size → S q → IsT w 5 q) : StO w' s vt vm T M := by
  have off : ∀ {t g : Nat}, IsT w t g → t ≠ 5 → ¬ S g := fun ht hne hs => by
    have hlt : ∀ {g : Nat} {t : Nat}, IsT w t g → g < w.heap.size := fun ⟨cs, fz, h⟩ => (Array.getElem?_eq_some_iff.1 h).1
    exact hne (ht.eq_ (hS _ (hlt ht) hs))
  exact ⟨h.blk.chg hc (off h.blk.isT (by decide)), own_chg h.tx hc fun g hg => off (own_isT h.tx hg) (by decide), own_chg h.mo hc fun g hg => off (own_isT h.mo hg) (by decide), h.ne⟩
/-- One list is being grown. -/
structure Q4 (w3 : World) (base fr : Nat) (TE : List Tv) (KK : Nat) (e : Tv) (nn : Nat) (A' : Option Addr) (c' : Nat) (wr : World) : Prop where
  lo : Lo wr base A' nn c'
  lr : Lr wr A' nn (sg KK nn)
  org : Lr wr e.A e.n (sg KK e.n)
  wh : (A' = e.A ∧ c' = e.c) ∨ ∃ g, blkO A' c' = some g ∧ w3.heap.size ≤ g
  chg : Chg (fun q => blkO e.A e.c = some q) w3 wr
  new : NewF base fr wr TE
  le : e.n ≤ nn
theorem Q4.over {w3 wr w' : World} {base fr KK nn c' : Nat} {TE : List Tv} {e : Tv} {A' : Option Addr} (h : Q4 w3 base fr TE KK e nn A' c' wr) (hb : Below wr.heap.size wr w') : Q4 w3 base fr TE KK e nn A' c' w' :=
  ⟨h.lo.over hb, h.lr.over hb, h.org.over hb, h.wh, h.chg.thenS (Chg.of_below hb (fun _ => False)) (fun _ _ h => h.elim), h.new.over hb, h.le⟩
theorem Q4.step {w3 wr w' : World} {base fr KK nn c' c2 : Nat} {TE : List Tv} {e : Tv} {A' A2 : Option Addr} (h : Q4 w3 base fr TE KK e nn A' c' wr) (hA : Ap wr base A' nn c' (sg KK nn) (sgn KK nn) A2 c2 w') (hlt : ∀ g, blkO e.A e.c = some g → g < w3.heap.size) (hle : e.n ≤ e.c) : Q4 w3 base fr TE KK e (nn + 1) A2 c2 w' := by
  have hs := h.chg.size
  have hn := h.le
  have hlr := hA.lr
  rw [← sg_succ] at hlr
  rcases hA.how with ⟨h1, rfl, rfl, g, o, e1, rfl⟩ | ⟨hb, hg⟩
  · have hbg : blkO A2 c2 = some g := by rw [e1]; exact blkO_pos (by omega)
    rcases h.wh with ⟨e2, e3⟩ | ⟨g', hg', hge⟩
    · refine ⟨hA.lo, hlr, ?_, .inl ⟨e2, e3⟩, h.chg.setCell (.inl ?_) _, h.new.any_set _ _ _, by omega⟩
      · exact h.org.beyond (e2.symm.trans e1) hn _
      · show blkO e.A e.c = some g
        rw [← e2, ← e3]
        exact hbg
    · rw [hbg] at hg'
      injection hg' with hg'
      subst hg'
      refine ⟨hA.lo, hlr, h.org.far (fun h0 e4 => ?_) _ _, .inr ⟨g, hbg, hge⟩, h.chg.setCell (.inr hge) _, h.new.any_set _ _ _, by omega⟩
      have := hlt g (blkO_map h0 hle e4)
      omega
  · exact ⟨hA.lo, hlr, h.org.over hb, .inr ⟨_, hg, hs⟩, h.chg.thenS (Chg.of_below hb (fun _ => False)) (fun _ _ h => h.elim), h.new.over hb, by omega⟩
/-- The lists ahead of a place are grown. -/
structure Q3 (w2 : World) (base fr s : Nat) (TE M : List Tv) (vt vm : Value) (KK : Nat) (Mn : List Tv) (vm' : Value) (wr : World) : Prop where
  so : StO wr s vt vm' TE (M ++ Mn)
  len : fr + Mn.length = KK
  chg : Chg (fun q => (q = s ∨ some q = vm.ownBlock) ∨ EbF fr TE q) w2 wr
  vmo : vm'.ownBlock = vm.ownBlock ∨ ∀ g, vm'.ownBlock = some g → w2.heap.size ≤ g
  done : ∀ (j : Nat) (e m : Tv), TE[fr + j]? = some e → Mn[j]? = some m → Done wr (fr + j) e m ∧ ∀ g, 0 < m.n → m.A.map (·.block) = some g → blkO e.A e.c = some g ∨ w2.heap.size ≤ g
  rest : ∀ (j : Nat) (e : Tv), KK ≤ j → TE[j]? = some e → Lr wr e.A e.n (sg j e.n)
  new : NewF base fr wr TE
  n2 : ∀ q, EbF fr TE q → q < w2.heap.size
section
variable {w2 w3 wr W W2 : World} {base fr s KK nn c' : Nat} {TE M Mn : List Tv} {vt vm vm' v2 : Value} {e : Tv} {A' : Option Addr}
theorem Q3.grow (h : Q3 w2 base fr s TE M vt vm KK Mn vm' w3) (he : TE[KK]? = some e) : Q4 w3 base fr TE KK e e.n e.A e.c w3 :=
  ⟨(h.new.lo KK e (by have := h.len; omega) he).1, h.rest KK e (Nat.le_refl _) he, h.rest KK e (Nat.le_refl _) he, .inl ⟨rfl, rfl⟩, Chg.refl _ _, h.new, Nat.le_refl _⟩
/-- The store while a list is being grown. -/
theorem Q3.mid (h : Q3 w2 base fr s TE M vt vm KK Mn vm' w3) (he : TE[KK]? = some e) (h4 : Q4 w3 base fr TE KK e nn A' c' wr) : StO wr s vt vm' TE (M ++ Mn) :=
  h.so.chgU h4.chg fun q _ hq => ((h.new.lo KK e (by have := h.len; omega) he).1.blk hq).2.2
/-- One more is grown. -/
theorem Q3.snoc (h : Q3 w2 base fr s TE M vt vm KK Mn vm' w3) (he : TE[KK]? = some e) (h4 : Q4 w3 base fr TE KK e (e.n + 64) A' c' wr) (ho : W2.ownsRow 0 22 1 v2 ((M ++ Mn).length + 1) ((M ++ Mn).map Tv.v ++ [.slice A' (e.n + 64) c'])) (hg : wr.grownBy W2 vm'.ownBlock) (hn : v2.ownBlock = vm'.ownBlock ∨ v2.ownBlock = some (wr.heap.size + 1)) (hvt : ∀ g, vt.ownBlock = some g → g < w2.heap.size) :
    Q3 w2 base fr s TE M vt vm (KK + 1) (Mn ++ [⟨A', e.n + 64, c'⟩]) v2 (W2.setCell ⟨s, 1, none⟩ v2) := by
  have hKK : fr ≤ KK := by have := h.len; omega
  have hso := h.mid he h4
  have hc := Chg.of_grown hg
  have hs23 := h.chg.size
  have hs3 := h4.chg.size
  have hb2 : Blk W2 s 73 #[vt, vm'] := hso.blk.chg hc fun e => absurd ((own_isT hso.mo e.symm).eq_ hso.blk.isT) (by decide)
  have hcs : Chg (fun k => k = s) W2 (W2.setCell ⟨s, 1, none⟩ v2) := (Chg.refl (fun k => k = s) W2).setCell (p := ⟨s, 1, none⟩) (.inl rfl) _
  have offS : ∀ {t g : Nat}, IsT W2 t g → t ≠ 73 → ¬ g = s := fun ht hne e => by
    subst e
    exact hne (ht.eq_ hb2.isT)
  have offM : ∀ {t g : Nat}, IsT wr t g → t ≠ 22 → ¬ some g = vm'.ownBlock := fun ht hne e => hne (ht.eq_ (own_isT hso.mo e.symm))
  have isT2 : ∀ {g : Nat}, IsT wr 5 g → IsT W2 5 g := fun ht => by
    obtain ⟨cs, fz, hx⟩ := ht
    exact ⟨cs, fz, (hc.block _ (Array.getElem?_eq_some_iff.1 hx).1 (offM ⟨cs, fz, hx⟩ (by decide))).trans hx⟩
  have lrK : ∀ {A : Option Addr} {n : Nat} {bs : List UInt8}, Lr wr A n bs → Lr (W2.setCell ⟨s, 1, none⟩ v2) A n bs := fun hl =>
    (hl.chg hc fun g _ _ ht => offM ht (by decide)).chg hcs fun g _ _ ht => offS ht (by decide)
  have htx : W2.ownsRow 0 22 1 vt TE.length (TE.map Tv.v) := own_chg hso.tx hc fun g hg' e => hso.ne g hg' e.symm
  have hcw : ∀ q, EbF fr TE q → q < w3.heap.size := fun q hq => (h.new.ty hq).2.1
  refine ⟨⟨hb2.set_ 1 v2, own_chg htx hcs fun g hg' => offS (own_isT htx hg') (by decide), ?_, fun g h1 h2 => ?_⟩, ?_, ?_, ?_, ?_, ?_, ?_, ?_⟩
  · rw [← List.append_assoc, List.length_append, List.map_append]
    exact own_chg ho hcs fun g hg' => offS (own_isT ho hg') (by decide)
  · rcases hn with e1 | e1
    · rw [e1] at h2
      exact hso.ne g h1 h2
    · rw [e1] at h2
      injection h2 with h2
      have := hvt g h1
      omega
  · rw [List.length_append]
    have := h.len
    simp only [List.length_singleton]
    omega
  · refine Chg.thenS (Chg.thenS (Chg.thenS h.chg h4.chg fun q _ hq => .inr ⟨KK, e, hKK, he, hq⟩) hc fun q hq hq2 => ?_) hcs fun q _ hq => .inl (.inl hq)
    rcases h.vmo with e1 | e1
    · exact .inl (.inr (hq2.trans e1))
    · have := e1 q hq2.symm
      omega
  · rcases hn with e1 | e1
    · rcases h.vmo with e2 | e2
      · exact .inl (e1.trans e2)
      · exact .inr fun g hg' => e2 g (by rw [← e1]; exact hg')
    · exact .inr fun g hg' => by
        rw [e1] at hg'
        injection hg' with hg'
        omega
  · intro j e2 m2 he2 hm2
    rcases Nat.lt_or_ge j Mn.length with hj | hj
    · rw [List.getElem?_append_left hj] at hm2
      obtain ⟨hd, hbk⟩ := h.done j e2 m2 he2 hm2
      have hne : fr + j ≠ KK := by have := h.len; omega
      refine ⟨⟨lrK (hd.tx.chg h4.chg fun g hn0 hg' _ hq => hne ?_), hd.n, lrK (hd.mo.chg h4.chg fun g hn0 hg' _ hq => hne ?_), hd.lt⟩, hbk⟩
      · exact h.new.pw _ _ e2 e g (by omega) hKK he2 he (blkO_map hn0 (h.new.lo _ e2 (by omega) he2).1.le hg') hq
      · rcases hbk g hn0 hg' with h5 | h5
        · exact h.new.pw _ _ e2 e g (by omega) hKK he2 he h5 hq
        · exfalso
          have := h.n2 g ⟨KK, e, hKK, he, hq⟩
          omega
    · have hj0 : j = Mn.length := by
        have := (List.getElem?_eq_some_iff.1 hm2).1
        rw [List.length_append] at this
        simp at this
        omega
      subst hj0
      rw [List.getElem?_append_right (Nat.le_refl _), Nat.sub_self] at hm2
      simp only [List.getElem?_cons_zero, Option.some.injEq] at hm2
      subst hm2
      rw [h.len] at he2 ⊢
      rw [he] at he2
      injection he2 with he2
      subst he2
      refine ⟨⟨lrK h4.org, rfl, lrK h4.lr, (h.new.lo KK e hKK he).2⟩, fun g hn0 hg' => ?_⟩
      have h7 := blkO_map hn0 h4.lo.le hg'
      rcases h4.wh with ⟨e3, e4⟩ | ⟨g2, e3, e4⟩
      · exact .inl (by rw [← e3, ← e4]; exact h7)
      · dsimp only at h7
        rw [h7] at e3
        injection e3 with e3
        exact .inr (by omega)
  · intro j e2 hj he2
    refine lrK ((h.rest j e2 (by omega) he2).chg h4.chg fun g hn0 hg' _ hq => ?_)
    have := h.new.pw j KK e2 e g (by omega) hKK he2 he (blkO_map hn0 (h.new.lo _ e2 (by omega) he2).1.le hg') hq
    omega
  · exact (h4.new.chg hc fun g ht => offM ht (by decide)).chg hcs fun g ht => offS ht (by decide)
  · exact h.n2
end
end Go.Proofs.YtpkdalpjfcopbaaDoor
