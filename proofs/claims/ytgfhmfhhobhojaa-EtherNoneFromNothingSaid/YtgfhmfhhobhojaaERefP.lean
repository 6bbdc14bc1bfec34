/-
  The document's network: put.
-/
import Derived.Test.YtgfhmfhhobhojaaERefS
namespace Go.Proofs.Ytgfhmfhhobhojaa
open Go.ChangeShapes Go.WideShapes Go.ChangeAt Go.RowKit
variable {w : World} {F : Nat → Prop} {c : ECfg} {D : Nat} {r : RV}
def putR (r : RV) (i j due : Nat) (bs : List UInt8) : RV := { r with all := r.all ++ [(⟨r.all.length + 1, i, j, due, bs⟩, false)] }
theorem rowR_one (f : Flt) (A : Option Addr) (n cap : Nat) : ∀ u ∈ (#[.int .i64 (f.id : Int), .int .i64 (f.src : Int), .int .i64 (f.dst : Int), .int .i64 (f.due : Int), .slice A n cap, .bool false] : Array Value).toList, u.oneCell' = true := by
  intro u hu
  simp only [List.mem_cons, List.not_mem_nil, or_false] at hu
  rcases hu with rfl | rfl | rfl | rfl | rfl | rfl <;> rfl
def Box5 (w : World) (B : Nat) (f : Flt) (u : Value) : Prop := w.cell? ⟨B, 0, none⟩ = some (.int .i64 (f.id : Int)) ∧ w.cell? ⟨B, 1, none⟩ = some (.int .i64 (f.src : Int)) ∧ w.cell? ⟨B, 2, none⟩ = some (.int .i64 (f.dst : Int)) ∧ w.cell? ⟨B, 3, none⟩ = some (.int .i64 (f.due : Int)) ∧ w.cell? ⟨B, 4, none⟩ = some u
theorem box5 {w : World} {B : Nat} {f : Flt} {u : Value} (h : Blk w B 48 #[.int .i64 (f.id : Int), .int .i64 (f.src : Int), .int .i64 (f.dst : Int), .int .i64 (f.due : Int), u]) : Box5 w B f u := ⟨h.cell 0, h.cell 1, h.cell 2, h.cell 3, h.cell 4⟩
/-- Where put stands when its packet is made. -/
structure PutAt (w : World) (F : Nat → Prop) (c : ECfg) (D : Nat) (r : RV) (v : Value) (X : List Pkt) (f : Flt) (u : Value) (B : Nat) (W : World) : Prop where
  rn : RN W F c D r v X
  below : Below w.heap.size w W
  row : W.ownsRow w.heap.size 5 1 u f.bs.length (bvs f.bs)
  blk : Blk W B 48 #[.int .i64 (f.id : Int), .int .i64 (f.src : Int), .int .i64 (f.dst : Int), .int .i64 (f.due : Int), u]
  new : w.heap.size ≤ B
theorem PutAt.drew {w W : World} {F : Nat → Prop} {c : ECfg} {D B : Nat} {r : RV} {v u : Value} {X : List Pkt} {f : Flt} (h : PutAt w F c D r v X f u B W) : PutAt w F c D r v X f u B W.drew :=
  ⟨h.rn.chg ((Chg.refl (fun _ => False) W).drewN 1) fun _ _ h => h, below_drewN h.below 1, h.row, h.blk, h.new⟩
/-- What is left of it behind the append and the store. -/
theorem PutAt.done {w W W9 : World} {F : Nat → Prop} {c : ECfg} {D B cap6 cap9 : Nat} {r : RV} {A6 A9 : Option Addr} {u : Value} {X : List Pkt} {f : Flt} (h : PutAt w F c D r (.slice A6 X.length cap6) X f u B W) (hF : ∀ k, F k → k < w.heap.size)
    (ho : W9.ownsRow 0 115 6 (.slice A9 (X.length + 1) cap9) (X.length + 1) (rowsR X ++ f.rowR false u)) (hg : W.grownBy W9 (Value.slice A6 X.length cap6).ownBlock) (hat : (Value.slice A9 (X.length + 1) cap9).ownBlock = (Value.slice A6 X.length cap6).ownBlock ∨ (Value.slice A9 (X.length + 1) cap9).ownBlock = some (W.heap.size + 1)) :
    W9.cell? ⟨D, 563, none⟩ = some (.slice A6 X.length cap6) ∧ W9.frozen? ⟨D, 563, none⟩ = false ∧ Box5 W9 B f u ∧ Box5 (W9.setCell ⟨D, 563, none⟩ (.slice A9 (X.length + 1) cap9)) B f u ∧ ∀ x, StepR w F c D x { r with all := r.all ++ [(f, false)] } (.returned x) (W9.setCell ⟨D, 563, none⟩ (.slice A9 (X.length + 1) cap9)) := by
  have hch : Chg (fun j => (Value.slice A6 X.length cap6).ownBlock = some j) W W9 := (Chg.of_grown hg).mono fun _ _ e => e.symm
  have hvD : ¬ (Value.slice A6 X.length cap6).ownBlock = some D := fun e => (h.rn.vne e).1 rfl
  have hvF : ∀ q, (Value.slice A6 X.length cap6).ownBlock = some q → F q := h.rn.fv
  have hBD : B ≠ D := fun e => by have := hF D h.rn.fd; have := h.new; omega
  have hBv : ¬ (Value.slice A6 X.length cap6).ownBlock = some B := fun e => by have := hF _ (hvF _ e); have := h.new; omega
  have hD := h.rn.blk.chg hch hvD
  have hsz := h.below.size
  have hB := h.blk.chg hch hBv
  have huw : ∀ g, u.ownBlock = some g → w.heap.size ≤ g := fun g e => (own_block_lt h.row e).2.1
  have hu9 : W9.ownsRow w.heap.size 5 1 u f.bs.length (bvs f.bs) := own_chg h.row hch fun g e e' => by have := hF _ (hvF _ e'); have := huw g e; omega
  have hR := h.rn.push hch ho (own_base hu9 (Nat.zero_le _)) (fun x hx g hg e => by have := hF _ (h.rn.fx x hx g hg); have := huw g e; omega)
  refine ⟨by rw [hD.cell, rg_at _ (by omega), netF_all], hD.frozen 563, box5 hB, box5 (hB.far hBD _), fun x => ⟨rfl, _, ⟨fun k hk => ?_, _, _, hR⟩, fun k hk => ?_, ?_⟩⟩
  · have hs9 := hch.size
    have hs5 : (W9.setCell ⟨D, 563, none⟩ (.slice A9 (X.length + 1) cap9)).heap.size = W9.heap.size := by simp [World.setCell]
    rw [hs5]
    rcases hk with h1 | h1 | h1
    · have := hF k h1; omega
    · exact (own_block_lt hu9 h1).1
    · exact (own_block_lt ho h1).1
  · rcases hk with h1 | h1 | h1
    · exact .inl h1
    · exact .inr (huw k h1)
    · rcases hat with e | e
      · rw [e] at h1; exact .inl (hvF k h1)
      · rw [e] at h1; injection h1 with h1; right; omega
  · exact ((Chg.of_below h.below F).thenS hch fun k _ e => hvF k e).setCell (.inl h.rn.fd) _
set_option maxRecDepth 100000 in
set_option maxHeartbeats 6400000 in
theorem put_any (h : RNx w F c D r) (i j due : Nat) (bA : Option Addr) (cap : Nat) (bs : List UInt8) (hr : RdB w w.heap.size bA bs.length bs) (hn : bs.length ≤ 140737488351232) (hl : r.all.length ≤ 1099511627776) : Calls Try.prog 86 #[.pointer (some ⟨D, 0, none⟩), .int .i64 (i : Int), .int .i64 (j : Int), .int .i64 (due : Int), .slice bA bs.length cap] w (StepR w F c D (.int .i64 ((r.all.length : Int) + 1)) (putR r i j due bs)) := by
  obtain ⟨i0, hi0, hz0, hz1, hz2⟩ := info_parts info_packet
  obtain ⟨hF, v, X, hP⟩ := h
  obtain ⟨A6, cap6, rfl, hcp6, hcm6⟩ := own_shape hP.row
  have HL := Lib.hid hP.len
  have hXl : X.length ≤ 1099511627776 := by rw [← hP.len]; exact hl
  obtain ⟨wd, hwd⟩ : ∃ wd, wd = w.drew := ⟨_, rfl⟩
  have hPd : RN wd F c D r (.slice A6 X.length cap6) X := by rw [hwd]; exact hP.chg ((Chg.refl (fun _ => False) w).drewN 1) fun _ _ h => h
  have hsd : wd.heap.size = w.heap.size := by rw [hwd]; rfl
  have hBd : Below w.heap.size w wd := by rw [hwd]; exact below_drewN (Below.refl _ _) 1
  have HTW : Hid (∀ W, Below wd.heap.size wd W → Calls Try.prog 87 #[.slice bA bs.length cap] W (TwinR W bs)) := Lib.hid fun W hW => twin_any bA cap bs ((hr.below (hBd.trans (by rw [hsd] at hW; exact hW))).more (by have := hW.size; omega)) hn
  have HS : Hid (∀ W, Below wd.heap.size wd W → W.cell? ⟨D, 563, none⟩ = some (.slice A6 X.length cap6)) := Lib.hid fun W hW => (hPd.below (fun k hk => by rw [hsd]; exact hF k hk) hW).cell.2.2.2
  have HRN : Hid (∀ W, Below wd.heap.size wd W → RN W F c D r (.slice A6 X.length cap6) X) := Lib.hid fun W hW => hPd.below (fun k hk => by rw [hsd]; exact hF k hk) hW
  have HWD := Lib.hid hwd
  have HF := Lib.hid hF
  have HSD := Lib.hid hsd
  have HBD := Lib.hid hBd
  have HIW : Hid (IntKind.i64.wrap ((X.length : Int) + 1) = (X.length : Int) + 1) := Lib.hid (IntWalk.i64_in _ (by omega))
  have hiw := HIW.out
  clear hwd hPd hsd hBd hr hP hF hl
  go_enter Try.func86, Try.ntmps86
  go_upto_region 1 with fail
  have hS0 := HS.out wd (Below.refl _ _)
  refine wp_region_held_drew (S := (fun w' => w'.cell? ⟨D, 563, none⟩ = some (.slice A6 X.length cap6))) (by kernel_rfl) (by rw [← HWD.out]; exact hS0) (fun hHeld => ?_)
  rw [← HWD.out] at hHeld ⊢
  refine wpAnyH_take (i := 0) (oi := ?oi0a) (v := ?v0a) ?hi0a (by kernel_rfl) (by kernel_rfl) (by kernel_rfl) ?hq0a ?hy0a (by assumption) ?rest0a
  case hi0a => (simp only [List.getElem?_toArray, List.getElem?_cons_zero]; rfl)
  case hy0a => (refine Or.inl ⟨by rfl, ?_⟩; intro w hSw; (try dsimp only at hSw); go_simp; try with_reducible rfl)
  case hq0a => exact fun _ _ _ h => h
  try simp only [Act.put, List.setIfInBounds_toArray, List.set_cons_zero, List.set_cons_succ]
  refine wpAnyH_take (i := 1) (oi := ?oi1a) (v := ?v1a) ?hi1a (by kernel_rfl) (by kernel_rfl) (by kernel_rfl) ?hq1a ?hy1a (by assumption) ?rest1a
  case hi1a => (simp only [List.getElem?_toArray, List.getElem?_cons_zero, List.getElem?_cons_succ]; rfl)
  case hy1a => (refine Or.inl ⟨by rfl, ?_⟩; intro w hSw; (try dsimp only at hSw); go_simp; try with_reducible rfl)
  case hq1a => exact fun _ _ _ h => h
  try simp only [Act.put, List.setIfInBounds_toArray, List.set_cons_zero, List.set_cons_succ]
  refine wpAnyH_take (i := 2) (oi := ?oi2a) (v := ?v2a) ?hi2a (by kernel_rfl) (by kernel_rfl) (by kernel_rfl) ?hq2a ?hy2a (by assumption) ?rest2a
  case hi2a => (simp only [List.getElem?_toArray, List.getElem?_cons_zero, List.getElem?_cons_succ]; rfl)
  case hy2a => (refine Or.inl ⟨by rfl, ?_⟩; intro w hSw; (try dsimp only at hSw); go_simp; try with_reducible rfl)
  case hq2a => exact fun _ _ _ h => h
  try simp only [Act.put, List.setIfInBounds_toArray, List.set_cons_zero, List.set_cons_succ]
  refine wpAnyH_take (i := 3) (oi := ?oi3a) (v := ?v3a) ?hi3a (by kernel_rfl) (by kernel_rfl) (by kernel_rfl) ?hq3a ?hy3a (by assumption) ?rest3a
  case hi3a => (simp only [List.getElem?_toArray, List.getElem?_cons_zero, List.getElem?_cons_succ]; rfl)
  case hy3a => (refine Or.inl ⟨by rfl, ?_⟩; intro w hSw; (try dsimp only at hSw); go_simp; try with_reducible rfl)
  case hq3a => exact fun _ _ _ h => h
  try simp only [Act.put, List.setIfInBounds_toArray, List.set_cons_zero, List.set_cons_succ]
  refine wpAnyH_take (i := 4) (oi := ?oi4a) (v := ?v4a) ?hi4a (by kernel_rfl) (by kernel_rfl) (by kernel_rfl) ?hq4a ?hy4a (by assumption) ?rest4a
  case hi4a => (simp only [List.getElem?_toArray, List.getElem?_cons_zero, List.getElem?_cons_succ]; rfl)
  case hy4a => (refine Or.inl ⟨by rfl, ?_⟩; intro w hSw; (try dsimp only at hSw); go_simp; try with_reducible rfl)
  case hq4a => exact fun _ _ _ h => h
  try simp only [Act.put, List.setIfInBounds_toArray, List.set_cons_zero, List.set_cons_succ]
  refine wpAnyH_take (i := 5) (oi := ?oi5a) (v := ?v5a) ?hi5a (by kernel_rfl) (by kernel_rfl) (by kernel_rfl) ?hq5a ?hy5a (by assumption) ?rest5a
  case hi5a => (simp only [List.getElem?_toArray, List.getElem?_cons_zero, List.getElem?_cons_succ]; rfl)
  case hy5a => (refine Or.inl ⟨by rfl, ?_⟩; intro w hSw; (try dsimp only at hSw); go_simp; try with_reducible rfl)
  case hq5a => exact fun _ _ _ h => h
  try simp only [Act.put, List.setIfInBounds_toArray, List.set_cons_zero, List.set_cons_succ]
  refine wpAnyH_take (i := 6) (oi := ?oi6a) (v := ?v6a) ?hi6a (by kernel_rfl) (by kernel_rfl) (by kernel_rfl) ?hq6a ?hy6a (by assumption) ?rest6a
  case hi6a => (simp only [List.getElem?_toArray, List.getElem?_cons_zero, List.getElem?_cons_succ]; rfl)
  case hy6a => (refine Or.inl ⟨by rfl, ?_⟩; intro w hSw; (try dsimp only at hSw); go_simp; try with_reducible rfl)
  case hq6a => exact fun _ _ _ h => h
  try simp only [Act.put, List.setIfInBounds_toArray, List.set_cons_zero, List.set_cons_succ]
  refine wpAnyH_take (i := 7) (oi := ?oi7a) (v := ?v7a) ?hi7a (by kernel_rfl) (by kernel_rfl) (by kernel_rfl) ?hq7a ?hy7a (by assumption) ?rest7a
  case hi7a => (simp only [List.getElem?_toArray, List.getElem?_cons_zero, List.getElem?_cons_succ]; rfl)
  case hy7a => (refine Or.inl ⟨by rfl, ?_⟩; intro w hSw; (try dsimp only at hSw); go_simp; try with_reducible rfl)
  case hq7a => exact fun _ _ _ h => h
  try simp only [Act.put, List.setIfInBounds_toArray, List.set_cons_zero, List.set_cons_succ]
  refine wpAnyH_take (i := 8) (oi := ?oi8a) (v := ?v8a) ?hi8a (by kernel_rfl) (by kernel_rfl) (by kernel_rfl) ?hq8a ?hy8a (by assumption) ?rest8a
  case hi8a => (simp only [List.getElem?_toArray, List.getElem?_cons_zero, List.getElem?_cons_succ]; rfl)
  case hy8a => (refine Or.inl ⟨by rfl, ?_⟩; intro w hSw; (try dsimp only at hSw); go_simp; try with_reducible rfl)
  case hq8a => exact fun _ _ _ h => h
  try simp only [Act.put, List.setIfInBounds_toArray, List.set_cons_zero, List.set_cons_succ]
  refine wpAnyH_take (i := 9) (oi := ?oi9a) (v := ?v9a) ?hi9a (by kernel_rfl) (by kernel_rfl) (by kernel_rfl) ?hq9a ?hy9a (by assumption) ?rest9a
  case hi9a => (simp only [List.getElem?_toArray, List.getElem?_cons_zero, List.getElem?_cons_succ]; rfl)
  case hy9a => (refine Or.inl ⟨by rfl, ?_⟩; intro w hSw; (try dsimp only at hSw); go_simp; try with_reducible rfl)
  case hq9a => exact fun _ _ _ h => h
  try simp only [Act.put, List.setIfInBounds_toArray, List.set_cons_zero, List.set_cons_succ]
  refine wpAnyH_ready (rs := [10, 12]) (by kernel_rfl) (by simp) ?_
  refine AllReadyH.cons (o := ?o10p0) ?ho10p0 (fun K hK => ?st10p0) ?mo10p0
  case ho10p0 => (simp only [List.getElem?_toArray, List.getElem?_cons_zero, List.getElem?_cons_succ]; rfl)
  · skip
    go_simp
    refine (HTW.out wd (Below.refl _ _)).mono ?_
    rintro _ w2 ⟨A3, cap3, rfl, ho2, hb2⟩
    have HB2 := Lib.hid (And.intro ho2 hb2)
    clear ho2 hb2
    go_simp
    refine hK.out _ _ (HS.out w2 HB2.out.2) (fun hHeld1 => ?_)
    clear hK K
    try simp only [Act.put, List.setIfInBounds_toArray, List.set_cons_zero, List.set_cons_succ]
    refine wpAnyH_take (i := 11) (oi := ?oi11b) (v := ?v11b) ?hi11b (by kernel_rfl) (by kernel_rfl) (by kernel_rfl) ?hq11b ?hy11b (by assumption) ?rest11b
    case hi11b => (simp only [List.getElem?_toArray, List.getElem?_cons_zero, List.getElem?_cons_succ]; rfl)
    case hy11b => (refine Or.inl ⟨by rfl, ?_⟩; intro w hSw; (try dsimp only at hSw); go_simp; try with_reducible rfl)
    case hq11b => exact fun _ _ _ h => h
    try simp only [Act.put, List.setIfInBounds_toArray, List.set_cons_zero, List.set_cons_succ]
    refine wpAnyH_ready (rs := [12]) (by kernel_rfl) (by simp) ?_
    refine AllReadyH.cons (o := ?o12p1) ?ho12p1 (fun K hK => ?st12p1) ?mo12p1
    case ho12p1 => (simp only [List.getElem?_toArray, List.getElem?_cons_zero, List.getElem?_cons_succ]; rfl)
    · skip
      go_simp
      have hb3 := one_box' w2 (.cells #[.int .i64 0, .int .i64 0, .int .i64 0, .int .i64 0, .slice none 0 0] 48)
      have HZB := Lib.hid (Blk.new w2 48 #[.int .i64 0, .int .i64 0, .int .i64 0, .int .i64 0, .slice none 0 0])
      obtain ⟨w3, hw3⟩ : ∃ w3, w3 = w2.alloc (.cells #[.int .i64 0, .int .i64 0, .int .i64 0, .int .i64 0, .slice none 0 0] 48) := ⟨_, rfl⟩
      rw [← hw3] at hb3 HZB
      have hb03 := HB2.out.2.trans (hb3.mono HB2.out.2.size)
      have HRW := Lib.hid (HRN.out w3 hb03)
      have HOW : Hid (w3.ownsRow w.heap.size 5 1 (.slice A3 bs.length cap3) bs.length (bvs bs)) := Lib.hid (own_base (own_over HB2.out.1 hb3) (by rw [HSD.out]; exact Nat.le_refl _))
      have HBW : Hid (Below w.heap.size w w3) := Lib.hid (HBD.out.trans (by rw [HSD.out] at hb03; exact hb03))
      have HBN : Hid (w.heap.size ≤ w2.heap.size) := Lib.hid (by have := HB2.out.2.size; have := HSD.out; omega)
      have hs3 := HS.out w3 hb03
      have HW3 := Lib.hid hw3
      clear hw3 hb3 hb03
      rw [← HW3.out]
      refine hK.out _ _ hs3 (fun hHeld2 => ?_)
      clear hK K
      try simp only [Act.put, List.setIfInBounds_toArray, List.set_cons_zero, List.set_cons_succ]
      have hz3 : Blk w3 w2.heap.size 48 #[.int .i64 0, .int .i64 0, .int .i64 0, .int .i64 0, .slice none 0 0] := HZB.out
      have p0 : w3.frozen? ⟨w2.heap.size, 0, none⟩ = false := hz3.frozen 0
      have p1 : w3.frozen? ⟨w2.heap.size, 1, none⟩ = false := hz3.frozen 1
      have p2 : w3.frozen? ⟨w2.heap.size, 2, none⟩ = false := hz3.frozen 2
      have p3 : w3.frozen? ⟨w2.heap.size, 3, none⟩ = false := hz3.frozen 3
      have p4 : w3.frozen? ⟨w2.heap.size, 4, none⟩ = false := hz3.frozen 4
      have x0 : w3.cell? ⟨w2.heap.size, 0, none⟩ = some (.int .i64 0) := hz3.cell 0
      have x1 : w3.cell? ⟨w2.heap.size, 1, none⟩ = some (.int .i64 0) := hz3.cell 1
      have x2 : w3.cell? ⟨w2.heap.size, 2, none⟩ = some (.int .i64 0) := hz3.cell 2
      have x3 : w3.cell? ⟨w2.heap.size, 3, none⟩ = some (.int .i64 0) := hz3.cell 3
      have x4 : w3.cell? ⟨w2.heap.size, 4, none⟩ = some (.slice none 0 0) := hz3.cell 4
      obtain ⟨w5, hw5⟩ : ∃ w5, w5 = (((((w3).setCell ⟨w2.heap.size, 0, none⟩ (.int .i64 ((X.length : Int) + 1))).setCell ⟨w2.heap.size, 1, none⟩ (.int .i64 (i : Int))).setCell ⟨w2.heap.size, 2, none⟩ (.int .i64 (j : Int))).setCell ⟨w2.heap.size, 3, none⟩ (.int .i64 (due : Int))).setCell ⟨w2.heap.size, 4, none⟩ (.slice A3 bs.length cap3) := ⟨_, rfl⟩
      have hch : Chg (fun k => k = w2.heap.size) w3 w5 := by
        rw [hw5]
        exact ((((((Chg.refl (fun k => k = w2.heap.size) w3)).setCell (p := ⟨w2.heap.size, 0, none⟩) (.inl rfl) _).setCell (p := ⟨w2.heap.size, 1, none⟩) (.inl rfl) _).setCell (p := ⟨w2.heap.size, 2, none⟩) (.inl rfl) _).setCell (p := ⟨w2.heap.size, 3, none⟩) (.inl rfl) _).setCell (p := ⟨w2.heap.size, 4, none⟩) (.inl rfl) _
      have HPA : Hid (PutAt w F c D r (.slice A6 X.length cap6) X ⟨X.length + 1, i, j, due, bs⟩ (.slice A3 bs.length cap3) w2.heap.size w5) := by
        have h1 := HRW.out
        have h2 := HOW.out
        have h3 := HBW.out
        have h4 := HBN.out
        refine Lib.hid ⟨h1.chg hch fun k hk e => by have := HF.out k hk; omega, h3.trans (hch.to_below h3.size fun k e => by omega), own_base (own_chg h2 hch fun g hg e => ?_) (Nat.le_refl _), ?_, h4⟩
        · obtain ⟨_, _, cu, hB⟩ := own_block_lt h2 hg
          exact hB.ne_ hz3 (by decide) e
        · rw [hw5]
          exact ((((hz3.set_ 0 _).set_ 1 _).set_ 2 _).set_ 3 _).set_ 4 _
      have hs5 : w5.cell? ⟨D, 563, none⟩ = some (.slice A6 X.length cap6) := HPA.out.rn.cell.2.2.2
      have HW5 := Lib.hid hw5
      clear hw5 hch hz3
      refine wpAnyH_ready (rs := [13]) (by kernel_rfl) (by simp) ?_
      refine AllReadyH.cons (o := ?o13p2) ?ho13p2 (fun K hK => ?st13p2) ?mo13p2
      case ho13p2 => (simp only [List.getElem?_toArray, List.getElem?_cons_zero, List.getElem?_cons_succ]; rfl)
      · skip
        go_simp
        rw [← HW5.out]
        refine hK.out _ _ hs5 (fun hHeld3 => ?_)
        clear hK K
        try simp only [Act.put, List.setIfInBounds_toArray, List.set_cons_zero, List.set_cons_succ]
        refine wpAnyH_done (by kernel_rfl) ?_ _
        obtain ⟨wq, hwq⟩ : ∃ wq, wq = w5.drew := ⟨_, rfl⟩
        have hpa : PutAt w F c D r (.slice A6 X.length cap6) X ⟨X.length + 1, i, j, due, bs⟩ (.slice A3 bs.length cap3) w2.heap.size wq := by rw [hwq]; exact HPA.out.drew
        have q6 : wq.cell? ⟨D, 563, none⟩ = some (.slice A6 X.length cap6) := hpa.rn.cell.2.2.2
        have hq : wq.cell? ⟨w2.heap.size, 0, none⟩ = some (.int .i64 ((X.length : Int) + 1)) ∧ wq.cell? ⟨w2.heap.size, 1, none⟩ = some (.int .i64 (i : Int)) ∧ wq.cell? ⟨w2.heap.size, 2, none⟩ = some (.int .i64 (j : Int)) ∧ wq.cell? ⟨w2.heap.size, 3, none⟩ = some (.int .i64 (due : Int)) ∧ wq.cell? ⟨w2.heap.size, 4, none⟩ = some (.slice A3 bs.length cap3) := box5 hpa.blk
        have HQA : Hid (∀ us, Box5 (wq.alloc us) w2.heap.size ⟨X.length + 1, i, j, due, bs⟩ (.slice A3 bs.length cap3)) := Lib.hid fun us => box5 (hpa.blk.over (one_box' wq us))
        have HVA : Hid (∀ us, (wq.alloc us).cell? ⟨D, 563, none⟩ = some (.slice A6 X.length cap6)) := Lib.hid fun us => (hpa.rn.below (fun k hk => by have := HF.out k hk; have := hpa.below.size; omega) (one_box' wq us)).cell.2.2.2
        have HPQ := Lib.hid hpa
        have HWQ := Lib.hid hwq
        clear hpa hwq hHeld
        go_upto_region 2 with fail
        refine wp_region_held_drew (S := (fun w' => w'.cell? ⟨w2.heap.size, 0, none⟩ = some (.int .i64 ((X.length : Int) + 1)) ∧ w'.cell? ⟨w2.heap.size, 1, none⟩ = some (.int .i64 (i : Int)) ∧ w'.cell? ⟨w2.heap.size, 2, none⟩ = some (.int .i64 (j : Int)) ∧ w'.cell? ⟨w2.heap.size, 3, none⟩ = some (.int .i64 (due : Int)) ∧ w'.cell? ⟨w2.heap.size, 4, none⟩ = some (.slice A3 bs.length cap3))) (by kernel_rfl) (by rw [← HWQ.out]; exact hq) (fun hHeldq => ?_)
        rw [← HWQ.out] at hHeldq ⊢
        refine wpAnyH_take (i := 0) (oi := ?oi0e1) (v := ?v0e1) ?hi0e1 (by kernel_rfl) (by kernel_rfl) (by kernel_rfl) ?hq0e1 ?hy0e1 (by assumption) ?rest0e1
        case hi0e1 => (simp only [List.getElem?_toArray, List.getElem?_cons_zero]; rfl)
        case hy0e1 => (refine Or.inl ⟨by rfl, ?_⟩; intro w hSw; (try dsimp only at hSw); go_simp; try with_reducible rfl)
        case hq0e1 => exact fun _ _ _ h => h
        try simp only [Act.put, List.setIfInBounds_toArray, List.set_cons_zero, List.set_cons_succ]
        refine wpAnyH_take (i := 1) (oi := ?oi1e1) (v := ?v1e1) ?hi1e1 (by kernel_rfl) (by kernel_rfl) (by kernel_rfl) ?hq1e1 ?hy1e1 (by assumption) ?rest1e1
        case hi1e1 => (simp only [List.getElem?_toArray, List.getElem?_cons_zero, List.getElem?_cons_succ]; rfl)
        case hy1e1 => (refine Or.inl ⟨by rfl, ?_⟩; intro w hSw; (try dsimp only at hSw); go_simp; try with_reducible rfl)
        case hq1e1 => exact fun _ _ _ h => h
        try simp only [Act.put, List.setIfInBounds_toArray, List.set_cons_zero, List.set_cons_succ]
        refine wpAnyH_take (i := 2) (oi := ?oi2e1) (v := ?v2e1) ?hi2e1 (by kernel_rfl) (by kernel_rfl) (by kernel_rfl) ?hq2e1 ?hy2e1 (by assumption) ?rest2e1
        case hi2e1 => (simp only [List.getElem?_toArray, List.getElem?_cons_zero, List.getElem?_cons_succ]; rfl)
        case hy2e1 => (refine Or.inl ⟨by rfl, ?_⟩; intro w hSw; (try dsimp only at hSw); go_simp; try with_reducible rfl)
        case hq2e1 => exact fun _ _ _ h => h
        try simp only [Act.put, List.setIfInBounds_toArray, List.set_cons_zero, List.set_cons_succ]
        refine wpAnyH_take (i := 3) (oi := ?oi3e1) (v := ?v3e1) ?hi3e1 (by kernel_rfl) (by kernel_rfl) (by kernel_rfl) ?hq3e1 ?hy3e1 (by assumption) ?rest3e1
        case hi3e1 => (simp only [List.getElem?_toArray, List.getElem?_cons_zero, List.getElem?_cons_succ]; rfl)
        case hy3e1 => (refine Or.inl ⟨by rfl, ?_⟩; intro w hSw; (try dsimp only at hSw); go_simp; try with_reducible rfl)
        case hq3e1 => exact fun _ _ _ h => h
        try simp only [Act.put, List.setIfInBounds_toArray, List.set_cons_zero, List.set_cons_succ]
        refine wpAnyH_take (i := 5) (oi := ?oi5e1) (v := ?v5e1) ?hi5e1 (by kernel_rfl) (by kernel_rfl) (by kernel_rfl) ?hq5e1 ?hy5e1 (by assumption) ?rest5e1
        case hi5e1 => (simp only [List.getElem?_toArray, List.getElem?_cons_zero, List.getElem?_cons_succ]; rfl)
        case hy5e1 => (refine Or.inl ⟨by rfl, ?_⟩; intro w hSw; (try dsimp only at hSw); go_simp; try with_reducible rfl)
        case hq5e1 => exact fun _ _ _ h => h
        try simp only [Act.put, List.setIfInBounds_toArray, List.set_cons_zero, List.set_cons_succ]
        refine wpAnyH_take (i := 6) (oi := ?oi6e1) (v := ?v6e1) ?hi6e1 (by kernel_rfl) (by kernel_rfl) (by kernel_rfl) ?hq6e1 ?hy6e1 (by assumption) ?rest6e1
        case hi6e1 => (simp only [List.getElem?_toArray, List.getElem?_cons_zero, List.getElem?_cons_succ]; rfl)
        case hy6e1 => (refine Or.inl ⟨by rfl, ?_⟩; intro w hSw; (try dsimp only at hSw); go_simp; try with_reducible rfl)
        case hq6e1 => exact fun _ _ _ h => h
        try simp only [Act.put, List.setIfInBounds_toArray, List.set_cons_zero, List.set_cons_succ]
        refine wpAnyH_ready (rs := [4, 7]) (by kernel_rfl) (by simp) ?_
        refine AllReadyH.cons (o := ?o4e1) ?ho4e1 (fun K hK => ?st4e1) ?mo4e1
        case ho4e1 => (simp only [List.getElem?_toArray, List.getElem?_cons_zero, List.getElem?_cons_succ]; rfl)
        · skip
          go_simp
          refine hK.out _ _ hq (fun hHeldl => ?_)
          clear hK K
          try simp only [Act.put, List.setIfInBounds_toArray, List.set_cons_zero, List.set_cons_succ]
          refine wpAnyH_ready (rs := [7]) (by kernel_rfl) (by simp) ?_
          refine AllReadyH.cons (o := ?o7e1) ?ho7e1 (fun K hK => ?st7e1) ?mo7e1
          case ho7e1 => (simp only [List.getElem?_toArray, List.getElem?_cons_zero, List.getElem?_cons_succ]; rfl)
          · skip
            go_simp
            refine hK.out _ _ (HQA.out _) (fun hHelde => ?_)
            clear hK K
            try simp only [Act.put, List.setIfInBounds_toArray, List.set_cons_zero, List.set_cons_succ]
            refine wpAnyH_ready (rs := [8]) (by kernel_rfl) (by simp) ?_
            refine AllReadyH.cons (o := ?o8f1) ?ho8f1 (fun K hK => ?st8f1) ?mo8f1
            case ho8f1 => (simp only [List.getElem?_toArray, List.getElem?_cons_zero, List.getElem?_cons_succ]; rfl)
            · skip
              refine step_appN wq (by rfl) _ _ 104 (by rfl) 0 115 i0 _ 6 64 u_packets hi0 hz0 hz1 hz2 rfl (by decide) _ X.length _ (by rfl) HPQ.out.rn.row #[.int .i64 ((X.length : Int) + 1), .int .i64 (i : Int), .int .i64 (j : Int), .int .i64 (due : Int), .slice A3 bs.length cap3, .bool false] rfl (by rfl) (rowR_one ⟨X.length + 1, i, j, due, bs⟩ A3 bs.length cap3) (by simp only [maxLen]; omega) (by omega) (Nat.zero_le _) ?_
              intro v9 w9 own9 _ hg9 hat9
              obtain ⟨A9, cap9, rfl, _, _⟩ := own_shape own9
              obtain ⟨k6, kf, k9, k10, hfin⟩ := HPQ.out.done HF.out own9 hg9 hat9
              obtain ⟨w10, hw10⟩ : ∃ w10, w10 = w9.setCell ⟨D, 563, none⟩ (.slice A9 (X.length + 1) cap9) := ⟨_, rfl⟩
              rw [← hw10] at k10
              have HE : Hid (StepR w F c D (.int .i64 ((r.all.length : Int) + 1)) (putR r i j due bs) (.returned (.int .i64 ((X.length : Int) + 1))) w10) := Lib.hid (by rw [hw10]; simpa [putR, HL.out] using hfin (.int .i64 ((X.length : Int) + 1)))
              have HW10 := Lib.hid hw10
              have HK9 := Lib.hid k9
              have HK10 := Lib.hid k10
              have z0 : w10.cell? ⟨w2.heap.size, 0, none⟩ = some (.int .i64 ((X.length : Int) + 1)) := k10.1
              clear hfin own9 hg9 hat9 k9 k10 hw10
              refine hK.out _ _ HK9.out (fun hHeldf => ?_)
              clear hK K
              try simp only [Act.put, List.setIfInBounds_toArray, List.set_cons_zero, List.set_cons_succ]
              refine wpAnyH_take (i := 9) (oi := ?oi9g1) (v := ?v9g1) ?hi9g1 (by kernel_rfl) (by kernel_rfl) (by kernel_rfl) ?hq9g1 ?hy9g1 (by assumption) ?rest9g1
              case hi9g1 => (simp only [List.getElem?_toArray, List.getElem?_cons_zero, List.getElem?_cons_succ]; rfl)
              case hy9g1 => (refine Or.inl ⟨by rfl, ?_⟩; intro w hSw; (try dsimp only at hSw); go_simp; try with_reducible rfl)
              case hq9g1 => exact fun _ _ _ h => h
              try simp only [Act.put, List.setIfInBounds_toArray, List.set_cons_zero, List.set_cons_succ]
              refine wpAnyH_take (i := 10) (oi := ?oi10g1) (v := ?v10g1) ?hi10g1 (by kernel_rfl) (by kernel_rfl) (by kernel_rfl) ?hq10g1 ?hy10g1 (by assumption) ?rest10g1
              case hi10g1 => (simp only [List.getElem?_toArray, List.getElem?_cons_zero, List.getElem?_cons_succ]; rfl)
              case hy10g1 => (refine Or.inl ⟨by rfl, ?_⟩; intro w hSw; (try dsimp only at hSw); go_simp; try with_reducible rfl)
              case hq10g1 => exact fun _ _ _ h => h
              try simp only [Act.put, List.setIfInBounds_toArray, List.set_cons_zero, List.set_cons_succ]
              refine wpAnyH_ready (rs := [11]) (by kernel_rfl) (by simp) ?_
              refine AllReadyH.cons (o := ?o11h1) ?ho11h1 (fun K hK => ?st11h1) ?mo11h1
              case ho11h1 => (simp only [List.getElem?_toArray, List.getElem?_cons_zero, List.getElem?_cons_succ]; rfl)
              · skip
                go_simp
                rw [← HW10.out]
                refine hK.out _ _ HK10.out (fun hHeldh => ?_)
                clear hK K
                try simp only [Act.put, List.setIfInBounds_toArray, List.set_cons_zero, List.set_cons_succ]
                refine wpAnyH_done (by kernel_rfl) ?_ _
                clear q6 k6 kf
                go_wp2
                go_ret
                exact HE.out
              · exact AllReadyH.nil
            · exact AllReadyH.nil
          · exact AllReadyH.nil
        refine AllReadyH.cons (o := ?o7k1) ?ho7k1 (fun K hK => ?st7k1) ?mo7k1
        case ho7k1 => (simp only [List.getElem?_toArray, List.getElem?_cons_zero, List.getElem?_cons_succ]; rfl)
        · skip
          go_simp
          refine hK.out _ _ (HQA.out _) (fun hHelde => ?_)
          clear hK K
          try simp only [Act.put, List.setIfInBounds_toArray, List.set_cons_zero, List.set_cons_succ]
          refine wpAnyH_ready (rs := [4]) (by kernel_rfl) (by simp) ?_
          refine AllReadyH.cons (o := ?o4l1) ?ho4l1 (fun K hK => ?st4l1) ?mo4l1
          case ho4l1 => (simp only [List.getElem?_toArray, List.getElem?_cons_zero, List.getElem?_cons_succ]; rfl)
          · skip
            have hv1 := HVA.out (.cells #[.int .i64 ((X.length : Int) + 1), .int .i64 (i : Int), .int .i64 (j : Int), .int .i64 (due : Int), .slice A3 bs.length cap3, .bool false] 115)
            go_simp
            refine hK.out _ _ (HQA.out _) (fun hHeldl => ?_)
            clear hK K hv1
            try simp only [Act.put, List.setIfInBounds_toArray, List.set_cons_zero, List.set_cons_succ]
            refine wpAnyH_ready (rs := [8]) (by kernel_rfl) (by simp) ?_
            refine AllReadyH.cons (o := ?o8f1x) ?ho8f1x (fun K hK => ?st8f1x) ?mo8f1x
            case ho8f1x => (simp only [List.getElem?_toArray, List.getElem?_cons_zero, List.getElem?_cons_succ]; rfl)
            · skip
              refine step_appN wq (by rfl) _ _ 104 (by rfl) 0 115 i0 _ 6 64 u_packets hi0 hz0 hz1 hz2 rfl (by decide) _ X.length _ (by rfl) HPQ.out.rn.row #[.int .i64 ((X.length : Int) + 1), .int .i64 (i : Int), .int .i64 (j : Int), .int .i64 (due : Int), .slice A3 bs.length cap3, .bool false] rfl (by rfl) (rowR_one ⟨X.length + 1, i, j, due, bs⟩ A3 bs.length cap3) (by simp only [maxLen]; omega) (by omega) (Nat.zero_le _) ?_
              intro v9 w9 own9 _ hg9 hat9
              obtain ⟨A9, cap9, rfl, _, _⟩ := own_shape own9
              obtain ⟨k6, kf, k9, k10, hfin⟩ := HPQ.out.done HF.out own9 hg9 hat9
              obtain ⟨w10, hw10⟩ : ∃ w10, w10 = w9.setCell ⟨D, 563, none⟩ (.slice A9 (X.length + 1) cap9) := ⟨_, rfl⟩
              rw [← hw10] at k10
              have HE : Hid (StepR w F c D (.int .i64 ((r.all.length : Int) + 1)) (putR r i j due bs) (.returned (.int .i64 ((X.length : Int) + 1))) w10) := Lib.hid (by rw [hw10]; simpa [putR, HL.out] using hfin (.int .i64 ((X.length : Int) + 1)))
              have HW10 := Lib.hid hw10
              have HK9 := Lib.hid k9
              have HK10 := Lib.hid k10
              have z0 : w10.cell? ⟨w2.heap.size, 0, none⟩ = some (.int .i64 ((X.length : Int) + 1)) := k10.1
              clear hfin own9 hg9 hat9 k9 k10 hw10
              refine hK.out _ _ HK9.out (fun hHeldf => ?_)
              clear hK K
              try simp only [Act.put, List.setIfInBounds_toArray, List.set_cons_zero, List.set_cons_succ]
              refine wpAnyH_take (i := 9) (oi := ?oi9g1x) (v := ?v9g1x) ?hi9g1x (by kernel_rfl) (by kernel_rfl) (by kernel_rfl) ?hq9g1x ?hy9g1x (by assumption) ?rest9g1x
              case hi9g1x => (simp only [List.getElem?_toArray, List.getElem?_cons_zero, List.getElem?_cons_succ]; rfl)
              case hy9g1x => (refine Or.inl ⟨by rfl, ?_⟩; intro w hSw; (try dsimp only at hSw); go_simp; try with_reducible rfl)
              case hq9g1x => exact fun _ _ _ h => h
              try simp only [Act.put, List.setIfInBounds_toArray, List.set_cons_zero, List.set_cons_succ]
              refine wpAnyH_take (i := 10) (oi := ?oi10g1x) (v := ?v10g1x) ?hi10g1x (by kernel_rfl) (by kernel_rfl) (by kernel_rfl) ?hq10g1x ?hy10g1x (by assumption) ?rest10g1x
              case hi10g1x => (simp only [List.getElem?_toArray, List.getElem?_cons_zero, List.getElem?_cons_succ]; rfl)
              case hy10g1x => (refine Or.inl ⟨by rfl, ?_⟩; intro w hSw; (try dsimp only at hSw); go_simp; try with_reducible rfl)
              case hq10g1x => exact fun _ _ _ h => h
              try simp only [Act.put, List.setIfInBounds_toArray, List.set_cons_zero, List.set_cons_succ]
              refine wpAnyH_ready (rs := [11]) (by kernel_rfl) (by simp) ?_
              refine AllReadyH.cons (o := ?o11h1x) ?ho11h1x (fun K hK => ?st11h1x) ?mo11h1x
              case ho11h1x => (simp only [List.getElem?_toArray, List.getElem?_cons_zero, List.getElem?_cons_succ]; rfl)
              · skip
                go_simp
                rw [← HW10.out]
                refine hK.out _ _ HK10.out (fun hHeldh => ?_)
                clear hK K
                try simp only [Act.put, List.setIfInBounds_toArray, List.set_cons_zero, List.set_cons_succ]
                refine wpAnyH_done (by kernel_rfl) ?_ _
                clear q6 k6 kf
                go_wp2
                go_ret
                exact HE.out
              · exact AllReadyH.nil
            · exact AllReadyH.nil
          · exact AllReadyH.nil
        exact AllReadyH.nil
      · exact AllReadyH.nil
    · exact AllReadyH.nil
  refine AllReadyH.cons (o := ?o12p3) ?ho12p3 (fun K hK => ?st12p3) ?mo12p3
  case ho12p3 => (simp only [List.getElem?_toArray, List.getElem?_cons_zero, List.getElem?_cons_succ]; rfl)
  · skip
    go_simp
    have hb1 := one_box' wd (.cells #[.int .i64 0, .int .i64 0, .int .i64 0, .int .i64 0, .slice none 0 0] 48)
    have hZ1 := Blk.new wd 48 #[.int .i64 0, .int .i64 0, .int .i64 0, .int .i64 0, .slice none 0 0]
    obtain ⟨w1, hw1⟩ : ∃ w1, w1 = wd.alloc (.cells #[.int .i64 0, .int .i64 0, .int .i64 0, .int .i64 0, .slice none 0 0] 48) := ⟨_, rfl⟩
    rw [← hw1] at hb1 hZ1
    have HW1 := Lib.hid hw1
    have HB1 := Lib.hid hb1
    have HZ1 := Lib.hid hZ1
    clear hw1 hb1 hZ1
    rw [← HW1.out]
    refine hK.out _ _ (HS.out w1 HB1.out) (fun hHeld1 => ?_)
    clear hK K
    try simp only [Act.put, List.setIfInBounds_toArray, List.set_cons_zero, List.set_cons_succ]
    refine wpAnyH_ready (rs := [10]) (by kernel_rfl) (by simp) ?_
    refine AllReadyH.cons (o := ?o10p4) ?ho10p4 (fun K hK => ?st10p4) ?mo10p4
    case ho10p4 => (simp only [List.getElem?_toArray, List.getElem?_cons_zero, List.getElem?_cons_succ]; rfl)
    · skip
      go_simp
      refine (HTW.out w1 HB1.out).mono ?_
      rintro _ w2 ⟨A3, cap3, rfl, ho2, hb2⟩
      have hb02 := HB1.out.trans (hb2.mono HB1.out.size)
      have HZB := Lib.hid (HZ1.out.over hb2)
      have HRW := Lib.hid (HRN.out w2 hb02)
      have HOW : Hid (w2.ownsRow w.heap.size 5 1 (.slice A3 bs.length cap3) bs.length (bvs bs)) := Lib.hid (own_base ho2 (by have := HB1.out.size; have := HSD.out; omega))
      have HBW : Hid (Below w.heap.size w w2) := Lib.hid (HBD.out.trans (by rw [HSD.out] at hb02; exact hb02))
      have HBN : Hid (w.heap.size ≤ wd.heap.size) := Lib.hid (by have := HSD.out; omega)
      have hs2 := HS.out w2 hb02
      clear ho2 hb2 hb02
      go_simp
      refine hK.out _ _ hs2 (fun hHeld2 => ?_)
      clear hK K
      try simp only [Act.put, List.setIfInBounds_toArray, List.set_cons_zero, List.set_cons_succ]
      refine wpAnyH_take (i := 11) (oi := ?oi11d) (v := ?v11d) ?hi11d (by kernel_rfl) (by kernel_rfl) (by kernel_rfl) ?hq11d ?hy11d (by assumption) ?rest11d
      case hi11d => (simp only [List.getElem?_toArray, List.getElem?_cons_zero, List.getElem?_cons_succ]; rfl)
      case hy11d => (refine Or.inl ⟨by rfl, ?_⟩; intro w hSw; (try dsimp only at hSw); go_simp; try with_reducible rfl)
      case hq11d => exact fun _ _ _ h => h
      try simp only [Act.put, List.setIfInBounds_toArray, List.set_cons_zero, List.set_cons_succ]
      have hz3 : Blk w2 wd.heap.size 48 #[.int .i64 0, .int .i64 0, .int .i64 0, .int .i64 0, .slice none 0 0] := HZB.out
      have p0 : w2.frozen? ⟨wd.heap.size, 0, none⟩ = false := hz3.frozen 0
      have p1 : w2.frozen? ⟨wd.heap.size, 1, none⟩ = false := hz3.frozen 1
      have p2 : w2.frozen? ⟨wd.heap.size, 2, none⟩ = false := hz3.frozen 2
      have p3 : w2.frozen? ⟨wd.heap.size, 3, none⟩ = false := hz3.frozen 3
      have p4 : w2.frozen? ⟨wd.heap.size, 4, none⟩ = false := hz3.frozen 4
      have x0 : w2.cell? ⟨wd.heap.size, 0, none⟩ = some (.int .i64 0) := hz3.cell 0
      have x1 : w2.cell? ⟨wd.heap.size, 1, none⟩ = some (.int .i64 0) := hz3.cell 1
      have x2 : w2.cell? ⟨wd.heap.size, 2, none⟩ = some (.int .i64 0) := hz3.cell 2
      have x3 : w2.cell? ⟨wd.heap.size, 3, none⟩ = some (.int .i64 0) := hz3.cell 3
      have x4 : w2.cell? ⟨wd.heap.size, 4, none⟩ = some (.slice none 0 0) := hz3.cell 4
      obtain ⟨w5, hw5⟩ : ∃ w5, w5 = (((((w2).setCell ⟨wd.heap.size, 0, none⟩ (.int .i64 ((X.length : Int) + 1))).setCell ⟨wd.heap.size, 1, none⟩ (.int .i64 (i : Int))).setCell ⟨wd.heap.size, 2, none⟩ (.int .i64 (j : Int))).setCell ⟨wd.heap.size, 3, none⟩ (.int .i64 (due : Int))).setCell ⟨wd.heap.size, 4, none⟩ (.slice A3 bs.length cap3) := ⟨_, rfl⟩
      have hch : Chg (fun k => k = wd.heap.size) w2 w5 := by
        rw [hw5]
        exact ((((((Chg.refl (fun k => k = wd.heap.size) w2)).setCell (p := ⟨wd.heap.size, 0, none⟩) (.inl rfl) _).setCell (p := ⟨wd.heap.size, 1, none⟩) (.inl rfl) _).setCell (p := ⟨wd.heap.size, 2, none⟩) (.inl rfl) _).setCell (p := ⟨wd.heap.size, 3, none⟩) (.inl rfl) _).setCell (p := ⟨wd.heap.size, 4, none⟩) (.inl rfl) _
      have HPA : Hid (PutAt w F c D r (.slice A6 X.length cap6) X ⟨X.length + 1, i, j, due, bs⟩ (.slice A3 bs.length cap3) wd.heap.size w5) := by
        have h1 := HRW.out
        have h2 := HOW.out
        have h3 := HBW.out
        have h4 := HBN.out
        refine Lib.hid ⟨h1.chg hch fun k hk e => by have := HF.out k hk; omega, h3.trans (hch.to_below h3.size fun k e => by omega), own_base (own_chg h2 hch fun g hg e => ?_) (Nat.le_refl _), ?_, h4⟩
        · obtain ⟨_, _, cu, hB⟩ := own_block_lt h2 hg
          exact hB.ne_ hz3 (by decide) e
        · rw [hw5]
          exact ((((hz3.set_ 0 _).set_ 1 _).set_ 2 _).set_ 3 _).set_ 4 _
      have hs5 : w5.cell? ⟨D, 563, none⟩ = some (.slice A6 X.length cap6) := HPA.out.rn.cell.2.2.2
      have HW5 := Lib.hid hw5
      clear hw5 hch hz3
      refine wpAnyH_ready (rs := [13]) (by kernel_rfl) (by simp) ?_
      refine AllReadyH.cons (o := ?o13p5) ?ho13p5 (fun K hK => ?st13p5) ?mo13p5
      case ho13p5 => (simp only [List.getElem?_toArray, List.getElem?_cons_zero, List.getElem?_cons_succ]; rfl)
      · skip
        go_simp
        rw [← HW5.out]
        refine hK.out _ _ hs5 (fun hHeld3 => ?_)
        clear hK K
        try simp only [Act.put, List.setIfInBounds_toArray, List.set_cons_zero, List.set_cons_succ]
        refine wpAnyH_done (by kernel_rfl) ?_ _
        obtain ⟨wq, hwq⟩ : ∃ wq, wq = w5.drew := ⟨_, rfl⟩
        have hpa : PutAt w F c D r (.slice A6 X.length cap6) X ⟨X.length + 1, i, j, due, bs⟩ (.slice A3 bs.length cap3) wd.heap.size wq := by rw [hwq]; exact HPA.out.drew
        have q6 : wq.cell? ⟨D, 563, none⟩ = some (.slice A6 X.length cap6) := hpa.rn.cell.2.2.2
        have hq : wq.cell? ⟨wd.heap.size, 0, none⟩ = some (.int .i64 ((X.length : Int) + 1)) ∧ wq.cell? ⟨wd.heap.size, 1, none⟩ = some (.int .i64 (i : Int)) ∧ wq.cell? ⟨wd.heap.size, 2, none⟩ = some (.int .i64 (j : Int)) ∧ wq.cell? ⟨wd.heap.size, 3, none⟩ = some (.int .i64 (due : Int)) ∧ wq.cell? ⟨wd.heap.size, 4, none⟩ = some (.slice A3 bs.length cap3) := box5 hpa.blk
        have HQA : Hid (∀ us, Box5 (wq.alloc us) wd.heap.size ⟨X.length + 1, i, j, due, bs⟩ (.slice A3 bs.length cap3)) := Lib.hid fun us => box5 (hpa.blk.over (one_box' wq us))
        have HVA : Hid (∀ us, (wq.alloc us).cell? ⟨D, 563, none⟩ = some (.slice A6 X.length cap6)) := Lib.hid fun us => (hpa.rn.below (fun k hk => by have := HF.out k hk; have := hpa.below.size; omega) (one_box' wq us)).cell.2.2.2
        have HPQ := Lib.hid hpa
        have HWQ := Lib.hid hwq
        clear hpa hwq hHeld
        go_upto_region 2 with fail
        refine wp_region_held_drew (S := (fun w' => w'.cell? ⟨wd.heap.size, 0, none⟩ = some (.int .i64 ((X.length : Int) + 1)) ∧ w'.cell? ⟨wd.heap.size, 1, none⟩ = some (.int .i64 (i : Int)) ∧ w'.cell? ⟨wd.heap.size, 2, none⟩ = some (.int .i64 (j : Int)) ∧ w'.cell? ⟨wd.heap.size, 3, none⟩ = some (.int .i64 (due : Int)) ∧ w'.cell? ⟨wd.heap.size, 4, none⟩ = some (.slice A3 bs.length cap3))) (by kernel_rfl) (by rw [← HWQ.out]; exact hq) (fun hHeldq => ?_)
        rw [← HWQ.out] at hHeldq ⊢
        refine wpAnyH_take (i := 0) (oi := ?oi0e2) (v := ?v0e2) ?hi0e2 (by kernel_rfl) (by kernel_rfl) (by kernel_rfl) ?hq0e2 ?hy0e2 (by assumption) ?rest0e2
        case hi0e2 => (simp only [List.getElem?_toArray, List.getElem?_cons_zero]; rfl)
        case hy0e2 => (refine Or.inl ⟨by rfl, ?_⟩; intro w hSw; (try dsimp only at hSw); go_simp; try with_reducible rfl)
        case hq0e2 => exact fun _ _ _ h => h
        try simp only [Act.put, List.setIfInBounds_toArray, List.set_cons_zero, List.set_cons_succ]
        refine wpAnyH_take (i := 1) (oi := ?oi1e2) (v := ?v1e2) ?hi1e2 (by kernel_rfl) (by kernel_rfl) (by kernel_rfl) ?hq1e2 ?hy1e2 (by assumption) ?rest1e2
        case hi1e2 => (simp only [List.getElem?_toArray, List.getElem?_cons_zero, List.getElem?_cons_succ]; rfl)
        case hy1e2 => (refine Or.inl ⟨by rfl, ?_⟩; intro w hSw; (try dsimp only at hSw); go_simp; try with_reducible rfl)
        case hq1e2 => exact fun _ _ _ h => h
        try simp only [Act.put, List.setIfInBounds_toArray, List.set_cons_zero, List.set_cons_succ]
        refine wpAnyH_take (i := 2) (oi := ?oi2e2) (v := ?v2e2) ?hi2e2 (by kernel_rfl) (by kernel_rfl) (by kernel_rfl) ?hq2e2 ?hy2e2 (by assumption) ?rest2e2
        case hi2e2 => (simp only [List.getElem?_toArray, List.getElem?_cons_zero, List.getElem?_cons_succ]; rfl)
        case hy2e2 => (refine Or.inl ⟨by rfl, ?_⟩; intro w hSw; (try dsimp only at hSw); go_simp; try with_reducible rfl)
        case hq2e2 => exact fun _ _ _ h => h
        try simp only [Act.put, List.setIfInBounds_toArray, List.set_cons_zero, List.set_cons_succ]
        refine wpAnyH_take (i := 3) (oi := ?oi3e2) (v := ?v3e2) ?hi3e2 (by kernel_rfl) (by kernel_rfl) (by kernel_rfl) ?hq3e2 ?hy3e2 (by assumption) ?rest3e2
        case hi3e2 => (simp only [List.getElem?_toArray, List.getElem?_cons_zero, List.getElem?_cons_succ]; rfl)
        case hy3e2 => (refine Or.inl ⟨by rfl, ?_⟩; intro w hSw; (try dsimp only at hSw); go_simp; try with_reducible rfl)
        case hq3e2 => exact fun _ _ _ h => h
        try simp only [Act.put, List.setIfInBounds_toArray, List.set_cons_zero, List.set_cons_succ]
        refine wpAnyH_take (i := 5) (oi := ?oi5e2) (v := ?v5e2) ?hi5e2 (by kernel_rfl) (by kernel_rfl) (by kernel_rfl) ?hq5e2 ?hy5e2 (by assumption) ?rest5e2
        case hi5e2 => (simp only [List.getElem?_toArray, List.getElem?_cons_zero, List.getElem?_cons_succ]; rfl)
        case hy5e2 => (refine Or.inl ⟨by rfl, ?_⟩; intro w hSw; (try dsimp only at hSw); go_simp; try with_reducible rfl)
        case hq5e2 => exact fun _ _ _ h => h
        try simp only [Act.put, List.setIfInBounds_toArray, List.set_cons_zero, List.set_cons_succ]
        refine wpAnyH_take (i := 6) (oi := ?oi6e2) (v := ?v6e2) ?hi6e2 (by kernel_rfl) (by kernel_rfl) (by kernel_rfl) ?hq6e2 ?hy6e2 (by assumption) ?rest6e2
        case hi6e2 => (simp only [List.getElem?_toArray, List.getElem?_cons_zero, List.getElem?_cons_succ]; rfl)
        case hy6e2 => (refine Or.inl ⟨by rfl, ?_⟩; intro w hSw; (try dsimp only at hSw); go_simp; try with_reducible rfl)
        case hq6e2 => exact fun _ _ _ h => h
        try simp only [Act.put, List.setIfInBounds_toArray, List.set_cons_zero, List.set_cons_succ]
        refine wpAnyH_ready (rs := [4, 7]) (by kernel_rfl) (by simp) ?_
        refine AllReadyH.cons (o := ?o4e2) ?ho4e2 (fun K hK => ?st4e2) ?mo4e2
        case ho4e2 => (simp only [List.getElem?_toArray, List.getElem?_cons_zero, List.getElem?_cons_succ]; rfl)
        · skip
          go_simp
          refine hK.out _ _ hq (fun hHeldl => ?_)
          clear hK K
          try simp only [Act.put, List.setIfInBounds_toArray, List.set_cons_zero, List.set_cons_succ]
          refine wpAnyH_ready (rs := [7]) (by kernel_rfl) (by simp) ?_
          refine AllReadyH.cons (o := ?o7e2) ?ho7e2 (fun K hK => ?st7e2) ?mo7e2
          case ho7e2 => (simp only [List.getElem?_toArray, List.getElem?_cons_zero, List.getElem?_cons_succ]; rfl)
          · skip
            go_simp
            refine hK.out _ _ (HQA.out _) (fun hHelde => ?_)
            clear hK K
            try simp only [Act.put, List.setIfInBounds_toArray, List.set_cons_zero, List.set_cons_succ]
            refine wpAnyH_ready (rs := [8]) (by kernel_rfl) (by simp) ?_
            refine AllReadyH.cons (o := ?o8f2) ?ho8f2 (fun K hK => ?st8f2) ?mo8f2
            case ho8f2 => (simp only [List.getElem?_toArray, List.getElem?_cons_zero, List.getElem?_cons_succ]; rfl)
            · skip
              refine step_appN wq (by rfl) _ _ 104 (by rfl) 0 115 i0 _ 6 64 u_packets hi0 hz0 hz1 hz2 rfl (by decide) _ X.length _ (by rfl) HPQ.out.rn.row #[.int .i64 ((X.length : Int) + 1), .int .i64 (i : Int), .int .i64 (j : Int), .int .i64 (due : Int), .slice A3 bs.length cap3, .bool false] rfl (by rfl) (rowR_one ⟨X.length + 1, i, j, due, bs⟩ A3 bs.length cap3) (by simp only [maxLen]; omega) (by omega) (Nat.zero_le _) ?_
              intro v9 w9 own9 _ hg9 hat9
              obtain ⟨A9, cap9, rfl, _, _⟩ := own_shape own9
              obtain ⟨k6, kf, k9, k10, hfin⟩ := HPQ.out.done HF.out own9 hg9 hat9
              obtain ⟨w10, hw10⟩ : ∃ w10, w10 = w9.setCell ⟨D, 563, none⟩ (.slice A9 (X.length + 1) cap9) := ⟨_, rfl⟩
              rw [← hw10] at k10
              have HE : Hid (StepR w F c D (.int .i64 ((r.all.length : Int) + 1)) (putR r i j due bs) (.returned (.int .i64 ((X.length : Int) + 1))) w10) := Lib.hid (by rw [hw10]; simpa [putR, HL.out] using hfin (.int .i64 ((X.length : Int) + 1)))
              have HW10 := Lib.hid hw10
              have HK9 := Lib.hid k9
              have HK10 := Lib.hid k10
              have z0 : w10.cell? ⟨wd.heap.size, 0, none⟩ = some (.int .i64 ((X.length : Int) + 1)) := k10.1
              clear hfin own9 hg9 hat9 k9 k10 hw10
              refine hK.out _ _ HK9.out (fun hHeldf => ?_)
              clear hK K
              try simp only [Act.put, List.setIfInBounds_toArray, List.set_cons_zero, List.set_cons_succ]
              refine wpAnyH_take (i := 9) (oi := ?oi9g2) (v := ?v9g2) ?hi9g2 (by kernel_rfl) (by kernel_rfl) (by kernel_rfl) ?hq9g2 ?hy9g2 (by assumption) ?rest9g2
              case hi9g2 => (simp only [List.getElem?_toArray, List.getElem?_cons_zero, List.getElem?_cons_succ]; rfl)
              case hy9g2 => (refine Or.inl ⟨by rfl, ?_⟩; intro w hSw; (try dsimp only at hSw); go_simp; try with_reducible rfl)
              case hq9g2 => exact fun _ _ _ h => h
              try simp only [Act.put, List.setIfInBounds_toArray, List.set_cons_zero, List.set_cons_succ]
              refine wpAnyH_take (i := 10) (oi := ?oi10g2) (v := ?v10g2) ?hi10g2 (by kernel_rfl) (by kernel_rfl) (by kernel_rfl) ?hq10g2 ?hy10g2 (by assumption) ?rest10g2
              case hi10g2 => (simp only [List.getElem?_toArray, List.getElem?_cons_zero, List.getElem?_cons_succ]; rfl)
              case hy10g2 => (refine Or.inl ⟨by rfl, ?_⟩; intro w hSw; (try dsimp only at hSw); go_simp; try with_reducible rfl)
              case hq10g2 => exact fun _ _ _ h => h
              try simp only [Act.put, List.setIfInBounds_toArray, List.set_cons_zero, List.set_cons_succ]
              refine wpAnyH_ready (rs := [11]) (by kernel_rfl) (by simp) ?_
              refine AllReadyH.cons (o := ?o11h2) ?ho11h2 (fun K hK => ?st11h2) ?mo11h2
              case ho11h2 => (simp only [List.getElem?_toArray, List.getElem?_cons_zero, List.getElem?_cons_succ]; rfl)
              · skip
                go_simp
                rw [← HW10.out]
                refine hK.out _ _ HK10.out (fun hHeldh => ?_)
                clear hK K
                try simp only [Act.put, List.setIfInBounds_toArray, List.set_cons_zero, List.set_cons_succ]
                refine wpAnyH_done (by kernel_rfl) ?_ _
                clear q6 k6 kf
                go_wp2
                go_ret
                exact HE.out
              · exact AllReadyH.nil
            · exact AllReadyH.nil
          · exact AllReadyH.nil
        refine AllReadyH.cons (o := ?o7k2) ?ho7k2 (fun K hK => ?st7k2) ?mo7k2
        case ho7k2 => (simp only [List.getElem?_toArray, List.getElem?_cons_zero, List.getElem?_cons_succ]; rfl)
        · skip
          go_simp
          refine hK.out _ _ (HQA.out _) (fun hHelde => ?_)
          clear hK K
          try simp only [Act.put, List.setIfInBounds_toArray, List.set_cons_zero, List.set_cons_succ]
          refine wpAnyH_ready (rs := [4]) (by kernel_rfl) (by simp) ?_
          refine AllReadyH.cons (o := ?o4l2) ?ho4l2 (fun K hK => ?st4l2) ?mo4l2
          case ho4l2 => (simp only [List.getElem?_toArray, List.getElem?_cons_zero, List.getElem?_cons_succ]; rfl)
          · skip
            have hv1 := HVA.out (.cells #[.int .i64 ((X.length : Int) + 1), .int .i64 (i : Int), .int .i64 (j : Int), .int .i64 (due : Int), .slice A3 bs.length cap3, .bool false] 115)
            go_simp
            refine hK.out _ _ (HQA.out _) (fun hHeldl => ?_)
            clear hK K hv1
            try simp only [Act.put, List.setIfInBounds_toArray, List.set_cons_zero, List.set_cons_succ]
            refine wpAnyH_ready (rs := [8]) (by kernel_rfl) (by simp) ?_
            refine AllReadyH.cons (o := ?o8f2x) ?ho8f2x (fun K hK => ?st8f2x) ?mo8f2x
            case ho8f2x => (simp only [List.getElem?_toArray, List.getElem?_cons_zero, List.getElem?_cons_succ]; rfl)
            · skip
              refine step_appN wq (by rfl) _ _ 104 (by rfl) 0 115 i0 _ 6 64 u_packets hi0 hz0 hz1 hz2 rfl (by decide) _ X.length _ (by rfl) HPQ.out.rn.row #[.int .i64 ((X.length : Int) + 1), .int .i64 (i : Int), .int .i64 (j : Int), .int .i64 (due : Int), .slice A3 bs.length cap3, .bool false] rfl (by rfl) (rowR_one ⟨X.length + 1, i, j, due, bs⟩ A3 bs.length cap3) (by simp only [maxLen]; omega) (by omega) (Nat.zero_le _) ?_
              intro v9 w9 own9 _ hg9 hat9
              obtain ⟨A9, cap9, rfl, _, _⟩ := own_shape own9
              obtain ⟨k6, kf, k9, k10, hfin⟩ := HPQ.out.done HF.out own9 hg9 hat9
              obtain ⟨w10, hw10⟩ : ∃ w10, w10 = w9.setCell ⟨D, 563, none⟩ (.slice A9 (X.length + 1) cap9) := ⟨_, rfl⟩
              rw [← hw10] at k10
              have HE : Hid (StepR w F c D (.int .i64 ((r.all.length : Int) + 1)) (putR r i j due bs) (.returned (.int .i64 ((X.length : Int) + 1))) w10) := Lib.hid (by rw [hw10]; simpa [putR, HL.out] using hfin (.int .i64 ((X.length : Int) + 1)))
              have HW10 := Lib.hid hw10
              have HK9 := Lib.hid k9
              have HK10 := Lib.hid k10
              have z0 : w10.cell? ⟨wd.heap.size, 0, none⟩ = some (.int .i64 ((X.length : Int) + 1)) := k10.1
              clear hfin own9 hg9 hat9 k9 k10 hw10
              refine hK.out _ _ HK9.out (fun hHeldf => ?_)
              clear hK K
              try simp only [Act.put, List.setIfInBounds_toArray, List.set_cons_zero, List.set_cons_succ]
              refine wpAnyH_take (i := 9) (oi := ?oi9g2x) (v := ?v9g2x) ?hi9g2x (by kernel_rfl) (by kernel_rfl) (by kernel_rfl) ?hq9g2x ?hy9g2x (by assumption) ?rest9g2x
              case hi9g2x => (simp only [List.getElem?_toArray, List.getElem?_cons_zero, List.getElem?_cons_succ]; rfl)
              case hy9g2x => (refine Or.inl ⟨by rfl, ?_⟩; intro w hSw; (try dsimp only at hSw); go_simp; try with_reducible rfl)
              case hq9g2x => exact fun _ _ _ h => h
              try simp only [Act.put, List.setIfInBounds_toArray, List.set_cons_zero, List.set_cons_succ]
              refine wpAnyH_take (i := 10) (oi := ?oi10g2x) (v := ?v10g2x) ?hi10g2x (by kernel_rfl) (by kernel_rfl) (by kernel_rfl) ?hq10g2x ?hy10g2x (by assumption) ?rest10g2x
              case hi10g2x => (simp only [List.getElem?_toArray, List.getElem?_cons_zero, List.getElem?_cons_succ]; rfl)
              case hy10g2x => (refine Or.inl ⟨by rfl, ?_⟩; intro w hSw; (try dsimp only at hSw); go_simp; try with_reducible rfl)
              case hq10g2x => exact fun _ _ _ h => h
              try simp only [Act.put, List.setIfInBounds_toArray, List.set_cons_zero, List.set_cons_succ]
              refine wpAnyH_ready (rs := [11]) (by kernel_rfl) (by simp) ?_
              refine AllReadyH.cons (o := ?o11h2x) ?ho11h2x (fun K hK => ?st11h2x) ?mo11h2x
              case ho11h2x => (simp only [List.getElem?_toArray, List.getElem?_cons_zero, List.getElem?_cons_succ]; rfl)
              · skip
                go_simp
                rw [← HW10.out]
                refine hK.out _ _ HK10.out (fun hHeldh => ?_)
                clear hK K
                try simp only [Act.put, List.setIfInBounds_toArray, List.set_cons_zero, List.set_cons_succ]
                refine wpAnyH_done (by kernel_rfl) ?_ _
                clear q6 k6 kf
                go_wp2
                go_ret
                exact HE.out
              · exact AllReadyH.nil
            · exact AllReadyH.nil
          · exact AllReadyH.nil
        exact AllReadyH.nil
      · exact AllReadyH.nil
    · exact AllReadyH.nil
  exact AllReadyH.nil
end Go.Proofs.Ytgfhmfhhobhojaa
