/-
  The program's network: add.
-/
import Derived.Test.YtgfhmfhhobhojaaEOut
namespace Go.Proofs.Ytgfhmfhhobhojaa
open Go.ChangeShapes Go.WideShapes Go.ChangeAt Go.RowKit
variable {w : World} {F : Nat → Prop} {c : ECfg} {D : Nat} {p : PV} {m : Nat}
def addP (p : PV) (i j due : Nat) (bs : List UInt8) : PV := { p with last := p.last + 1, way := p.way ++ [⟨p.last + 1, i, j, due, bs⟩] }
theorem Rd.farZ {w : World} {B z : Nat} {A : Option Addr} {n : Nat} {xs : List Value} (h : Rd w B z A n xs) {q : Addr} (hA : 0 < n → ∀ b o s, A = some ⟨b, o, s⟩ → b ≠ q.block) (u : Value) : Rd (w.setCell q u) B z A n xs :=
  ⟨h.len, fun hn => by
    obtain ⟨b, off, e, hb, hc⟩ := h.at_ hn
    exact ⟨b, off, e, hb, fun j y hy => (World.cell?_of_block (Below.heap_setCell w q u b (hA hn _ _ _ e))).trans (hc j y hy)⟩⟩
theorem Rd.boundZ {w : World} {B B' z : Nat} {A : Option Addr} {n : Nat} {xs : List Value} (h : Rd w B z A n xs) (hB : 0 < n → ∀ b o s, A = some ⟨b, o, s⟩ → b < B') : Rd w B' z A n xs :=
  ⟨h.len, fun hn => by
    obtain ⟨b, off, e, hb, hc⟩ := h.at_ hn
    exact ⟨b, off, e, hB hn _ _ _ e, hc⟩⟩
set_option maxRecDepth 100000 in
set_option maxHeartbeats 6400000 in
theorem add_any (h : PNx w F c D p m) (i j due : Nat) (bA : Option Addr) (n cap : Nat) (bs : List UInt8) (hr : RdB w w.heap.size bA n bs) (hn : n ≤ 140737488351232) (hAD : 0 < n → ∀ b o s, bA = some ⟨b, o, s⟩ → b ≠ D) (hlen : p.way.length ≤ 1099511627776) (hlast : p.last ≤ 4611686018427387904) : Calls Try.prog 61 #[.pointer (some ⟨D, 0, none⟩), .agg #[.int .i64 (i : Int), .int .i64 (j : Int)], .int .i64 (due : Int), .slice bA n cap] w (StepP w F c D m (.int .i64 ((p.last : Int) + 1)) (addP p i j due bs)) := by
  obtain ⟨i0, hi0, hz0, hz1, hz2⟩ := info_parts info_flight
  have hl := hr.lenB
  obtain ⟨hF, P, S, L, v, X, hP⟩ := h
  have hb0 := one_box' w (.cells #[.int .i64 (i : Int), .int .i64 (j : Int)] 89)
  have hX0 := Blk.new w 89 #[.int .i64 (i : Int), .int .i64 (j : Int)]
  obtain ⟨w0, hw0⟩ : ∃ w0, w0 = w.alloc (.cells #[.int .i64 (i : Int), .int .i64 (j : Int)] 89) := ⟨_, rfl⟩
  rw [← hw0] at hb0 hX0
  have hP0 := hP.below hF hb0
  have hlI : IntKind.i64.wrap ((p.last : Int) + 1) = (p.last : Int) + 1 := IntWalk.i64_in _ (by omega)
  have c2 : w0.cell? ⟨D, 2, none⟩ = some (.int .i64 (p.last : Int)) := hP0.blk.cell 2
  have f2 : w0.frozen? ⟨D, 2, none⟩ = false := hP0.blk.frozen 2
  obtain ⟨w1, hw1⟩ : ∃ w1, w1 = w0.setCell ⟨D, 2, none⟩ (.int .i64 ((p.last : Int) + 1)) := ⟨_, rfl⟩
  have hP1 : PN w1 F c D { p with last := p.last + 1 } m P S L v X := by rw [hw1]; exact hP0.setD rfl rfl rfl rfl rfl
  have hC1 : Chg F w w1 := by rw [hw1]; exact (Chg.of_below hb0 F).setCell (.inl hP.fd) _
  have hX1 : Blk w1 w.heap.size 89 #[.int .i64 (i : Int), .int .i64 (j : Int)] := by rw [hw1]; exact hX0.far (hX0.ne_ hP0.blk (by decide)) _
  have hr1 : RdB w1 w1.heap.size bA n bs := by rw [hw1]; exact ((hr.below hb0).farZ hAD _).more (by rw [← hw1]; exact hC1.size)
  obtain ⟨wd, hwd⟩ : ∃ wd, wd = w1.drew := ⟨_, rfl⟩
  have hPd : PN wd F c D { p with last := p.last + 1 } m P S L v X := by rw [hwd]; exact hP1.chg ((Chg.refl (fun _ => False) w1).drewN 1) fun _ _ h => h
  have hCd : Chg F w wd := by rw [hwd]; exact hC1.drewN 1
  have hXd : Blk wd w.heap.size 89 #[.int .i64 (i : Int), .int .i64 (j : Int)] := by rw [hwd]; exact hX1
  have HFR : Hid (Calls Try.prog 48 #[.slice bA n cap] wd (FreshR wd bs)) := Lib.hid (fresh_any bA n cap bs (by rw [hwd]; exact hr1.dn 1) hn)
  have hFd : ∀ k, F k → k < wd.heap.size := fun k hk => Nat.lt_of_lt_of_le (hF k hk) hCd.size
  have HS : Hid (∀ W, Below wd.heap.size wd W → W.cell? ⟨D, 2, none⟩ = some (.int .i64 ((p.last : Int) + 1)) ∧ W.cell? ⟨w.heap.size, 0, none⟩ = some (.int .i64 (i : Int)) ∧ W.cell? ⟨w.heap.size, 1, none⟩ = some (.int .i64 (j : Int))) := Lib.hid fun W hW => ⟨(hPd.below hFd hW).blk.cell 2, (hXd.over hW).cell 0, (hXd.over hW).cell 1⟩
  have HV : Hid (∀ W, Below wd.heap.size wd W → W.cell? ⟨D, 6, none⟩ = some v) := Lib.hid fun W hW => (hPd.below hFd hW).blk.cell 6
  have HW0 := Lib.hid hw0
  have HW1 := Lib.hid hw1
  have HWD := Lib.hid hwd
  have HPD := Lib.hid hPd
  have HCD := Lib.hid hCd
  have HXD := Lib.hid hXd
  have HF := Lib.hid hF
  have HFD := Lib.hid hFd
  have HL := Lib.hid hl
  have HLN := Lib.hid hP.len
  have hXl : X.length ≤ 1099511627776 := by rw [← hP.len]; exact hlen
  clear hw0 hw1 hwd hPd hCd hXd hFd hF hl hP hP0 hP1 hb0 hX0 hX1 hr1 hr hC1 hlen hAD
  go_enter Try.func61, Try.ntmps61
  go_upto_region 1 with fail
  rw [← HW0.out]
  go_upto_region 2 with fail
  rw [← HW1.out]
  clear c2 f2
  have hS0 := HS.out wd (Below.refl _ _)
  have hv0 := HV.out wd (Below.refl _ _)
  refine wp_region_held_drew (S := (fun w' => w'.cell? ⟨D, 2, none⟩ = some (.int .i64 ((p.last : Int) + 1)) ∧ w'.cell? ⟨w.heap.size, 0, none⟩ = some (.int .i64 (i : Int)) ∧ w'.cell? ⟨w.heap.size, 1, none⟩ = some (.int .i64 (j : Int)))) (by kernel_rfl) (by rw [← HWD.out]; exact hS0) (fun hHeld => ?_)
  rw [← HWD.out] at hHeld ⊢
  refine wpAnyH_take (i := 0) (oi := ?oi0a) (v := ?v0a) ?hi0a (by kernel_rfl) (by kernel_rfl) (by kernel_rfl) ?hq0a ?hy0a (by assumption) ?rest0a
  case hi0a => (simp only [List.getElem?_toArray, List.getElem?_cons_zero]; rfl)
  case hy0a => (refine Or.inl ⟨by rfl, ?_⟩; intro w hSw; (try dsimp only at hSw); go_simp; try with_reducible rfl)
  case hq0a => exact fun _ _ _ h => h
  try simp only [Act.put, List.setIfInBounds_toArray, List.set_cons_zero, List.set_cons_succ]
  refine wpAnyH_take (i := 1) (oi := ?oi1a) (v := ?v1a) ?hi1a (by kernel_rfl) (by kernel_rfl) (by kernel_rfl) ?hq1a ?hy1a (by assumption) ?rest1a
  case hi1a => (simp only [List.getElem?_toArray, List.getElem?_cons_zero, List.getElem?_cons_succ]; rfl)
  case hy1a => (refine Or.inl ⟨by rfl, ?_⟩; intro w hSw; (try dsimp only at hSw); go_simp; try with_reducible rfl)
  case hq1a => exact fun _ _ _ h => h
  try simp only [Act.put, List.setIfInBounds_toArray, List.set_cons_zero, List.set_cons_succ]
  refine wpAnyH_take (i := 2) (oi := ?oi2a) (v := ?v2a) ?hi2a (by kernel_rfl) (by kernel_rfl) (by kernel_rfl) ?hq2a ?hy2a (by assumption) ?rest2a
  case hi2a => (simp only [List.getElem?_toArray, List.getElem?_cons_zero, List.getElem?_cons_succ]; rfl)
  case hy2a => (refine Or.inl ⟨by rfl, ?_⟩; intro w hSw; (try dsimp only at hSw); go_simp; try with_reducible rfl)
  case hq2a => exact fun _ _ _ h => h
  try simp only [Act.put, List.setIfInBounds_toArray, List.set_cons_zero, List.set_cons_succ]
  refine wpAnyH_take (i := 3) (oi := ?oi3a) (v := ?v3a) ?hi3a (by kernel_rfl) (by kernel_rfl) (by kernel_rfl) ?hq3a ?hy3a (by assumption) ?rest3a
  case hi3a => (simp only [List.getElem?_toArray, List.getElem?_cons_zero, List.getElem?_cons_succ]; rfl)
  case hy3a => (refine Or.inl ⟨by rfl, ?_⟩; intro w hSw; (try dsimp only at hSw); go_simp; try with_reducible rfl)
  case hq3a => exact fun _ _ _ h => h
  try simp only [Act.put, List.setIfInBounds_toArray, List.set_cons_zero, List.set_cons_succ]
  refine wpAnyH_take (i := 5) (oi := ?oi5a) (v := ?v5a) ?hi5a (by kernel_rfl) (by kernel_rfl) (by kernel_rfl) ?hq5a ?hy5a (by assumption) ?rest5a
  case hi5a => (simp only [List.getElem?_toArray, List.getElem?_cons_zero, List.getElem?_cons_succ]; rfl)
  case hy5a => (refine Or.inl ⟨by rfl, ?_⟩; intro w hSw; (try dsimp only at hSw); go_simp; try with_reducible rfl)
  case hq5a => exact fun _ _ _ h => h
  try simp only [Act.put, List.setIfInBounds_toArray, List.set_cons_zero, List.set_cons_succ]
  refine wpAnyH_take (i := 6) (oi := ?oi6a) (v := ?v6a) ?hi6a (by kernel_rfl) (by kernel_rfl) (by kernel_rfl) ?hq6a ?hy6a (by assumption) ?rest6a
  case hi6a => (simp only [List.getElem?_toArray, List.getElem?_cons_zero, List.getElem?_cons_succ]; rfl)
  case hy6a => (refine Or.inl ⟨by rfl, ?_⟩; intro w hSw; (try dsimp only at hSw); go_simp; try with_reducible rfl)
  case hq6a => exact fun _ _ _ h => h
  try simp only [Act.put, List.setIfInBounds_toArray, List.set_cons_zero, List.set_cons_succ]
  refine wpAnyH_take (i := 7) (oi := ?oi7a) (v := ?v7a) ?hi7a (by kernel_rfl) (by kernel_rfl) (by kernel_rfl) ?hq7a ?hy7a (by assumption) ?rest7a
  case hi7a => (simp only [List.getElem?_toArray, List.getElem?_cons_zero, List.getElem?_cons_succ]; rfl)
  case hy7a => (refine Or.inl ⟨by rfl, ?_⟩; intro w hSw; (try dsimp only at hSw); go_simp; try with_reducible rfl)
  case hq7a => exact fun _ _ _ h => h
  try simp only [Act.put, List.setIfInBounds_toArray, List.set_cons_zero, List.set_cons_succ]
  refine wpAnyH_take (i := 8) (oi := ?oi8a) (v := ?v8a) ?hi8a (by kernel_rfl) (by kernel_rfl) (by kernel_rfl) ?hq8a ?hy8a (by assumption) ?rest8a
  case hi8a => (simp only [List.getElem?_toArray, List.getElem?_cons_zero, List.getElem?_cons_succ]; rfl)
  case hy8a => (refine Or.inl ⟨by rfl, ?_⟩; intro w hSw; (try dsimp only at hSw); go_simp; try with_reducible rfl)
  case hq8a => exact fun _ _ _ h => h
  try simp only [Act.put, List.setIfInBounds_toArray, List.set_cons_zero, List.set_cons_succ]
  refine wpAnyH_take (i := 9) (oi := ?oi9a) (v := ?v9a) ?hi9a (by kernel_rfl) (by kernel_rfl) (by kernel_rfl) ?hq9a ?hy9a (by assumption) ?rest9a
  case hi9a => (simp only [List.getElem?_toArray, List.getElem?_cons_zero, List.getElem?_cons_succ]; rfl)
  case hy9a => (refine Or.inl ⟨by rfl, ?_⟩; intro w hSw; (try dsimp only at hSw); go_simp; try with_reducible rfl)
  case hq9a => exact fun _ _ _ h => h
  try simp only [Act.put, List.setIfInBounds_toArray, List.set_cons_zero, List.set_cons_succ]
  refine wpAnyH_take (i := 10) (oi := ?oi10a) (v := ?v10a) ?hi10a (by kernel_rfl) (by kernel_rfl) (by kernel_rfl) ?hq10a ?hy10a (by assumption) ?rest10a
  case hi10a => (simp only [List.getElem?_toArray, List.getElem?_cons_zero, List.getElem?_cons_succ]; rfl)
  case hy10a => (refine Or.inl ⟨by rfl, ?_⟩; intro w hSw; (try dsimp only at hSw); go_simp; try with_reducible rfl)
  case hq10a => exact fun _ _ _ h => h
  try simp only [Act.put, List.setIfInBounds_toArray, List.set_cons_zero, List.set_cons_succ]
  refine wpAnyH_take (i := 11) (oi := ?oi11a) (v := ?v11a) ?hi11a (by kernel_rfl) (by kernel_rfl) (by kernel_rfl) ?hq11a ?hy11a (by assumption) ?rest11a
  case hi11a => (simp only [List.getElem?_toArray, List.getElem?_cons_zero, List.getElem?_cons_succ]; rfl)
  case hy11a => (refine Or.inl ⟨by rfl, ?_⟩; intro w hSw; (try dsimp only at hSw); go_simp; try with_reducible rfl)
  case hq11a => exact fun _ _ _ h => h
  try simp only [Act.put, List.setIfInBounds_toArray, List.set_cons_zero, List.set_cons_succ]
  refine wpAnyH_take (i := 12) (oi := ?oi12a) (v := ?v12a) ?hi12a (by kernel_rfl) (by kernel_rfl) (by kernel_rfl) ?hq12a ?hy12a (by assumption) ?rest12a
  case hi12a => (simp only [List.getElem?_toArray, List.getElem?_cons_zero, List.getElem?_cons_succ]; rfl)
  case hy12a => (refine Or.inl ⟨by rfl, ?_⟩; intro w hSw; (try dsimp only at hSw); go_simp; try with_reducible rfl)
  case hq12a => exact fun _ _ _ h => h
  try simp only [Act.put, List.setIfInBounds_toArray, List.set_cons_zero, List.set_cons_succ]
  refine wpAnyH_take (i := 13) (oi := ?oi13a) (v := ?v13a) ?hi13a (by kernel_rfl) (by kernel_rfl) (by kernel_rfl) ?hq13a ?hy13a (by assumption) ?rest13a
  case hi13a => (simp only [List.getElem?_toArray, List.getElem?_cons_zero, List.getElem?_cons_succ]; rfl)
  case hy13a => (refine Or.inl ⟨by rfl, ?_⟩; intro w hSw; (try dsimp only at hSw); go_simp; try with_reducible rfl)
  case hq13a => exact fun _ _ _ h => h
  try simp only [Act.put, List.setIfInBounds_toArray, List.set_cons_zero, List.set_cons_succ]
  refine wpAnyH_take (i := 14) (oi := ?oi14a) (v := ?v14a) ?hi14a (by kernel_rfl) (by kernel_rfl) (by kernel_rfl) ?hq14a ?hy14a (by assumption) ?rest14a
  case hi14a => (simp only [List.getElem?_toArray, List.getElem?_cons_zero, List.getElem?_cons_succ]; rfl)
  case hy14a => (refine Or.inl ⟨by rfl, ?_⟩; intro w hSw; (try dsimp only at hSw); go_simp; try with_reducible rfl)
  case hq14a => exact fun _ _ _ h => h
  try simp only [Act.put, List.setIfInBounds_toArray, List.set_cons_zero, List.set_cons_succ]
  refine wpAnyH_ready (rs := [4, 15]) (by kernel_rfl) (by simp) ?_
  refine AllReadyH.cons (o := ?o4p0) ?ho4p0 (fun K hK => ?st4p0) ?mo4p0
  case ho4p0 => (simp only [List.getElem?_toArray, List.getElem?_cons_zero, List.getElem?_cons_succ]; rfl)
  · skip
    go_simp
    refine hK.out _ _ hS0 (fun hHeld1 => ?_)
    clear hK K
    try simp only [Act.put, List.setIfInBounds_toArray, List.set_cons_zero, List.set_cons_succ]
    refine wpAnyH_ready (rs := [15]) (by kernel_rfl) (by simp) ?_
    refine AllReadyH.cons (o := ?o15p1) ?ho15p1 (fun K hK => ?st15p1) ?mo15p1
    case ho15p1 => (simp only [List.getElem?_toArray, List.getElem?_cons_zero, List.getElem?_cons_succ]; rfl)
    · skip
      go_simp
      refine HFR.out.mono ?_
      rintro _ w2 ⟨g, rfl, hg, hBg, hb2⟩
      have HG2 := Lib.hid (And.intro hg (And.intro hBg hb2))
      clear hg hBg hb2
      go_simp
      refine hK.out _ _ (HS.out w2 HG2.out.2.2) (fun hHeld2 => ?_)
      clear hK K
      try simp only [Act.put, List.setIfInBounds_toArray, List.set_cons_zero, List.set_cons_succ]
      refine wpAnyH_take (i := 16) (oi := ?oi16zx) (v := ?v16zx) ?hi16zx (by kernel_rfl) (by kernel_rfl) (by kernel_rfl) ?hq16zx ?hy16zx (by assumption) ?rest16zx
      case hi16zx => (simp only [List.getElem?_toArray, List.getElem?_cons_zero, List.getElem?_cons_succ]; rfl)
      case hy16zx => (refine Or.inl ⟨by rfl, ?_⟩; intro w hSw; (try dsimp only at hSw); go_simp; try with_reducible rfl)
      case hq16zx => exact fun _ _ _ h => h
      try simp only [Act.put, List.setIfInBounds_toArray, List.set_cons_zero, List.set_cons_succ]
      refine wpAnyH_ready (rs := [17]) (by kernel_rfl) (by simp) ?_
      refine AllReadyH.cons (o := ?o17qx) ?ho17qx (fun K hK => ?st17qx) ?mo17qx
      case ho17qx => (simp only [List.getElem?_toArray, List.getElem?_cons_zero, List.getElem?_cons_succ]; rfl)
      · skip
        go_simp
        refine hK.out _ _ (HS.out _ (HG2.out.2.2.alloc HG2.out.2.2.size _)) (fun hHeld3 => ?_)
        clear hK K
        try simp only [Act.put, List.setIfInBounds_toArray, List.set_cons_zero, List.set_cons_succ]
        refine wpAnyH_ready (rs := [18]) (by kernel_rfl) (by simp) ?_
        refine AllReadyH.cons (o := ?o18rx) ?ho18rx (fun K hK => ?st18rx) ?mo18rx
        case ho18rx => (simp only [List.getElem?_toArray, List.getElem?_cons_zero, List.getElem?_cons_succ]; rfl)
        · skip
          have HO2 : Hid (w2.ownsRow 0 48 5 v X.length (rowsP X)) := Lib.hid (own_over HPD.out.row HG2.out.2.2)
          refine step_appN w2 (by rfl) _ _ 43 (by rfl) 0 48 i0 _ 5 56 u_flights hi0 hz0 hz1 hz2 rfl (by decide) _ X.length _ (by rfl) HO2.out #[.int .i64 ((p.last : Int) + 1), .int .i64 (i : Int), .int .i64 (j : Int), .int .i64 (due : Int), .slice (some ⟨g, 0, none⟩) bs.length bs.length] rfl (by rfl) (row_oneP ⟨p.last + 1, i, j, due, bs⟩ g) (by simp only [maxLen]; omega) (by omega) (Nat.zero_le _) ?_
          intro v4 w4 own4 _ hg4 hat4
          obtain ⟨A4, cap4, rfl, hle4, hcm4⟩ := own_shape own4
          have hP2 := HPD.out.below HFD.out HG2.out.2.2
          have hsz2 := HG2.out.2.2.size
          have hsz4 := hg4.size
          have hch4 : Chg (fun j => v.ownBlock = some j) w2 w4 := (Chg.of_grown hg4).mono fun _ _ e => e.symm
          have hvF : ∀ q, v.ownBlock = some q → F q := HPD.out.fv
          have hnvD : ¬ v.ownBlock = some D := fun e => (HPD.out.vne e).1 rfl
          have hS4 : w4.cell? ⟨D, 2, none⟩ = some (.int .i64 ((p.last : Int) + 1)) ∧ w4.cell? ⟨w.heap.size, 0, none⟩ = some (.int .i64 (i : Int)) ∧ w4.cell? ⟨w.heap.size, 1, none⟩ = some (.int .i64 (j : Int)) := by
            have hnb : ¬ v.ownBlock = some w.heap.size := fun e => by have := HF.out _ (hvF _ e); omega
            have hX4 := (HXD.out.over HG2.out.2.2).chg hch4 hnb
            exact ⟨(hP2.blk.chg hch4 hnvD).cell 2, hX4.cell 0, hX4.cell 1⟩
          have k6 : w4.cell? ⟨D, 6, none⟩ = some v := (hP2.blk.chg hch4 hnvD).cell 6
          have kf : w4.frozen? ⟨D, 6, none⟩ = false := (hP2.blk.chg hch4 hnvD).frozen 6
          obtain ⟨w5, hw5⟩ : ∃ w5, w5 = w4.setCell ⟨D, 6, none⟩ (Value.slice A4 (X.length + 1) cap4) := ⟨_, rfl⟩
          have hgF : ∀ k, F k → k ≠ g := fun k hk e => by have := HFD.out k hk; have := HG2.out.1; omega
          have hgw : g < w2.heap.size := HG2.out.2.1.lt
          have hv4 : ∀ q, (Value.slice A4 (X.length + 1) cap4).ownBlock = some q → q < w4.heap.size := fun q e => (own_block_lt own4 e).1
          have hP5 : PN w5 (fun k => F k ∨ k = g ∨ (Value.slice A4 (X.length + 1) cap4).ownBlock = some k) c D (addP p i j due bs) m P S L (Value.slice A4 (X.length + 1) cap4) (X ++ [(⟨p.last + 1, i, j, due, bs⟩, g)]) := by
            rw [hw5]
            have ho : w4.ownsRow 0 48 5 (Value.slice A4 (X.length + 1) cap4) (X ++ [((⟨p.last + 1, i, j, due, bs⟩ : Flt), g)]).length (rowsP (X ++ [((⟨p.last + 1, i, j, due, bs⟩ : Flt), g)])) := by
              rw [List.length_append, rowsP_app]
              have e : ((p.last + 1 : Nat) : Int) = (p.last : Int) + 1 := by omega
              simp only [Flt.row, e]
              exact own4
            refine hP2.setV hch4 (fun _ h => .inl h) ho (by rw [List.map_append, HPD.out.way]; rfl) (fun x hx => ?_) ?_ (fun q e => .inr (.inr e)) (fun x hx => ?_)
            · rcases List.mem_append.1 hx with h | h
              · exact (hP2.bytes x h).chg hch4 fun e => (hP2.vne e).2.2 x h rfl
              · simp only [List.mem_cons, List.not_mem_nil, or_false] at h
                subst h
                exact HG2.out.2.1.chg hch4 fun e => hgF g (hvF g e) rfl
            · rw [List.map_append, List.nodup_append]
              refine ⟨HPD.out.nodup, by simp, fun a ha b hb => ?_⟩
              obtain ⟨x, hx, rfl⟩ := List.mem_map.1 ha
              simp only [List.map_cons, List.map_nil, List.mem_cons, List.not_mem_nil, or_false] at hb
              rw [hb]
              exact hgF _ (HPD.out.fx x hx)
            · rcases List.mem_append.1 hx with h | h
              · exact .inl (HPD.out.fx x h)
              · simp only [List.mem_cons, List.not_mem_nil, or_false] at h
                subst h
                exact .inr (.inl rfl)
          have hs5 : w5.heap.size = w4.heap.size := by rw [hw5]; simp [World.setCell]
          have hCw : Chg F w w5 := by
            rw [hw5]
            exact (((HCD.out.trans (Chg.of_below HG2.out.2.2 F)).thenS hch4 fun k _ e => hvF k e)).setCell (.inl HPD.out.fd) _
          have q2 : w5.cell? ⟨D, 2, none⟩ = some (.int .i64 ((p.last : Int) + 1)) := by
            have h := hP5.blk.cell 2
            rw [h]
            simp [netP, addP]
          have HE : Hid (StepP w F c D m (.int .i64 ((p.last : Int) + 1)) (addP p i j due bs) (.returned (.int .i64 ((p.last : Int) + 1))) w5) := by
            refine Lib.hid ⟨rfl, _, ⟨fun k hk => ?_, P, S, L, (Value.slice A4 (X.length + 1) cap4), _, hP5⟩, fun k hk => ?_, hCw⟩
            · rw [hs5]
              rcases hk with h | h | h
              · have := HFD.out k h; omega
              · omega
              · exact hv4 k h
            · have hcs := HCD.out.size
              rcases hk with h | h | h
              · exact .inl h
              · right; have := HG2.out.1; omega
              · rcases hat4 with e | e
                · rw [e] at h; exact .inl (hvF k h)
                · rw [e] at h; injection h with h; right; omega
          have HW5 := Lib.hid hw5
          have hS5 : w5.cell? ⟨D, 2, none⟩ = some (.int .i64 ((p.last : Int) + 1)) ∧ w5.cell? ⟨w.heap.size, 0, none⟩ = some (.int .i64 (i : Int)) ∧ w5.cell? ⟨w.heap.size, 1, none⟩ = some (.int .i64 (j : Int)) := by
            have hneX : w.heap.size ≠ D := fun e => by have := HF.out D HPD.out.fd; omega
            rw [HW5.out]
            refine ⟨?_, (World.cell?_setCell_far _ _ _ _ (Ne.symm hneX)).trans hS4.2.1, (World.cell?_setCell_far _ _ _ _ (Ne.symm hneX)).trans hS4.2.2⟩
            rw [← HW5.out]; exact q2
          have HS5 := Lib.hid hS5
          have HS4 := Lib.hid hS4
          clear hP2 hch4 hvF hnvD hgF hgw hv4 hP5 hs5 hCw own4 hg4 hat4 hle4 hcm4 hw5 hS5 hS4
          refine hK.out _ _ HS4.out (fun hHeld4 => ?_)
          clear hK K
          try simp only [Act.put, List.setIfInBounds_toArray, List.set_cons_zero, List.set_cons_succ]
          refine wpAnyH_take (i := 19) (oi := ?oi19wx) (v := ?v19wx) ?hi19wx (by kernel_rfl) (by kernel_rfl) (by kernel_rfl) ?hq19wx ?hy19wx (by assumption) ?rest19wx
          case hi19wx => (simp only [List.getElem?_toArray, List.getElem?_cons_zero, List.getElem?_cons_succ]; rfl)
          case hy19wx => (refine Or.inl ⟨by rfl, ?_⟩; intro w hSw; (try dsimp only at hSw); go_simp; try with_reducible rfl)
          case hq19wx => exact fun _ _ _ h => h
          try simp only [Act.put, List.setIfInBounds_toArray, List.set_cons_zero, List.set_cons_succ]
          refine wpAnyH_take (i := 20) (oi := ?oi20wx) (v := ?v20wx) ?hi20wx (by kernel_rfl) (by kernel_rfl) (by kernel_rfl) ?hq20wx ?hy20wx (by assumption) ?rest20wx
          case hi20wx => (simp only [List.getElem?_toArray, List.getElem?_cons_zero, List.getElem?_cons_succ]; rfl)
          case hy20wx => (refine Or.inl ⟨by rfl, ?_⟩; intro w hSw; (try dsimp only at hSw); go_simp; try with_reducible rfl)
          case hq20wx => exact fun _ _ _ h => h
          try simp only [Act.put, List.setIfInBounds_toArray, List.set_cons_zero, List.set_cons_succ]
          refine wpAnyH_ready (rs := [21]) (by kernel_rfl) (by simp) ?_
          refine AllReadyH.cons (o := ?o21sx) ?ho21sx (fun K hK => ?st21sx) ?mo21sx
          case ho21sx => (simp only [List.getElem?_toArray, List.getElem?_cons_zero, List.getElem?_cons_succ]; rfl)
          · skip
            go_simp
            rw [← HW5.out]
            refine hK.out _ _ HS5.out (fun hHeld5 => ?_)
            clear hK K
            try simp only [Act.put, List.setIfInBounds_toArray, List.set_cons_zero, List.set_cons_succ]
            refine wpAnyH_done (by kernel_rfl) ?_ _
            go_wp2
            go_ret
            exact HE.out
          · exact AllReadyH.nil
        · exact AllReadyH.nil
      · exact AllReadyH.nil
    · exact AllReadyH.nil
  refine AllReadyH.cons (o := ?o15p2) ?ho15p2 (fun K hK => ?st15p2) ?mo15p2
  case ho15p2 => (simp only [List.getElem?_toArray, List.getElem?_cons_zero, List.getElem?_cons_succ]; rfl)
  · skip
    go_simp
    refine HFR.out.mono ?_
    rintro _ w2 ⟨g, rfl, hg, hBg, hb2⟩
    have HG2 := Lib.hid (And.intro hg (And.intro hBg hb2))
    clear hg hBg hb2
    go_simp
    refine hK.out _ _ (HS.out w2 HG2.out.2.2) (fun hHeld2 => ?_)
    clear hK K
    try simp only [Act.put, List.setIfInBounds_toArray, List.set_cons_zero, List.set_cons_succ]
    refine wpAnyH_take (i := 16) (oi := ?oi16zy) (v := ?v16zy) ?hi16zy (by kernel_rfl) (by kernel_rfl) (by kernel_rfl) ?hq16zy ?hy16zy (by assumption) ?rest16zy
    case hi16zy => (simp only [List.getElem?_toArray, List.getElem?_cons_zero, List.getElem?_cons_succ]; rfl)
    case hy16zy => (refine Or.inl ⟨by rfl, ?_⟩; intro w hSw; (try dsimp only at hSw); go_simp; try with_reducible rfl)
    case hq16zy => exact fun _ _ _ h => h
    try simp only [Act.put, List.setIfInBounds_toArray, List.set_cons_zero, List.set_cons_succ]
    have hv2 := HV.out w2 HG2.out.2.2
    refine wpAnyH_ready (rs := [4, 17]) (by kernel_rfl) (by simp) ?_
    refine AllReadyH.cons (o := ?o4p3) ?ho4p3 (fun K hK => ?st4p3) ?mo4p3
    case ho4p3 => (simp only [List.getElem?_toArray, List.getElem?_cons_zero, List.getElem?_cons_succ]; rfl)
    · skip
      go_simp
      refine hK.out _ _ (HS.out w2 HG2.out.2.2) (fun hHeld1 => ?_)
      clear hK K
      try simp only [Act.put, List.setIfInBounds_toArray, List.set_cons_zero, List.set_cons_succ]
      refine wpAnyH_ready (rs := [17]) (by kernel_rfl) (by simp) ?_
      refine AllReadyH.cons (o := ?o17qy) ?ho17qy (fun K hK => ?st17qy) ?mo17qy
      case ho17qy => (simp only [List.getElem?_toArray, List.getElem?_cons_zero, List.getElem?_cons_succ]; rfl)
      · skip
        go_simp
        refine hK.out _ _ (HS.out _ (HG2.out.2.2.alloc HG2.out.2.2.size _)) (fun hHeld3 => ?_)
        clear hK K
        try simp only [Act.put, List.setIfInBounds_toArray, List.set_cons_zero, List.set_cons_succ]
        refine wpAnyH_ready (rs := [18]) (by kernel_rfl) (by simp) ?_
        refine AllReadyH.cons (o := ?o18ry) ?ho18ry (fun K hK => ?st18ry) ?mo18ry
        case ho18ry => (simp only [List.getElem?_toArray, List.getElem?_cons_zero, List.getElem?_cons_succ]; rfl)
        · skip
          have HO2 : Hid (w2.ownsRow 0 48 5 v X.length (rowsP X)) := Lib.hid (own_over HPD.out.row HG2.out.2.2)
          refine step_appN w2 (by rfl) _ _ 43 (by rfl) 0 48 i0 _ 5 56 u_flights hi0 hz0 hz1 hz2 rfl (by decide) _ X.length _ (by rfl) HO2.out #[.int .i64 ((p.last : Int) + 1), .int .i64 (i : Int), .int .i64 (j : Int), .int .i64 (due : Int), .slice (some ⟨g, 0, none⟩) bs.length bs.length] rfl (by rfl) (row_oneP ⟨p.last + 1, i, j, due, bs⟩ g) (by simp only [maxLen]; omega) (by omega) (Nat.zero_le _) ?_
          intro v4 w4 own4 _ hg4 hat4
          obtain ⟨A4, cap4, rfl, hle4, hcm4⟩ := own_shape own4
          have hP2 := HPD.out.below HFD.out HG2.out.2.2
          have hsz2 := HG2.out.2.2.size
          have hsz4 := hg4.size
          have hch4 : Chg (fun j => v.ownBlock = some j) w2 w4 := (Chg.of_grown hg4).mono fun _ _ e => e.symm
          have hvF : ∀ q, v.ownBlock = some q → F q := HPD.out.fv
          have hnvD : ¬ v.ownBlock = some D := fun e => (HPD.out.vne e).1 rfl
          have hS4 : w4.cell? ⟨D, 2, none⟩ = some (.int .i64 ((p.last : Int) + 1)) ∧ w4.cell? ⟨w.heap.size, 0, none⟩ = some (.int .i64 (i : Int)) ∧ w4.cell? ⟨w.heap.size, 1, none⟩ = some (.int .i64 (j : Int)) := by
            have hnb : ¬ v.ownBlock = some w.heap.size := fun e => by have := HF.out _ (hvF _ e); omega
            have hX4 := (HXD.out.over HG2.out.2.2).chg hch4 hnb
            exact ⟨(hP2.blk.chg hch4 hnvD).cell 2, hX4.cell 0, hX4.cell 1⟩
          have k6 : w4.cell? ⟨D, 6, none⟩ = some v := (hP2.blk.chg hch4 hnvD).cell 6
          have kf : w4.frozen? ⟨D, 6, none⟩ = false := (hP2.blk.chg hch4 hnvD).frozen 6
          obtain ⟨w5, hw5⟩ : ∃ w5, w5 = w4.setCell ⟨D, 6, none⟩ (Value.slice A4 (X.length + 1) cap4) := ⟨_, rfl⟩
          have hgF : ∀ k, F k → k ≠ g := fun k hk e => by have := HFD.out k hk; have := HG2.out.1; omega
          have hgw : g < w2.heap.size := HG2.out.2.1.lt
          have hv4 : ∀ q, (Value.slice A4 (X.length + 1) cap4).ownBlock = some q → q < w4.heap.size := fun q e => (own_block_lt own4 e).1
          have hP5 : PN w5 (fun k => F k ∨ k = g ∨ (Value.slice A4 (X.length + 1) cap4).ownBlock = some k) c D (addP p i j due bs) m P S L (Value.slice A4 (X.length + 1) cap4) (X ++ [(⟨p.last + 1, i, j, due, bs⟩, g)]) := by
            rw [hw5]
            have ho : w4.ownsRow 0 48 5 (Value.slice A4 (X.length + 1) cap4) (X ++ [((⟨p.last + 1, i, j, due, bs⟩ : Flt), g)]).length (rowsP (X ++ [((⟨p.last + 1, i, j, due, bs⟩ : Flt), g)])) := by
              rw [List.length_append, rowsP_app]
              have e : ((p.last + 1 : Nat) : Int) = (p.last : Int) + 1 := by omega
              simp only [Flt.row, e]
              exact own4
            refine hP2.setV hch4 (fun _ h => .inl h) ho (by rw [List.map_append, HPD.out.way]; rfl) (fun x hx => ?_) ?_ (fun q e => .inr (.inr e)) (fun x hx => ?_)
            · rcases List.mem_append.1 hx with h | h
              · exact (hP2.bytes x h).chg hch4 fun e => (hP2.vne e).2.2 x h rfl
              · simp only [List.mem_cons, List.not_mem_nil, or_false] at h
                subst h
                exact HG2.out.2.1.chg hch4 fun e => hgF g (hvF g e) rfl
            · rw [List.map_append, List.nodup_append]
              refine ⟨HPD.out.nodup, by simp, fun a ha b hb => ?_⟩
              obtain ⟨x, hx, rfl⟩ := List.mem_map.1 ha
              simp only [List.map_cons, List.map_nil, List.mem_cons, List.not_mem_nil, or_false] at hb
              rw [hb]
              exact hgF _ (HPD.out.fx x hx)
            · rcases List.mem_append.1 hx with h | h
              · exact .inl (HPD.out.fx x h)
              · simp only [List.mem_cons, List.not_mem_nil, or_false] at h
                subst h
                exact .inr (.inl rfl)
          have hs5 : w5.heap.size = w4.heap.size := by rw [hw5]; simp [World.setCell]
          have hCw : Chg F w w5 := by
            rw [hw5]
            exact (((HCD.out.trans (Chg.of_below HG2.out.2.2 F)).thenS hch4 fun k _ e => hvF k e)).setCell (.inl HPD.out.fd) _
          have q2 : w5.cell? ⟨D, 2, none⟩ = some (.int .i64 ((p.last : Int) + 1)) := by
            have h := hP5.blk.cell 2
            rw [h]
            simp [netP, addP]
          have HE : Hid (StepP w F c D m (.int .i64 ((p.last : Int) + 1)) (addP p i j due bs) (.returned (.int .i64 ((p.last : Int) + 1))) w5) := by
            refine Lib.hid ⟨rfl, _, ⟨fun k hk => ?_, P, S, L, (Value.slice A4 (X.length + 1) cap4), _, hP5⟩, fun k hk => ?_, hCw⟩
            · rw [hs5]
              rcases hk with h | h | h
              · have := HFD.out k h; omega
              · omega
              · exact hv4 k h
            · have hcs := HCD.out.size
              rcases hk with h | h | h
              · exact .inl h
              · right; have := HG2.out.1; omega
              · rcases hat4 with e | e
                · rw [e] at h; exact .inl (hvF k h)
                · rw [e] at h; injection h with h; right; omega
          have HW5 := Lib.hid hw5
          have hS5 : w5.cell? ⟨D, 2, none⟩ = some (.int .i64 ((p.last : Int) + 1)) ∧ w5.cell? ⟨w.heap.size, 0, none⟩ = some (.int .i64 (i : Int)) ∧ w5.cell? ⟨w.heap.size, 1, none⟩ = some (.int .i64 (j : Int)) := by
            have hneX : w.heap.size ≠ D := fun e => by have := HF.out D HPD.out.fd; omega
            rw [HW5.out]
            refine ⟨?_, (World.cell?_setCell_far _ _ _ _ (Ne.symm hneX)).trans hS4.2.1, (World.cell?_setCell_far _ _ _ _ (Ne.symm hneX)).trans hS4.2.2⟩
            rw [← HW5.out]; exact q2
          have HS5 := Lib.hid hS5
          have HS4 := Lib.hid hS4
          clear hP2 hch4 hvF hnvD hgF hgw hv4 hP5 hs5 hCw own4 hg4 hat4 hle4 hcm4 hw5 hS5 hS4
          refine hK.out _ _ HS4.out (fun hHeld4 => ?_)
          clear hK K
          try simp only [Act.put, List.setIfInBounds_toArray, List.set_cons_zero, List.set_cons_succ]
          refine wpAnyH_take (i := 19) (oi := ?oi19wy) (v := ?v19wy) ?hi19wy (by kernel_rfl) (by kernel_rfl) (by kernel_rfl) ?hq19wy ?hy19wy (by assumption) ?rest19wy
          case hi19wy => (simp only [List.getElem?_toArray, List.getElem?_cons_zero, List.getElem?_cons_succ]; rfl)
          case hy19wy => (refine Or.inl ⟨by rfl, ?_⟩; intro w hSw; (try dsimp only at hSw); go_simp; try with_reducible rfl)
          case hq19wy => exact fun _ _ _ h => h
          try simp only [Act.put, List.setIfInBounds_toArray, List.set_cons_zero, List.set_cons_succ]
          refine wpAnyH_take (i := 20) (oi := ?oi20wy) (v := ?v20wy) ?hi20wy (by kernel_rfl) (by kernel_rfl) (by kernel_rfl) ?hq20wy ?hy20wy (by assumption) ?rest20wy
          case hi20wy => (simp only [List.getElem?_toArray, List.getElem?_cons_zero, List.getElem?_cons_succ]; rfl)
          case hy20wy => (refine Or.inl ⟨by rfl, ?_⟩; intro w hSw; (try dsimp only at hSw); go_simp; try with_reducible rfl)
          case hq20wy => exact fun _ _ _ h => h
          try simp only [Act.put, List.setIfInBounds_toArray, List.set_cons_zero, List.set_cons_succ]
          refine wpAnyH_ready (rs := [21]) (by kernel_rfl) (by simp) ?_
          refine AllReadyH.cons (o := ?o21sy) ?ho21sy (fun K hK => ?st21sy) ?mo21sy
          case ho21sy => (simp only [List.getElem?_toArray, List.getElem?_cons_zero, List.getElem?_cons_succ]; rfl)
          · skip
            go_simp
            rw [← HW5.out]
            refine hK.out _ _ HS5.out (fun hHeld5 => ?_)
            clear hK K
            try simp only [Act.put, List.setIfInBounds_toArray, List.set_cons_zero, List.set_cons_succ]
            refine wpAnyH_done (by kernel_rfl) ?_ _
            go_wp2
            go_ret
            exact HE.out
          · exact AllReadyH.nil
        · exact AllReadyH.nil
      · exact AllReadyH.nil
    refine AllReadyH.cons (o := ?o17qw) ?ho17qw (fun K hK => ?st17qw) ?mo17qw
    case ho17qw => (simp only [List.getElem?_toArray, List.getElem?_cons_zero, List.getElem?_cons_succ]; rfl)
    · skip
      go_simp
      refine hK.out _ _ (HS.out _ (HG2.out.2.2.alloc HG2.out.2.2.size _)) (fun hHeld3 => ?_)
      clear hK K
      try simp only [Act.put, List.setIfInBounds_toArray, List.set_cons_zero, List.set_cons_succ]
      have hv3 := HV.out _ (HG2.out.2.2.alloc HG2.out.2.2.size (.cells #[.int .i64 ((p.last : Int) + 1), .int .i64 (i : Int), .int .i64 (j : Int), .int .i64 (due : Int), .slice (some ⟨g, 0, none⟩) bs.length bs.length] 48))
      refine wpAnyH_ready (rs := [4]) (by kernel_rfl) (by simp) ?_
      refine AllReadyH.cons (o := ?o4p4) ?ho4p4 (fun K hK => ?st4p4) ?mo4p4
      case ho4p4 => (simp only [List.getElem?_toArray, List.getElem?_cons_zero, List.getElem?_cons_succ]; rfl)
      · skip
        go_simp
        refine hK.out _ _ (HS.out _ (HG2.out.2.2.alloc HG2.out.2.2.size _)) (fun hHeld5 => ?_)
        clear hK K
        try simp only [Act.put, List.setIfInBounds_toArray, List.set_cons_zero, List.set_cons_succ]
        refine wpAnyH_ready (rs := [18]) (by kernel_rfl) (by simp) ?_
        refine AllReadyH.cons (o := ?o18rw) ?ho18rw (fun K hK => ?st18rw) ?mo18rw
        case ho18rw => (simp only [List.getElem?_toArray, List.getElem?_cons_zero, List.getElem?_cons_succ]; rfl)
        · skip
          have HO2 : Hid (w2.ownsRow 0 48 5 v X.length (rowsP X)) := Lib.hid (own_over HPD.out.row HG2.out.2.2)
          refine step_appN w2 (by rfl) _ _ 43 (by rfl) 0 48 i0 _ 5 56 u_flights hi0 hz0 hz1 hz2 rfl (by decide) _ X.length _ (by rfl) HO2.out #[.int .i64 ((p.last : Int) + 1), .int .i64 (i : Int), .int .i64 (j : Int), .int .i64 (due : Int), .slice (some ⟨g, 0, none⟩) bs.length bs.length] rfl (by rfl) (row_oneP ⟨p.last + 1, i, j, due, bs⟩ g) (by simp only [maxLen]; omega) (by omega) (Nat.zero_le _) ?_
          intro v4 w4 own4 _ hg4 hat4
          obtain ⟨A4, cap4, rfl, hle4, hcm4⟩ := own_shape own4
          have hP2 := HPD.out.below HFD.out HG2.out.2.2
          have hsz2 := HG2.out.2.2.size
          have hsz4 := hg4.size
          have hch4 : Chg (fun j => v.ownBlock = some j) w2 w4 := (Chg.of_grown hg4).mono fun _ _ e => e.symm
          have hvF : ∀ q, v.ownBlock = some q → F q := HPD.out.fv
          have hnvD : ¬ v.ownBlock = some D := fun e => (HPD.out.vne e).1 rfl
          have hS4 : w4.cell? ⟨D, 2, none⟩ = some (.int .i64 ((p.last : Int) + 1)) ∧ w4.cell? ⟨w.heap.size, 0, none⟩ = some (.int .i64 (i : Int)) ∧ w4.cell? ⟨w.heap.size, 1, none⟩ = some (.int .i64 (j : Int)) := by
            have hnb : ¬ v.ownBlock = some w.heap.size := fun e => by have := HF.out _ (hvF _ e); omega
            have hX4 := (HXD.out.over HG2.out.2.2).chg hch4 hnb
            exact ⟨(hP2.blk.chg hch4 hnvD).cell 2, hX4.cell 0, hX4.cell 1⟩
          have k6 : w4.cell? ⟨D, 6, none⟩ = some v := (hP2.blk.chg hch4 hnvD).cell 6
          have kf : w4.frozen? ⟨D, 6, none⟩ = false := (hP2.blk.chg hch4 hnvD).frozen 6
          obtain ⟨w5, hw5⟩ : ∃ w5, w5 = w4.setCell ⟨D, 6, none⟩ (Value.slice A4 (X.length + 1) cap4) := ⟨_, rfl⟩
          have hgF : ∀ k, F k → k ≠ g := fun k hk e => by have := HFD.out k hk; have := HG2.out.1; omega
          have hgw : g < w2.heap.size := HG2.out.2.1.lt
          have hv4 : ∀ q, (Value.slice A4 (X.length + 1) cap4).ownBlock = some q → q < w4.heap.size := fun q e => (own_block_lt own4 e).1
          have hP5 : PN w5 (fun k => F k ∨ k = g ∨ (Value.slice A4 (X.length + 1) cap4).ownBlock = some k) c D (addP p i j due bs) m P S L (Value.slice A4 (X.length + 1) cap4) (X ++ [(⟨p.last + 1, i, j, due, bs⟩, g)]) := by
            rw [hw5]
            have ho : w4.ownsRow 0 48 5 (Value.slice A4 (X.length + 1) cap4) (X ++ [((⟨p.last + 1, i, j, due, bs⟩ : Flt), g)]).length (rowsP (X ++ [((⟨p.last + 1, i, j, due, bs⟩ : Flt), g)])) := by
              rw [List.length_append, rowsP_app]
              have e : ((p.last + 1 : Nat) : Int) = (p.last : Int) + 1 := by omega
              simp only [Flt.row, e]
              exact own4
            refine hP2.setV hch4 (fun _ h => .inl h) ho (by rw [List.map_append, HPD.out.way]; rfl) (fun x hx => ?_) ?_ (fun q e => .inr (.inr e)) (fun x hx => ?_)
            · rcases List.mem_append.1 hx with h | h
              · exact (hP2.bytes x h).chg hch4 fun e => (hP2.vne e).2.2 x h rfl
              · simp only [List.mem_cons, List.not_mem_nil, or_false] at h
                subst h
                exact HG2.out.2.1.chg hch4 fun e => hgF g (hvF g e) rfl
            · rw [List.map_append, List.nodup_append]
              refine ⟨HPD.out.nodup, by simp, fun a ha b hb => ?_⟩
              obtain ⟨x, hx, rfl⟩ := List.mem_map.1 ha
              simp only [List.map_cons, List.map_nil, List.mem_cons, List.not_mem_nil, or_false] at hb
              rw [hb]
              exact hgF _ (HPD.out.fx x hx)
            · rcases List.mem_append.1 hx with h | h
              · exact .inl (HPD.out.fx x h)
              · simp only [List.mem_cons, List.not_mem_nil, or_false] at h
                subst h
                exact .inr (.inl rfl)
          have hs5 : w5.heap.size = w4.heap.size := by rw [hw5]; simp [World.setCell]
          have hCw : Chg F w w5 := by
            rw [hw5]
            exact (((HCD.out.trans (Chg.of_below HG2.out.2.2 F)).thenS hch4 fun k _ e => hvF k e)).setCell (.inl HPD.out.fd) _
          have q2 : w5.cell? ⟨D, 2, none⟩ = some (.int .i64 ((p.last : Int) + 1)) := by
            have h := hP5.blk.cell 2
            rw [h]
            simp [netP, addP]
          have HE : Hid (StepP w F c D m (.int .i64 ((p.last : Int) + 1)) (addP p i j due bs) (.returned (.int .i64 ((p.last : Int) + 1))) w5) := by
            refine Lib.hid ⟨rfl, _, ⟨fun k hk => ?_, P, S, L, (Value.slice A4 (X.length + 1) cap4), _, hP5⟩, fun k hk => ?_, hCw⟩
            · rw [hs5]
              rcases hk with h | h | h
              · have := HFD.out k h; omega
              · omega
              · exact hv4 k h
            · have hcs := HCD.out.size
              rcases hk with h | h | h
              · exact .inl h
              · right; have := HG2.out.1; omega
              · rcases hat4 with e | e
                · rw [e] at h; exact .inl (hvF k h)
                · rw [e] at h; injection h with h; right; omega
          have HW5 := Lib.hid hw5
          have hS5 : w5.cell? ⟨D, 2, none⟩ = some (.int .i64 ((p.last : Int) + 1)) ∧ w5.cell? ⟨w.heap.size, 0, none⟩ = some (.int .i64 (i : Int)) ∧ w5.cell? ⟨w.heap.size, 1, none⟩ = some (.int .i64 (j : Int)) := by
            have hneX : w.heap.size ≠ D := fun e => by have := HF.out D HPD.out.fd; omega
            rw [HW5.out]
            refine ⟨?_, (World.cell?_setCell_far _ _ _ _ (Ne.symm hneX)).trans hS4.2.1, (World.cell?_setCell_far _ _ _ _ (Ne.symm hneX)).trans hS4.2.2⟩
            rw [← HW5.out]; exact q2
          have HS5 := Lib.hid hS5
          have HS4 := Lib.hid hS4
          clear hP2 hch4 hvF hnvD hgF hgw hv4 hP5 hs5 hCw own4 hg4 hat4 hle4 hcm4 hw5 hS5 hS4
          refine hK.out _ _ HS4.out (fun hHeld4 => ?_)
          clear hK K
          try simp only [Act.put, List.setIfInBounds_toArray, List.set_cons_zero, List.set_cons_succ]
          refine wpAnyH_take (i := 19) (oi := ?oi19ww) (v := ?v19ww) ?hi19ww (by kernel_rfl) (by kernel_rfl) (by kernel_rfl) ?hq19ww ?hy19ww (by assumption) ?rest19ww
          case hi19ww => (simp only [List.getElem?_toArray, List.getElem?_cons_zero, List.getElem?_cons_succ]; rfl)
          case hy19ww => (refine Or.inl ⟨by rfl, ?_⟩; intro w hSw; (try dsimp only at hSw); go_simp; try with_reducible rfl)
          case hq19ww => exact fun _ _ _ h => h
          try simp only [Act.put, List.setIfInBounds_toArray, List.set_cons_zero, List.set_cons_succ]
          refine wpAnyH_take (i := 20) (oi := ?oi20ww) (v := ?v20ww) ?hi20ww (by kernel_rfl) (by kernel_rfl) (by kernel_rfl) ?hq20ww ?hy20ww (by assumption) ?rest20ww
          case hi20ww => (simp only [List.getElem?_toArray, List.getElem?_cons_zero, List.getElem?_cons_succ]; rfl)
          case hy20ww => (refine Or.inl ⟨by rfl, ?_⟩; intro w hSw; (try dsimp only at hSw); go_simp; try with_reducible rfl)
          case hq20ww => exact fun _ _ _ h => h
          try simp only [Act.put, List.setIfInBounds_toArray, List.set_cons_zero, List.set_cons_succ]
          refine wpAnyH_ready (rs := [21]) (by kernel_rfl) (by simp) ?_
          refine AllReadyH.cons (o := ?o21sw) ?ho21sw (fun K hK => ?st21sw) ?mo21sw
          case ho21sw => (simp only [List.getElem?_toArray, List.getElem?_cons_zero, List.getElem?_cons_succ]; rfl)
          · skip
            go_simp
            rw [← HW5.out]
            refine hK.out _ _ HS5.out (fun hHeld5 => ?_)
            clear hK K
            try simp only [Act.put, List.setIfInBounds_toArray, List.set_cons_zero, List.set_cons_succ]
            refine wpAnyH_done (by kernel_rfl) ?_ _
            go_wp2
            go_ret
            exact HE.out
          · exact AllReadyH.nil
        · exact AllReadyH.nil
      · exact AllReadyH.nil
    · exact AllReadyH.nil
  · exact AllReadyH.nil
end Go.Proofs.Ytgfhmfhhobhojaa
