/-
  JournalAll: makes, reopens, stands.
-/
import Derived.Test.YtpkdalpjfcopbaaDoorMPair
namespace Go.Proofs.YtpkdalpjfcopbaaDoor
open Go.RowKit
set_option maxRecDepth 100000 in
set_option maxHeartbeats 800000 in
theorem makes_any {w : World} {G : Nat → Prop} {pg jg kg : Nat} {Fk : Nat → Prop} {A0 A1 : Option Addr} {c0 c1 : Nat} {j : JP} {f : Fls} (h : PAt w G pg jg kg Fk A0 c0 A1 c1 j f) {Aw : Option Addr} {n cap : Nat} {ws : List Wr} (hw : WsAt w Aw n ws) (hc : costW ws ≤ 4398046511104) (hn : n ≤ 1099511627776)
    (hl : f.a.length + f.b.length ≤ 4398046511104) (k : Int) (hk : k ≤ 9223372036854775807) :
    Calls Tryd.prog 59 #[.pointer (some ⟨pg, 0, none⟩), .slice Aw n cap, .int .i64 k] w fun e w' => e = .returned (.tuple #[]) ∧ (∃ B0 e0 B1 e1, PAt w' (Grow G w w') pg jg kg Fk B0 e0 B1 e1 j (apD ws k f)) ∧ Chg (fun i => i = pg) w w' := by
  have p2 : w.cell? ⟨pg, 2, none⟩ = some (.slice A0 f.a.length c0) := h.blk.cell 2
  have p3 : w.cell? ⟨pg, 3, none⟩ = some (.slice A1 f.b.length c1) := h.blk.cell 3
  have HAP := Lib.hid (RApply_any (w := w) Aw n cap ws A0 A1 c0 c1 f k hw hc hn (Rd.of_own h.o0) (Rd.of_own h.o1) (by omega) (by omega) hk)
  have H := Lib.hid h
  clear h hw
  go_enter Tryd.func59, Tryd.ntmps59
  go_wp2_with (go_at_call 77; refine HAP.out.mono ?_; rintro _ w2 ⟨B0, e0, B1, e1, rfl, o0, o1, hap, hb⟩; have H2 := Lib.hid (And.intro o0 (And.intro o1 hb)); have q2 := ((H.out.over hb).blk.frozen 2); have q3 := ((H.out.over hb).blk.frozen 3); have r2 : w2.cell? ⟨pg, 2, none⟩ = some (.slice A0 f.a.length c0) := (H.out.over hb).blk.cell 2; have r3 : w2.cell? ⟨pg, 3, none⟩ = some (.slice A1 f.b.length c1) := (H.out.over hb).blk.cell 3; clear o0 o1 hap hb)
  go_end0
  obtain ⟨h1, h2⟩ := H.out.disk H2.out.2.2 H2.out.1 H2.out.2.1
  refine ⟨rfl, ⟨B0, e0, B1, e1, ?_⟩, h2⟩
  exact h1.mono (fun k hk => hk.elim .inl fun h => .inr ⟨h.1, Nat.lt_of_lt_of_le h.2 (by simp [World.setCell])⟩) (fun k hk => grow_lt H.out.gs h2.size k hk)
theorem len_add {a b c m n : Nat} (h1 : a ≤ b + m) (h2 : b ≤ c + n) : a ≤ c + (n + m) := by omega
theorem two_sets (w : World) (pg : Nat) (u v : Value) : Chg (fun k => k = pg) w ((w.setCell ⟨pg, 0, none⟩ u).setCell ⟨pg, 1, none⟩ v) := ((Chg.refl (fun k => k = pg) w).setCell (p := ⟨pg, 0, none⟩) (.inl rfl) u).setCell (p := ⟨pg, 1, none⟩) (.inl rfl) v
theorem tup4 {a b c d a' b' c' d' : Value} (h : Ending.returned (.tuple #[a, b, c, d]) = Ending.returned (.tuple #[a', b', c', d'])) : a = a' ∧ b = b' ∧ c = c' ∧ d = d' := by simpa using h
theorem Opened.val {w w' : World} {o : OR} {e : Ending} (h : Opened w o e w') : ∃ a b c d, e = .returned (.tuple #[a, b, c, d]) ∧ Hid (Opened w o (.returned (.tuple #[a, b, c, d])) w') := by
  cases o with
  | bad => exact ⟨_, _, _, _, h.2, Lib.hid ⟨h.1, rfl⟩⟩
  | spent => exact ⟨_, _, _, _, h.2, Lib.hid ⟨h.1, rfl⟩⟩
  | ok j recs ws =>
    obtain ⟨hb, jg, vl, vw, K, rfl, h'⟩ := h
    exact ⟨_, _, _, _, rfl, Lib.hid ⟨hb, jg, vl, vw, K, rfl, h'⟩⟩
/-- True is answered, and the pair stands. -/
def Stays (w : World) (G : Nat → Prop) (pg : Nat) (f : Fls) (m : Nat) (e : Ending) (w' : World) : Prop :=
  e = .returned (.bool true) ∧ ∃ j' f', POk w' (Grow G w w') pg j' f' ∧ j'.Fine ∧ f'.a.length + f'.b.length ≤ f.a.length + f.b.length + m ∧ Chg G w w'
set_option maxRecDepth 100000 in
set_option maxHeartbeats 3200000 in
theorem reopens_any {w : World} {G : Nat → Prop} {pg : Nat} {j : JP} {f : Fls} (h : POk w G pg j f) (hf : j.Fine) (hl : f.a.length + f.b.length ≤ 4398046000000) (ht : Nibs w) :
    Calls Tryd.prog 62 #[.pointer (some ⟨pg, 0, none⟩)] w (Stays w G pg f 65537) := by
  obtain ⟨jg, kg, Fk, A0, c0, A1, c1, h⟩ := h
  obtain ⟨l0, l1, m0, m1⟩ := h.lens
  simp only [maxLen] at m0 m1
  obtain ⟨wd, hwd⟩ : ∃ wd, wd = w.drew := ⟨_, rfl⟩
  have hbd : Below w.heap.size w wd := by rw [hwd]; exact below_drewN (Below.refl _ _) 1
  have HD := Lib.hid (h.over hbd)
  have HSB : Hid (∀ W, Below wd.heap.size wd W → W.cell? ⟨pg, 2, none⟩ = some (.slice A0 f.a.length c0) ∧ W.cell? ⟨pg, 3, none⟩ = some (.slice A1 f.b.length c1)) := Lib.hid fun W hW => ⟨(HD.out.over hW).blk.cell 2, (HD.out.over hW).blk.cell 3⟩
  have HWD := Lib.hid hwd
  have HBD := Lib.hid hbd
  have H := Lib.hid h
  have HT := Lib.hid ht
  have HF := Lib.hid hf
  clear h hwd hbd ht hf
  go_enter Tryd.func62, Tryd.ntmps62
  go_upto_region 1 with fail
  go_cut [3, 4, 5, 6] from 11 to 76 (fun d3 d4 d5 d6 wc => ∃ W, Hid (Below w.heap.size w W ∧ Opened W (openR f) (.returned (.tuple #[d3, d4, d5, d6])) wc))
  case first =>
    refine wp_region_held_drew (S := fun W => W.cell? ⟨pg, 2, none⟩ = some (.slice A0 f.a.length c0) ∧ W.cell? ⟨pg, 3, none⟩ = some (.slice A1 f.b.length c1)) (by kernel_rfl) (by rw [← HWD.out]; exact HSB.out _ (Below.refl _ _)) (fun hsw => ?_)
    rw [← HWD.out] at hsw ⊢
    refine wpAnyH_take (i := 0) (oi := ?oi0a) (v := ?v0a) ?hi0a (by kernel_rfl) (by kernel_rfl) (by kernel_rfl) ?hq0a ?hy0a (by assumption) ?rest0a
    case hi0a => (simp only [List.getElem?_toArray, List.getElem?_cons_zero]; rfl)
    case hy0a => (refine Or.inl ⟨by rfl, ?_⟩; intro w hSw; (try dsimp only at hSw); go_simp; try with_reducible rfl)
    case hq0a => exact fun _ _ _ h => h
    try simp only [Act.put, List.setIfInBounds_toArray, List.set_cons_zero, List.set_cons_succ]
    refine wpAnyH_take (i := 1) (oi := ?oi1a) (v := ?v1a) ?hi1a (by kernel_rfl) (by kernel_rfl) (by kernel_rfl) ?hq1a ?hy1a (by assumption) ?rest1a
    case hi1a => (simp only [List.getElem?_toArray, List.getElem?_cons_zero, List.getElem?_cons_succ]; rfl)
    case hy1a => (refine Or.inl ⟨by rfl, ?_⟩; intro w hSw; (try dsimp only at hSw); go_simp; try with_reducible rfl)
    case hq1a => exact fun _ _ _ h => h
    try simp only [Act.put, List.setIfInBounds_toArray, List.set_cons_zero, List.set_cons_succ]
    refine wpAnyH_take (i := 2) (oi := ?oi2a) (v := ?v2a) ?hi2a (by kernel_rfl) (by kernel_rfl) (by kernel_rfl) ?hq2a ?hy2a (by assumption) ?rest2a
    case hi2a => (simp only [List.getElem?_toArray, List.getElem?_cons_zero, List.getElem?_cons_succ]; rfl)
    case hy2a => (refine Or.inl ⟨by rfl, ?_⟩; intro w hSw; (try dsimp only at hSw); go_simp; try with_reducible rfl)
    case hq2a => exact fun _ _ _ h => h
    try simp only [Act.put, List.setIfInBounds_toArray, List.set_cons_zero, List.set_cons_succ]
    refine wpAnyH_take (i := 3) (oi := ?oi3a) (v := ?v3a) ?hi3a (by kernel_rfl) (by kernel_rfl) (by kernel_rfl) ?hq3a ?hy3a (by assumption) ?rest3a
    case hi3a => (simp only [List.getElem?_toArray, List.getElem?_cons_zero, List.getElem?_cons_succ]; rfl)
    case hy3a => (refine Or.inl ⟨by rfl, ?_⟩; intro w hSw; (try dsimp only at hSw); go_simp; try with_reducible rfl)
    case hq3a => exact fun _ _ _ h => h
    try simp only [Act.put, List.setIfInBounds_toArray, List.set_cons_zero, List.set_cons_succ]
    refine wpAnyH_take (i := 4) (oi := ?oi4a) (v := ?v4a) ?hi4a (by kernel_rfl) (by kernel_rfl) (by kernel_rfl) ?hq4a ?hy4a (by assumption) ?rest4a
    case hi4a => (simp only [List.getElem?_toArray, List.getElem?_cons_zero, List.getElem?_cons_succ]; rfl)
    case hy4a => (refine Or.inl ⟨by rfl, ?_⟩; intro w hSw; (try dsimp only at hSw); go_simp; try with_reducible rfl)
    case hq4a => exact fun _ _ _ h => h
    try simp only [Act.put, List.setIfInBounds_toArray, List.set_cons_zero, List.set_cons_succ]
    refine wpAnyH_take (i := 6) (oi := ?oi6a) (v := ?v6a) ?hi6a (by kernel_rfl) (by kernel_rfl) (by kernel_rfl) ?hq6a ?hy6a (by assumption) ?rest6a
    case hi6a => (simp only [List.getElem?_toArray, List.getElem?_cons_zero, List.getElem?_cons_succ]; rfl)
    case hy6a => (refine Or.inl ⟨by rfl, ?_⟩; intro w hSw; (try dsimp only at hSw); go_simp; try with_reducible rfl)
    case hq6a => exact fun _ _ _ h => h
    try simp only [Act.put, List.setIfInBounds_toArray, List.set_cons_zero, List.set_cons_succ]
    refine wpAnyH_take (i := 7) (oi := ?oi7a) (v := ?v7a) ?hi7a (by kernel_rfl) (by kernel_rfl) (by kernel_rfl) ?hq7a ?hy7a (by assumption) ?rest7a
    case hi7a => (simp only [List.getElem?_toArray, List.getElem?_cons_zero, List.getElem?_cons_succ]; rfl)
    case hy7a => (refine Or.inl ⟨by rfl, ?_⟩; intro w hSw; (try dsimp only at hSw); go_simp; try with_reducible rfl)
    case hq7a => exact fun _ _ _ h => h
    try simp only [Act.put, List.setIfInBounds_toArray, List.set_cons_zero, List.set_cons_succ]
    refine wpAnyH_take (i := 8) (oi := ?oi8a) (v := ?v8a) ?hi8a (by kernel_rfl) (by kernel_rfl) (by kernel_rfl) ?hq8a ?hy8a (by assumption) ?rest8a
    case hi8a => (simp only [List.getElem?_toArray, List.getElem?_cons_zero, List.getElem?_cons_succ]; rfl)
    case hy8a => (refine Or.inl ⟨by rfl, ?_⟩; intro w hSw; (try dsimp only at hSw); go_simp; try with_reducible rfl)
    case hq8a => exact fun _ _ _ h => h
    try simp only [Act.put, List.setIfInBounds_toArray, List.set_cons_zero, List.set_cons_succ]
    refine wpAnyH_take (i := 9) (oi := ?oi9a) (v := ?v9a) ?hi9a (by kernel_rfl) (by kernel_rfl) (by kernel_rfl) ?hq9a ?hy9a (by assumption) ?rest9a
    case hi9a => (simp only [List.getElem?_toArray, List.getElem?_cons_zero, List.getElem?_cons_succ]; rfl)
    case hy9a => (refine Or.inl ⟨by rfl, ?_⟩; intro w hSw; (try dsimp only at hSw); go_simp; try with_reducible rfl)
    case hq9a => exact fun _ _ _ h => h
    try simp only [Act.put, List.setIfInBounds_toArray, List.set_cons_zero, List.set_cons_succ]
    refine wpAnyH_take (i := 10) (oi := ?oi10a) (v := ?v10a) ?hi10a (by kernel_rfl) (by kernel_rfl) (by kernel_rfl) ?hq10a ?hy10a (by assumption) ?rest10a
    case hi10a => (simp only [List.getElem?_toArray, List.getElem?_cons_zero, List.getElem?_cons_succ]; rfl)
    case hy10a => (refine Or.inl ⟨by rfl, ?_⟩; intro w hSw; (try dsimp only at hSw); go_simp; try with_reducible rfl)
    case hq10a => exact fun _ _ _ h => h
    try simp only [Act.put, List.setIfInBounds_toArray, List.set_cons_zero, List.set_cons_succ]
    refine wpAnyH_ready (rs := [5]) (by kernel_rfl) (by simp) ?_
    refine AllReadyH.cons (o := ?o5p1) ?ho5p1 (fun K hK => ?st5p1) ?mo5p1
    case ho5p1 => (simp only [List.getElem?_toArray, List.getElem?_cons_zero, List.getElem?_cons_succ]; rfl)
    · skip
      have HSP := Lib.hid (spare_sp A0 c0 f.a wd (Rd.of_own HD.out.o0) (by omega))
      go_simp
      refine HSP.out.mono ?_
      rintro _ wp1 ⟨g1, q1, rfl, hg1, hs1, hb1⟩
      have H1 := Lib.hid (And.intro hs1 hb1)
      clear hg1 hs1 hb1 HSP
      go_simp
      refine hK.out _ _ (HSB.out _ H1.out.2) (fun _ => ?_)
      clear hK K
      try simp only [Act.put, List.setIfInBounds_toArray, List.set_cons_zero, List.set_cons_succ]
      refine wpAnyH_ready (rs := [11]) (by kernel_rfl) (by simp) ?_
      refine AllReadyH.cons (o := ?o11p2) ?ho11p2 (fun K hK => ?st11p2) ?mo11p2
      case ho11p2 => (simp only [List.getElem?_toArray, List.getElem?_cons_zero, List.getElem?_cons_succ]; rfl)
      · skip
        have HSP := Lib.hid (spare_sp A1 c1 f.b wp1 (Rd.of_own (HD.out.over H1.out.2).o1) (by omega))
        go_simp
        refine HSP.out.mono ?_
        rintro _ wp2 ⟨g2, q2, rfl, hg2, hs2, hb2⟩
        have H2 := Lib.hid (And.intro (H1.out.1.over hb2) (And.intro hs2 (Below.then H1.out.2 hb2)))
        clear hg2 hs2 hb2 HSP
        go_simp
        refine hK.out _ _ (HSB.out _ H2.out.2.2) (fun _ => ?_)
        clear hK K
        try simp only [Act.put, List.setIfInBounds_toArray, List.set_cons_zero, List.set_cons_succ]
        refine wpAnyH_take (i := 12) (oi := ?oi12p3) (v := ?v12p3) ?hi12p3 (by kernel_rfl) (by kernel_rfl) (by kernel_rfl) ?hq12p3 ?hy12p3 (by assumption) ?rest12p3
        case hi12p3 => (simp only [List.getElem?_toArray, List.getElem?_cons_zero, List.getElem?_cons_succ]; rfl)
        case hy12p3 => (refine Or.inl ⟨by rfl, ?_⟩; intro w hSw; (try dsimp only at hSw); go_simp; try with_reducible rfl)
        case hq12p3 => exact fun _ _ _ h => h
        try simp only [Act.put, List.setIfInBounds_toArray, List.set_cons_zero, List.set_cons_succ]
        refine wpAnyH_ready (rs := [13]) (by kernel_rfl) (by simp) ?_
        refine AllReadyH.cons (o := ?o13p4) ?ho13p4 (fun K hK => ?st13p4) ?mo13p4
        case ho13p4 => (simp only [List.getElem?_toArray, List.getElem?_cons_zero, List.getElem?_cons_succ]; rfl)
        · skip
          have hbW : Below w.heap.size w wp2 := Below.then HBD.out H2.out.2.2
          have n1 : f.a.length + 64 ≤ q1 ∧ q1 ≤ 9223372036854775807 := by
            obtain ⟨_, _, _, _, h1, h2⟩ := H2.out.1
            exact ⟨h1, h2⟩
          have n2 : f.b.length + 64 ≤ q2 ∧ q2 ≤ 9223372036854775807 := by
            obtain ⟨_, _, _, _, h1, h2⟩ := H2.out.2.1
            exact ⟨h1, h2⟩
          have HOP := Lib.hid (Open_any (w := wp2) (f := f) (c0 := q1) (c1 := q2) H2.out.1.rd H2.out.2.1.rd (by omega) (by omega) n1.2 n2.2 (HT.out.below hbW))
          have HBW := Lib.hid hbW
          clear hbW n1 n2
          go_simp
          refine HOP.out.mono ?_
          rintro _ wp3 h3
          obtain ⟨a3, b3, c3, e3, rfl, HV⟩ := h3.val
          have HB3 := Lib.hid (HSB.out _ (Below.then H2.out.2.2 h3.1))
          clear h3 HOP
          go_simp
          refine hK.out _ _ HB3.out (fun _ => ?_)
          clear hK K
          try simp only [Act.put, List.setIfInBounds_toArray, List.set_cons_zero, List.set_cons_succ]
          refine wpAnyH_take (i := 14) (oi := ?oi14p5) (v := ?v14p5) ?hi14p5 (by kernel_rfl) (by kernel_rfl) (by kernel_rfl) ?hq14p5 ?hy14p5 (by assumption) ?rest14p5
          case hi14p5 => (simp only [List.getElem?_toArray, List.getElem?_cons_zero, List.getElem?_cons_succ]; rfl)
          case hy14p5 => (refine Or.inl ⟨by rfl, ?_⟩; intro w hSw; (try dsimp only at hSw); go_simp; try with_reducible rfl)
          case hq14p5 => exact fun _ _ _ h => h
          try simp only [Act.put, List.setIfInBounds_toArray, List.set_cons_zero, List.set_cons_succ]
          refine wpAnyH_take (i := 15) (oi := ?oi15p5) (v := ?v15p5) ?hi15p5 (by kernel_rfl) (by kernel_rfl) (by kernel_rfl) ?hq15p5 ?hy15p5 (by assumption) ?rest15p5
          case hi15p5 => (simp only [List.getElem?_toArray, List.getElem?_cons_zero, List.getElem?_cons_succ]; rfl)
          case hy15p5 => (refine Or.inl ⟨by rfl, ?_⟩; intro w hSw; (try dsimp only at hSw); go_simp; try with_reducible rfl)
          case hq15p5 => exact fun _ _ _ h => h
          try simp only [Act.put, List.setIfInBounds_toArray, List.set_cons_zero, List.set_cons_succ]
          refine wpAnyH_take (i := 16) (oi := ?oi16p5) (v := ?v16p5) ?hi16p5 (by kernel_rfl) (by kernel_rfl) (by kernel_rfl) ?hq16p5 ?hy16p5 (by assumption) ?rest16p5
          case hi16p5 => (simp only [List.getElem?_toArray, List.getElem?_cons_zero, List.getElem?_cons_succ]; rfl)
          case hy16p5 => (refine Or.inl ⟨by rfl, ?_⟩; intro w hSw; (try dsimp only at hSw); go_simp; try with_reducible rfl)
          case hq16p5 => exact fun _ _ _ h => h
          try simp only [Act.put, List.setIfInBounds_toArray, List.set_cons_zero, List.set_cons_succ]
          refine wpAnyH_take (i := 17) (oi := ?oi17p5) (v := ?v17p5) ?hi17p5 (by kernel_rfl) (by kernel_rfl) (by kernel_rfl) ?hq17p5 ?hy17p5 (by assumption) ?rest17p5
          case hi17p5 => (simp only [List.getElem?_toArray, List.getElem?_cons_zero, List.getElem?_cons_succ]; rfl)
          case hy17p5 => (refine Or.inl ⟨by rfl, ?_⟩; intro w hSw; (try dsimp only at hSw); go_simp; try with_reducible rfl)
          case hq17p5 => exact fun _ _ _ h => h
          try simp only [Act.put, List.setIfInBounds_toArray, List.set_cons_zero, List.set_cons_succ]
          refine wpAnyH_take (i := 18) (oi := ?oi18p5) (v := ?v18p5) ?hi18p5 (by kernel_rfl) (by kernel_rfl) (by kernel_rfl) ?hq18p5 ?hy18p5 (by assumption) ?rest18p5
          case hi18p5 => (simp only [List.getElem?_toArray, List.getElem?_cons_zero, List.getElem?_cons_succ]; rfl)
          case hy18p5 => (refine Or.inl ⟨by rfl, ?_⟩; intro w hSw; (try dsimp only at hSw); go_simp; try with_reducible rfl)
          case hq18p5 => exact fun _ _ _ h => h
          try simp only [Act.put, List.setIfInBounds_toArray, List.set_cons_zero, List.set_cons_succ]
          refine wpAnyH_take (i := 19) (oi := ?oi19p5) (v := ?v19p5) ?hi19p5 (by kernel_rfl) (by kernel_rfl) (by kernel_rfl) ?hq19p5 ?hy19p5 (by assumption) ?rest19p5
          case hi19p5 => (simp only [List.getElem?_toArray, List.getElem?_cons_zero, List.getElem?_cons_succ]; rfl)
          case hy19p5 => (refine Or.inl ⟨by rfl, ?_⟩; intro w hSw; (try dsimp only at hSw); go_simp; try with_reducible rfl)
          case hq19p5 => exact fun _ _ _ h => h
          try simp only [Act.put, List.setIfInBounds_toArray, List.set_cons_zero, List.set_cons_succ]
          refine wpAnyH_take (i := 20) (oi := ?oi20p5) (v := ?v20p5) ?hi20p5 (by kernel_rfl) (by kernel_rfl) (by kernel_rfl) ?hq20p5 ?hy20p5 (by assumption) ?rest20p5
          case hi20p5 => (simp only [List.getElem?_toArray, List.getElem?_cons_zero, List.getElem?_cons_succ]; rfl)
          case hy20p5 => (refine Or.inl ⟨by rfl, ?_⟩; intro w hSw; (try dsimp only at hSw); go_simp; try with_reducible rfl)
          case hq20p5 => exact fun _ _ _ h => h
          try simp only [Act.put, List.setIfInBounds_toArray, List.set_cons_zero, List.set_cons_succ]
          refine wpAnyH_take (i := 21) (oi := ?oi21p5) (v := ?v21p5) ?hi21p5 (by kernel_rfl) (by kernel_rfl) (by kernel_rfl) ?hq21p5 ?hy21p5 (by assumption) ?rest21p5
          case hi21p5 => (simp only [List.getElem?_toArray, List.getElem?_cons_zero, List.getElem?_cons_succ]; rfl)
          case hy21p5 => (refine Or.inl ⟨by rfl, ?_⟩; intro w hSw; (try dsimp only at hSw); go_simp; try with_reducible rfl)
          case hq21p5 => exact fun _ _ _ h => h
          try simp only [Act.put, List.setIfInBounds_toArray, List.set_cons_zero, List.set_cons_succ]
          refine wpAnyH_take (i := 22) (oi := ?oi22p5) (v := ?v22p5) ?hi22p5 (by kernel_rfl) (by kernel_rfl) (by kernel_rfl) ?hq22p5 ?hy22p5 (by assumption) ?rest22p5
          case hi22p5 => (simp only [List.getElem?_toArray, List.getElem?_cons_zero, List.getElem?_cons_succ]; rfl)
          case hy22p5 => (refine Or.inl ⟨by rfl, ?_⟩; intro w hSw; (try dsimp only at hSw); go_simp; try with_reducible rfl)
          case hq22p5 => exact fun _ _ _ h => h
          try simp only [Act.put, List.setIfInBounds_toArray, List.set_cons_zero, List.set_cons_succ]
          refine wpAnyH_done (by kernel_rfl) ?_ _
          go_wp2_with fail
          go_meet
          exact ⟨wp2, Lib.hid ⟨HBW.out, HV.out⟩⟩
        exact AllReadyH.nil
      exact AllReadyH.nil
    exact AllReadyH.nil
  case rest =>
    obtain ⟨W, HO⟩ := hcut
    obtain ⟨wp, HWY⟩ : ∃ wp, Hid (wc = wp) := ⟨_, Lib.hid rfl⟩
    rw [HWY.out] at HO ⊢
    clear HWY HWD HSB HBD HD
    have HBp : Hid (Below w.heap.size w wp) := Lib.hid (HO.out.1.trans (HO.out.2.1.mono HO.out.1.size))
    have HP := Lib.hid (H.out.over HBp.out)
    have HRO := Lib.hid (ROpen_any (w := wp) (f := f) (c0 := c0) (c1 := c1) (Rd.of_own HP.out.o0) (Rd.of_own HP.out.o1) l0 l1 m0 m1)
    have p2 : wp.cell? ⟨pg, 2, none⟩ = some (.slice A0 f.a.length c0) := HP.out.blk.cell 2
    have p3 : wp.cell? ⟨pg, 3, none⟩ = some (.slice A1 f.b.length c1) := HP.out.blk.cell 3
    rcases or_cases (openR f) with ⟨er, her, hPn, hRn⟩ | ⟨j2, recs, ws, ho⟩
    · obtain ⟨rfl, rfl, rfl, rfl⟩ := tup4 (hPn _ _ _ HO.out.2).1
      have HRN := Lib.hid hRn
      clear hPn hRn
      go_upto_region 3 with (go_at_call 19; refine (HRO.out.mono fun e w' h => HRN.out wp e w' h).mono ?_; rintro _ w5 ⟨rfl, hb5⟩; have H5 := Lib.hid hb5; clear hb5)
      clear p2 p3 HRO
      go_upto_region 5 with (first
        | (go_at_call 20; refine (num_c er).mono ?_; rintro _ _ ⟨rfl, rfl⟩)
        | (go_at_call 14; refine (records_yes (RcRd.nil none) (RcRd.nil none) (by omega)).mono ?_; rintro _ w6 ⟨rfl, hb6⟩; have H6 := Lib.hid hb6; clear hb6)
        | (go_at_call 21; refine (writes_yes (wsAt_nil w6 none) (wsAt_nil w6 none) (by omega)).mono ?_; rintro _ w7 ⟨rfl, hb7⟩; have H7 := Lib.hid hb7; clear hb7))
      go_wp2_with fail
      go_ret
      have hb := Below.then (Below.then (Below.then HBp.out H5.out) H6.out) H7.out
      exact ⟨rfl, j, f, ⟨jg, kg, Fk, A0, c0, A1, c1, (H.out.over hb).mono (fun k hk => .inl hk) (grow_lt H.out.gs hb.size)⟩, HF.out, by omega, Chg.of_below hb _⟩
    · have h1 := HO.out.2
      rw [ho] at h1 HRO
      obtain ⟨_, jg2, vl, vw, Kp, he, hj1, hj2, hj3, hj4, hj5⟩ := h1
      obtain ⟨Al, cl, rfl⟩ := hj4.shapeN hj3
      obtain ⟨Aw, cw, rfl⟩ := hj5.shapeN
      obtain ⟨rfl, rfl, rfl, rfl⟩ := tup4 he
      have HJ : Hid (Jn w.heap.size j2 recs ws jg2 (.slice Al recs.length cl) (.slice Aw ws.length cw) Kp wp) := Lib.hid ⟨hj2, Nat.le_trans HO.out.1.size hj1, hj3, hj4.mono HO.out.1.size, hj5.mono HO.out.1.size⟩
      have HFI := Lib.hid (openR_fine ho)
      have HC := Lib.hid (open_cost ho)
      have HOK := Lib.hid ho
      clear he hj1 hj2 hj3 hj4 hj5 ho
      go_upto_region 3 with (go_at_call 19; refine HRO.out.mono ?_; rintro _ w5 ⟨hb5, kg2, vm, vv, Kr, F, rfl, hr1, hr2, hr3, hr4, hr5⟩; obtain ⟨Am, cm, rfl⟩ := hr4.shapeN hr3; obtain ⟨Av, cv, rfl⟩ := hr5.shapeN; have H5 := Lib.hid hb5; have HR5 := Lib.hid hr1; have HFF := Lib.hid hr2; have HM5 := Lib.hid (And.intro (hr4.rdN hr3) hr5); have HFW := Lib.hid hr5.few; clear hb5 hr1 hr2 hr3 hr4 hr5)
      clear p2 p3 HRO
      have HJ5 := Lib.hid (HJ.out.over H5.out)
      have HRY := Lib.hid (records_yes (c1 := cl) (c2 := cm) (HJ5.out.own.rdN HJ5.out.rc) HM5.out.1 (by have := HFI.out.1.len; have := bodies_le recs; have := HFI.out.2; have h1 : j2.text.length = 18 + bodies j2.recs := textB_length _ _ _; rw [← this] at h1; omega))
      go_upto_region 5 with (first
        | (go_at_call 20; refine (num_c 0).mono ?_; rintro _ _ ⟨rfl, rfl⟩)
        | (go_at_call 14; refine HRY.out.mono ?_; rintro _ w6 ⟨rfl, hb6⟩; have H6 := Lib.hid hb6; clear hb6)
        | (go_at_call 21; refine (writes_yes (w := w6) (HJ5.out.wo.wsN.below H6.out) (HM5.out.2.wsN.below H6.out) (by have := HJ5.out.wo.few; omega)).mono ?_; rintro _ w7 ⟨rfl, hb7⟩; have H7 := Lib.hid hb7; clear hb7))
      have H57 := Lib.hid (Below.then H6.out H7.out)
      have HBW : Hid (Below w.heap.size w w7) := Lib.hid (Below.then (Below.then HBp.out H5.out) H57.out)
      have HNJ := Lib.hid (H.out.jour HBW.out (HJ5.out.pj.below H57.out) HJ5.out.jb (HR5.out.below H57.out) (fun k hk => by have := HFF.out k hk; have := HBp.out.size; have := H57.out.size; omega) (fun hk => by have := HFF.out _ hk; have := HJ.out.pj.lt; omega))
      have z0 : w7.frozen? ⟨pg, 0, none⟩ = false := (H.out.over HBW.out).blk.frozen 0
      have z1 : w7.frozen? ⟨pg, 1, none⟩ = false := (H.out.over HBW.out).blk.frozen 1
      have z2 : w7.cell? ⟨pg, 0, none⟩ = some (.pointer (some ⟨jg, 0, none⟩)) := (H.out.over HBW.out).blk.cell 0
      have z3 : w7.cell? ⟨pg, 1, none⟩ = some (.pointer (some ⟨kg, 0, none⟩)) := (H.out.over HBW.out).blk.cell 1
      go_upto_region 8 with fail
      obtain ⟨wq, hwq⟩ : ∃ wq, wq = (w7.setCell ⟨pg, 0, none⟩ (.pointer (some ⟨jg2, 0, none⟩))).setCell ⟨pg, 1, none⟩ (.pointer (some ⟨kg2, 0, none⟩)) := ⟨_, rfl⟩
      rw [← hwq] at HNJ ⊢
      have hsz : wq.heap.size = w7.heap.size := by rw [hwq]; simp [World.setCell]
      have hvv : WsAt wq Av ws.length ws := by
        rw [hwq]
        exact ((HM5.out.2.below H57.out).chg (two_sets w7 pg _ _) (fun g hg _ e => by have := H.out.gs _ H.out.gp; have := HBp.out.size; omega)).wsN
      have HMK := Lib.hid (makes_any (cap := cv) HNJ.out.1 hvv (by have := HC.out; omega) (by have := HFW.out; omega) (by omega) (-1) (by omega))
      have HQ := Lib.hid hsz
      clear hwq hsz hvv z0 z1 z2 z3
      go_wp2_with (go_at_call 59; refine HMK.out.mono ?_; rintro _ w8 ⟨rfl, ⟨B0, e0, B1, e1, hp8⟩, hc8⟩; have H8 := Lib.hid (And.intro hp8 hc8); clear hp8 hc8)
      go_ret
      have hsz := HQ.out
      have hs8 := H8.out.2.size
      have hsw := HBW.out.size
      refine ⟨rfl, j2, apD ws (-1) f, ⟨_, _, _, _, _, _, _, H8.out.1.mono (fun k hk => ?_) (grow_lt H.out.gs (by omega))⟩, HFI.out.1, ?_, (HNJ.out.2.trans H8.out.2).mono fun k _ e => e ▸ H.out.gp⟩
      · rcases hk with (hk | hk) | hk
        · exact .inl hk
        · exact .inr ⟨hk.1, by omega⟩
        · exact .inr ⟨by omega, hk.2⟩
      · have := apD_len ws (-1) f
        have := HC.out
        omega
set_option maxRecDepth 100000 in
set_option maxHeartbeats 1600000 in
theorem stands_any {w : World} {G : Nat → Prop} {pg : Nat} {j : JP} {f : Fls} (h : POk w G pg j f) (hf : j.Fine) {A1 A2 : Option Addr} {n e1 e2 : Nat} {ws : List Wr} (h1 : WsAt w A1 n ws) (h2 : WsAt w A2 n ws) (hn : n ≤ 1099511627776) (hc : costW ws ≤ 4398046511104) (er k : Int) (hk : k ≤ 9223372036854775807)
    (hl : f.a.length + f.b.length + costW ws ≤ 4398046000000) (ht : Nibs w) :
    Calls Tryd.prog 60 #[.pointer (some ⟨pg, 0, none⟩), .slice A1 n e1, .slice A2 n e2, .int .i64 er, .int .i64 er, .int .i64 k] w (Stays w G pg f (costW ws + 65537)) := by
  obtain ⟨jg, kg, Fk, B0, d0, B1, d1, h⟩ := h
  have HWY := Lib.hid (writes_yes (c1 := e1) (c2 := e2) h1 h2 (by omega))
  have H := Lib.hid h
  have H2 := Lib.hid h2
  have HT := Lib.hid ht
  have HF := Lib.hid hf
  clear h h1 h2 ht hf
  go_enter Tryd.func60, Tryd.ntmps60
  go_upto_region 3 with (first
    | (go_at_call 20; refine (num_c er).mono ?_; rintro _ _ ⟨rfl, rfl⟩)
    | (go_at_call 21; refine HWY.out.mono ?_; rintro _ w3 ⟨rfl, hb3⟩; have H3 := Lib.hid hb3; clear hb3))
  have HMK := Lib.hid (makes_any (cap := e2) (H.out.over H3.out) (H2.out.below H3.out) hc hn (by omega) k hk)
  go_upto_region 4 with (go_at_call 59; refine HMK.out.mono ?_; rintro _ w4 ⟨rfl, ⟨C0, q0, C1, q1, hp4⟩, hc4⟩; have H4 := Lib.hid (And.intro hp4 hc4); clear hp4 hc4)
  have HG4 : Hid (PAt w4 (Grow G w w4) pg jg kg Fk C0 q0 C1 q1 j (apD ws k f)) := Lib.hid (H4.out.1.mono (fun i hi => hi.elim .inl fun hh => .inr ⟨Nat.le_trans H3.out.size hh.1, hh.2⟩) (grow_lt H.out.gs (Nat.le_trans H3.out.size H4.out.2.size)))
  have HCG : Hid (Chg G w w4) := Lib.hid (((Chg.of_below H3.out _).trans H4.out.2).mono fun i _ e => e ▸ H.out.gp)
  have hlen := apD_len ws k f
  have HLEN := Lib.hid hlen
  have hnt : 0 ≠ pg := by
    obtain ⟨A, B, hB⟩ : ∃ A B, Blk w pg 108 #[.pointer A, .pointer B, .slice B0 f.a.length d0, .slice B1 f.b.length d1] := ⟨_, _, H.out.blk⟩
    exact fun e => by
      have h0 := HT.out 0 (by omega)
      subst e
      rw [hB.cell 0] at h0
      cases h0
  have HNT : Hid (Nibs w4) := Lib.hid ((HT.out.below H3.out).chg H4.out.2 hnt)
  have HRE := Lib.hid (reopens_any (w := w4) (f := apD ws k f) ⟨jg, kg, Fk, C0, q0, C1, q1, HG4.out⟩ HF.out (by omega) HNT.out)
  have hfin : Hid (Stays w G pg f (costW ws + 65537) (.returned (.bool true)) w4) := Lib.hid ⟨rfl, j, _, ⟨_, _, _, _, _, _, _, HG4.out⟩, HF.out, by have := HLEN.out; omega, HCG.out⟩
  clear hlen hnt
  by_cases hk0 : k < 0
  · have d1 : decide (k < 0) = true := by simpa using hk0
    go_wp2_with fail
    go_ret
    exact hfin.out
  · have d1 : decide (k < 0) = false := by simpa using hk0
    by_cases he : er = 0
    · have d2 : (er != 0) = false := by simpa using he
      have HE := Lib.hid he
      clear he
      go_wp2_with (first
        | (go_at_call 20; refine (num_c er).mono ?_; rintro _ _ ⟨rfl, rfl⟩)
        | (go_at_call 62; refine HRE.out.mono ?_; rintro _ w5 ⟨rfl, j5, f5, hp5, hf5, hl5, hc5⟩; have H5 := Lib.hid (And.intro hp5 (And.intro hf5 (And.intro hl5 hc5))); clear hp5 hf5 hl5 hc5))
      go_ret
      have hs5 := H5.out.2.2.2.size
      have hs4 := HCG.out.size
      exact ⟨rfl, j5, f5, H5.out.1.mono (grow_grow hs4 hs5) (grow_lt H.out.gs (by omega)), H5.out.2.1, len_add H5.out.2.2.1 HLEN.out, HCG.out.thenS H5.out.2.2.2 fun i hi hg => hg.elim id fun hh => by omega⟩
    · have d2 : (er != 0) = true := by simpa using he
      have HE := Lib.hid he
      clear he
      go_wp2_with (go_at_call 20; refine (num_c er).mono ?_; rintro _ _ ⟨rfl, rfl⟩)
      go_ret
      exact hfin.out
end Go.Proofs.YtpkdalpjfcopbaaDoor
