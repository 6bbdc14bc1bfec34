/-
  Book.Write: a list is written full with marks of its own, appended to, and kept.
-/
import Derived.Test.YtffcepaegcllmaaDoorKeepB
namespace Go.Proofs.YtffcepaegcllmaaDoor
open Go.RowKit

theorem Write_close {FP : Nat → Prop} {gb : Nat} {os ts : List Pg} {next : Int} {tv : Value} {Ap Ab Ag Aq : Option Addr} {L capp capb capg capq n : Nat} {w w3 w4 : World}
    (hbk : BookIs w FP gb os ts next (.slice Ap L capp) tv) (hL : os.length = L) (hch3 : Chg (fun k => RowS gb (.slice Ap L capp) k ∨ (Value.slice Ab n capb).ownBlock = some k) w w3) (hB3 : Blk w3 gb 52 #[.slice Ap L capp, tv, .int .i64 (next + 1)])
    (hrows3 : w3.ownsRow 0 95 5 (.slice Ap L capp) L (os.flatMap Pg.cells)) {xs : List Value} (hownb : w.ownsRow 0 5 1 (.slice Ab n capb) n xs)
    (hob : w3.ownsRow 0 5 1 (.slice Ab n capb) n (bpl (next + 1) n)) (hog : w3.ownsRow 0 5 1 (.slice Ag (n + 64) capg) (n + 64) (bpl (next + 1) n ++ bpl (next + 1 + 100000) 64))
    (hat : (Value.slice Ag (n + 64) capg).ownBlock = (Value.slice Ab n capb).ownBlock ∨ ∃ g, (Value.slice Ag (n + 64) capg).ownBlock = some g ∧ w.heap.size ≤ g)
    (hop : w4.ownsRow 0 95 5 (.slice Aq (L + 1) capq) (L + 1) (os.flatMap Pg.cells ++ [.slice Ab n capb, .slice Ag (n + 64) capg, .slice none 0 0, .int .i64 (next + 1), .bool true]))
    (hgp : w3.grownBy w4 (Value.slice Ap L capp).ownBlock) (hatq : (Value.slice Aq (L + 1) capq).ownBlock = (Value.slice Ap L capp).ownBlock ∨ ∃ g, (Value.slice Aq (L + 1) capq).ownBlock = some g ∧ w.heap.size ≤ g)
    (hfb : ∀ g, (Value.slice Ab n capb).ownBlock = some g → FP g) (hn : n + 64 ≤ 140737488355328) (hx0 : 0 ≤ next) (hx1 : next ≤ 900) (hap : ∀ g, (Value.slice Ab n capb).ownBlock = some g → ∀ p ∈ os, ¬ p.blks g) :
    ∃ pv' q, BookIs (w4.setCell ⟨gb, 0, none⟩ (.slice Aq (L + 1) capq)) FP gb (os ++ [q]) ts (next + 1) pv' tv ∧ q.st ≠ 1 ∧ (∀ g, q.blks g → (Value.slice Ab n capb).ownBlock = some g ∨ w.heap.size ≤ g) ∧
      Chg (fun k => RowS gb (.slice Ap L capp) k ∨ (Value.slice Ab n capb).ownBlock = some k) w (w4.setCell ⟨gb, 0, none⟩ (.slice Aq (L + 1) capq)) := by
  have hrow := hbk.B.rows
  have hch4 : Chg (fun k => RowS gb (.slice Ap L capp) k ∨ (Value.slice Ab n capb).ownBlock = some k) w w4 := hch3.thenS (Chg.of_grown hgp) (fun i _ h => .inl (.inr h.symm))
  have hchF := hch4.setCell (p := ⟨gb, 0, none⟩) (.inl (.inl (.inl rfl))) (.slice Aq (L + 1) capq)
  have hBg4 : Blk w4 gb 52 #[.slice Ap L capp, tv, .int .i64 (next + 1)] := by
    refine hB3.grown hgp (fun h => ?_)
    obtain ⟨_, _, cg, hBg⟩ := own_block_lt hrows3 h.symm
    exact hBg.ne_ hB3 (by decide) rfl
  have hstep : Chg (RowS gb (.slice Ap L capp)) w3 (w4.setCell ⟨gb, 0, none⟩ (.slice Aq (L + 1) capq)) :=
    ((Chg.of_grown hgp).mono (fun k _ h => .inr h.symm)).setCell (p := ⟨gb, 0, none⟩) (.inl (.inl rfl)) _
  have hE3 : ∀ g, IsT w3 5 g → ¬ RowS gb (.slice Ap L capp) g := by
    rintro g ht (h | h)
    · subst h; exact absurd (ht.eq_ hB3.isT) (by decide)
    · exact absurd (ht.eq_ (own_isT hrows3 h)) (by decide)
  have hE : ∀ g, IsT w 5 g → ¬ RowS gb (.slice Ap L capp) g := by
    rintro g ht (h | h)
    · subst h; exact absurd (ht.eq_ hbk.blk.isT) (by decide)
    · exact absurd (ht.eq_ (own_isT hrow h)) (by decide)
  have hother : ∀ g, (IsT w 3 g ∨ IsT w 97 g) → ¬ (RowS gb (.slice Ap L capp) g ∨ (Value.slice Ab n capb).ownBlock = some g) := by
    rintro g ht ((h | h) | h)
    · subst h
      rcases ht with ht | ht <;> exact absurd (ht.eq_ hbk.blk.isT) (by decide)
    · rcases ht with ht | ht <;> exact absurd (ht.eq_ (own_isT hrow h)) (by decide)
    · rcases ht with ht | ht <;> exact absurd (ht.eq_ (own_isT hownb h)) (by decide)
  have hq : PgOk KB (w4.setCell ⟨gb, 0, none⟩ (.slice Aq (L + 1) capq)) ⟨.slice Ab n capb, n, bpl (next + 1) n, .slice Ag (n + 64) capg, .slice none 0 0, next + 1, 2⟩ :=
    ⟨own_chg hob hstep (fun g hg => hE3 g (own_isT hob hg)), hn, by simp only; omega, by simp only; omega, ⟨_, rfl⟩, fun h => by simp at h, fun _ => rfl, fun _ => own_chg hog hstep (fun g hg => hE3 g (own_isT hog hg)), by simp, ⟨_, _, _, rfl⟩, ⟨_, _, _, rfl⟩⟩
  have hqb : ∀ g, Pg.blks ⟨.slice Ab n capb, n, bpl (next + 1) n, .slice Ag (n + 64) capg, .slice none 0 0, next + 1, 2⟩ g → (Value.slice Ab n capb).ownBlock = some g ∨ w.heap.size ≤ g := by
    rintro g (hq | ⟨h, _⟩ | ⟨_, hq⟩)
    · exact .inl hq
    · simp at h
    · rcases hat with h | ⟨g', h, hlt⟩
      · exact .inl (h.symm.trans hq)
      · have e : g = g' := Option.some.inj (hq.symm.trans h)
        exact .inr (by omega)
  refine ⟨.slice Aq (L + 1) capq, ⟨.slice Ab n capb, n, bpl (next + 1) n, .slice Ag (n + 64) capg, .slice none 0 0, next + 1, 2⟩, ⟨?_, fun k hk => hbk.new k (Nat.le_trans hchF.size hk), hbk.fpb, ?_, ?_⟩, by simp, hqb, hchF⟩
  · exact hBg4.set_ 0 _
  
  · refine hbk.B.add hchF (fun p hp g hg h => ?_) ?_ ?_ hq ?_ ?_
    · rcases h with h | h
      · exact hE g ((hbk.B.pages p hp).blk_isT hg) h
      · exact hap g h p hp hg
    · rw [hL]
      refine own_chg (S := fun x => x = gb) hop ((Chg.refl (fun x => x = gb) w4).setCell (p := ⟨gb, 0, none⟩) (.inl rfl) _) (fun g hg hgp' => ?_)
      obtain ⟨_, _, cg, hBg⟩ := own_block_lt hop hg
      subst hgp'
      exact hBg.ne_ hBg4 (by decide) rfl
    · intro g hg
      rcases hatq with h | ⟨g', h, hlt⟩
      · exact hbk.B.fr g (h.symm.trans hg)
      · have e : g = g' := Option.some.inj (hg.symm.trans h)
        exact hbk.new g (by omega)
    · intro g hg
      rcases hqb g hg with h | h
      · exact hfb g h
      · exact hbk.new g h
    · intro g hg p hp hpg
      rcases hqb g hg with h | h
      · exact hap g h p hp hpg
      · have := ((hbk.B.pages p hp).blk_lt hpg).1
        omega
  · exact hbk.I.chg hchF fun g _ _ ht => hother g ht

set_option maxRecDepth 100000 in
set_option maxHeartbeats 3200000 in
theorem Write_any (FP : Nat → Prop) (gb : Nat) (os ts : List Pg) (next : Int) (pv tv : Value) (bv : Value) (n : Nat) (xs : List Value) (w : World) (hbk : BookIs w FP gb os ts next pv tv) (hlen : os.length < 96)
    (hown : w.ownsRow 0 5 1 bv n xs) (hfb : ∀ g, bv.ownBlock = some g → FP g) (hn : n + 64 ≤ 140737488355328) (hx0 : 0 ≤ next) (hx1 : next ≤ 900) (hap : ∀ g, bv.ownBlock = some g → ∀ p ∈ os, ¬ p.blks g) :
    Calls Tryd.prog 18 #[.pointer (some ⟨gb, 0, none⟩), bv] w fun e w' => e = .returned (.tuple #[]) ∧ ∃ pv' q, BookIs w' FP gb (os ++ [q]) ts (next + 1) pv' tv ∧ q.st ≠ 1 ∧ (∀ g, q.blks g → bv.ownBlock = some g ∨ w.heap.size ≤ g) ∧ Chg (fun k => RowS gb pv k ∨ bv.ownBlock = some k) w w' := by
  obtain ⟨i0, hi0, hz0, hz1, hz2⟩ := info_parts info_u8
  obtain ⟨j0, hj0, hy0, hy1, hy2⟩ := info_parts info_pageB
  have hrows := hbk.B.rows
  obtain ⟨Ap, capp, rfl, hcp, _⟩ := own_shape hrows
  obtain ⟨Ab, capb, rfl, hcb, _⟩ := own_shape hown
  have hgb := hbk.blk.lt
  have c0 : w.cell? ⟨gb, 0, none⟩ = some (.slice Ap os.length capp) := by rw [hbk.blk.cell]; rfl
  have c2 : w.cell? ⟨gb, 2, none⟩ = some (.int .i64 next) := by rw [hbk.blk.cell]; rfl
  have f2 := hbk.blk.frozen 2
  generalize hL : os.length = L at *
  have HL := Lib.hid hL
  clear hL
  obtain ⟨w1, hw1⟩ : ∃ w1, w1 = w.setCell ⟨gb, 2, none⟩ (.int .i64 (next + 1)) := ⟨_, rfl⟩
  have hch1 : Chg (RowS gb (.slice Ap L capp)) w w1 := by rw [hw1]; exact (Chg.refl _ _).setCell (p := ⟨gb, 2, none⟩) (.inl (.inl rfl)) _
  have hB1 : Blk w1 gb 52 #[.slice Ap L capp, tv, .int .i64 (next + 1)] := by rw [hw1]; exact hbk.blk.set_ 2 _
  have hz : w1.heap.size = w.heap.size := by rw [hw1]; simp [World.setCell]
  have hrows1 : w1.ownsRow 0 95 5 (.slice Ap L capp) L (os.flatMap Pg.cells) := by
    rw [hw1]
    refine own_chg (S := fun x => x = gb) hrows ((Chg.refl (fun x => x = gb) w).setCell (p := ⟨gb, 2, none⟩) (.inl rfl) _) (fun g hg hgp => ?_)
    obtain ⟨_, _, cg, hBg⟩ := own_block_lt hrows hg
    subst hgp
    exact hBg.ne_ hbk.blk (by decide) rfl
  have hown1 := own_chg hown hch1 (fun g hg h => by
    have ht := own_isT hown hg
    rcases h with h | h
    · subst h; exact absurd (ht.eq_ hbk.blk.isT) (by decide)
    · exact absurd (ht.eq_ (own_isT hrows h)) (by decide))
  have k0 : w1.cell? ⟨gb, 0, none⟩ = some (.slice Ap L capp) := by rw [hB1.cell]; rfl
  have k2 : w1.cell? ⟨gb, 2, none⟩ = some (.int .i64 (next + 1)) := by rw [hB1.cell]; rfl
  have hgb1 : gb < w1.heap.size := hB1.lt
  go_enter Tryd.func18, Tryd.ntmps18
  go_wp2_with fail
  rw [← hw1]
  rw [← hz]
  have HW := Lib.hid hw1
  have HZ := Lib.hid hz
  have HBK := Lib.hid hbk
  have HFB := Lib.hid hfb
  have HAP := Lib.hid hap
  have HOWN := Lib.hid hown
  clear hw1 hz c0 c2 f2 hbk hrows k2 hfb hap hown
  have hBp := Blk.new w1 95 #[.slice Ab n capb, .slice none 0 0, .slice none 0 0, .int .i64 (next + 1), .bool false]
  have halb : Below w1.heap.size w1 (w1.alloc (.cells #[.slice Ab n capb, .slice none 0 0, .slice none 0 0, .int .i64 (next + 1), .bool false] 95)) := (Below.refl _ _).alloc (Nat.le_refl _) _
  refine (fillB_any 0 w1.heap.size 0 95 _ _ n xs (next + 1) _ hBp (by decide) rfl rfl (by simp) (own_over hown1 halb) (by omega) (by omega) (by omega)).mono ?_
  rintro _ w2 ⟨rfl, hB2, hob2, hc2⟩
  go_wp2_with fail
  refine (growB_any 0 w1.heap.size 0 95 _ _ n (bpl (next + 1) n) (next + 1) _ hB2 (by decide) rfl (by simp) rfl hob2 (by have := hc2.size; simp at this; omega) (by omega) (by omega) hn).mono ?_
  rintro _ w3 ⟨rfl, gv, hB3, hob3, hog3, hat3, hc3⟩
  obtain ⟨Ag, capg, rfl, hcg, _⟩ := own_shape hog3
  have hnS : ∀ g t cg, Blk w1 g t cg → t ≠ 5 → ¬ (g = w1.heap.size ∨ (Value.slice Ab n capb).ownBlock = some g) := by
    rintro g t cg hBg ht (h | h)
    · have := hBg.lt; omega
    · obtain ⟨_, _, c2, h2⟩ := own_block_lt hown1 h
      exact hBg.ne_ h2 ht rfl
  have hch13 : Chg (fun k => k = w1.heap.size ∨ (Value.slice Ab n capb).ownBlock = some k) w1 w3 := ((Chg.of_below halb _).trans hc2).trans hc3
  have hBg3 : Blk w3 gb 52 #[.slice Ap L capp, tv, .int .i64 (next + 1)] := hB1.chg hch13 (hnS gb _ _ hB1 (by decide))
  have hrows3 : w3.ownsRow 0 95 5 (.slice Ap L capp) L (os.flatMap Pg.cells) := own_chg hrows1 hch13 (fun g hg => by
    obtain ⟨_, _, cg, hBg⟩ := own_block_lt hrows1 hg
    exact hnS g _ _ hBg (by decide))
  have hf3 := hBg3.frozen 0
  have hgb3 : gb < w3.heap.size := hBg3.lt
  have q0 : w3.cell? ⟨gb, 0, none⟩ = some (.slice Ap L capp) := by rw [hBg3.cell]; rfl
  have d0 : w3.cell? ⟨w1.heap.size, 0, none⟩ = some (.slice Ab n capb) := by rw [hB3.cell]; rfl
  have d1 : w3.cell? ⟨w1.heap.size, 1, none⟩ = some (.slice Ag (n + 64) capg) := by rw [hB3.cell]; rfl
  have d2 : w3.cell? ⟨w1.heap.size, 2, none⟩ = some (.slice none 0 0) := by rw [hB3.cell]; rfl
  have d3 : w3.cell? ⟨w1.heap.size, 3, none⟩ = some (.int .i64 (next + 1)) := by rw [hB3.cell]; rfl
  have d4 : w3.cell? ⟨w1.heap.size, 4, none⟩ = some (.bool true) := by rw [hB3.cell]; rfl
  have hne : (Value.slice Ap L capp).ownBlock ≠ some gb := fun h => by
    obtain ⟨_, _, cg, hBg⟩ := own_block_lt hrows3 h
    exact hBg.ne_ hBg3 (by decide) rfl
  have HC := Lib.hid hch1
  have HB3 := Lib.hid hBg3
  have HC13 := Lib.hid hch13
  have HAT := Lib.hid hat3
  have hs2 : w1.heap.size ≤ w2.heap.size := by have := hc2.size; simp at this; omega
  have hs3 : w1.heap.size ≤ w3.heap.size := hch13.size
  clear hch1 hBg3 hch13 hB3 hB2 hc2 hc3 halb hBp k0 hB1 hat3
  go_wp2_with fail
  go_region_law ((refine step_appN w3.drew (by rfl) _ _ 49 (by rfl) 0 95 j0 _ 5 88 Tryd.underlying49 hj0 hy0 hy1 hy2 rfl (by omega) (.slice Ap L capp) L (os.flatMap Pg.cells) (by rfl) hrows3.drew _ rfl (by rfl) (by simp [Value.oneCell']) (by simp only [maxLen]; omega) (by omega) (by first | omega | (simp; omega)) ?_
                  intro pv' w4 hop hbp hgp hap'
                  obtain ⟨Aq, capq, rfl, hcq, _⟩ := own_shape hop
                  have q4 : w4.cell? ⟨gb, 0, none⟩ = some (.slice Ap L capp) := (hgp.cell_far ⟨gb, 0, none⟩ hgb3 (Ne.symm hne)).trans q0
                  have hf4 : w4.frozen? ⟨gb, 0, none⟩ = false := (hgp.frozen_far ⟨gb, 0, none⟩ hgb3 (Ne.symm hne)).trans hf3))
  all_goals
    go_end0
    refine ⟨rfl, Write_close HBK.out HL.out ?_ HB3.out hrows3 HOWN.out hob3 hog3 ?_ (by simpa using hop) ⟨hgp.os, hgp.tape, hgp.output, hgp.size, hgp.block⟩ ?_ HFB.out hn hx0 hx1 HAP.out⟩
    · exact (HC.out.mono (fun _ _ h => .inl h)).thenS HC13.out (fun i hi h => by
        rcases h with h | h
        · have := HZ.out; omega
        · exact .inr h)
    · rcases HAT.out with h | ⟨g, h, hlt⟩
      · exact .inl h
      · exact .inr ⟨g, h, by have := HZ.out; omega⟩
    · exact hap'.imp id fun h => ⟨_, h, Nat.le_trans (Nat.le_trans (Nat.le_of_eq HZ.out.symm) hs3) (Nat.le_succ _)⟩
end Go.Proofs.YtffcepaegcllmaaDoor
