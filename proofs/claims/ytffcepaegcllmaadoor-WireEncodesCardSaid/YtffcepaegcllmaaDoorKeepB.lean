/-
  Book.Keep: a list is kept untouched.
-/
import Derived.Test.YtffcepaegcllmaaDoorBook
namespace Go.Proofs.YtffcepaegcllmaaDoor
open Go.RowKit

theorem info_pageB : (Tryd.prog.info? 95).map (fun i => (i.zero, i.size, i.bytes)) = some (some (.agg #[.slice none 0 0, .slice none 0 0, .slice none 0 0, .int .i64 0, .bool false]), 5, 88) := by kernel_rfl

theorem Keep_close {FP : Nat → Prop} {gb : Nat} {os ts : List Pg} {next : Int} {tv : Value} {Ap Ab Aw Aq : Option Addr} {L capp capb capw capq n : Nat} {bs : List UInt8} {w w1 w2 w3 : World}
    (hbk : BookIs w FP gb os ts next (.slice Ap L capp) tv) (hL : os.length = L) (hch : Chg (RowS gb (.slice Ap L capp)) w w1) (hz : w1.heap.size = w.heap.size) (hB1 : Blk w1 gb 52 #[.slice Ap L capp, tv, .int .i64 (next + 1)])
    (hb2 : Below w1.heap.size w1 w2) (how : w2.ownsRow w1.heap.size 5 1 (.slice Aw (0 + n) capw) (0 + n) ([] ++ bvs bs))
    (hop : w3.ownsRow 0 95 5 (.slice Aq (L + 1) capq) (L + 1) (os.flatMap Pg.cells ++ [.slice Ab n capb, .slice none 0 0, .slice Aw (0 + n) capw, .int .i64 (next + 1), .bool false]))
    (hgp : w2.grownBy w3 (Value.slice Ap L capp).ownBlock) (hat : (Value.slice Aq (L + 1) capq).ownBlock = (Value.slice Ap L capp).ownBlock ∨ ∃ g, (Value.slice Aq (L + 1) capq).ownBlock = some g ∧ w.heap.size ≤ g)
    (hown : w.ownsRow 0 5 1 (.slice Ab n capb) n (bvs bs)) (hfb : ∀ g, (Value.slice Ab n capb).ownBlock = some g → FP g) (hn : n + 64 ≤ 140737488355328) (hx0 : 0 ≤ next) (hx1 : next ≤ 900) (hap : ∀ g, (Value.slice Ab n capb).ownBlock = some g → ∀ p ∈ os, ¬ p.blks g) :
    ∃ pv' q, BookIs (w3.setCell ⟨gb, 0, none⟩ (.slice Aq (L + 1) capq)) FP gb (os ++ [q]) ts (next + 1) pv' tv ∧ q.st ≠ 1 ∧ (∀ g, q.blks g → (Value.slice Ab n capb).ownBlock = some g ∨ w.heap.size ≤ g) ∧ Chg (RowS gb (.slice Ap L capp)) w (w3.setCell ⟨gb, 0, none⟩ (.slice Aq (L + 1) capq)) := by
  have hrow := hbk.B.rows
  have hch3 : Chg (RowS gb (.slice Ap L capp)) w w3 := (hch.thenS (Chg.of_below hb2 (fun _ => False)) (fun _ _ h => h.elim)).thenS (Chg.of_grown hgp) (fun i _ h => .inr h.symm)
  have hchF : Chg (RowS gb (.slice Ap L capp)) w (w3.setCell ⟨gb, 0, none⟩ (.slice Aq (L + 1) capq)) := hch3.setCell (p := ⟨gb, 0, none⟩) (.inl (.inl rfl)) _
  have hBg3 : Blk w3 gb 52 #[.slice Ap L capp, tv, .int .i64 (next + 1)] := by
    refine (hB1.over hb2).grown hgp (fun h => ?_)
    obtain ⟨_, _, cg, hBg⟩ := own_block_lt hrow h.symm
    exact hBg.ne_ hbk.blk (by decide) rfl
  have how2 := how
  rw [Nat.zero_add, List.nil_append] at how2
  rw [Nat.zero_add] at hop
  have hstep : Chg (RowS gb (.slice Ap L capp)) w2 (w3.setCell ⟨gb, 0, none⟩ (.slice Aq (L + 1) capq)) :=
    ((Chg.of_grown hgp).mono (fun k _ h => .inr h.symm)).setCell (p := ⟨gb, 0, none⟩) (.inl (.inl rfl)) _
  have hge := fun (g : Nat) (hg : (Value.slice Aw n capw).ownBlock = some g) => own_block_lt how2 hg
  have hE : ∀ g, IsT w 5 g → ¬ RowS gb (.slice Ap L capp) g := by
    rintro g ht (h | h)
    · subst h; exact absurd (ht.eq_ hbk.blk.isT) (by decide)
    · exact absurd (ht.eq_ (own_isT hrow h)) (by decide)
  have hq : PgOk KB (w3.setCell ⟨gb, 0, none⟩ (.slice Aq (L + 1) capq)) ⟨.slice Ab n capb, n, bvs bs, .slice none 0 0, .slice Aw n capw, next + 1, 0⟩ := by
    refine ⟨own_chg hown hchF (fun g hg => hE g (own_isT hown hg)), hn, by simp only; omega, by simp only; omega, ⟨bs, rfl⟩, fun _ => ?_, fun h => absurd rfl h, fun h => by simp at h, by simp, ⟨_, _, _, rfl⟩, ⟨_, _, _, rfl⟩⟩
    refine own_base (own_chg how2 hstep (fun g hg h => ?_)) (by omega)
    obtain ⟨_, h2, cg, hBg⟩ := hge g hg
    rcases h with h | h
    · subst h
      have := hB1.lt
      omega
    · obtain ⟨h3, _, _, _⟩ := own_block_lt hrow h
      omega
  have hqb : ∀ g, Pg.blks ⟨.slice Ab n capb, n, bvs bs, .slice none 0 0, .slice Aw n capw, next + 1, 0⟩ g → (Value.slice Ab n capb).ownBlock = some g ∨ w.heap.size ≤ g := by
    rintro g (hq | ⟨_, hq⟩ | ⟨h, _⟩)
    · exact .inl hq
    · have h1 := (hge g hq).2.1
      exact .inr (by omega)
    · simp at h
  refine ⟨.slice Aq (L + 1) capq, ⟨.slice Ab n capb, n, bvs bs, .slice none 0 0, .slice Aw n capw, next + 1, 0⟩, ⟨?_, fun k hk => hbk.new k (Nat.le_trans hchF.size hk), hbk.fpb, ?_, ?_⟩, by simp, hqb, hchF⟩
  · exact hBg3.set_ 0 _
  
  · refine hbk.B.add hchF (fun p hp g hg => hE g ((hbk.B.pages p hp).blk_isT hg)) ?_ ?_ hq ?_ ?_
    · rw [hL]
      refine own_chg (S := fun x => x = gb) hop ((Chg.refl (fun x => x = gb) w3).setCell (p := ⟨gb, 0, none⟩) (.inl rfl) _) (fun g hg hgp' => ?_)
      obtain ⟨_, _, cg, hBg⟩ := own_block_lt hop hg
      subst hgp'
      exact hBg.ne_ hBg3 (by decide) rfl
    · intro g hg
      rcases hat with h | ⟨g', h, hlt⟩
      · exact hbk.B.fr g (h.symm.trans hg)
      · have e : g = g' := Option.some.inj (hg.symm.trans h)
        exact hbk.new g (by omega)
    · intro g hg
      rcases hqb g hg with h | h
      · exact hfb g h
      · exact hbk.new g h
    · intro g hg p hp hpg
      rcases hqb g hg with h | h
      · exact hap g h p hp hpg
      · have := ((hbk.B.pages p hp).blk_lt hpg).1
        omega
  · refine hbk.I.chg hchF fun g _ _ ht h => ?_
    rcases h with h | h
    · subst h
      rcases ht with ht | ht <;> exact absurd (ht.eq_ hbk.blk.isT) (by decide)
    · rcases ht with ht | ht <;> exact absurd (ht.eq_ (own_isT hrow h)) (by decide)

set_option maxRecDepth 100000 in
set_option maxHeartbeats 3200000 in
theorem Keep_any (FP : Nat → Prop) (gb : Nat) (os ts : List Pg) (next : Int) (pv tv : Value) (bv : Value) (n : Nat) (bs : List UInt8) (w : World) (hbk : BookIs w FP gb os ts next pv tv) (hlen : os.length < 96)
    (hown : w.ownsRow 0 5 1 bv n (bvs bs)) (hfb : ∀ g, bv.ownBlock = some g → FP g) (hn : n + 64 ≤ 140737488355328) (hx0 : 0 ≤ next) (hx1 : next ≤ 900) (hap : ∀ g, bv.ownBlock = some g → ∀ p ∈ os, ¬ p.blks g) :
    Calls Tryd.prog 17 #[.pointer (some ⟨gb, 0, none⟩), bv] w fun e w' => e = .returned (.tuple #[]) ∧ ∃ pv' q, BookIs w' FP gb (os ++ [q]) ts (next + 1) pv' tv ∧ q.st ≠ 1 ∧ (∀ g, q.blks g → bv.ownBlock = some g ∨ w.heap.size ≤ g) ∧ Chg (RowS gb pv) w w' := by
  obtain ⟨i0, hi0, hz0, hz1, hz2⟩ := info_parts info_u8
  obtain ⟨j0, hj0, hy0, hy1, hy2⟩ := info_parts info_pageB
  have hrows := hbk.B.rows
  obtain ⟨Ap, capp, rfl, hcp, _⟩ := own_shape hrows
  obtain ⟨Ab, capb, rfl, hcb, _⟩ := own_shape hown
  have hrb := Rd.of_own hown
  have hgb := hbk.blk.lt
  have c0 : w.cell? ⟨gb, 0, none⟩ = some (.slice Ap os.length capp) := by rw [hbk.blk.cell]; rfl
  have c2 : w.cell? ⟨gb, 2, none⟩ = some (.int .i64 next) := by rw [hbk.blk.cell]; rfl
  have f2 := hbk.blk.frozen 2
  generalize hL : os.length = L at *
  have HL := Lib.hid hL
  clear hL
  obtain ⟨w1, hw1⟩ : ∃ w1, w1 = w.setCell ⟨gb, 2, none⟩ (.int .i64 (next + 1)) := ⟨_, rfl⟩
  have hch1 : Chg (RowS gb (.slice Ap L capp)) w w1 := by rw [hw1]; exact (Chg.refl _ _).setCell (p := ⟨gb, 2, none⟩) (.inl (.inl rfl)) _
  have hB1 : Blk w1 gb 52 #[.slice Ap L capp, tv, .int .i64 (next + 1)] := by rw [hw1]; exact hbk.blk.set_ 2 _
  have hz : w1.heap.size = w.heap.size := by rw [hw1]; simp [World.setCell]
  have hrows1 : w1.ownsRow 0 95 5 (.slice Ap L capp) L (os.flatMap Pg.cells) := by
    rw [hw1]
    refine own_chg (S := fun x => x = gb) hrows ((Chg.refl (fun x => x = gb) w).setCell (p := ⟨gb, 2, none⟩) (.inl rfl) _) (fun g hg hgp => ?_)
    obtain ⟨_, _, cg, hBg⟩ := own_block_lt hrows hg
    subst hgp
    exact hBg.ne_ hbk.blk (by decide) rfl
  have hrb1 : RdB w1 w1.heap.size Ab n bs := by
    refine Rd.of_own (c := capb) (own_chg hown hch1 (fun g hg h => ?_))
    have ht := own_isT hown hg
    rcases h with h | h
    · subst h; exact absurd (ht.eq_ hbk.blk.isT) (by decide)
    · exact absurd (ht.eq_ (own_isT hrows h)) (by decide)
  go_enter Tryd.func17, Tryd.ntmps17
  go_wp2_with fail
  rw [← hw1]
  have k0 : w1.cell? ⟨gb, 0, none⟩ = some (.slice Ap L capp) := by rw [hB1.cell]; rfl
  have k2 : w1.cell? ⟨gb, 2, none⟩ = some (.int .i64 (next + 1)) := by rw [hB1.cell]; rfl
  have hgb1 : gb < w1.heap.size := hB1.lt
  have hf1 := hB1.frozen 0
  have hne : (Value.slice Ap L capp).ownBlock ≠ some gb := fun h => by
    obtain ⟨_, _, cg, hBg⟩ := own_block_lt hrows1 h
    exact hBg.ne_ hB1 (by decide) rfl
  have HW := Lib.hid hw1
  have HZ := Lib.hid hz
  have HCH := Lib.hid hch1
  have HBK := Lib.hid hbk
  have HB1 := Lib.hid hB1
  have HFB := Lib.hid hfb
  have HAP := Lib.hid hap
  clear hw1 c0 c2 f2 hch1 hbk hz hB1 hrb hrows hfb hap
  go_region_law (first
      | (refine step_append_any _ (by rfl) _ _ 36 (by rfl) w1.heap.size 5 i0 _ 1 1 u_bytes hi0 hz0 hz1 hz2 rfl (by omega) _ 0 [] (by rfl) ((ownsRow_empty w1 w1.heap.size 5 1 (Nat.le_refl _)).drew) w1.heap.size Ab n capb (bvs bs) (by rfl) ((hrb1.below ((Below.refl _ _).alloc (Nat.le_refl _) _)).keep fun _ _ => rfl) (bvs_one bs) (by simp only [maxLen]; omega) (by omega) (by simp) ?_
         intro wv w2 how hgw hat
         have hb2 : Below w1.heap.size w1 w2 := (((Below.refl _ _).alloc (Nat.le_refl _) _).drew).trans (below_app ((ownsRow_empty w1 w1.heap.size 5 1 (Nat.le_refl _)).drew) hgw (by simp))
         have hrw2 := own_over hrows1 hb2
         have hbs2 := hb2.size
         have hgb2 : gb < w2.heap.size := by omega
         have q0 := (hb2.cell (p := ⟨gb, 0, none⟩) hgb1).trans k0
         have q2 := (hb2.cell (p := ⟨gb, 2, none⟩) hgb1).trans k2
         have hf2 : w2.frozen? ⟨gb, 0, none⟩ = false := (hb2.frozen (p := ⟨gb, 0, none⟩) hgb1).trans hf1
         obtain ⟨Aw, capw, rfl, hcw, _⟩ := own_shape how)
      | (refine step_appN _ (by rfl) _ _ 49 (by rfl) 0 95 j0 _ 5 88 Tryd.underlying49 hj0 hy0 hy1 hy2 rfl (by omega) (.slice Ap L capp) L (os.flatMap Pg.cells) (by rfl) (by first | exact hrw2 | exact hrw2.drew) _ rfl (by rfl) (by simp [Value.oneCell']) (by simp only [maxLen]; omega) (by omega) (by first | omega | (simp; omega)) ?_
         intro pv' w3 hop hbp hgp hap'
         obtain ⟨Aq, capq, rfl, hcq, _⟩ := own_shape hop
         have q3 : w3.cell? ⟨gb, 0, none⟩ = some (.slice Ap L capp) := (hgp.cell_far ⟨gb, 0, none⟩ (by first | omega | (show gb < _; omega)) (Ne.symm hne)).trans q0
         have hf3 : w3.frozen? ⟨gb, 0, none⟩ = false := (hgp.frozen_far ⟨gb, 0, none⟩ (by first | omega | (show gb < _; omega)) (Ne.symm hne)).trans hf2))
  all_goals
    go_end0
    refine ⟨rfl, Keep_close HBK.out HL.out HCH.out HZ.out HB1.out hb2 how (by simpa using hop) hgp ?_ hown HFB.out hn hx0 hx1 HAP.out⟩
    exact hap'.imp id fun h => ⟨_, h, Nat.le_trans (Nat.le_trans (Nat.le_of_eq HZ.out.symm) hbs2) (Nat.le_succ _)⟩
end Go.Proofs.YtffcepaegcllmaaDoor
