/-
  The document's DecodeItem.
-/
import Derived.Test.YtjafmcahlmopiaaRData
namespace Go.Proofs.Ytjafmcahlmopiaa
open Go.RowKit

theorem rItemResults (t2 : Nat) (tmps : Array Value) (w : World) (cp : Array Value) (er : Int) (h2 : tmps.getD 2 undef = .pointer (some ⟨t2, 0, none⟩)) (h3 : tmps.getD 3 undef = .int .i64 er)
    (hp : Blk w t2 52 cp) (hz : cp.size = 9) :
    (results Try.f28 tmps).run Try.prog w = .ok (.tuple #[.agg cp, .int .i64 er]) w := by
  obtain ⟨l⟩ := cp
  match l, hz with
  | [a0, a1, a2, a3, a4, a5, a6, a7, a8], _ =>
    have c0 : w.cell? ⟨t2, 0, none⟩ = some a0 := by rw [hp.cell]; rfl
    have c1 : w.cell? ⟨t2, 1, none⟩ = some a1 := by rw [hp.cell]; rfl
    have c2 : w.cell? ⟨t2, 2, none⟩ = some a2 := by rw [hp.cell]; rfl
    have c3 : w.cell? ⟨t2, 3, none⟩ = some a3 := by rw [hp.cell]; rfl
    have c4 : w.cell? ⟨t2, 4, none⟩ = some a4 := by rw [hp.cell]; rfl
    have c5 : w.cell? ⟨t2, 5, none⟩ = some a5 := by rw [hp.cell]; rfl
    have c6 : w.cell? ⟨t2, 6, none⟩ = some a6 := by rw [hp.cell]; rfl
    have c7 : w.cell? ⟨t2, 7, none⟩ = some a7 := by rw [hp.cell]; rfl
    have c8 : w.cell? ⟨t2, 8, none⟩ = some a8 := by rw [hp.cell]; rfl
    simp only [results]
    rw [show Try.f28.results = #[.cell 2 52, .tmp 3] from rfl]
    rw [Array.getD_eq_getD_getElem?] at h2 h3
    simp [h2, h3, c0, c1, c2, c3, c4, c5, c6, c7, c8, go_sem]
theorem rItemDone (w w' : World) (t2 : Nat) (tmps : Array Value) (cp : Array Value) (d : ItemD) (A : Option Addr) (cap : Nat) (er : Int) (h2 : tmps.getD 2 undef = .pointer (some ⟨t2, 0, none⟩)) (h3 : tmps.getD 3 undef = .int .i64 er)
    (hp : Blk w' t2 52 cp) (hz : cp.size = 9) (hv : .agg cp = d.v A cap) (hb : Below w.heap.size w w') (ho : w'.ownsRow w.heap.size 5 1 (.slice A d.l.length cap) d.l.length (bvs d.l)) :
    bodyPost Try.prog Try.f28 (DecAns w (d, er)) .ret { tmps := tmps, defers := [] } w' :=
  ⟨rfl, _, rItemResults t2 tmps w' cp er h2 h3 hp hz, A, cap, by rw [hv], ho, hb⟩
theorem rItemZero (w w' : World) (t2 : Nat) (tmps : Array Value) (cp : Array Value) (er : Int) (h2 : tmps.getD 2 undef = .pointer (some ⟨t2, 0, none⟩)) (h3 : tmps.getD 3 undef = .int .i64 er)
    (hp : Blk w' t2 52 cp) (hz : cp = itemZ) (hb : Below w.heap.size w w') :
    bodyPost Try.prog Try.f28 (DecAns w (.zero, er)) .ret { tmps := tmps, defers := [] } w' := by
  subst hz
  exact rItemDone w w' t2 tmps itemZ .zero none 0 er h2 h3 hp rfl rfl hb ⟨rfl, .inl ⟨rfl, rfl⟩⟩
def rdecW (w : World) (k : Int) (sl : Value) : World :=
  ((w.alloc (.cells #[.int .i64 0, .int .i64 0, .int .i64 0, .int .i64 0, .slice none 0 0, .int .i64 0, .int .i64 0, .int .i64 0, .int .i64 0] 52)).alloc (.cells #[sl, .int .i64 1, .int .i64 0] 109)).alloc (.cells #[.int .i64 k, .int .i64 0, .int .i64 0, .int .i64 0, .slice none 0 0, .int .i64 0, .int .i64 0, .int .i64 0, .int .i64 0] 52)
theorem rdecW_facts (w : World) (k : Int) (sl : Value) : Blk (rdecW w k sl) w.heap.size 52 #[.int .i64 0, .int .i64 0, .int .i64 0, .int .i64 0, .slice none 0 0, .int .i64 0, .int .i64 0, .int .i64 0, .int .i64 0] ∧ Blk (rdecW w k sl) (w.heap.size + 1) 109 #[sl, .int .i64 1, .int .i64 0] ∧
    Blk (rdecW w k sl) (w.heap.size + 1 + 1) 52 #[.int .i64 k, .int .i64 0, .int .i64 0, .int .i64 0, .slice none 0 0, .int .i64 0, .int .i64 0, .int .i64 0, .int .i64 0] ∧ Below w.heap.size w (rdecW w k sl) := by
  have h1 := Blk.new w 52 #[.int .i64 0, .int .i64 0, .int .i64 0, .int .i64 0, .slice none 0 0, .int .i64 0, .int .i64 0, .int .i64 0, .int .i64 0]
  have hz1 : (w.alloc (.cells #[.int .i64 0, .int .i64 0, .int .i64 0, .int .i64 0, .slice none 0 0, .int .i64 0, .int .i64 0, .int .i64 0, .int .i64 0] 52)).heap.size = w.heap.size + 1 := by simp
  have h2 := Blk.new (w.alloc (.cells #[.int .i64 0, .int .i64 0, .int .i64 0, .int .i64 0, .slice none 0 0, .int .i64 0, .int .i64 0, .int .i64 0, .int .i64 0] 52)) 109 #[sl, .int .i64 1, .int .i64 0]
  rw [hz1] at h2
  have h3 := Blk.new ((w.alloc (.cells #[.int .i64 0, .int .i64 0, .int .i64 0, .int .i64 0, .slice none 0 0, .int .i64 0, .int .i64 0, .int .i64 0, .int .i64 0] 52)).alloc (.cells #[sl, .int .i64 1, .int .i64 0] 109)) 52 #[.int .i64 k, .int .i64 0, .int .i64 0, .int .i64 0, .slice none 0 0, .int .i64 0, .int .i64 0, .int .i64 0, .int .i64 0]
  have hz2 : ((w.alloc (.cells #[.int .i64 0, .int .i64 0, .int .i64 0, .int .i64 0, .slice none 0 0, .int .i64 0, .int .i64 0, .int .i64 0, .int .i64 0] 52)).alloc (.cells #[sl, .int .i64 1, .int .i64 0] 109)).heap.size = w.heap.size + 1 + 1 := by simp
  rw [hz2] at h3
  refine ⟨(h1.alloc _).alloc _, h2.alloc _, h3, ?_⟩
  exact Chg.to_below (S := fun _ => False) (((((Chg.refl (fun _ => False) w).alloc _).alloc _).alloc _)) (Nat.le_refl _) (fun k h => h.elim)
theorem rdec_byte (w : World) (sl : Value) (g off : Nat) (v : Value) (hg : g < w.heap.size) (h : w.cell? ⟨g, off, none⟩ = some v) :
    ((w.alloc (.cells #[.int .i64 0, .int .i64 0, .int .i64 0, .int .i64 0, .slice none 0 0, .int .i64 0, .int .i64 0, .int .i64 0, .int .i64 0] 52)).alloc (.cells #[sl, .int .i64 1, .int .i64 0] 109)).cell? ⟨g, off, none⟩ = some v := by
  rw [← h]
  exact cell_eq ((((Chg.refl (fun _ => False) w).alloc (.cells #[.int .i64 0, .int .i64 0, .int .i64 0, .int .i64 0, .slice none 0 0, .int .i64 0, .int .i64 0, .int .i64 0, .int .i64 0] 52)).alloc (.cells #[sl, .int .i64 1, .int .i64 0] 109)).block g hg id) _
theorem numP_rnum {bs : List UInt8} {p : Nat} {lo hi : Int} : (∀ er, numP bs p lo hi = .inl er → rnum bs (.inr p) lo hi = (0, .inl er)) ∧ ∀ v nx, numP bs p lo hi = .inr (v, nx) → rnum bs (.inr p) lo hi = ((v : Int), .inr nx) :=
  ⟨fun er h => by unfold rnum; simp only [h], fun v nx h => by unfold rnum; simp only [h]⟩
theorem rnum_inl (bs : List UInt8) (er : Int) (lo hi : Int) : rnum bs (.inl er) lo hi = (0, .inl er) := rfl
theorem rbytes_inl (bs : List UInt8) (er : Int) (lo hi : Int) : rbytes bs (.inl er) lo hi = ([], .inl er) := rfl
theorem rdata_data (bs : List UInt8) (p : Nat) : (∀ er, dataP bs p = .inl er → (rdata bs (.inr p)).2 = .inl er) ∧ ∀ a b c l nx, dataP bs p = .inr ((a, b, c, l), nx) → rdata bs (.inr p) = (((a : Int), (b : Int), (c : Int), l), .inr nx) ∧ nx ≤ bs.length := by
  unfold dataP rdata
  cases h0 : numP bs p 0 15 with
  | inl er => exact ⟨fun e h => by simp only [Sum.inl.injEq] at h; subst h; simp [numP_rnum.1 _ h0, rnum_inl, rbytes_inl], fun a b c l nx h => by simp at h⟩
  | inr x =>
    obtain ⟨a, p1⟩ := x
    simp only [numP_rnum.2 _ _ h0]
    cases h1 : numP bs p1 1 4611686018427387904 with
    | inl er => exact ⟨fun e h => by simp only [Sum.inl.injEq] at h; subst h; simp [numP_rnum.1 _ h1, rnum_inl, rbytes_inl], fun a b c l nx h => by simp at h⟩
    | inr x =>
      obtain ⟨b, p2⟩ := x
      simp only [numP_rnum.2 _ _ h1]
      cases h2 : numP bs p2 0 4611686018427387904 with
      | inl er => exact ⟨fun e h => by simp only [Sum.inl.injEq] at h; subst h; simp [numP_rnum.1 _ h2, rnum_inl, rbytes_inl], fun a b c l nx h => by simp at h⟩
      | inr x =>
        obtain ⟨c, p3⟩ := x
        simp only [numP_rnum.2 _ _ h2]
        cases h3 : textP bs p3 0 256 with
        | inl er => exact ⟨fun e h => by simp only [Sum.inl.injEq] at h; subst h; simp [rbytes, h3], fun a b c l nx h => by simp at h⟩
        | inr x =>
          obtain ⟨l, p4⟩ := x
          refine ⟨fun e h => by simp at h, fun a' b' c' l' nx h => ?_⟩
          simp only [Sum.inr.injEq, Prod.mk.injEq] at h
          obtain ⟨⟨rfl, rfl, rfl, rfl⟩, rfl⟩ := h
          refine ⟨by simp [rbytes, h3], ?_⟩
          unfold textP at h3
          cases h4 : numP bs p3 0 256 with
          | inl er => rw [h4] at h3; simp at h3
          | inr x =>
            obtain ⟨m, q⟩ := x
            rw [h4] at h3
            simp only at h3
            split at h3
            · simp at h3
            · simp only [Sum.inr.injEq, Prod.mk.injEq] at h3
              omega
def rdec (n : Nat) (d : ItemD) (st : Sum Int Nat) : ItemD × Int :=
  match rend n st with
  | .inl er => (.zero, er)
  | .inr _ => (d, 0)
theorem decItem_1 (bs : List UInt8) (h3 : ¬ 300 < (1 :: bs : List UInt8).length) : decItem (1 :: bs) = rdec (1 :: bs : List UInt8).length ⟨1, (rdata (1 :: bs) (.inr 1)).1.1, (rdata (1 :: bs) (.inr 1)).1.2.1, (rdata (1 :: bs) (.inr 1)).1.2.2.1, (rdata (1 :: bs) (.inr 1)).1.2.2.2, 0, 0, 0, 0⟩ (rdata (1 :: bs) (.inr 1)).2 := by
  unfold decItem
  rw [if_neg h3]
  simp only [if_true]
  cases h : dataP (1 :: bs) 1 with
  | inl er => rw [(rdata_data _ _).1 _ h]; rfl
  | inr x =>
    obtain ⟨⟨a, b, c, l⟩, nx⟩ := x
    obtain ⟨h1, h2⟩ := (rdata_data _ _).2 _ _ _ _ _ h
    rw [h1]
    simp only [rdec, rend]
    by_cases hlt : nx < (1 :: bs : List UInt8).length
    · rw [if_pos hlt, if_neg (by omega)]
    · rw [if_neg hlt, if_pos (by omega)]
set_option maxRecDepth 100000 in
set_option maxHeartbeats 1600000 in
theorem RDecodeItem_1 (A : Option Addr) (n cap : Nat) (bs : List UInt8) (w : World) (hr : RdB w w.heap.size A n (1 :: bs)) (hn : n ≤ cap) (hc : n ≤ 140737488351232) (h3 : n ≤ 300) :
    Calls Try.prog 28 #[.slice A n cap] w (DecAns w (decItem (1 :: bs))) := by
  have hl := hr.lenB
  obtain ⟨g, off, c0, rfl, hg, hc1, hc2⟩ := hr.byte (k := 0) (by simp only [List.length_cons] at hl; omega)
  simp only [List.getElem?_cons_zero, Option.some.injEq] at hc1
  subst hc1
  have hn1 : 1 ≤ n := by simp only [List.length_cons] at hl; omega
  have hn0 : ((n : Int) == 0) = false := by simp; omega
  have n0 : (0 : Int) < (n : Int) := by omega
  have cB : ((w.alloc (.cells #[.int .i64 0, .int .i64 0, .int .i64 0, .int .i64 0, .slice none 0 0, .int .i64 0, .int .i64 0, .int .i64 0, .int .i64 0] 52)).alloc (.cells #[(.slice (some ⟨g, off, none⟩) n cap), .int .i64 1, .int .i64 0] 109)).cell? ⟨g, off, none⟩ = some (.int .u8 1) := rdec_byte w (.slice (some ⟨g, off, none⟩) n cap) g off _ hg hc2
  obtain ⟨hI, hR, hD, hbl⟩ := rdecW_facts w 1 (.slice (some ⟨g, off, none⟩) n cap)
  have hgr := hr.below hbl
  have hG : RSt (rdecW w 1 (.slice (some ⟨g, off, none⟩) n cap)) (w.heap.size + 1) n (.slice (some ⟨g, off, none⟩) n cap) (.inr 1) := ⟨hn1, hR⟩
  have hS := decItem_1 bs (by omega)
  rw [hl] at hS
  obtain ⟨x, hx⟩ : ∃ x, x = rdata (1 :: bs) (.inr 1) := ⟨_, rfl⟩
  rw [← hx] at hS
  rw [hS]
  clear hS
  obtain ⟨⟨s, q, t, l⟩, st⟩ := x
  have HX := Lib.hid hx
  have HI := Lib.hid hI
  have HD := Lib.hid hD
  have HB := Lib.hid hbl
  have HG := Lib.hid hG
  have HRD := Lib.hid hgr
  clear hI hR hD hbl hG hgr hr hl hx
  go_enter Try.func28, Try.ntmps28
  go_wp2_with fail
  refine (rData_any (w.heap.size + 1) _ n cap w.heap.size (1 :: bs) (.inr 1) (rdecW w 1 (.slice (some ⟨g, off, none⟩) n cap)) HG.out HRD.out (by omega) hn hc).mono ?_
  rw [← HX.out]
  rintro _ w1 ⟨⟨v, rfl, hown⟩, hG1, hch1⟩
  obtain ⟨A7, cap7, rfl, _, _⟩ := own_shape hown
  simp only at hown hG1
  have hI := HI.out
  have hD := HD.out
  have hb := HB.out
  generalize rdecW w 1 (.slice (some ⟨g, off, none⟩) n cap) = w0 at hown hch1 hI hD hb
  clear cB HI HD HB HG HRD HX
  have hzi := hI.lt
  have hzd := hD.lt
  have hI1 := hI.chg hch1 (by omega)
  have hD1 := hD.chg hch1 (by omega)
  have hb1 : Below w.heap.size w w1 := hb.trans (hch1.to_below hb.size (fun k hk => by omega))
  have d0 : w1.cell? ⟨w.heap.size + 1 + 1, 0, none⟩ = some (.int .i64 1) := by rw [hD1.cell]; rfl
  have d1 : w1.cell? ⟨w.heap.size + 1 + 1, 1, none⟩ = some (.int .i64 0) := by rw [hD1.cell]; rfl
  have d2 : w1.cell? ⟨w.heap.size + 1 + 1, 2, none⟩ = some (.int .i64 0) := by rw [hD1.cell]; rfl
  have d3 : w1.cell? ⟨w.heap.size + 1 + 1, 3, none⟩ = some (.int .i64 0) := by rw [hD1.cell]; rfl
  have d4 : w1.cell? ⟨w.heap.size + 1 + 1, 4, none⟩ = some (.slice none 0 0) := by rw [hD1.cell]; rfl
  have d5 : w1.cell? ⟨w.heap.size + 1 + 1, 5, none⟩ = some (.int .i64 0) := by rw [hD1.cell]; rfl
  have d6 : w1.cell? ⟨w.heap.size + 1 + 1, 6, none⟩ = some (.int .i64 0) := by rw [hD1.cell]; rfl
  have d7 : w1.cell? ⟨w.heap.size + 1 + 1, 7, none⟩ = some (.int .i64 0) := by rw [hD1.cell]; rfl
  have d8 : w1.cell? ⟨w.heap.size + 1 + 1, 8, none⟩ = some (.int .i64 0) := by rw [hD1.cell]; rfl
  have fd0 := hD1.frozen 0
  have fd1 := hD1.frozen 1
  have fd2 := hD1.frozen 2
  have fd3 := hD1.frozen 3
  have fd4 := hD1.frozen 4
  have fd5 := hD1.frozen 5
  have fd6 := hD1.frozen 6
  have fd7 := hD1.frozen 7
  have fd8 := hD1.frozen 8
  go_wp2_with fail
  have hI2 := ((((hI1.far (p := ⟨w.heap.size + 1 + 1, 1, none⟩) (by simp only; omega) (.int .i64 s)).far (p := ⟨w.heap.size + 1 + 1, 2, none⟩) (by simp only; omega) (.int .i64 q)).far (p := ⟨w.heap.size + 1 + 1, 3, none⟩) (by simp only; omega) (.int .i64 t)).far (p := ⟨w.heap.size + 1 + 1, 4, none⟩) (by simp only; omega) (.slice A7 l.length cap7))
  have hD2 := ((((hD1.set_ 1 (.int .i64 s)).set_ 2 (.int .i64 q)).set_ 3 (.int .i64 t)).set_ 4 (.slice A7 l.length cap7))
  have hc2' := (((((Chg.refl (fun k => k = w.heap.size + 1 + 1) w1).setCell (p := ⟨w.heap.size + 1 + 1, 1, none⟩) (.inl rfl) (.int .i64 s)).setCell (p := ⟨w.heap.size + 1 + 1, 2, none⟩) (.inl rfl) (.int .i64 q)).setCell (p := ⟨w.heap.size + 1 + 1, 3, none⟩) (.inl rfl) (.int .i64 t)).setCell (p := ⟨w.heap.size + 1 + 1, 4, none⟩) (.inl rfl) (.slice A7 l.length cap7))
  have HOB : Hid (∀ g, (Value.slice A7 l.length cap7).ownBlock = some g → w.heap.size + 1 + 1 < g) := by
    intro g hg; have := own_block_lt hown hg; show _ < _; omega
  have HO := Lib.hid (own_base (own_chg hown hc2' (fun g hg hgp => by have := HOB.out g hg; omega)) (show w.heap.size ≤ w0.heap.size by omega))
  have hG2 := hG1.chg hc2' (by omega)
  have hb2 : Below w.heap.size w _ := hb1.trans (hc2'.to_below hb1.size (fun k hk => by omega))
  clear d0 d1 d2 d3 d4 d5 d6 d7 d8 fd0 fd1 fd2 fd3 fd4 fd5 fd6 fd7 fd8 hI1 hD1 hb1 hG1 hc2' hown hch1 hI hD hb hzi hzd w0
  generalize World.setCell _ _ _ = w2 at hI2 hD2 HO hG2 hb2 ⊢
  refine (rEnd_any (w.heap.size + 1) n _ cap st w2 hG2 (by omega)).mono ?_
  rintro _ w3 ⟨rfl, hG3, hch3⟩
  have hzi := hI2.lt
  have hzd := hD2.lt
  have hI3 := hI2.chg hch3 (by omega)
  have hD3 := hD2.chg hch3 (by omega)
  have hb3 : Below w.heap.size w w3 := hb2.trans (hch3.to_below hb2.size (fun k hk => by omega))
  have HO3 := Lib.hid (own_chg HO.out hch3 (fun g hg hgp => by have := HOB.out g hg; omega))
  clear hG2 hI2 hD2 hb2
  have d0 : w3.cell? ⟨w.heap.size + 1 + 1, 0, none⟩ = some (.int .i64 1) := by rw [hD3.cell]; rfl
  have d1 : w3.cell? ⟨w.heap.size + 1 + 1, 1, none⟩ = some (.int .i64 s) := by rw [hD3.cell]; rfl
  have d2 : w3.cell? ⟨w.heap.size + 1 + 1, 2, none⟩ = some (.int .i64 q) := by rw [hD3.cell]; rfl
  have d3 : w3.cell? ⟨w.heap.size + 1 + 1, 3, none⟩ = some (.int .i64 t) := by rw [hD3.cell]; rfl
  have d4 : w3.cell? ⟨w.heap.size + 1 + 1, 4, none⟩ = some (.slice A7 l.length cap7) := by rw [hD3.cell]; rfl
  have d5 : w3.cell? ⟨w.heap.size + 1 + 1, 5, none⟩ = some (.int .i64 0) := by rw [hD3.cell]; rfl
  have d6 : w3.cell? ⟨w.heap.size + 1 + 1, 6, none⟩ = some (.int .i64 0) := by rw [hD3.cell]; rfl
  have d7 : w3.cell? ⟨w.heap.size + 1 + 1, 7, none⟩ = some (.int .i64 0) := by rw [hD3.cell]; rfl
  have d8 : w3.cell? ⟨w.heap.size + 1 + 1, 8, none⟩ = some (.int .i64 0) := by rw [hD3.cell]; rfl
  have i0 : w3.cell? ⟨w.heap.size, 0, none⟩ = some (.int .i64 0) := by rw [hI3.cell]; rfl
  have i1 : w3.cell? ⟨w.heap.size, 1, none⟩ = some (.int .i64 0) := by rw [hI3.cell]; rfl
  have i2 : w3.cell? ⟨w.heap.size, 2, none⟩ = some (.int .i64 0) := by rw [hI3.cell]; rfl
  have i3 : w3.cell? ⟨w.heap.size, 3, none⟩ = some (.int .i64 0) := by rw [hI3.cell]; rfl
  have i4 : w3.cell? ⟨w.heap.size, 4, none⟩ = some (.slice none 0 0) := by rw [hI3.cell]; rfl
  have i5 : w3.cell? ⟨w.heap.size, 5, none⟩ = some (.int .i64 0) := by rw [hI3.cell]; rfl
  have i6 : w3.cell? ⟨w.heap.size, 6, none⟩ = some (.int .i64 0) := by rw [hI3.cell]; rfl
  have i7 : w3.cell? ⟨w.heap.size, 7, none⟩ = some (.int .i64 0) := by rw [hI3.cell]; rfl
  have i8 : w3.cell? ⟨w.heap.size, 8, none⟩ = some (.int .i64 0) := by rw [hI3.cell]; rfl
  have fi0 := hI3.frozen 0
  have fi1 := hI3.frozen 1
  have fi2 := hI3.frozen 2
  have fi3 := hI3.frozen 3
  have fi4 := hI3.frozen 4
  have fi5 := hI3.frozen 5
  have fi6 := hI3.frozen 6
  have fi7 := hI3.frozen 7
  have fi8 := hI3.frozen 8
  cases hst : rend n st with
  | inl er =>
    rw [hst] at hG3
    obtain ⟨he0, x, hB⟩ := hG3
    have hb : (er != 0) = true := by simp [he0]
    have c2 : w3.cell? ⟨w.heap.size + 1, 2, none⟩ = some (.int .i64 er) := by rw [hB.cell]; rfl
    have HT : Hid (rdec n ⟨1, s, q, t, l, 0, 0, 0, 0⟩ st = (.zero, er)) := by show _ = _; unfold rdec; rw [hst]
    clear hst
    go_wp2_with fail
    go_region
    all_goals go_wp2
    rw [HT.out]
    have hI4 := (((((((((hI3.set_ 0 (.int .i64 0)).set_ 1 (.int .i64 0)).set_ 2 (.int .i64 0)).set_ 3 (.int .i64 0)).set_ 4 (.slice none 0 0)).set_ 5 (.int .i64 0)).set_ 6 (.int .i64 0)).set_ 7 (.int .i64 0)).set_ 8 (.int .i64 0)).drew
    have hc4 := ((((((((((Chg.refl (fun k => k = w.heap.size) w3).setCell (p := ⟨w.heap.size, 0, none⟩) (.inl rfl) (.int .i64 0)).setCell (p := ⟨w.heap.size, 1, none⟩) (.inl rfl) (.int .i64 0)).setCell (p := ⟨w.heap.size, 2, none⟩) (.inl rfl) (.int .i64 0)).setCell (p := ⟨w.heap.size, 3, none⟩) (.inl rfl) (.int .i64 0)).setCell (p := ⟨w.heap.size, 4, none⟩) (.inl rfl) (.slice none 0 0)).setCell (p := ⟨w.heap.size, 5, none⟩) (.inl rfl) (.int .i64 0)).setCell (p := ⟨w.heap.size, 6, none⟩) (.inl rfl) (.int .i64 0)).setCell (p := ⟨w.heap.size, 7, none⟩) (.inl rfl) (.int .i64 0)).setCell (p := ⟨w.heap.size, 8, none⟩) (.inl rfl) (.int .i64 0)).drew
    exact rItemZero w _ w.heap.size _ _ er rfl rfl hI4 (by simp [itemZ]) (hb3.trans (hc4.to_below hb3.size (fun k hk => by omega)))
  | inr pe =>
    rw [hst] at hG3
    obtain ⟨-, hB⟩ := hG3
    have c2 : w3.cell? ⟨w.heap.size + 1, 2, none⟩ = some (.int .i64 0) := by rw [hB.cell]; rfl
    have HT : Hid (rdec n ⟨1, s, q, t, l, 0, 0, 0, 0⟩ st = (⟨1, s, q, t, l, 0, 0, 0, 0⟩, 0)) := by show _ = _; unfold rdec; rw [hst]
    clear hst
    go_wp2_with fail
    rw [HT.out]
    have hI4 := (((((((((hI3.set_ 0 (.int .i64 1)).set_ 1 (.int .i64 s)).set_ 2 (.int .i64 q)).set_ 3 (.int .i64 t)).set_ 4 (.slice A7 l.length cap7)).set_ 5 (.int .i64 0)).set_ 6 (.int .i64 0)).set_ 7 (.int .i64 0)).set_ 8 (.int .i64 0))
    have hc4 := ((((((((((Chg.refl (fun k => k = w.heap.size) w3).setCell (p := ⟨w.heap.size, 0, none⟩) (.inl rfl) (.int .i64 1)).setCell (p := ⟨w.heap.size, 1, none⟩) (.inl rfl) (.int .i64 s)).setCell (p := ⟨w.heap.size, 2, none⟩) (.inl rfl) (.int .i64 q)).setCell (p := ⟨w.heap.size, 3, none⟩) (.inl rfl) (.int .i64 t)).setCell (p := ⟨w.heap.size, 4, none⟩) (.inl rfl) (.slice A7 l.length cap7)).setCell (p := ⟨w.heap.size, 5, none⟩) (.inl rfl) (.int .i64 0)).setCell (p := ⟨w.heap.size, 6, none⟩) (.inl rfl) (.int .i64 0)).setCell (p := ⟨w.heap.size, 7, none⟩) (.inl rfl) (.int .i64 0)).setCell (p := ⟨w.heap.size, 8, none⟩) (.inl rfl) (.int .i64 0))
    exact rItemDone w _ w.heap.size _ _ _ A7 cap7 0 rfl rfl hI4 (by simp) (by simp [ItemD.v, itemV]) (hb3.trans (hc4.to_below hb3.size (fun k hk => by omega))) (own_chg HO3.out hc4 (fun g hg hgp => by have := HOB.out g hg; omega))
theorem rnum_val (bs : List UInt8) (st : Sum Int Nat) (lo hi : Int) : 0 ≤ (rnum bs st lo hi).1 ∧ (rnum bs st lo hi).1 ≤ 4611686018427387904 := by
  cases st with
  | inl er => rw [rnum_inl]; simp
  | inr p =>
    cases h : numP bs p lo hi with
    | inl er => rw [numP_rnum.1 _ h]; simp
    | inr x =>
      obtain ⟨v, nx⟩ := x
      have := numP_ok h
      rw [numP_rnum.2 _ _ h]
      simp only
      omega
theorem decItem_2 (bs : List UInt8) (h3 : ¬ 300 < (2 :: bs : List UInt8).length) (x0 x1 x2 x3 : Int × Sum Int Nat) (h0 : x0 = rnum (2 :: bs) (.inr 1) 1 4611686018427387904) (h1 : x1 = rnum (2 :: bs) x0.2 0 (x0.1 - 1)) (h2 : x2 = rnum (2 :: bs) x1.2 0 15) (hx3 : x3 = rnum (2 :: bs) x2.2 1 4611686018427387904) :
    decItem (2 :: bs) = rdec (2 :: bs : List UInt8).length ⟨2, 0, 0, 0, [], x0.1, x1.1, x2.1, x3.1⟩ x3.2 := by
  unfold decItem
  rw [if_neg h3]
  simp only [show ¬ ((2 : UInt8) = 1) by decide, if_false, if_true]
  cases g0 : numP (2 :: bs) 1 1 4611686018427387904 with
  | inl er =>
    rw [numP_rnum.1 _ g0] at h0
    subst h0; simp only [rnum_inl] at h1; subst h1; simp only [rnum_inl] at h2; subst h2; simp only [rnum_inl] at hx3; subst hx3
    rfl
  | inr x =>
    obtain ⟨p, p1⟩ := x
    rw [numP_rnum.2 _ _ g0] at h0
    subst h0
    simp only at h1 ⊢
    cases g1 : numP (2 :: bs) p1 0 ((p : Int) - 1) with
    | inl er =>
      rw [numP_rnum.1 _ g1] at h1
      subst h1; simp only [rnum_inl] at h2; subst h2; simp only [rnum_inl] at hx3; subst hx3
      rfl
    | inr x =>
      obtain ⟨st, p2⟩ := x
      rw [numP_rnum.2 _ _ g1] at h1
      subst h1
      simp only at h2 ⊢
      cases g2 : numP (2 :: bs) p2 0 15 with
      | inl er =>
        rw [numP_rnum.1 _ g2] at h2
        subst h2; simp only [rnum_inl] at hx3; subst hx3
        rfl
      | inr x =>
        obtain ⟨a, p3⟩ := x
        rw [numP_rnum.2 _ _ g2] at h2
        subst h2
        simp only at hx3 ⊢
        cases g3 : numP (2 :: bs) p3 1 4611686018427387904 with
        | inl er =>
          rw [numP_rnum.1 _ g3] at hx3
          subst hx3
          rfl
        | inr x =>
          obtain ⟨c, p4⟩ := x
          rw [numP_rnum.2 _ _ g3] at hx3
          subst hx3
          have := (numP_ok g3).2.2.2.2
          simp only [rdec, rend]
          by_cases hlt : p4 < (2 :: bs : List UInt8).length
          · rw [if_pos hlt, if_neg (by omega)]
          · rw [if_neg hlt, if_pos (by omega)]
end Go.Proofs.Ytjafmcahlmopiaa
