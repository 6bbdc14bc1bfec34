/-
  The book, whatever it holds: Keep, KeepInts, Write and Settle, full or not; a list with room behind it, kept in the book.
-/
import Derived.Test.YtffcepaegcllmaaDoorKeepB
import Derived.Test.YtffcepaegcllmaaDoorKeepI
import Derived.Test.YtffcepaegcllmaaDoorWriteB
import Derived.Test.YtffcepaegcllmaaDoorSettle
import Derived.Test.YtffcepaegcllmaaDoorLoInts
namespace Go.Proofs.YtffcepaegcllmaaDoor
open Go.RowKit
/-- The types of the book's own blocks. -/
abbrev bkTs : List TypeId := [52, 95, 97]
structure BkIn (w : World) (gb : Nat) (P : Nat → Prop) (ps qs : List Pg) (next : Int) (pv iv : Value) : Prop where
  bk : BookIs w (fun k => gb ≤ k) gb ps qs next pv iv
  sp : ∀ p ∈ ps, p.st ≠ 1
  sq : ∀ p ∈ qs, p.st ≠ 1
  lp : ps.length ≤ 96
  lq : qs.length ≤ 96
  n0 : 0 ≤ next
  n1 : next ≤ 500 + (ps.length : Int) + (qs.length : Int)
  pp : ∀ p ∈ ps, ∀ g, p.blks g → P g
  pq : ∀ p ∈ qs, ∀ g, p.blks g → P g
/-- The book at gb, its lists in blocks of P. -/
def Bk (w : World) (gb : Nat) (P : Nat → Prop) : Prop := ∃ ps qs next pv iv, BkIn w gb P ps qs next pv iv
theorem Bk.new (w : World) : Bk (w.alloc (.cells #[.slice none 0 0, .slice none 0 0, .int .i64 0] 52)) w.heap.size (fun _ => False) :=
  ⟨[], [], 0, _, _, BookIs.empty w _ fun _ h => h, fun p h => by simp at h, fun p h => by simp at h, by simp, by simp, by omega, by simp, fun p h => by simp at h, fun p h => by simp at h⟩
theorem Bk.mono {w : World} {gb : Nat} {P Q : Nat → Prop} (h : Bk w gb P) (hpq : ∀ g, P g → g < w.heap.size → Q g) : Bk w gb Q := by
  obtain ⟨ps, qs, next, pv, iv, h⟩ := h
  exact ⟨ps, qs, next, pv, iv, h.bk, h.sp, h.sq, h.lp, h.lq, h.n0, h.n1, fun p hp g hg => hpq g (h.pp p hp g hg) ((h.bk.B.pages p hp).blk_lt hg).1, fun p hp g hg => hpq g (h.pq p hp g hg) ((h.bk.I.pages p hp).blk_lt hg).1⟩
theorem Bk.lt {w : World} {gb : Nat} {P : Nat → Prop} (h : Bk w gb P) : Bk w gb (fun g => g < w.heap.size) := h.mono fun _ _ h => h
theorem Bk.gb_lt {w : World} {gb : Nat} {P : Nat → Prop} (h : Bk w gb P) : gb < w.heap.size := by
  obtain ⟨ps, qs, next, pv, iv, h⟩ := h
  exact h.bk.blk.lt
theorem Bk.below {w w' : World} {gb : Nat} {P : Nat → Prop} (h : Bk w gb P) (hb : Below w.heap.size w w') : Bk w' gb P := by
  obtain ⟨ps, qs, next, pv, iv, h⟩ := h
  exact ⟨ps, qs, next, pv, iv, h.bk.below hb, h.sp, h.sq, h.lp, h.lq, h.n0, h.n1, h.pp, h.pq⟩
/-- A change of blocks of other types. -/
theorem Bk.cht {w w' : World} {gb base : Nat} {P : Nat → Prop} {ts : List TypeId} (h : Bk w gb P) (hc : ChT ts base w w') (hn : 52 ∉ ts ∧ 95 ∉ ts ∧ 97 ∉ ts ∧ 5 ∉ ts ∧ 3 ∉ ts) : Bk w' gb P := by
  obtain ⟨ps, qs, next, pv, iv, h⟩ := h
  refine ⟨ps, qs, next, pv, iv, h.bk.chg hc fun g _ _ ht hs => ?_, h.sp, h.sq, h.lp, h.lq, h.n0, h.n1, h.pp, h.pq⟩
  obtain ⟨_, t, ht1, ht2⟩ := hs
  rcases ht with ht | ht | ht | ht | ht <;> obtain rfl := ht.eq_ ht2
  · exact hn.1 ht1
  · exact hn.2.1 ht1
  · exact hn.2.2.1 ht1
  · exact hn.2.2.2.1 ht1
  · exact hn.2.2.2.2 ht1
section
variable {w w' : World} {gb : Nat} {P : Nat → Prop} {ps qs : List Pg} {next : Int} {pv iv : Value}
theorem BkIn.rowB (h : BkIn w gb P ps qs next pv iv) (hc : Chg (RowS gb pv) w w') : ChT bkTs gb w w' :=
  hc.mono fun g _ hg => by
    obtain ⟨h1, h2⟩ := h.bk.rowB hg
    rcases h2 with h2 | h2
    · exact ⟨h1, _, by simp, h2⟩
    · exact ⟨h1, _, by simp, h2⟩
theorem BkIn.rowI (h : BkIn w gb P ps qs next pv iv) (hc : Chg (RowS gb iv) w w') : ChT bkTs gb w w' :=
  hc.mono fun g _ hg => by
    obtain ⟨h1, h2⟩ := h.bk.rowI hg
    rcases h2 with h2 | h2
    · exact ⟨h1, _, by simp, h2⟩
    · exact ⟨h1, _, by simp, h2⟩
end
set_option maxRecDepth 100000 in
set_option maxHeartbeats 800000 in
theorem Keep_full {w : World} {gb L capp : Nat} {Ap : Option Addr} {iv bv : Value} {next : Int} (hB : Blk w gb 52 #[.slice Ap L capp, iv, .int .i64 next]) (hl : 96 ≤ L) :
    Calls Tryd.prog 17 #[.pointer (some ⟨gb, 0, none⟩), bv] w fun e w' => e = .returned (.tuple #[]) ∧ w = w' := by
  have c0 : w.cell? ⟨gb, 0, none⟩ = some (.slice Ap L capp) := hB.cell 0
  have hI : (96 : Int) ≤ (L : Int) := by omega
  go_enter Tryd.func17, Tryd.ntmps17
  go_wp2_with fail
  refine bodyPost_ret (results_none rfl _ _ _) rfl ?_
  exact ⟨rfl, rfl⟩
set_option maxRecDepth 100000 in
set_option maxHeartbeats 800000 in
theorem KeepInts_full {w : World} {gb L capp : Nat} {Ap : Option Addr} {pv bv : Value} {next : Int} (hB : Blk w gb 52 #[pv, .slice Ap L capp, .int .i64 next]) (hl : 96 ≤ L) :
    Calls Tryd.prog 64 #[.pointer (some ⟨gb, 0, none⟩), bv] w fun e w' => e = .returned (.tuple #[]) ∧ w = w' := by
  have c0 : w.cell? ⟨gb, 1, none⟩ = some (.slice Ap L capp) := hB.cell 1
  have hI : (96 : Int) ≤ (L : Int) := by omega
  go_enter Tryd.func64, Tryd.ntmps64
  go_wp2_with fail
  refine bodyPost_ret (results_none rfl _ _ _) rfl ?_
  exact ⟨rfl, rfl⟩
set_option maxRecDepth 100000 in
set_option maxHeartbeats 800000 in
theorem Write_full {w : World} {gb L capp : Nat} {Ap : Option Addr} {iv bv : Value} {next : Int} (hB : Blk w gb 52 #[.slice Ap L capp, iv, .int .i64 next]) (hl : 96 ≤ L) :
    Calls Tryd.prog 18 #[.pointer (some ⟨gb, 0, none⟩), bv] w fun e w' => e = .returned (.tuple #[]) ∧ w = w' := by
  have c0 : w.cell? ⟨gb, 0, none⟩ = some (.slice Ap L capp) := hB.cell 0
  have hI : (96 : Int) ≤ (L : Int) := by omega
  go_enter Tryd.func18, Tryd.ntmps18
  go_wp2_with fail
  refine bodyPost_ret (results_none rfl _ _ _) rfl ?_
  exact ⟨rfl, rfl⟩
/-- What keeping a list does. -/
def KeptP (gb : Nat) (P : Nat → Prop) (bv : Value) (ts : List TypeId) (w : World) (e : Ending) (w' : World) : Prop :=
  e = .returned (.tuple #[]) ∧ Bk w' gb (fun g => P g ∨ bv.ownBlock = some g ∨ w.heap.size ≤ g) ∧ ChT ts gb w w'
theorem Keep_bk {w : World} {gb n : Nat} {P : Nat → Prop} {bv : Value} {bs : List UInt8} (hB : Bk w gb P) (hown : w.ownsRow 0 5 1 bv n (bvs bs)) (hfb : ∀ g, bv.ownBlock = some g → gb ≤ g) (hn : n + 64 ≤ 140737488355328) (hap : ∀ g, bv.ownBlock = some g → ¬ P g) :
    Calls Tryd.prog 17 #[.pointer (some ⟨gb, 0, none⟩), bv] w (KeptP gb P bv bkTs w) := by
  obtain ⟨ps, qs, next, pv, iv, h⟩ := hB
  by_cases hl : ps.length < 96
  · refine (Keep_any (fun k => gb ≤ k) gb ps qs next pv iv bv n bs w h.bk hl hown hfb hn h.n0 (by have := h.n1; have := h.lp; have := h.lq; omega) fun g hg p hp hb => hap g hg (h.pp p hp g hb)).mono ?_
    rintro e w' ⟨rfl, pv', q, hb, hq, hqb, hc⟩
    refine ⟨rfl, ⟨ps ++ [q], qs, next + 1, pv', iv, hb, fun p hp => ?_, h.sq, by rw [List.length_append]; simp; omega, h.lq, by have := h.n0; omega, by have := h.n1; rw [List.length_append]; simp; omega, fun p hp g hg => ?_, fun p hp g hg => .inl (h.pq p hp g hg)⟩, h.rowB hc⟩
    · rcases List.mem_append.1 hp with hp | hp
      · exact h.sp p hp
      · rw [List.mem_singleton] at hp; subst hp; exact hq
    · rcases List.mem_append.1 hp with hp | hp
      · exact .inl (h.pp p hp g hg)
      · rw [List.mem_singleton] at hp; subst hp; exact .inr (hqb g hg)
  · obtain ⟨Ap, capp, e, _, _⟩ := own_shape h.bk.B.rows
    have hblk := h.bk.blk
    rw [e] at hblk
    refine (Keep_full hblk (by omega)).mono ?_
    rintro _ w' ⟨rfl, rfl⟩
    exact ⟨rfl, Bk.mono ⟨ps, qs, next, pv, iv, h⟩ fun g hg _ => .inl hg, ChT.refl _ _ _⟩
theorem KeepInts_bk {w : World} {gb n : Nat} {P : Nat → Prop} {bv : Value} {is : List Int} (hB : Bk w gb P) (hown : w.ownsRow 0 3 1 bv n (ivs is)) (hfb : ∀ g, bv.ownBlock = some g → gb ≤ g) (hn : n + 64 ≤ 17592186044416) (hap : ∀ g, bv.ownBlock = some g → ¬ P g) :
    Calls Tryd.prog 64 #[.pointer (some ⟨gb, 0, none⟩), bv] w (KeptP gb P bv bkTs w) := by
  obtain ⟨ps, qs, next, pv, iv, h⟩ := hB
  by_cases hl : qs.length < 96
  · refine (KeepInts_any (fun k => gb ≤ k) gb qs ps next iv pv bv n is w h.bk hl hown hfb hn h.n0 (by have := h.n1; have := h.lp; have := h.lq; omega) fun g hg p hp hb => hap g hg (h.pq p hp g hb)).mono ?_
    rintro e w' ⟨rfl, pv', q, hb, hq, hqb, hc⟩
    refine ⟨rfl, ⟨ps, qs ++ [q], next + 1, pv, pv', hb, h.sp, fun p hp => ?_, h.lp, by rw [List.length_append]; simp; omega, by have := h.n0; omega, by have := h.n1; rw [List.length_append]; simp; omega, fun p hp g hg => .inl (h.pp p hp g hg), fun p hp g hg => ?_⟩, h.rowI hc⟩
    · rcases List.mem_append.1 hp with hp | hp
      · exact h.sq p hp
      · rw [List.mem_singleton] at hp; subst hp; exact hq
    · rcases List.mem_append.1 hp with hp | hp
      · exact .inl (h.pq p hp g hg)
      · rw [List.mem_singleton] at hp; subst hp; exact .inr (hqb g hg)
  · obtain ⟨Ap, capp, e, _, _⟩ := own_shape h.bk.I.rows
    have hblk := h.bk.blk
    rw [e] at hblk
    refine (KeepInts_full hblk (by omega)).mono ?_
    rintro _ w' ⟨rfl, rfl⟩
    exact ⟨rfl, Bk.mono ⟨ps, qs, next, pv, iv, h⟩ fun g hg _ => .inl hg, ChT.refl _ _ _⟩
theorem Write_bk {w : World} {gb n : Nat} {P : Nat → Prop} {bv : Value} {xs : List Value} (hB : Bk w gb P) (hown : w.ownsRow 0 5 1 bv n xs) (hfb : ∀ g, bv.ownBlock = some g → gb ≤ g) (hn : n + 64 ≤ 140737488355328) (hap : ∀ g, bv.ownBlock = some g → ¬ P g) :
    Calls Tryd.prog 18 #[.pointer (some ⟨gb, 0, none⟩), bv] w (fun e w' => e = .returned (.tuple #[]) ∧ Bk w' gb (fun g => P g ∨ bv.ownBlock = some g ∨ w.heap.size ≤ g) ∧ Chg (fun k => (gb ≤ k ∧ ∃ t, t ∈ bkTs ∧ IsT w t k) ∨ bv.ownBlock = some k) w w') := by
  obtain ⟨ps, qs, next, pv, iv, h⟩ := hB
  by_cases hl : ps.length < 96
  · refine (Write_any (fun k => gb ≤ k) gb ps qs next pv iv bv n xs w h.bk hl hown hfb hn h.n0 (by have := h.n1; have := h.lp; have := h.lq; omega) fun g hg p hp hb => hap g hg (h.pp p hp g hb)).mono ?_
    rintro e w' ⟨rfl, pv', q, hb, hq, hqb, hc⟩
    refine ⟨rfl, ⟨ps ++ [q], qs, next + 1, pv', iv, hb, fun p hp => ?_, h.sq, by rw [List.length_append]; simp; omega, h.lq, by have := h.n0; omega, by have := h.n1; rw [List.length_append]; simp; omega, fun p hp g hg => ?_, fun p hp g hg => .inl (h.pq p hp g hg)⟩, hc.mono fun g _ hg => ?_⟩
    · rcases List.mem_append.1 hp with hp | hp
      · exact h.sp p hp
      · rw [List.mem_singleton] at hp; subst hp; exact hq
    · rcases List.mem_append.1 hp with hp | hp
      · exact .inl (h.pp p hp g hg)
      · rw [List.mem_singleton] at hp; subst hp; exact .inr (hqb g hg)
    · rcases hg with hg | hg
      · obtain ⟨h1, h2⟩ := h.bk.rowB hg
        rcases h2 with h2 | h2
        · exact .inl ⟨h1, _, by simp, h2⟩
        · exact .inl ⟨h1, _, by simp, h2⟩
      · exact .inr hg
  · obtain ⟨Ap, capp, e, _, _⟩ := own_shape h.bk.B.rows
    have hblk := h.bk.blk
    rw [e] at hblk
    refine (Write_full hblk (by omega)).mono ?_
    rintro _ w' ⟨rfl, rfl⟩
    exact ⟨rfl, Bk.mono ⟨ps, qs, next, pv, iv, h⟩ fun g hg _ => .inl hg, Chg.refl _ _⟩
theorem Intact_bk {w : World} {gb : Nat} {P : Nat → Prop} (hB : Bk w gb P) : Calls Tryd.prog 16 #[.pointer (some ⟨gb, 0, none⟩)] w fun e w' => e = .returned (.bool true) ∧ Below w.heap.size w w' := by
  obtain ⟨ps, qs, next, pv, iv, h⟩ := hB
  exact Intact_any (fun k => gb ≤ k) gb ps qs next pv iv w h.bk h.sp h.sq h.lp h.lq
theorem Settle_bk {w : World} {gb : Nat} {P : Nat → Prop} (hB : Bk w gb P) : Calls Tryd.prog 19 #[.pointer (some ⟨gb, 0, none⟩)] w fun e w' => e = .returned (.bool true) ∧ Chg (fun k => gb ≤ k) w w' ∧ Bk w' gb (fun _ => True) := by
  obtain ⟨ps, qs, next, pv, iv, h⟩ := hB
  refine (Settle_any (fun k => gb ≤ k) gb ps qs next pv iv w h.bk h.sp h.sq h.lp h.lq).mono ?_
  rintro e w' ⟨rfl, hc, ps', qs', h1, h2, h3, h4, hb⟩
  exact ⟨rfl, hc, ps', qs', next, pv, iv, hb, fun p hp => by rw [h3 p hp]; decide, fun p hp => by rw [h4 p hp]; decide, by rw [h1]; exact h.lp, by rw [h2]; exact h.lq, h.n0, by rw [h1, h2]; exact h.n1, fun _ _ _ _ => trivial, fun _ _ _ _ => trivial⟩
theorem own_first {w : World} {base n m c : Nat} {e : TypeId} {A : Option Addr} {xs ys : List Value} (h : w.ownsRow base e 1 (.slice A (n + m) c) (n + m) (xs ++ ys)) (hl : xs.length = n) (hm : 0 < m) : w.ownsRow base e 1 (.slice A n c) n xs := by
  rcases h.2 with ⟨h0, h1⟩ | ⟨g, cap, cur, h1, h2, h3, h4, h5, h6, h7⟩
  · omega
  · injection h1 with a1 a2 a3
    subst a1 a3
    refine ⟨by omega, .inr ⟨g, c, cur, rfl, h2, h3, by omega, h5, h6, ?_⟩⟩
    have := congrArg (List.take n) h7
    rw [List.take_take, List.take_left' hl] at this
    rw [← this]
    congr 1
    omega
/-- A list with room behind it, kept in the book. -/
def RoomP (t : TypeId) (gb base n : Nat) (xs : List Value) (w : World) (e : Ending) (w' : World) : Prop :=
  ∃ A c, e = .returned (.slice A n c) ∧ w'.ownsRow base t 1 (.slice A n c) n xs ∧ Bk w' gb (fun g => g < w'.heap.size) ∧ ChT bkTs gb w w'
set_option maxRecDepth 100000 in
set_option maxHeartbeats 800000 in
theorem roomInts_any {w : World} {gb base n c : Nat} {A : Option Addr} {is : List Int} {P : Nat → Prop} (hB : Bk w gb P) (ho : w.ownsRow base 3 1 (.slice A n c) n (ivs is)) (hb : base ≤ w.heap.size) (hn : n * 8 ≤ 140737488351232) :
    Calls Tryd.prog 36 #[.slice A n c, .pointer (some ⟨gb, 0, none⟩)] w (RoomP 3 gb base n (ivs is) w) := by
  by_cases h0 : n = 0
  · subst h0
    have HO := Lib.hid (And.intro ho hB.lt)
    clear ho hB
    go_enter Tryd.func36, Tryd.ntmps36
    go_wp2_with fail
    go_ret
    exact ⟨A, c, rfl, HO.out.1, HO.out.2, ChT.refl _ _ _⟩
  · have hpos : 0 < n := by omega
    have HLO := Lib.hid (LooseInts_any A n c is w (Rd.of_own ho) hn)
    have hli := ho.1
    rw [ivs_length] at hli
    have HO := Lib.hid (And.intro hB.lt hli)
    have HG := Lib.hid (And.intro hb (And.intro hB.gb_lt hn))
    have e0 : ((n : Int) == 0) = false := by simp; omega
    clear ho hB hli h0
    go_enter Tryd.func36, Tryd.ntmps36
    go_wp2_with (first
      | (go_at_call 87; refine HLO.out.mono ?_; rintro _ w1 ⟨v1, rfl, ho1, hb1⟩; obtain ⟨A1, c1, rfl, hc1, _⟩ := own_shape ho1; have hc1b : n ≤ c1 := (by omega); have H1 := Lib.hid (And.intro ho1 hb1); have HK := Lib.hid (KeepInts_bk (HO.out.1.below hb1) (own_base ho1 (Nat.zero_le _)) (fun g hg => by have h1 := (own_block_lt ho1 hg).2.1; have := HG.out.2.1; omega) (by have := HG.out.2.2; omega) (fun g hg h => by have h1 := (own_block_lt ho1 hg).2.1; omega)); clear ho1 hb1; go_simp)
      | (go_at_call 64; refine HK.out.mono ?_; rintro _ w2 ⟨rfl, hB2, hc2⟩; have H2 := Lib.hid (And.intro hB2 hc2); clear hB2 hc2; go_simp))
    go_ret
    have h1 := own_cht H1.out.1 H2.out.2 (.inl (by decide))
    rw [ivs_append] at h1
    exact ⟨A1, c1, rfl, own_base (own_first h1 (by rw [ivs_length]; have := HO.out.2; omega) (by omega)) HG.out.1, H2.out.1.lt, (ChT.of_below H1.out.2).trans H2.out.2⟩
set_option maxRecDepth 100000 in
set_option maxHeartbeats 800000 in
theorem roomBytes_any {w : World} {gb base n c : Nat} {A : Option Addr} {bs : List UInt8} {P : Nat → Prop} (hB : Bk w gb P) (ho : w.ownsRow base 5 1 (.slice A n c) n (bvs bs)) (hb : base ≤ w.heap.size) (hn : n ≤ 140737488351232) :
    Calls Tryd.prog 37 #[.slice A n c, .pointer (some ⟨gb, 0, none⟩)] w (RoomP 5 gb base n (bvs bs) w) := by
  by_cases h0 : n = 0
  · subst h0
    have HO := Lib.hid (And.intro ho hB.lt)
    clear ho hB
    go_enter Tryd.func37, Tryd.ntmps37
    go_wp2_with fail
    go_ret
    exact ⟨A, c, rfl, HO.out.1, HO.out.2, ChT.refl _ _ _⟩
  · have hpos : 0 < n := by omega
    have HLO := Lib.hid (Loose_any A n c bs w (Rd.of_own ho) hn)
    have hli := ho.1
    rw [bvs_length] at hli
    have HO := Lib.hid (And.intro hB.lt hli)
    have HG := Lib.hid (And.intro hb (And.intro hB.gb_lt hn))
    have e0 : ((n : Int) == 0) = false := by simp; omega
    clear ho hB hli h0
    go_enter Tryd.func37, Tryd.ntmps37
    go_wp2_with (first
      | (go_at_call 53; refine HLO.out.mono ?_; rintro _ w1 ⟨v1, rfl, ho1, hb1⟩; obtain ⟨A1, c1, rfl, hc1, _⟩ := own_shape ho1; have hc1b : n ≤ c1 := (by omega); have H1 := Lib.hid (And.intro ho1 hb1); have HK := Lib.hid (Keep_bk (HO.out.1.below hb1) (own_base ho1 (Nat.zero_le _)) (fun g hg => by have h1 := (own_block_lt ho1 hg).2.1; have := HG.out.2.1; omega) (by have := HG.out.2.2; omega) (fun g hg h => by have h1 := (own_block_lt ho1 hg).2.1; omega)); clear ho1 hb1; go_simp)
      | (go_at_call 17; refine HK.out.mono ?_; rintro _ w2 ⟨rfl, hB2, hc2⟩; have H2 := Lib.hid (And.intro hB2 hc2); clear hB2 hc2; go_simp))
    go_ret
    have h1 := own_cht H1.out.1 H2.out.2 (.inl (by decide))
    rw [bvs_append] at h1
    exact ⟨A1, c1, rfl, own_base (own_first h1 (by rw [bvs_length]; have := HO.out.2; omega) (by omega)) HG.out.1, H2.out.1.lt, (ChT.of_below H1.out.2).trans H2.out.2⟩
end Go.Proofs.YtffcepaegcllmaaDoor
