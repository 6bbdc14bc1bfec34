/-
  few: a packet beside the one asked about; changed: other numbers and bytes in the packet's own lists.
-/
import Derived.Test.YtffcepaegcllmaaDoorLo
import Derived.Test.YtffcepaegcllmaaDoorTurn
namespace Go.Proofs.YtffcepaegcllmaaDoor
open Go.RowKit
/-! What a turned block leaves of a list. -/
theorem own_turn {Ok : Value → Prop} {w w' : World} {base n g : Nat} {e : TypeId} {v : Value} {xs : List Value} {cur cur' : Array Value} (h : w.ownsRow base e 1 v n xs) (hx : ∀ u ∈ xs, Ok u) (hg : w.grownBy w' (some g))
    (hB : Blk w g e cur) (hB' : Blk w' g e cur') (hsz : cur'.size = cur.size) (hb : ∀ (j : Nat) (u : Value), cur'[j]? = some u → cur[j]? = some u ∨ Ok u) : ∃ ys, w'.ownsRow base e 1 v n ys ∧ ∀ u ∈ ys, Ok u := by
  by_cases hv : v.ownBlock = some g
  · rcases h.2 with ⟨h0, h1⟩ | ⟨g', cap, cu, h1, h2, h3, h4, h5, h6, h7⟩
    · rw [h0] at hv
      simp [Value.ownBlock] at hv
    · have hgg : g' = g := by
        rw [h1] at hv
        simpa [Value.ownBlock] using hv
      subst hgg
      have hcu : cu = cur := by
        unfold Blk at hB
        rw [h3] at hB
        injection hB with hB
        injection hB
      subst hcu
      refine ⟨cur'.toList.take (n * 1), ⟨by rw [List.length_take, Array.length_toList, hsz]; omega, .inr ⟨g', cap, cur', h1, h2, hB', h4, h5, by rw [hsz, h6], rfl⟩⟩, fun u hu => ?_⟩
      obtain ⟨j, hj⟩ := List.getElem?_of_mem hu
      rw [List.getElem?_take] at hj
      split at hj
      · rename_i hlt
        rw [Array.getElem?_toList] at hj
        rcases hb j u hj with h | h
        · refine hx u (List.mem_of_getElem? (i := j) ?_)
          rw [← h7, List.getElem?_take, if_pos hlt, Array.getElem?_toList]
          exact h
        · exact h
      · cases hj
  · exact ⟨xs, own_chg h (Chg.of_grown hg) (fun g' h1 h2 => hv (h1.trans h2)), hx⟩
def IsI (u : Value) : Prop := ∃ x : Int, u = .int .i64 x
def IsB (u : Value) : Prop := ∃ c : UInt8, u = .int .u8 (c.toNat : Int)
theorem ivs_isI (is : List Int) : ∀ u ∈ ivs is, IsI u := fun u hu => by
  obtain ⟨x, _, rfl⟩ := List.mem_map.1 hu
  exact ⟨x, rfl⟩
theorem bvs_isB (bs : List UInt8) : ∀ u ∈ bvs bs, IsB u := fun u hu => by
  obtain ⟨x, _, rfl⟩ := List.mem_map.1 hu
  exact ⟨x, rfl⟩
theorem of_isI : ∀ (l : List Value), (∀ u ∈ l, IsI u) → ∃ is, l = ivs is
  | [], _ => ⟨[], rfl⟩
  | u :: l, h => by
    obtain ⟨x, rfl⟩ := h u List.mem_cons_self
    obtain ⟨is, rfl⟩ := of_isI l fun v hv => h v (List.mem_cons_of_mem _ hv)
    exact ⟨x :: is, rfl⟩
theorem of_isB : ∀ (l : List Value), (∀ u ∈ l, IsB u) → ∃ bs, l = bvs bs
  | [], _ => ⟨[], rfl⟩
  | u :: l, h => by
    obtain ⟨x, rfl⟩ := h u List.mem_cons_self
    obtain ⟨bs, rfl⟩ := of_isB l fun v hv => h v (List.mem_cons_of_mem _ hv)
    exact ⟨x :: bs, rfl⟩
theorem own_turnI {w w' : World} {base n g : Nat} {v : Value} {is : List Int} {cur cur' : Array Value} (h : w.ownsRow base 3 1 v n (ivs is)) (hg : w.grownBy w' (some g)) (hB : Blk w g 3 cur) (hB' : Blk w' g 3 cur') (hsz : cur'.size = cur.size) (hb : ∀ (j : Nat) (u : Value), cur'[j]? = some u → cur[j]? = some u ∨ IsI u) : ∃ is', w'.ownsRow base 3 1 v n (ivs is') := by
  obtain ⟨ys, h1, h2⟩ := own_turn h (ivs_isI is) hg hB hB' hsz hb
  obtain ⟨is', rfl⟩ := of_isI ys h2
  exact ⟨is', h1⟩
theorem own_turnB {w w' : World} {base n g : Nat} {v : Value} {bs : List UInt8} {cur cur' : Array Value} (h : w.ownsRow base 5 1 v n (bvs bs)) (hg : w.grownBy w' (some g)) (hB : Blk w g 5 cur) (hB' : Blk w' g 5 cur') (hsz : cur'.size = cur.size) (hb : ∀ (j : Nat) (u : Value), cur'[j]? = some u → cur[j]? = some u ∨ IsB u) : ∃ bs', w'.ownsRow base 5 1 v n (bvs bs') := by
  obtain ⟨ys, h1, h2⟩ := own_turn h (bvs_isB bs) hg hB hB' hsz hb
  obtain ⟨bs', rfl⟩ := of_isB ys h2
  exact ⟨bs', h1⟩
/-- A block that was turned: numbers for numbers, bytes for bytes. -/
structure TurnsIn (Ok : Value → Prop) (e : TypeId) (g : Nat) (w w' : World) : Prop where
  gr : w.grownBy w' (some g)
  tu : ∃ cur cur', Blk w g e cur ∧ Blk w' g e cur' ∧ cur'.size = cur.size ∧ ∀ (j : Nat) (u : Value), cur'[j]? = some u → cur[j]? = some u ∨ Ok u
theorem TurnsIn.cht {Ok : Value → Prop} {e : TypeId} {g : Nat} {w w' : World} (h : TurnsIn Ok e g w w') : ChT [e] 0 w w' := by
  obtain ⟨cur, cur', hB, _⟩ := h.tu
  exact (Chg.of_grown h.gr).mono fun k _ hk => by
    injection hk with hk
    subst hk
    exact ⟨Nat.zero_le _, e, by simp, hB.isT⟩
theorem TurnsIn.set {Ok : Value → Prop} {e : TypeId} {g k : Nat} {w : World} {u : Value} {cur : Array Value} (hB : Blk w g e cur) (hu : Ok u) : TurnsIn Ok e g w (w.setCell ⟨g, k, none⟩ u) := by
  refine ⟨grown_setCell (World.grownBy.refl _ _) _ _, cur, _, hB, hB.set_ k u, by simp, fun j v hv => ?_⟩
  rw [Array.getElem?_setIfInBounds] at hv
  split at hv
  · split at hv
    · injection hv with hv
      subst hv
      exact .inr hu
    · cases hv
  · exact .inl hv
theorem PkOwn.turnI {w w' : World} {base g : Nat} {q : Pk} {D : PkD} (h : PkOwn w base q D) (ht : TurnsIn IsI 3 g w w') : ∃ D', PkOwn w' base q D' := by
  have hc := ht.cht
  obtain ⟨cur, cur', hB, hB', hs, hb⟩ := ht.tu
  obtain ⟨i1, o1⟩ := own_turnI h.oh ht.gr hB hB' hs hb
  obtain ⟨i2, o2⟩ := own_turnI h.op ht.gr hB hB' hs hb
  obtain ⟨i3, o3⟩ := own_turnI h.ov ht.gr hB hB' hs hb
  obtain ⟨i4, o4⟩ := own_turnI h.oe ht.gr hB hB' hs hb
  exact ⟨⟨i1, i2, i3, D.slots, i4, D.body, D.msgs⟩, o1, o2, o3, own_cht h.os hc (.inl (by decide)), o4, own_cht h.ob hc (.inl (by decide)), h.om.cht hc (by decide) (by decide), h.lm, h.sm⟩
theorem msgs_turn {w w' : World} {base g : Nat} (ht : TurnsIn IsB 5 g w w') : ∀ (ml : List Msg), (∀ m ∈ ml, w.ownsRow base 5 1 (.slice m.A m.n m.cap) m.n (bvs m.body)) → (∀ m ∈ ml, m.n ≤ 140737488351232) →
    ∃ ml', ml'.length = ml.length ∧ rowsM ml' = rowsM ml ∧ (∀ m ∈ ml', w'.ownsRow base 5 1 (.slice m.A m.n m.cap) m.n (bvs m.body)) ∧ ∀ m ∈ ml', m.n ≤ 140737488351232
  | [], _, _ => ⟨[], rfl, rfl, fun m h => by simp at h, fun m h => by simp at h⟩
  | m :: l, h, hn => by
    obtain ⟨ml', h1, h2, h3, h4⟩ := msgs_turn ht l (fun x hx => h x (List.mem_cons_of_mem _ hx)) (fun x hx => hn x (List.mem_cons_of_mem _ hx))
    obtain ⟨cur, cur', hB, hB', hs, hb⟩ := ht.tu
    obtain ⟨bs', o1⟩ := own_turnB (h m List.mem_cons_self) ht.gr hB hB' hs hb
    have e : ∀ (z : Msg) (s : List Msg), rowsM (z :: s) = z.cells ++ rowsM s := fun z s => by simp [rowsM]
    refine ⟨{ m with body := bs' } :: ml', by simp [h1], by rw [e, e, h2]; rfl, fun x hx => ?_, fun x hx => ?_⟩
    · rcases List.mem_cons.1 hx with rfl | hx
      · exact o1
      · exact h3 x hx
    · rcases List.mem_cons.1 hx with rfl | hx
      · exact hn m List.mem_cons_self
      · exact h4 x hx
theorem PkOwn.turnB {w w' : World} {base g : Nat} {q : Pk} {D : PkD} (h : PkOwn w base q D) (ht : TurnsIn IsB 5 g w w') : ∃ D', PkOwn w' base q D' := by
  have hc := ht.cht
  obtain ⟨cur, cur', hB, hB', hs, hb⟩ := ht.tu
  obtain ⟨b1, o1⟩ := own_turnB h.ob ht.gr hB hB' hs hb
  obtain ⟨ml', h1, h2, h3, h4⟩ := msgs_turn (base := base) ht D.msgs (fun m hm => by
    obtain ⟨k, hk⟩ := List.getElem?_of_mem hm
    exact h.om.bod k m hk) h.sm
  refine ⟨⟨D.hears, D.set, D.vec, D.slots, D.got, b1, ml'⟩, own_cht h.oh hc (.inl (by decide)), own_cht h.op hc (.inl (by decide)), own_cht h.ov hc (.inl (by decide)), own_cht h.os hc (.inl (by decide)), own_cht h.oe hc (.inl (by decide)), o1, ⟨?_, fun k m hk => h3 m (List.mem_of_getElem? hk)⟩, h1.trans h.lm, h4⟩
  have := own_cht h.om.own hc (.inl (by decide))
  show w'.ownsRow base 82 4 _ ml'.length (rowsM ml')
  rw [h1, h2]
  exact this
/-- changed under way: the packet's box, its lists whatever they hold. -/
structure ChSt (w wr : World) (base : Nat) (q : Pk) : Prop where
  Q : Blk wr w.heap.size 45 q.cells
  own : ∃ D, PkOwn wr base q D
  ch : ChT [3, 5] base w wr
theorem ChSt.turnI {w wr y : World} {base g : Nat} {q : Pk} (h : ChSt w wr base q) (ht : TurnsIn IsI 3 g wr y) (hg : base ≤ g) : ChSt w y base q := by
  obtain ⟨D, hD⟩ := h.own
  obtain ⟨cur, _, hB, _⟩ := ht.tu
  refine ⟨h.Q.cht ht.cht (.inl (by decide)), hD.turnI ht, h.ch.trans ((Chg.of_grown ht.gr).mono fun k _ hk => ?_)⟩
  injection hk with hk
  subst hk
  exact ⟨hg, _, by simp, hB.isT⟩
theorem ChSt.turnB {w wr y : World} {base g : Nat} {q : Pk} (h : ChSt w wr base q) (ht : TurnsIn IsB 5 g wr y) (hg : base ≤ g) : ChSt w y base q := by
  obtain ⟨D, hD⟩ := h.own
  obtain ⟨cur, _, hB, _⟩ := ht.tu
  refine ⟨h.Q.cht ht.cht (.inl (by decide)), hD.turnB ht, h.ch.trans ((Chg.of_grown ht.gr).mono fun k _ hk => ?_)⟩
  injection hk with hk
  subst hk
  exact ⟨hg, 5, by simp, hB.isT⟩
theorem ChSt.over {w wr y : World} {base : Nat} {q : Pk} (h : ChSt w wr base q) (hb : Below wr.heap.size wr y) : ChSt w y base q := by
  obtain ⟨D, hD⟩ := h.own
  exact ⟨h.Q.over hb, ⟨D, hD.below hb⟩, h.ch.trans (ChT.of_below hb)⟩
/-- Where element k of a list lies, in memory of its own. -/
theorem own_at {w : World} {base n c k : Nat} {e : TypeId} {A : Option Addr} {xs : List Value} (h : w.ownsRow base e 1 (.slice A n c) n xs) (hk : k < n) : ∃ g cur u, A = some ⟨g, 0, none⟩ ∧ base ≤ g ∧ Blk w g e cur ∧ xs[k]? = some u ∧ w.cell? ⟨g, k, none⟩ = some u := by
  obtain ⟨g, cap, hv, hb, hlt⟩ := h.form (by omega)
  have hA : A = some ⟨g, 0, none⟩ := by injection hv
  subst hA
  obtain ⟨_, hb2, cur, hB⟩ := own_block_lt h (g := g) rfl
  have hl := h.1
  refine ⟨g, cur, xs[k]'(by omega), rfl, hb2, hB, List.getElem?_eq_getElem _, ?_⟩
  rw [h.cellAt k (by omega)]
  exact List.getElem?_eq_getElem _
theorem xor11 (c : UInt8) : ∃ d : UInt8, bits BinOp.xor IntKind.u8 (c.toNat : Int) 17 = (d.toNat : Int) := by
  have h := xor_u8_bd (c.toNat : Int) 17
  refine ⟨UInt8.ofNat (bits BinOp.xor IntKind.u8 (c.toNat : Int) 17).toNat, ?_⟩
  rw [UInt8.toNat_ofNat', Nat.mod_eq_of_lt (by omega)]
  omega
set_option maxRecDepth 100000 in
set_option maxHeartbeats 800000 in
theorem turn_zero (A : Option Addr) (c : Nat) (w : World) : Calls Tryd.prog 27 #[.slice A 0 c] w fun e w' => ∃ v, e = .returned v ∧ Below w.heap.size w w' := by
  have HCP := Lib.hid (Copied_any A 0 c [] w ⟨rfl, fun h => by omega⟩ (by omega))
  go_enter Tryd.func27, Tryd.ntmps27
  go_wp2_with fail
  go_loopw [3] (fun i wr => i = .int .i64 0 ∧ wr = w) (fun _ _ => 0)
  case atStart => exact ⟨rfl, rfl⟩
  case round =>
    obtain ⟨rfl, rfl⟩ := hrel
    go_wp2_with (go_at_call 31; refine HCP.out.mono ?_; rintro _ w1 ⟨v1, rfl, _, hb1⟩; have H1 := Lib.hid hb1; clear hb1; go_simp)
    go_ret
    exact ⟨v1, rfl, H1.out⟩
/-- turn, of a list in memory of its own. -/
theorem turn_own {w wr : World} {base n c : Nat} {q : Pk} {A : Option Addr} {bs : List UInt8} (ho : wr.ownsRow base 5 1 (.slice A n c) n (bvs bs)) (hn : n ≤ 140737488351232) (hT : ChSt w wr base q) :
    Calls Tryd.prog 27 #[.slice A n c] wr fun e w' => ∃ v, e = .returned v ∧ ChSt w w' base q := by
  by_cases h0 : n = 0
  · subst h0
    refine (turn_zero A c wr).mono ?_
    rintro e w' ⟨v, rfl, hbw⟩
    exact ⟨v, rfl, hT.over hbw⟩
  · obtain ⟨g, cap, cur, hv, hbg, hB, h1, h2, h3, h4⟩ := own_parts ho (by omega)
    have hA : A = some ⟨g, 0, none⟩ := by injection hv
    subst hA
    have hl := ho.1
    rw [bvs_length] at hl
    have hln : bs.length = n := by omega
    subst hln
    have hcur : cur.toList = bvs bs ++ cur.toList.drop (bs.length * 1) := by rw [← h4, List.take_append_drop]
    refine (turn_any g c cur bs _ wr hB hcur hn).mono ?_
    rintro e w' ⟨v, rfl, _, hg, cur', hB', hc'⟩
    have hsz : cur'.size = cur.size := by
      have e1 := congrArg List.length hcur
      have e2 := congrArg List.length hc'
      rw [List.length_append, bvs_length, Array.length_toList] at e1 e2
      rw [turned_length] at e2
      omega
    refine ⟨v, rfl, hT.turnB (g := g) ⟨hg, cur, cur', hB, hB', hsz, fun j u hu => ?_⟩ hbg⟩
    rw [← Array.getElem?_toList, hc'] at hu
    rcases Nat.lt_or_ge j bs.length with hj | hj
    · rw [List.getElem?_append_left (by rw [bvs_length, turned_length]; exact hj)] at hu
      exact .inr (bvs_isB _ _ (List.mem_of_getElem? hu))
    · rw [List.getElem?_append_right (by rw [bvs_length, turned_length]; exact hj), bvs_length, turned_length] at hu
      refine .inl ?_
      rw [← Array.getElem?_toList, hcur, List.getElem?_append_right (by rw [bvs_length]; exact hj), bvs_length]
      exact hu
/-- The packet that few gives. -/
abbrev fewPk (g : Nat) : Pk := { k := 1, s := 2, si := 3, d := 4, di := 0, tk := 5, hA := some ⟨g, 0, none⟩, hn := 3, hc := 3, pA := none, pn := 0, pc := 0, cid := 0, rev := 0, top := 0, p1 := 0, p2 := 0, p3 := 0, p4 := 0, vA := none, vn := 0, vc := 0, f1 := 0, f2 := 0, f3 := 0, f4 := 0, base := 0, sA := none, sn := 0, sc := 0, eA := none, en := 0, ec := 0, w1 := 0, w2 := 0, w3 := 0, w4 := 0, done := 0, pfx := 0, t1 := 0, t2 := 0, t3 := 0, t4 := 0, seq := 0, bA := none, bn := 0, bc := 0, a1 := 0, a2 := 0, a3 := 0, a4 := 0, upto := 0, g1 := 0, g2 := 0, g3 := 0, g4 := 0, mA := none, mn := 0, mc := 0 }
abbrev fewD : PkD := ⟨[6, 7, 8], [], [], [], [], [], []⟩
theorem few_valid (g : Nat) : validB (fewPk g) fewD = true := by rfl
def FewP (w : World) (e : Ending) (w' : World) : Prop := ∃ g, e = .returned (.agg (fewPk g).cells) ∧ PkIn w' w'.heap.size (fewPk g) fewD ∧ Below w.heap.size w w'
theorem rd_nil {w : World} {B sz : Nat} : Rd w B sz none 0 [] := ⟨by simp, fun h => by omega⟩
set_option maxRecDepth 100000 in
set_option maxHeartbeats 1600000 in
theorem few_any (w : World) : Calls Tryd.prog 12 #[] w (FewP w) := by
  obtain ⟨w1, hw1⟩ : ∃ x, x = w.alloc (.cells zeroCells 45) := ⟨_, rfl⟩
  obtain ⟨w2, hw2⟩ : ∃ x, x = w1.alloc (.cells #[.int .i64 6, .int .i64 7, .int .i64 8] 3) := ⟨_, rfl⟩
  have hs1 : w1.heap.size = w.heap.size + 1 := by rw [hw1]; simp
  have HZ : Hid (Blk w2 w.heap.size 45 zeroCells) := Lib.hid (by rw [hw2, hw1]; exact (Blk.new _ _ _).alloc _)
  have HL : Hid (Blk w2 w1.heap.size 3 #[.int .i64 6, .int .i64 7, .int .i64 8]) := Lib.hid (by rw [hw2]; exact Blk.new _ _ _)
  have HB : Hid (Below w.heap.size w w2) := Lib.hid (by rw [hw2, hw1]; exact (one_box _ _).trans ((one_box _ _).mono (by simp)))
  have HFIN : Hid (FewP w (.returned (.agg (fewPk w1.heap.size).cells)) (w2.setRow w.heap.size (fewPk w1.heap.size).cells)) := Lib.hid (by
    have hne : w1.heap.size ≠ w.heap.size := by omega
    have hLs : Blk (w2.setRow w.heap.size (fewPk w1.heap.size).cells) w1.heap.size 3 #[.int .i64 6, .int .i64 7, .int .i64 8] := (setRow_other _ _ _ _ hne).trans HL.out
    refine ⟨w1.heap.size, rfl, ⟨⟨rfl, fun _ => ⟨w1.heap.size, 0, rfl, hLs.lt, fun j u hu => ?_⟩⟩, rd_nil, rd_nil, ⟨rfl, fun h => absurd (show 0 < 0 from h) (by omega)⟩, rd_nil, rd_nil, ⟨rfl, fun m h => by simp at h, fun h => absurd (show 0 < 0 from h) (by omega)⟩⟩, HB.out.trans (below_setRow (Nat.le_refl _))⟩
    rw [Nat.zero_add, hLs.cell, ← Array.getElem?_toList]
    exact hu)
  have HW1 := Lib.hid hw1
  have HW2 := Lib.hid hw2
  clear hw1 hw2 hs1
  go_enter Tryd.func12, Tryd.ntmps12
  go_upto_region 1 with fail
  rw [← HW1.out]
  go_wp2_with (rw [← HW2.out]; (refine wpList_store_row (by rfl) 45 _ _ (by rfl) w.heap.size (fewPk w1.heap.size).cells (by rfl) (by rfl) 45 zeroCells HZ.out (by kernel_rfl) rfl (by kernel_rfl) ?_; simp only [Act.put]))
  exact bodyPost_ret (results_cell_row (P := Tryd.prog) rfl _ (w2.setRow w.heap.size (fewPk w1.heap.size).cells) w.heap.size 45 (fewPk w1.heap.size).cells (0, 0) _ rfl (setRow_heap _ _ _ _ _ _ HZ.out) Tryd.underlying45 rfl (by kernel_rfl)) rfl HFIN.out
set_option maxRecDepth 100000 in
set_option maxHeartbeats 6400000 in
theorem changed_any {w : World} {base : Nat} {q : Pk} {D : PkD} (ho : PkOwn w base q D) (hsz : PkSz q) :
    Calls Tryd.prog 20 #[.agg q.cells] w fun e w' => e = .returned (.tuple #[]) ∧ (∃ D', PkOwn w' base q D') ∧ ChT [3, 5] base w w' := by
  obtain ⟨x0, hx0⟩ : ∃ x, x = w.alloc (.cells q.cells 45) := ⟨_, rfl⟩
  have hb2 : Below w.heap.size w x0 := by rw [hx0]; exact one_box _ _
  have HT0 : Hid (ChSt w x0 base q) := Lib.hid ⟨by rw [hx0]; exact Blk.new _ _ _, ⟨D, ho.below hb2⟩, ChT.of_below hb2⟩
  have HX0 := Lib.hid hx0
  have hh := hsz.hh
  have he := hsz.ee
  have hbb := hsz.bb
  have hmm := hsz.mm
  obtain ⟨hA, hhA⟩ : ∃ a, a = q.hA := ⟨_, rfl⟩
  have HHA := Lib.hid hhA
  obtain ⟨eA, heA⟩ : ∃ a, a = q.eA := ⟨_, rfl⟩
  have HEA := Lib.hid heA
  obtain ⟨bA, hbA⟩ : ∃ a, a = q.bA := ⟨_, rfl⟩
  have HBA := Lib.hid hbA
  obtain ⟨mA, hmA⟩ : ∃ a, a = q.mA := ⟨_, rfl⟩
  have HMA := Lib.hid hmA
  clear hx0 ho hb2 hsz hhA heA hbA hmA
  go_enter Tryd.func20, Tryd.ntmps20
  go_upto_region 1 with fail
  rw [← HX0.out]
  go_wp2_with fail
  go_loopw [2] (fun i wr => ∃ k : Nat, k ≤ q.hn ∧ i = .int .i64 (k : Int) ∧ Hid (ChSt w wr base q)) (fun i _ => q.hn - (intOf i).toNat)
  case atStart => exact ⟨0, by omega, rfl, HT0⟩
  case round =>
    obtain ⟨k, hk, rfl, HJ⟩ := hrel
    have r6 : wr.cell? ⟨w.heap.size, 6, none⟩ = some (.slice hA q.hn q.hc) := by rw [HJ.out.Q.cell, HHA.out]; rfl
    by_cases hlt : k < q.hn
    · have hI : (k : Int) < (q.hn : Int) := by omega
      obtain ⟨D1, hD1⟩ := HJ.out.own
      obtain ⟨g, cur, u, hg, hbg, hB, hu, hcell⟩ := own_at hD1.oh hlt
      rw [← HHA.out] at hg
      subst hg
      have z0 := hB.frozen k
      have HT1 : Hid (ChSt w (wr.setCell ⟨g, k, none⟩ (.int .i64 (5 + (k : Int)))) base q) := Lib.hid (HJ.out.turnI (TurnsIn.set hB ⟨_, rfl⟩) hbg)
      clear hD1 hB hu hbg
      go_wp2_with fail
      go_roundw
      case rel => exact ⟨k + 1, by omega, by go_num, HT1⟩
      case measure => simp [intOf] <;> omega
    · obtain rfl : k = q.hn := by omega
      have hI : ¬ (q.hn : Int) < (q.hn : Int) := by omega
      have hD : decide ((q.hn : Int) < (q.hn : Int)) = false := by simp
      have HT3 := HJ
      clear HJ
      go_wp2_with fail
      clear hI hD r6
      go_loopw [3] (fun i wr => ∃ k : Nat, k ≤ q.en ∧ i = .int .i64 (k : Int) ∧ Hid (ChSt w wr base q)) (fun i _ => q.en - (intOf i).toNat)
      case atStart => exact ⟨0, by omega, rfl, HT3⟩
      case round =>
        obtain ⟨k, hk, rfl, HJ⟩ := hrel
        have r22 : wr.cell? ⟨w.heap.size, 22, none⟩ = some (.slice eA q.en q.ec) := by rw [HJ.out.Q.cell, HEA.out]; rfl
        by_cases hlt : k < q.en
        · have hI : (k : Int) < (q.en : Int) := by omega
          obtain ⟨D1, hD1⟩ := HJ.out.own
          obtain ⟨g, cur, u, hg, hbg, hB, hu, hcell⟩ := own_at hD1.oe hlt
          rw [← HEA.out] at hg
          subst hg
          have z0 := hB.frozen k
          have HT1 : Hid (ChSt w (wr.setCell ⟨g, k, none⟩ (.int .i64 (5 + (k : Int)))) base q) := Lib.hid (HJ.out.turnI (TurnsIn.set hB ⟨_, rfl⟩) hbg)
          clear hD1 hB hu hbg
          go_wp2_with fail
          go_roundw
          case rel => exact ⟨k + 1, by omega, by go_num, HT1⟩
          case measure => simp [intOf] <;> omega
        · obtain rfl : k = q.en := by omega
          have hI : ¬ (q.en : Int) < (q.en : Int) := by omega
          have hD : decide ((q.en : Int) < (q.en : Int)) = false := by simp
          have HT5 := HJ
          clear HJ
          go_wp2_with fail
          clear hI hD r22
          go_loopw [4] (fun i wr => ∃ k : Nat, k ≤ q.bn ∧ i = .int .i64 (k : Int) ∧ Hid (ChSt w wr base q)) (fun i _ => q.bn - (intOf i).toNat)
          case atStart => exact ⟨0, by omega, rfl, HT5⟩
          case round =>
            obtain ⟨k, hk, rfl, HJ⟩ := hrel
            have r34 : wr.cell? ⟨w.heap.size, 34, none⟩ = some (.slice bA q.bn q.bc) := by rw [HJ.out.Q.cell, HBA.out]; rfl
            by_cases hlt : k < q.bn
            · have hI : (k : Int) < (q.bn : Int) := by omega
              obtain ⟨wd, hwd⟩ : ∃ wd, wd = wr.drew := ⟨_, rfl⟩
              have HTd : Hid (ChSt w wd base q) := Lib.hid (by rw [hwd]; exact HJ.out.over (below_drewN (Below.refl _ _) 1))
              have HWD := Lib.hid hwd
              have s34 : wd.cell? ⟨w.heap.size, 34, none⟩ = some (.slice bA q.bn q.bc) := by rw [HTd.out.Q.cell, HBA.out]; rfl
              obtain ⟨D1, hD1⟩ := HTd.out.own
              obtain ⟨g, cur, u, hg, hbg, hB, hu, hcell⟩ := own_at hD1.ob hlt
              obtain ⟨c, rfl⟩ := bvs_isB _ _ (List.mem_of_getElem? hu)
              obtain ⟨d, hd⟩ := xor11 c
              rw [← HBA.out] at hg
              subst hg
              have z0 := hB.frozen k
              have HT1 : Hid (ChSt w (wd.setCell ⟨g, k, none⟩ (.int .u8 (bits BinOp.xor IntKind.u8 (c.toNat : Int) 17))) base q) := Lib.hid (HTd.out.turnB (TurnsIn.set hB ⟨d, by rw [hd]⟩) hbg)
              clear hD1 hB hu hbg hd hwd
              go_upto_region 12 with fail
              refine region_tailL 12 (by kernel_rfl) (by kernel_rfl) ?_
              simp only [List.take_succ_cons, List.take_zero, List.drop_succ_cons, List.drop_zero]
              rw [← HWD.out]
              repeat still_step
              refine wpStill_nil ?_
              change wpList _ _ _ _ _ wd
              go_wp2_with fail
              go_roundw
              case rel => exact ⟨k + 1, by omega, by go_num, HT1⟩
              case measure => simp [intOf] <;> omega
            · obtain rfl : k = q.bn := by omega
              have hI : ¬ (q.bn : Int) < (q.bn : Int) := by omega
              have hD : decide ((q.bn : Int) < (q.bn : Int)) = false := by simp
              have HT7 := HJ
              clear HJ
              go_wp2_with fail
              clear hI hD r34
              go_loopw [5] (fun i wr => ∃ k : Nat, k ≤ q.mn ∧ i = .int .i64 (k : Int) ∧ Hid (ChSt w wr base q)) (fun i _ => q.mn - (intOf i).toNat)
              case atStart => exact ⟨0, by omega, rfl, HT7⟩
              case round =>
                obtain ⟨k, hk, rfl, HJ⟩ := hrel
                have r44 : wr.cell? ⟨w.heap.size, 44, none⟩ = some (.slice mA q.mn q.mc) := by rw [HJ.out.Q.cell, HMA.out]; rfl
                by_cases hlt : k < q.mn
                · have hI : (k : Int) < (q.mn : Int) := by omega
                  obtain ⟨D1, hD1⟩ := HJ.out.own
                  obtain ⟨m, hm⟩ : ∃ m, D1.msgs[k]? = some m := ⟨_, List.getElem?_eq_getElem (by rw [hD1.lm]; exact hlt)⟩
                  obtain ⟨g, cap, hv, _, _⟩ := hD1.om.own.form (by rw [hD1.lm]; omega)
                  have hg : q.mA = some ⟨g, 0, none⟩ := by injection hv
                  clear hv
                  have m3 : wr.cell? ⟨g, k * 4 + 3, none⟩ = some (.slice m.A m.n m.cap) := by
                    have h := hD1.om.own
                    rw [hD1.lm, hg] at h
                    have h1 := h.cellAt (k * 4 + 3) (by omega)
                    rw [h1, rowsM_at hm (by omega)]
                    rfl
                  rw [← HMA.out] at hg
                  subst hg
                  have HTU := Lib.hid (turn_own (hD1.om.bod k m hm) (hD1.sm m (List.mem_of_getElem? hm)) HJ.out)
                  clear hD1 hm
                  go_wp2_with (go_at_call 27; refine HTU.out.mono ?_; rintro _ y ⟨v1, rfl, ht⟩; have HT1 := Lib.hid ht; clear ht; go_simp)
                  go_roundw
                  case rel => exact ⟨k + 1, by omega, by go_num, HT1⟩
                  case measure => simp [intOf] <;> omega
                · obtain rfl : k = q.mn := by omega
                  have hI : ¬ (q.mn : Int) < (q.mn : Int) := by omega
                  have hD : decide ((q.mn : Int) < (q.mn : Int)) = false := by simp
                  go_wp2_with fail
                  go_end0
                  exact ⟨rfl, HJ.out.own, HJ.out.ch⟩
end Go.Proofs.YtffcepaegcllmaaDoor
