/-
  EtherRoomy, walked.
-/
import Derived.Test.YtgfhmfhhobhojaaEOnP
namespace Go.Proofs.Ytgfhmfhhobhojaa
open Go.ChangeShapes Go.WideShapes Go.ChangeAt Go.RowKit
/-- Two nodes, both up, both paths open; k packets less one have been put in, none has left. -/
structure Rm (c : ECfg) (p : PV) (k : Nat) : Prop where
  two : c.n = 2
  up0 : p.down 0 = false
  up1 : p.down 1 = false
  o10 : p.shut 1 0 = false
  o01 : p.shut 0 1 = false
  last : p.last + 1 = k
  len : p.way.length + 1 = k
theorem Rm.join {c : ECfg} {p : PV} {k : Nat} (h : Rm c p k) : joinB c 1 0 = true ∧ joinB c 0 1 = true := ⟨joinB_nat (i := 1) (j := 0) (by rw [h.two]; decide) (by rw [h.two]; decide) (by decide), joinB_nat (i := 0) (j := 1) (by rw [h.two]; decide) (by rw [h.two]; decide) (by decide)⟩
theorem Rm.post {c : ECfg} {p : PV} {k : Nat} (h : Rm c p k) (hk : k ≤ c.room) (bs : List UInt8) (hb : bs.length ≤ 40000) : postE c p 1 0 bs.length true = 0 ∧ postR c p 1 0 bs.length true = (k : Int) ∧ Rm c (postP c p 1 0 bs true) (k + 1) := by
  have hl := h.len
  have hla := h.last
  have e : postE c p 1 0 bs.length true = 0 := by
    unfold postE launchE
    rw [if_pos ⟨h.join.1, hb⟩, show (0 : Int).toNat = 0 from rfl, show (1 : Int).toNat = 1 from rfl, h.up1, h.o10, if_neg (by simp), if_neg (by simp), if_neg (by omega)]
  refine ⟨e, ?_, ?_⟩
  · unfold postR; rw [if_pos e]; omega
  · unfold postP; rw [if_pos e]
    exact ⟨h.two, h.up0, h.up1, h.o10, h.o01, by show p.last + 1 + 1 = _; omega, by show (p.way ++ [_]).length + 1 = _; rw [List.length_append]; simp only [List.length_cons, List.length_nil]; omega⟩
theorem Rm.full {c : ECfg} {p : PV} (h : Rm c p (c.room + 1)) : postE c p 1 0 0 true = 31 ∧ postP c p 1 0 [] true = p := by
  have hl := h.len
  have e : postE c p 1 0 0 true = 31 := by
    unfold postE launchE
    rw [if_pos ⟨h.join.1, by omega⟩, show (0 : Int).toNat = 0 from rfl, show (1 : Int).toNat = 1 from rfl, h.up1, h.o10, if_neg (by simp), if_neg (by simp), if_pos (by omega)]
  refine ⟨e, ?_⟩
  unfold postP
  rw [show postE c p 1 0 ([] : List UInt8).length true = 31 from e]
  rfl
theorem Rm.dup {c : ECfg} {p : PV} (h : Rm c p (c.room + 1)) (h1 : 1 ≤ c.room) : doD c p ⟨13, (c.room : Int) - 1, 0, 0, [], []⟩ = (31, p) := by
  have hl := h.len
  have e : ((c.room : Int) - 1).toNat = c.room - 1 := by omega
  unfold doD
  rw [if_neg (by simp), if_neg (by simp), if_pos (by simp), if_pos (by show 0 ≤ (c.room : Int) - 1; omega)]
  show (match p.way[((c.room : Int) - 1).toNat]? with | some f => _ | none => _) = _
  rw [e, List.getElem?_eq_getElem (by omega)]
  show touchD c p _ _ 13 0 = _
  unfold touchD
  rw [if_neg (by decide), if_pos rfl, if_pos (by omega)]
theorem Rm.drop {c : ECfg} {p : PV} (h : Rm c p (c.room + 1)) (h1 : 1 ≤ c.room) : (doD c p ⟨12, (c.room : Int) - 1, 0, 0, [], []⟩).1 = 0 ∧ (doD c p ⟨12, (c.room : Int) - 1, 0, 0, [], []⟩).2.last = p.last ∧ (doD c p ⟨12, (c.room : Int) - 1, 0, 0, [], []⟩).2.way.length + 1 = c.room ∧ (doD c p ⟨12, (c.room : Int) - 1, 0, 0, [], []⟩).2.down = p.down ∧ (doD c p ⟨12, (c.room : Int) - 1, 0, 0, [], []⟩).2.shut = p.shut := by
  have hl := h.len
  have e : ((c.room : Int) - 1).toNat = c.room - 1 := by omega
  have e2 : doD c p ⟨12, (c.room : Int) - 1, 0, 0, [], []⟩ = (0, { p with way := p.way.eraseIdx (c.room - 1) }) := by
    unfold doD
    rw [if_neg (by simp), if_neg (by simp), if_pos (by simp), if_pos (by show 0 ≤ (c.room : Int) - 1; omega)]
    show (match p.way[((c.room : Int) - 1).toNat]? with | some f => touchD c p ((c.room : Int) - 1).toNat f 12 0 | none => _) = _
    rw [e, List.getElem?_eq_getElem (by omega)]
    show touchD c p _ _ 12 0 = _
    unfold touchD
    rw [if_pos rfl]
  rw [e2]
  refine ⟨rfl, rfl, ?_, rfl, rfl⟩
  show (p.way.eraseIdx _).length + 1 = _
  rw [List.length_eraseIdx, if_pos (by omega)]
  omega
theorem room_again {c : ECfg} {p q : PV} (h : Rm c p (c.room + 1)) (h1 : q.last = p.last) (h2 : q.way.length + 1 = c.room) (h3 : q.down = p.down) (h4 : q.shut = p.shut) : postE c q 0 1 0 true = 0 ∧ postR c q 0 1 0 true = (c.room : Int) + 1 := by
  have hla := h.last
  have e : postE c q 0 1 0 true = 0 := by
    unfold postE launchE
    rw [if_pos ⟨h.join.2, by omega⟩, show (0 : Int).toNat = 0 from rfl, show (1 : Int).toNat = 1 from rfl, h3, h4, h.up0, h.o01, if_neg (by simp), if_neg (by simp), if_neg (by omega)]
  refine ⟨e, ?_⟩
  unfold postR; rw [if_pos e]; omega
theorem ids_next {c : ECfg} {p : PV} {m s : Nat} {f f' : Flt} (h : PInv c p m) (h1 : p.way[s]? = some f') (h2 : p.way[s + 1]? = some f) : f'.id < f.id := by
  obtain ⟨l1, e1⟩ := List.getElem?_eq_some_iff.1 h1
  obtain ⟨l2, e2⟩ := List.getElem?_eq_some_iff.1 h2
  have h3 := List.pairwise_iff_getElem.1 h.ids.1 s (s + 1) l1 l2 (Nat.lt_succ_self s)
  rw [e1, e2] at h3
  exact h3
theorem Rm.new (c : ECfg) (h : c.n = 2) : Rm c PV.new 1 := ⟨h, rfl, rfl, rfl, rfl, rfl, rfl⟩
set_option maxRecDepth 100000 in
set_option maxHeartbeats 1600000 in
theorem Rm_none {w : World} (x0 x1 r : Int) (h0 : r < 1 ∨ 20000 < r) (A : Option Addr) (n cap : Nat) : Calls Try.prog 4 #[.agg #[.int .i64 x0, .int .i64 x1, .slice A n cap], .int .i64 r] w (TrueOk w) := by
  have hb0 := one_box' w (.cells #[.int .i64 x0, .int .i64 x1, .slice A n cap] 24)
  obtain ⟨w0, hw0⟩ : ∃ w0, w0 = w.alloc (.cells #[.int .i64 x0, .int .i64 x1, .slice A n cap] 24) := ⟨_, rfl⟩
  rw [← hw0] at hb0
  have HW := Lib.hid hw0
  have hs0 := hb0.size
  have HB0 := Lib.hid hb0
  have HNEW := Lib.hid (New_no (w := w0) 2 r (fun h => by have h1 := h.2.2.1; have h2 := h.2.2.2; omega))
  clear hw0 hb0
  go_enter Try.func4, Try.ntmps4
  go_upto_region 1 with fail
  rw [← HW.out]
  rcases h0 with h1 | h1
  · go_wp2_with (go_at_call 15; refine HNEW.out.mono ?_; rintro _ _ ⟨rfl, rfl⟩)
    go_ret
    exact ⟨rfl, HB0.out⟩
  · have h2 : ¬ r < 1 := by omega
    go_wp2_with (go_at_call 15; refine HNEW.out.mono ?_; rintro _ _ ⟨rfl, rfl⟩)
    go_ret
    exact ⟨rfl, HB0.out⟩

set_option maxRecDepth 100000 in
set_option maxHeartbeats 3200000 in
theorem Rm_yes {w : World} {c : ECfg} (hc : c.Ok) (h2 : c.n = 2) (x0 x1 : Int) (A : Option Addr) (n cap : Nat) (hcap : n ≤ cap) (hcm : cap * 80 ≤ 140737488351232) (HO : Hid (EOps w w.heap.size 140737488351232 17592186043904 A n)) :
    Calls Try.prog 4 #[.agg #[.int .i64 x0, .int .i64 x1, .slice A n cap], .int .i64 (c.room : Int)] w (TrueOk w) := by
  have hb0 := one_box' w (.cells #[.int .i64 x0, .int .i64 x1, .slice A n cap] 24)
  have hR := Blk.new w 24 #[.int .i64 x0, .int .i64 x1, .slice A n cap]
  obtain ⟨w0, hw0⟩ : ∃ w0, w0 = w.alloc (.cells #[.int .i64 x0, .int .i64 x1, .slice A n cap] 24) := ⟨_, rfl⟩
  rw [← hw0] at hb0 hR
  have HW := Lib.hid hw0
  have hs0 := hb0.size
  have HOP : Hid (EOps w0 w.heap.size 140737488351232 17592186043904 A n) := HO.out.below hb0
  have HR := Lib.hid hR
  have HB0 := Lib.hid hb0
  have HC := Lib.hid hc
  have hnew := New_yes (w := w0) hc
  rw [h2, show ((2 : Nat) : Int) = 2 from rfl] at hnew
  have HNEW := Lib.hid hnew
  have H2 := Lib.hid h2
  have hn1 : ¬ (c.room : Int) < 1 := by have := hc.2.2.1; omega
  have hn2 : ¬ (20000 : Int) < (c.room : Int) := by have := hc.2.2.2; omega
  have hr1 : 1 ≤ c.room := hc.2.2.1
  have hr2 : c.room ≤ 20000 := hc.2.2.2
  clear hw0 hR hb0 hc hnew h2
  go_enter Try.func4, Try.ntmps4
  go_upto_region 1 with fail
  rw [← HW.out]
  go_upto_region 2 with (go_at_call 15; refine HNEW.out.mono ?_; rintro _ w1 ⟨D, F1, rfl, hp, hF, hb1⟩; have HP1 := Lib.hid (And.intro hp (And.intro hF hb1)); clear hp hF hb1)
  have HST : Hid (∃ p, LiveX w1 w0.heap.size c D 1 p ∧ Rm c p 1) := Lib.hid ⟨_, (LiveX.new HC.out HP1.out.1 HP1.out.2.1 HP1.out.2.2).mono (by omega), Rm.new c H2.out⟩
  have HSB : Hid (Below w0.heap.size w0 w1) := Lib.hid HP1.out.2.2
  go_upto_region 6 with fail
  clear hn1 hn2
  go_wp2_with fail
  go_loopw [4, 7, 8, 9] (fun _ i _ _ wr => ∃ k : Nat, 1 ≤ k ∧ k ≤ c.room + 1 ∧ i = .int .i64 (k : Int) ∧ Hid (∃ p, LiveX wr w0.heap.size c D k p ∧ Rm c p k) ∧ Hid (Below w0.heap.size w0 wr)) (fun _ i _ _ _ => c.room + 1 - (intOf i).toNat)
  case atStart => exact ⟨1, by omega, by omega, rfl, HST, HSB⟩
  case round =>
    clear HST HSB
    obtain ⟨k, hk1, hk, rfl, HT, HB⟩ := hrel
    obtain ⟨p, hX, hRm⟩ := HT.out
    have HX := Lib.hid hX
    have HRM := Lib.hid hRm
    clear hX hRm HT
    by_cases hlt : k ≤ c.room
    · have hI : (k : Int) ≤ (c.room : Int) := by omega
      have hpo := HRM.out.post hlt [UInt8.ofNat k] (by simp)
      have hpl := XPostL HC.out HX.out (by omega) 1 0 1 [UInt8.ofNat k] (by simp)
      rw [hpo.1, hpo.2.1] at hpl
      have hby : bvs [UInt8.ofNat k] = [.int .u8 ((k : Int) % 256)] := by
        simp only [bvs, List.map_cons, List.map_nil, UInt8.toNat_ofNat']
        congr 2
      rw [hby] at hpl
      have HPL : Hid (Calls Try.prog 20 #[.pointer (some ⟨D, 0, none⟩), .int .i64 1, .int .i64 0, .slice (some ⟨wr.heap.size, 0, none⟩) 1 1] (wr.alloc (.cells #[.int .u8 ((k : Int) % 256)] 5)) fun e2 w' => e2 = .returned (.tuple #[.int .i64 (k : Int), .int .i64 0]) ∧ LiveX w' w0.heap.size c D (k + 1) (postP c p 1 0 [UInt8.ofNat k] true) ∧ Below w0.heap.size wr w') := Lib.hid hpl
      have HN := Lib.hid hpo.2.2
      have hwu : IntKind.u8.wrap (k : Int) = (k : Int) % 256 := by simp [IntKind.wrap, IntKind.signed, IntKind.bits]
      clear hpo hpl hby
      go_wp2_with (go_at_call 20; refine HPL.out.mono ?_; rintro _ w2 ⟨rfl, hn⟩; have HX2 := Lib.hid hn; clear hn)
      have HNR : Hid (∃ p, LiveX w2 w0.heap.size c D (k + 1) p ∧ Rm c p (k + 1)) := Lib.hid ⟨_, HX2.out.1, HN.out⟩
      have HNB := Lib.hid (HB.out.trans HX2.out.2)
      go_roundw
      case rel => first | exact ⟨k + 1, by omega, by omega, by go_num, HNR, HNB⟩ | ((repeat apply Exists.intro); exact ⟨⟨k + 1, by omega, by omega, by go_num, HNR, HNB⟩, rfl⟩)
      case measure => simp [intOf] <;> omega
    · obtain rfl : k = c.room + 1 := by omega
      have hI : ¬ (((c.room + 1 : Nat) : Int) ≤ (c.room : Int)) := by omega
      have hfu := HRM.out.full
      have hpl := XPost0 HC.out HX.out (by omega) 1 0
      rw [hfu.1, hfu.2] at hpl
      have HPL := Lib.hid hpl
      clear hfu hpl
      go_upto_region 13 with (go_at_call 20; refine HPL.out.mono ?_; rintro _ w2 ⟨rfl, hn⟩; have HX2 := Lib.hid hn; clear hn)
      have hdu := XDo0 HC.out HX2.out.1 (by omega) 13 ((c.room : Int) - 1) 0 0 (by omega)
      rw [HRM.out.dup hr1] at hdu
      have HDU := Lib.hid hdu
      have hiw : IntKind.i64.wrap ((c.room : Int) - 1) = (c.room : Int) - 1 := IntWalk.i64_in _ (by omega)
      clear hdu hI
      go_upto_region 15 with (go_at_call 19; refine HDU.out.mono ?_; rintro _ w3 ⟨rfl, hn⟩; have HX3 := Lib.hid hn; clear hn)
      have hdr := HRM.out.drop hr1
      have hdo := XDo0 HC.out HX3.out.1 (by omega) 12 ((c.room : Int) - 1) 0 0 (by omega)
      rw [hdr.1] at hdo
      have HDO := Lib.hid hdo
      have HDR := Lib.hid hdr.2
      obtain ⟨p4, hp4⟩ : ∃ p4, p4 = (doD c p ⟨12, (c.room : Int) - 1, 0, 0, [], []⟩).2 := ⟨_, rfl⟩
      rw [← hp4] at HDO HDR
      clear hdr hdo hp4
      go_upto_region 17 with (go_at_call 19; refine HDO.out.mono ?_; rintro _ w4 ⟨rfl, hn⟩; have HX4 := Lib.hid hn; clear hn)
      have hag := room_again HRM.out HDR.out.1 HDR.out.2.1 HDR.out.2.2.1 HDR.out.2.2.2
      have hpl := XPost0 HC.out HX4.out.1 (by omega) 0 1
      rw [hag.1, hag.2] at hpl
      have HPL2 := Lib.hid hpl
      clear hag hpl hiw
      go_upto_region 20 with (go_at_call 20; refine HPL2.out.mono ?_; rintro _ w5 ⟨rfl, hn⟩; have HX5 := Lib.hid hn; clear hn)
      have HST : Hid (∃ p, LiveX w5 w0.heap.size c D (c.room + 10 + 0) p) := Lib.hid ⟨_, HX5.out.1.mono (by omega)⟩
      have HSB : Hid (Below w0.heap.size w0 w5) := Lib.hid (((((HB.out.trans HX2.out.2).trans HX3.out.2).trans HX4.out.2)).trans HX5.out.2)
      go_wp2_with fail
      go_loopw [4, 11, 12, 13] (fun _ i _ _ wr => ∃ k : Nat, k ≤ n ∧ i = .int .i64 (k : Int) ∧ Hid (∃ p, LiveX wr w0.heap.size c D (c.room + 10 + k) p) ∧ Hid (Below w0.heap.size w0 wr)) (fun _ i _ _ _ => n - (intOf i).toNat)
      case atStart => exact ⟨0, by omega, rfl, HST, HSB⟩
      case round =>
        clear HST HSB
        obtain ⟨k, hk, rfl, HT, HBT⟩ := hrel
        have hRr := HR.out.over HBT.out
        have r2 : wr.cell? ⟨w.heap.size, 2, none⟩ = some (.slice A n cap) := hRr.cell 2
        have hsr := HBT.out.size
        by_cases hlt : k < n
        · have hI : (k : Int) < (n : Int) := by omega
          obtain ⟨b, off, rfl, hbl, hops⟩ := (HOP.out.below (HBT.out.mono hs0)) (by omega)
          obtain ⟨kd, q, qq, nn, BA, bc, bs, SA, sc, sides, hop⟩ := hops k hlt
          have o0 := hop.c0
          have o1 := hop.c1
          have o2 := hop.c2
          have o3 := hop.c3
          have o4 := hop.c4
          have o5 := hop.c5
          have HPL : Hid (Calls Try.prog 16 #[.pointer (some ⟨D, 0, none⟩), .agg #[.int .i64 kd, .int .i64 q, .int .i64 qq, .int .i64 nn, .slice BA bs.length bc, .slice SA sides.length sc]] wr fun e w' => e = .returned (.tuple #[]) ∧ ∃ p', LiveX w' w0.heap.size c D (c.room + 10 + k + 1) p' ∧ Below w0.heap.size wr w') := by
            obtain ⟨p0, hx⟩ := HT.out
            exact Lib.hid (XPlay HC.out hx (by omega) (hop.more hs0) (Nat.le_refl _) (Nat.le_refl _))
          clear hop hops hRr
          go_upto_region 24 with (go_at_call 16; refine HPL.out.mono ?_; rintro _ w6 ⟨rfl, p6, hn⟩; have HX6 := Lib.hid hn; clear hn)
          clear o0 o1 o2 o3 o4 o5 r2
          have HFL := Lib.hid (XFlights HC.out HX6.out.1 (by omega))
          have hwl := HX6.out.1.inv.room
          go_upto_region 25 with (go_at_call 23; refine HFL.out.mono ?_; rintro _ w7 ⟨A7, cap7, rfl, hfl, hb⟩; have HF7 := Lib.hid hfl; have HB7 := Lib.hid hb; clear hfl hb)
          have hgt : ¬ (c.room : Int) < (p6.way.length : Int) := by omega
          have HX7 := Lib.hid (HX6.out.1.below HB7.out)
          have HB7S := Lib.hid (HB7.out.mono HX6.out.1.1)
          go_upto_region 27 with fail
          clear hgt
          go_wp2_with fail
          go_loopw [4, 13] (fun _ j wr => ∃ q : Nat, q ≤ p6.way.length ∧ j = .int .i64 (q : Int) ∧ Hid (Below w7.heap.size w7 wr)) (fun _ j _ => p6.way.length - (intOf j).toNat)
          case atStart => exact ⟨0, by omega, rfl, Lib.hid (Below.refl _ _)⟩
          case round =>
            obtain ⟨q, hq, rfl, HBQ⟩ := hrel
            by_cases hlq : q < p6.way.length
            · have hIq : (q : Int) < (p6.way.length : Int) := by omega
              obtain ⟨f, hf⟩ : ∃ f, p6.way[q]? = some f := ⟨p6.way[q], List.getElem?_eq_getElem hlq⟩
              obtain ⟨g, bA, bcc, hA7, _, c0, _, _, c3, _⟩ := (HF7.out.below HBQ.out).at_ q f hf
              have hdue := HX6.out.1.inv.due f (List.mem_of_getElem? hf)
              have hd1 : decide ((f.due : Int) ≤ (p6.clock : Int)) = false := decide_eq_false (by omega)
              have hd2 : decide (f.due ≤ p6.clock) = false := decide_eq_false (by omega)
              have HCK : Hid (∀ W, Below wr.heap.size wr W → Calls Try.prog 24 #[.pointer (some ⟨D, 0, none⟩)] W fun e w' => e = .returned (.int .i64 (p6.clock : Int)) ∧ w' = W) := Lib.hid fun W hW => by
                obtain ⟨_, F, hl⟩ := (HX7.out.below HBQ.out).below hW
                exact (Clock_any hl.pn).mono fun _ _ h => ⟨h.1, h.2.symm⟩
              subst hA7
              by_cases hq0 : q = 0
              · subst hq0
                have hz : decide ((0 : Int) < ((0 : Nat) : Int)) = false := by decide
                go_upto_region 30 with fail
                go_quiet ((go_at_call 24; exact Calls.quiet_of_same (HCK.out _ (below_drewN (Below.refl _ _) _))))
                have HNB := Lib.hid (below_drewN HBQ.out nq)
                clear hd1 hd2 hz c0 c3 hdue hf
                go_wp2_with fail
                go_roundw
                case rel => first | exact ⟨1, by omega, by go_num, HNB⟩ | ((repeat apply Exists.intro); exact ⟨⟨1, by omega, by go_num, HNB⟩, rfl⟩)
                case measure => simp [intOf] <;> omega
              · obtain ⟨s, rfl⟩ : ∃ s, q = s + 1 := ⟨q - 1, by omega⟩
                obtain ⟨f', hf'⟩ : ∃ f', p6.way[s]? = some f' := ⟨p6.way[s], List.getElem?_eq_getElem (by omega)⟩
                obtain ⟨g', bA', bcc', hA7', _, d0, _⟩ := (HF7.out.below HBQ.out).at_ s f' hf'
                simp only [Option.some.injEq, Addr.mk.injEq, and_true] at hA7'
                subst hA7'
                have hids := ids_next HX6.out.1.inv hf' hf
                have hz : decide ((0 : Int) < ((s + 1 : Nat) : Int)) = true := decide_eq_true (by omega)
                have hz2 : (0 : Int) < ((s + 1 : Nat) : Int) := by omega
                have hl1 : decide ((f.id : Int) ≤ (f'.id : Int)) = false := decide_eq_false (by omega)
                have hl2 : decide (f.id ≤ f'.id) = false := decide_eq_false (by omega)
                have hiw : IntKind.i64.wrap (((s + 1 : Nat) : Int) - 1) = (s : Int) := by rw [show ((s + 1 : Nat) : Int) - 1 = (s : Int) by omega]; exact IntWalk.i64_in _ (by omega)
                clear hids hdue hf hf'
                go_upto_region 30 with fail
                go_quiet ((go_at_call 24; exact Calls.quiet_of_same (HCK.out _ (below_drewN (Below.refl _ _) _))))
                have HNB := Lib.hid (below_drewN HBQ.out nq)
                clear hd1 hd2 hz hz2 hl1 hl2 hiw c0 c3 d0
                go_wp2_with fail
                go_roundw
                case rel => first | exact ⟨s + 1 + 1, by omega, by go_num, HNB⟩ | ((repeat apply Exists.intro); exact ⟨⟨s + 1 + 1, by omega, by go_num, HNB⟩, rfl⟩)
                case measure => simp [intOf] <;> omega
            · obtain rfl : q = p6.way.length := by omega
              have HNX : Hid (∃ p, LiveX wr w0.heap.size c D (c.room + 10 + (k + 1)) p) := Lib.hid ⟨p6, (HX7.out.below HBQ.out).mono (by omega)⟩
              have HNBB := Lib.hid ((HBT.out.trans HX6.out.2).trans (HB7S.out.trans (HBQ.out.mono HX7.out.1)))
              go_wp2_with fail
              go_roundw
              case rel => first | exact ⟨k + 1, by omega, by go_num, HNX, HNBB⟩ | ((repeat apply Exists.intro); exact ⟨⟨k + 1, by omega, by go_num, HNX, HNBB⟩, rfl⟩)
              case measure => simp [intOf] <;> omega
        · go_wp2
          go_ret
          exact ⟨rfl, HB0.out.trans (HBT.out.mono hs0)⟩
theorem EtherRoomy_walk {H : Type} {enc : TypeId × Value → H} (x0 x1 : Int) (A2 : Option Addr) (n2 k2 : Nat) (x2 : List (List Value)) (r : Int) (w : World) (_b0 : -9223372036854775808 ≤ x0) (_t0 : x0 ≤ 9223372036854775807) (_b1 : -9223372036854775808 ≤ x1) (_t1 : x1 ≤ 9223372036854775807) (p2 : n2 ≤ k2) (q2 : k2 * 80 ≤ 140737488351232) (l2 : x2.length = n2) (r2 : Rd w w.heap.size 6 A2 n2 x2.flatten) (s2 : ∀ y ∈ x2, y.length = 6 ∧ ∃ d, Fit enc Try.prog w 33 y d) (_bd : -9223372036854775808 ≤ r) (_td : r ≤ 9223372036854775807) :
    Calls Try.prog 4 #[.agg #[.int .i64 x0, .int .i64 x1, .slice A2 n2 k2], .int .i64 r] w (TrueOk w) := by
  by_cases h0 : r < 1 ∨ 20000 < r
  · exact Rm_none x0 x1 r h0 A2 n2 k2
  · obtain ⟨R, rfl⟩ : ∃ R : Nat, r = (R : Int) := ⟨r.toNat, by omega⟩
    have hc : (⟨2, R⟩ : ECfg).Ok := ⟨by show 1 ≤ 2; omega, by show 2 ≤ 16; omega, by show 1 ≤ R; omega, by show R ≤ 20000; omega⟩
    exact Rm_yes (c := ⟨2, R⟩) hc rfl x0 x1 A2 n2 k2 p2 q2 (Lib.hid (eops_open l2 r2 s2))
end Go.Proofs.Ytgfhmfhhobhojaa
