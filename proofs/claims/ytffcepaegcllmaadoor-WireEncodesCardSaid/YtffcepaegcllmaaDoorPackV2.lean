/-
  Valid slots and messages in a packet: the program's walks and the reference's, the lists' Bools.
-/
import Derived.Test.YtffcepaegcllmaaDoorPackV
import Derived.Test.YtffcepaegcllmaaDoorStruct
namespace Go.Proofs.YtffcepaegcllmaaDoor
open Go.RowKit

/-- A list of slots. -/
def SlotsAt (w : World) (B : Nat) (A : Option Addr) (n : Nat) (sl : List (Int × Int)) : Prop :=
  sl.length = n ∧ (0 < n → ∃ b off, A = some ⟨b, off, none⟩ ∧ b < B ∧ ∀ (k : Nat) (x : Int × Int), sl[k]? = some x → w.cell? ⟨b, off + k * 2, none⟩ = some (.int .i64 x.1) ∧ w.cell? ⟨b, off + k * 2 + 1, none⟩ = some (.int .i64 x.2))
/-- A list of messages: their numbers, their bodies. -/
structure Msg where
  s : Int
  q : Int
  t : Int
  A : Option Addr
  n : Nat
  cap : Nat
  body : List UInt8
structure MsgIn (w : World) (B : Nat) (m : Msg) : Prop where
  rd : RdB w B m.A m.n m.body
  le : m.n ≤ m.cap
  cap : m.cap ≤ 9223372036854775807
  sm : m.n ≤ 140737488351232
def MsgsAt (w : World) (B : Nat) (A : Option Addr) (n : Nat) (ml : List Msg) : Prop :=
  ml.length = n ∧ (∀ m ∈ ml, MsgIn w B m) ∧ (0 < n → ∃ b off, A = some ⟨b, off, none⟩ ∧ b < B ∧ ∀ (k : Nat) (m : Msg), ml[k]? = some m →
    w.cell? ⟨b, off + k * 4, none⟩ = some (.int .i64 m.s) ∧ w.cell? ⟨b, off + k * 4 + 1, none⟩ = some (.int .i64 m.q) ∧ w.cell? ⟨b, off + k * 4 + 2, none⟩ = some (.int .i64 m.t) ∧ w.cell? ⟨b, off + k * 4 + 3, none⟩ = some (.slice m.A m.n m.cap))
theorem SlotsAt.below {w w' : World} {B : Nat} {A : Option Addr} {n : Nat} {sl : List (Int × Int)} (h : SlotsAt w B A n sl) (hb : Below B w w') : SlotsAt w' B A n sl :=
  ⟨h.1, fun hn => by
    obtain ⟨b, off, e, hlt, hc⟩ := h.2 hn
    exact ⟨b, off, e, hlt, fun k x hx => ⟨(hb.cell (p := ⟨b, _, none⟩) hlt).trans (hc k x hx).1, (hb.cell (p := ⟨b, _, none⟩) hlt).trans (hc k x hx).2⟩⟩⟩
theorem MsgsAt.below {w w' : World} {B : Nat} {A : Option Addr} {n : Nat} {ml : List Msg} (h : MsgsAt w B A n ml) (hb : Below B w w') : MsgsAt w' B A n ml :=
  ⟨h.1, fun m hm => ⟨(h.2.1 m hm).rd.below hb, (h.2.1 m hm).le, (h.2.1 m hm).cap, (h.2.1 m hm).sm⟩, fun hn => by
    obtain ⟨b, off, e, hlt, hc⟩ := h.2.2 hn
    refine ⟨b, off, e, hlt, fun k m hm => ?_⟩
    obtain ⟨c0, c1, c2, c3⟩ := hc k m hm
    exact ⟨(hb.cell (p := ⟨b, _, none⟩) hlt).trans c0, (hb.cell (p := ⟨b, _, none⟩) hlt).trans c1, (hb.cell (p := ⟨b, _, none⟩) hlt).trans c2, (hb.cell (p := ⟨b, _, none⟩) hlt).trans c3⟩⟩
def slotsB (sl : List (Int × Int)) : Bool := sl.all fun x => slotB x.1 x.2
theorem slotsB_snoc {l : List (Int × Int)} {k : Nat} {x : Int × Int} (h : l[k]? = some x) : slotsB (l.take (k + 1)) = (slotsB (l.take k) && slotB x.1 x.2) := by
  unfold slotsB
  rw [List.take_add_one, h, List.all_append]
  simp
theorem slotsB_no {l : List (Int × Int)} {k : Nat} {x : Int × Int} (h : l[k]? = some x) (hx : slotB x.1 x.2 = false) : slotsB l = false := by
  unfold slotsB
  rw [List.all_eq_false]
  exact ⟨x, List.mem_of_getElem? h, by simp [hx]⟩
def beforeB (a b : Msg) : Bool := decide (a.s < b.s) || (decide (a.s = b.s) && decide (a.q < b.q))
def msgB (m : Msg) : Bool := datB m.s m.q m.t m.n
/-- every message valid, each behind the one ahead of it -/
def risesB : List Msg → Bool
  | [] => true
  | [m] => msgB m
  | a :: b :: r => msgB a && beforeB a b && risesB (b :: r)
def flushB (e l i c base : Int) (sl : List (Int × Int)) (have_ : List Int) : Bool := slotsB sl && wholeB e l i c && cntB base 0 && decide (sl.length ≤ 128) && countsB have_
set_option maxRecDepth 100000 in
set_option maxHeartbeats 1600000 in
theorem validFlush_any (e l i c base : Int) (As : Option Addr) (ns ks : Nat) (sl : List (Int × Int)) (Ah : Option Addr) (nh kh : Nat) (hv : List Int) (w : World) (hs : SlotsAt w w.heap.size As ns sl) (hh : RdI w w.heap.size Ah nh hv) (hns : ns ≤ 140737488351232) (hnh : nh ≤ 140737488351232) :
    Calls Tryd.prog 93 #[.agg #[.int .i64 e, .int .i64 l, .int .i64 i, .int .i64 c, .int .i64 base, .slice As ns ks, .slice Ah nh kh]] w fun r w' => r = .returned (.bool (flushB e l i c base sl hv)) ∧ Below w.heap.size w w' := by
  have HL := Lib.hid hs.1
  have hb0 := one_box w (.cells #[.int .i64 e, .int .i64 l, .int .i64 i, .int .i64 c, .int .i64 base, .slice As ns ks, .slice Ah nh kh] 33)
  have hO := Blk.new w 33 #[.int .i64 e, .int .i64 l, .int .i64 i, .int .i64 c, .int .i64 base, .slice As ns ks, .slice Ah nh kh]
  go_enter Tryd.func93, Tryd.ntmps93
  go_wp2_with fail
  obtain ⟨w0, hw0⟩ : ∃ w0, w0 = w.alloc (.cells #[.int .i64 e, .int .i64 l, .int .i64 i, .int .i64 c, .int .i64 base, .slice As ns ks, .slice Ah nh kh] 33) := ⟨_, rfl⟩
  rw [← hw0] at hb0 hO ⊢
  have hz0 : w0.heap.size = w.heap.size + 1 := by rw [hw0]; simp
  clear hw0
  have hs0 := hs.below hb0
  have hh0 := hh.below hb0
  go_loopw [4, 8] (fun _ i wr => ∃ k : Nat, k ≤ ns ∧ i = .int .i64 (k : Int) ∧ Hid (slotsB (sl.take k) = true) ∧ Below w0.heap.size w0 wr) (fun _ i _ => ns - (intOf i).toNat)
  case atStart => exact ⟨0, by omega, rfl, rfl, Below.refl _ _⟩
  case round =>
    obtain ⟨k, hk, rfl, HA, hbr⟩ := hrel
    by_cases hlt : k < ns
    · obtain ⟨b, off, rfl, hbl, hcell⟩ := hs0.2 (by omega)
      obtain ⟨x, hx⟩ : ∃ x, sl[k]? = some x := ⟨_, List.getElem?_eq_getElem (by rw [HL.out]; exact hlt)⟩
      obtain ⟨d0, d1⟩ := hcell k x hx
      have c0 := ((bcell hbr).1 b _ (by omega)).trans d0
      have c1 := ((bcell hbr).1 b _ (by omega)).trans d1
      have hltI : (k : Int) < (ns : Int) := by omega
      have hsz := hbr.size
      have hbl2 : b < wr.heap.size := by omega
      have HK := Lib.hid hx
      clear hx hcell d0 d1
      by_cases hv : slotB x.1 x.2 = true
      · have HX := Lib.hid hv
        clear hv
        go_wp2_with fail
        refine (validSlot_any _ _ _).mono ?_
        rintro _ w2 ⟨he, hb2⟩
        rw [HX.out] at he
        subst he
        have hbn := Below.then hbr (box_below hb2)
        clear hb2 c0 c1
        go_wp2
        go_roundw
        case rel => exact ⟨k + 1, by omega, by go_num, by show _ = _; rw [slotsB_snoc HK.out, HA.out, HX.out]; rfl, hbn⟩
        case measure => simp [intOf] <;> omega
      · have HX := Lib.hid (show slotB x.1 x.2 = false by simpa using hv)
        clear hv
        go_wp2_with fail
        refine (validSlot_any _ _ _).mono ?_
        rintro _ w2 ⟨he, hb2⟩
        rw [HX.out] at he
        subst he
        have hbn := Below.then hbr (box_below hb2)
        clear hb2 c0 c1
        go_wp2
        go_ret
        refine ⟨ret_bool ?_, Below.then hb0 hbn⟩
        unfold flushB
        rw [slotsB_no HK.out HX.out]
        rfl
    · obtain rfl : k = ns := by omega
      have hA : slotsB sl = true := by
        have := HA.out
        rw [List.take_of_length_le (by rw [HL.out]; exact Nat.le_refl _)] at this
        exact this
      have HAL := Lib.hid hA
      clear hA
      have hO0 := hO.over hbr
      have hhr := hh0.below (hbr.mono (by omega))
      have hsz := hbr.size
      have q0 : wr.cell? ⟨w.heap.size, 0, none⟩ = some (.int .i64 e) := by rw [hO0.cell]; rfl
      have q1 : wr.cell? ⟨w.heap.size, 1, none⟩ = some (.int .i64 l) := by rw [hO0.cell]; rfl
      have q2 : wr.cell? ⟨w.heap.size, 2, none⟩ = some (.int .i64 i) := by rw [hO0.cell]; rfl
      have q3 : wr.cell? ⟨w.heap.size, 3, none⟩ = some (.int .i64 c) := by rw [hO0.cell]; rfl
      have q4 : wr.cell? ⟨w.heap.size, 4, none⟩ = some (.int .i64 base) := by rw [hO0.cell]; rfl
      have q5 : wr.cell? ⟨w.heap.size, 5, none⟩ = some (.slice As k ks) := by rw [hO0.cell]; rfl
      have q6 : wr.cell? ⟨w.heap.size, 6, none⟩ = some (.slice Ah nh kh) := by rw [hO0.cell]; rfl
      have hlt1 : w.heap.size < wr.heap.size := by omega
      go_wp2_with fail
      refine (whole_any _ _ _ _ _).mono ?_
      rintro _ w2 ⟨rfl, hb2⟩
      have hO2 := hO0.over hb2
      have hh2 := hhr.below (hb2.mono (by omega))
      have hbn := Below.then hb0 (Below.then hbr hb2)
      clear q0 q1 q2 q3 q4 q5 q6
      have q0 : w2.cell? ⟨w.heap.size, 0, none⟩ = some (.int .i64 e) := by rw [hO2.cell]; rfl
      have q1 : w2.cell? ⟨w.heap.size, 1, none⟩ = some (.int .i64 l) := by rw [hO2.cell]; rfl
      have q2 : w2.cell? ⟨w.heap.size, 2, none⟩ = some (.int .i64 i) := by rw [hO2.cell]; rfl
      have q3 : w2.cell? ⟨w.heap.size, 3, none⟩ = some (.int .i64 c) := by rw [hO2.cell]; rfl
      have q4 : w2.cell? ⟨w.heap.size, 4, none⟩ = some (.int .i64 base) := by rw [hO2.cell]; rfl
      have q5 : w2.cell? ⟨w.heap.size, 5, none⟩ = some (.slice As k ks) := by rw [hO2.cell]; rfl
      have q6 : w2.cell? ⟨w.heap.size, 6, none⟩ = some (.slice Ah nh kh) := by rw [hO2.cell]; rfl
      have hlt2 := hO2.lt
      go_wp2_with (first
        | (go_at_call 90; refine (count_any _ _ _).mono ?_; rintro _ _ ⟨rfl, rfl⟩)
        | (go_at_call 91; refine (vcounts_any _ _ _ _ hv _ hh2 (by omega)).mono ?_; rintro _ _ ⟨rfl, rfl⟩))
      all_goals go_ret
      all_goals refine ⟨ret_bool ?_, hbn⟩
      all_goals
        have h1 := HAL.out
        have h2 := HL.out
        simp_all [flushB] <;> omega
set_option maxRecDepth 100000 in
set_option maxHeartbeats 1600000 in
theorem goodFlush_any (e l i c base : Int) (As : Option Addr) (ns ks : Nat) (sl : List (Int × Int)) (Ah : Option Addr) (nh kh : Nat) (hv : List Int) (w : World) (hs : SlotsAt w w.heap.size As ns sl) (hh : RdI w w.heap.size Ah nh hv) (hns : ns ≤ 140737488351232) (hnh : nh ≤ 140737488351232) :
    Calls Tryd.prog 77 #[.agg #[.int .i64 e, .int .i64 l, .int .i64 i, .int .i64 c, .int .i64 base, .slice As ns ks, .slice Ah nh kh]] w fun r w' => r = .returned (.bool (flushB e l i c base sl hv)) ∧ Below w.heap.size w w' := by
  have HL := Lib.hid hs.1
  have hb0 := one_box w (.cells #[.int .i64 e, .int .i64 l, .int .i64 i, .int .i64 c, .int .i64 base, .slice As ns ks, .slice Ah nh kh] 33)
  have hO := Blk.new w 33 #[.int .i64 e, .int .i64 l, .int .i64 i, .int .i64 c, .int .i64 base, .slice As ns ks, .slice Ah nh kh]
  obtain ⟨w0, hw0⟩ : ∃ w0, w0 = w.alloc (.cells #[.int .i64 e, .int .i64 l, .int .i64 i, .int .i64 c, .int .i64 base, .slice As ns ks, .slice Ah nh kh] 33) := ⟨_, rfl⟩
  rw [← hw0] at hb0 hO
  have hz0 : w0.heap.size = w.heap.size + 1 := by rw [hw0]; simp
  have HW0 := Lib.hid hw0
  clear hw0
  have hs0 := hs.below hb0
  have hh0 := hh.below hb0
  have HLH := Lib.hid hh.lenI
  by_cases h1 : wholeB e l i c = true
  · have H1 := Lib.hid h1
    clear h1
    by_cases h2 : cntB base 0 = true
    · have H2 := Lib.hid h2
      clear h2
      by_cases h3 : ns ≤ 128
      · have h3I : ¬ (128 : Int) < (ns : Int) := by omega
        by_cases h4 : withinB (nh : Int) 1 16 = true
        · have H4 := Lib.hid h4
          clear h4
          by_cases h5 : allB hv = true
          · have H5 := Lib.hid h5
            clear h5
            have H45 : Hid (countsB hv = true) := by
              show _ = true
              have h4 := H4.out
              have e1 := HLH.out
              simp only [withinB, Bool.and_eq_true, decide_eq_true_eq] at h4
              simp [countsB, H5.out, e1]
              omega
            go_enter Tryd.func77, Tryd.ntmps77
            go_wp2_with fail
            rw [← HW0.out]
            refine (Whole_any _ _ _ _ _).mono ?_
            rintro _ w2 ⟨he, hb2⟩
            rw [H1.out] at he
            subst he
            have hO2 := hO.over hb2
            have hbn := Below.then hb0 hb2
            have q0 : w2.cell? ⟨w.heap.size, 0, none⟩ = some (.int .i64 e) := by rw [hO2.cell]; rfl
            have q1 : w2.cell? ⟨w.heap.size, 1, none⟩ = some (.int .i64 l) := by rw [hO2.cell]; rfl
            have q2 : w2.cell? ⟨w.heap.size, 2, none⟩ = some (.int .i64 i) := by rw [hO2.cell]; rfl
            have q3 : w2.cell? ⟨w.heap.size, 3, none⟩ = some (.int .i64 c) := by rw [hO2.cell]; rfl
            have q4 : w2.cell? ⟨w.heap.size, 4, none⟩ = some (.int .i64 base) := by rw [hO2.cell]; rfl
            have q5 : w2.cell? ⟨w.heap.size, 5, none⟩ = some (.slice As ns ks) := by rw [hO2.cell]; rfl
            have q6 : w2.cell? ⟨w.heap.size, 6, none⟩ = some (.slice Ah nh kh) := by rw [hO2.cell]; rfl
            have hh2 := hh0.below (hb2.mono (by omega))
            go_wp2_with fail
            refine (Within_any _ _ _ _).mono ?_
            rintro _ _ ⟨he, rfl⟩
            rw [within_cnt, H2.out] at he
            subst he
            go_wp2_with fail
            refine (Within_any _ _ _ _).mono ?_
            rintro _ _ ⟨he, rfl⟩
            rw [H4.out] at he
            subst he
            go_wp2_with fail
            refine (rcounts_any _ _ _ _ hv _ hh2 (by omega)).mono ?_
            rintro _ _ ⟨he, rfl⟩
            rw [H5.out] at he
            subst he
            go_wp2_with fail
            go_loopw [3] (fun i wr => ∃ k : Nat, k ≤ ns ∧ i = .int .i64 (k : Int) ∧ Hid (slotsB (sl.take k) = true) ∧ Below w2.heap.size w2 wr) (fun i _ => ns - (intOf i).toNat)
            case atStart => exact ⟨0, by omega, rfl, rfl, Below.refl _ _⟩
            case round =>
              obtain ⟨k, hk, rfl, HA, hbr⟩ := hrel
              have hOr := hO2.over hbr
              have hbn2 := Below.then hbn hbr
              clear q0 q1 q2 q3 q4 q5 q6
              have q0 : wr.cell? ⟨w.heap.size, 0, none⟩ = some (.int .i64 e) := by rw [hOr.cell]; rfl
              have q1 : wr.cell? ⟨w.heap.size, 1, none⟩ = some (.int .i64 l) := by rw [hOr.cell]; rfl
              have q2 : wr.cell? ⟨w.heap.size, 2, none⟩ = some (.int .i64 i) := by rw [hOr.cell]; rfl
              have q3 : wr.cell? ⟨w.heap.size, 3, none⟩ = some (.int .i64 c) := by rw [hOr.cell]; rfl
              have q4 : wr.cell? ⟨w.heap.size, 4, none⟩ = some (.int .i64 base) := by rw [hOr.cell]; rfl
              have q5 : wr.cell? ⟨w.heap.size, 5, none⟩ = some (.slice As ns ks) := by rw [hOr.cell]; rfl
              have q6 : wr.cell? ⟨w.heap.size, 6, none⟩ = some (.slice Ah nh kh) := by rw [hOr.cell]; rfl
              have hsz := hbr.size
              have hs2 := hb2.size
              by_cases hlt : k < ns
              · obtain ⟨b, off, rfl, hbl, hcell⟩ := hs0.2 (by omega)
                obtain ⟨x, hx⟩ : ∃ x, sl[k]? = some x := ⟨_, List.getElem?_eq_getElem (by rw [HL.out]; exact hlt)⟩
                obtain ⟨d0, d1⟩ := hcell k x hx
                have c0 := ((bcell hbr).1 b (off + k * 2) (by omega)).trans (((bcell hb2).1 b _ (by omega)).trans d0)
                have c1 := ((bcell hbr).1 b (off + k * 2 + 1) (by omega)).trans (((bcell hb2).1 b _ (by omega)).trans d1)
                have hltI : (k : Int) < (ns : Int) := by omega
                have HK := Lib.hid hx
                clear hx hcell d0 d1
                by_cases hv' : slotB x.1 x.2 = true
                · have HX := Lib.hid hv'
                  clear hv'
                  go_wp2_with fail
                  refine (GoodSlot_any _ _ _).mono ?_
                  rintro _ w3 ⟨he, hb3⟩
                  rw [HX.out] at he
                  subst he
                  have hbr3 := Below.then hbr hb3
                  clear c0 c1 hb3
                  go_wp2
                  go_roundw
                  case rel => exact ⟨k + 1, by omega, by go_num, by show _ = _; rw [slotsB_snoc HK.out, HA.out, HX.out]; rfl, hbr3⟩
                  case measure => simp [intOf] <;> omega
                · have HX := Lib.hid (show slotB x.1 x.2 = false by simpa using hv')
                  clear hv'
                  go_wp2_with fail
                  refine (GoodSlot_any _ _ _).mono ?_
                  rintro _ w3 ⟨he, hb3⟩
                  rw [HX.out] at he
                  subst he
                  have hbr3 := Below.then hbn2 hb3
                  clear c0 c1 hb3
                  go_wp2
                  go_ret
                  refine ⟨ret_bool ?_, hbr3⟩
                  unfold flushB
                  rw [slotsB_no HK.out HX.out]
                  rfl
              · obtain rfl : k = ns := by omega
                have hA : slotsB sl = true := by
                  have := HA.out
                  rw [List.take_of_length_le (by rw [HL.out]; exact Nat.le_refl _)] at this
                  exact this
                have HAL := Lib.hid hA
                clear hA
                go_wp2
                go_ret
                refine ⟨ret_bool ?_, hbn2⟩
                have e0 := HL.out
                unfold flushB
                rw [HAL.out, H1.out, H2.out, H45.out, e0]
                simp [h3]
          · have H5 := Lib.hid (show allB hv = false by simpa using h5)
            clear h5
            go_enter Tryd.func77, Tryd.ntmps77
            go_wp2_with fail
            rw [← HW0.out]
            refine (Whole_any _ _ _ _ _).mono ?_
            rintro _ w2 ⟨he, hb2⟩
            rw [H1.out] at he
            subst he
            have hO2 := hO.over hb2
            have hbn := Below.then hb0 hb2
            have q0 : w2.cell? ⟨w.heap.size, 0, none⟩ = some (.int .i64 e) := by rw [hO2.cell]; rfl
            have q1 : w2.cell? ⟨w.heap.size, 1, none⟩ = some (.int .i64 l) := by rw [hO2.cell]; rfl
            have q2 : w2.cell? ⟨w.heap.size, 2, none⟩ = some (.int .i64 i) := by rw [hO2.cell]; rfl
            have q3 : w2.cell? ⟨w.heap.size, 3, none⟩ = some (.int .i64 c) := by rw [hO2.cell]; rfl
            have q4 : w2.cell? ⟨w.heap.size, 4, none⟩ = some (.int .i64 base) := by rw [hO2.cell]; rfl
            have q5 : w2.cell? ⟨w.heap.size, 5, none⟩ = some (.slice As ns ks) := by rw [hO2.cell]; rfl
            have q6 : w2.cell? ⟨w.heap.size, 6, none⟩ = some (.slice Ah nh kh) := by rw [hO2.cell]; rfl
            have hh2 := hh0.below (hb2.mono (by omega))
            go_wp2_with fail
            refine (Within_any _ _ _ _).mono ?_
            rintro _ _ ⟨he, rfl⟩
            rw [within_cnt, H2.out] at he
            subst he
            go_wp2_with fail
            refine (Within_any _ _ _ _).mono ?_
            rintro _ _ ⟨he, rfl⟩
            rw [H4.out] at he
            subst he
            go_wp2_with fail
            refine (rcounts_any _ _ _ _ hv _ hh2 (by omega)).mono ?_
            rintro _ _ ⟨he, rfl⟩
            rw [H5.out] at he
            subst he
            go_wp2
            go_ret
            refine ⟨ret_bool ?_, hbn⟩
            have e0 := HL.out
            have e1 := HLH.out
            simp [flushB, countsB, H5.out]
        · have H4 := Lib.hid (show withinB (nh : Int) 1 16 = false by simpa using h4)
          clear h4
          go_enter Tryd.func77, Tryd.ntmps77
          go_wp2_with fail
          rw [← HW0.out]
          refine (Whole_any _ _ _ _ _).mono ?_
          rintro _ w2 ⟨he, hb2⟩
          rw [H1.out] at he
          subst he
          have hO2 := hO.over hb2
          have hbn := Below.then hb0 hb2
          have q0 : w2.cell? ⟨w.heap.size, 0, none⟩ = some (.int .i64 e) := by rw [hO2.cell]; rfl
          have q1 : w2.cell? ⟨w.heap.size, 1, none⟩ = some (.int .i64 l) := by rw [hO2.cell]; rfl
          have q2 : w2.cell? ⟨w.heap.size, 2, none⟩ = some (.int .i64 i) := by rw [hO2.cell]; rfl
          have q3 : w2.cell? ⟨w.heap.size, 3, none⟩ = some (.int .i64 c) := by rw [hO2.cell]; rfl
          have q4 : w2.cell? ⟨w.heap.size, 4, none⟩ = some (.int .i64 base) := by rw [hO2.cell]; rfl
          have q5 : w2.cell? ⟨w.heap.size, 5, none⟩ = some (.slice As ns ks) := by rw [hO2.cell]; rfl
          have q6 : w2.cell? ⟨w.heap.size, 6, none⟩ = some (.slice Ah nh kh) := by rw [hO2.cell]; rfl
          go_wp2_with fail
          refine (Within_any _ _ _ _).mono ?_
          rintro _ _ ⟨he, rfl⟩
          rw [within_cnt, H2.out] at he
          subst he
          go_wp2_with fail
          refine (Within_any _ _ _ _).mono ?_
          rintro _ _ ⟨he, rfl⟩
          rw [H4.out] at he
          subst he
          go_wp2
          go_ret
          refine ⟨ret_bool ?_, hbn⟩
          have e0 := HL.out
          have e1 := HLH.out
          have h4 := H4.out
          simp only [withinB, Bool.and_eq_false_iff, decide_eq_false_iff_not] at h4
          have : countsB hv = false := by
            simp only [countsB, e1, Bool.and_eq_false_iff, decide_eq_false_iff_not]
            omega
          simp [flushB, this]
      · have h3I : (128 : Int) < (ns : Int) := by omega
        go_enter Tryd.func77, Tryd.ntmps77
        go_wp2_with fail
        rw [← HW0.out]
        refine (Whole_any _ _ _ _ _).mono ?_
        rintro _ w2 ⟨he, hb2⟩
        rw [H1.out] at he
        subst he
        have hO2 := hO.over hb2
        have hbn := Below.then hb0 hb2
        have q0 : w2.cell? ⟨w.heap.size, 0, none⟩ = some (.int .i64 e) := by rw [hO2.cell]; rfl
        have q1 : w2.cell? ⟨w.heap.size, 1, none⟩ = some (.int .i64 l) := by rw [hO2.cell]; rfl
        have q2 : w2.cell? ⟨w.heap.size, 2, none⟩ = some (.int .i64 i) := by rw [hO2.cell]; rfl
        have q3 : w2.cell? ⟨w.heap.size, 3, none⟩ = some (.int .i64 c) := by rw [hO2.cell]; rfl
        have q4 : w2.cell? ⟨w.heap.size, 4, none⟩ = some (.int .i64 base) := by rw [hO2.cell]; rfl
        have q5 : w2.cell? ⟨w.heap.size, 5, none⟩ = some (.slice As ns ks) := by rw [hO2.cell]; rfl
        have q6 : w2.cell? ⟨w.heap.size, 6, none⟩ = some (.slice Ah nh kh) := by rw [hO2.cell]; rfl
        go_wp2_with fail
        refine (Within_any _ _ _ _).mono ?_
        rintro _ _ ⟨he, rfl⟩
        rw [within_cnt, H2.out] at he
        subst he
        go_wp2
        go_ret
        refine ⟨ret_bool ?_, hbn⟩
        have e0 := HL.out
        have e1 := HLH.out
        simp [flushB, e0, h3]
    · have H2 := Lib.hid (show cntB base 0 = false by simpa using h2)
      clear h2
      go_enter Tryd.func77, Tryd.ntmps77
      go_wp2_with fail
      rw [← HW0.out]
      refine (Whole_any _ _ _ _ _).mono ?_
      rintro _ w2 ⟨he, hb2⟩
      rw [H1.out] at he
      subst he
      have hO2 := hO.over hb2
      have hbn := Below.then hb0 hb2
      have q0 : w2.cell? ⟨w.heap.size, 0, none⟩ = some (.int .i64 e) := by rw [hO2.cell]; rfl
      have q1 : w2.cell? ⟨w.heap.size, 1, none⟩ = some (.int .i64 l) := by rw [hO2.cell]; rfl
      have q2 : w2.cell? ⟨w.heap.size, 2, none⟩ = some (.int .i64 i) := by rw [hO2.cell]; rfl
      have q3 : w2.cell? ⟨w.heap.size, 3, none⟩ = some (.int .i64 c) := by rw [hO2.cell]; rfl
      have q4 : w2.cell? ⟨w.heap.size, 4, none⟩ = some (.int .i64 base) := by rw [hO2.cell]; rfl
      have q5 : w2.cell? ⟨w.heap.size, 5, none⟩ = some (.slice As ns ks) := by rw [hO2.cell]; rfl
      have q6 : w2.cell? ⟨w.heap.size, 6, none⟩ = some (.slice Ah nh kh) := by rw [hO2.cell]; rfl
      go_wp2_with fail
      refine (Within_any _ _ _ _).mono ?_
      rintro _ _ ⟨he, rfl⟩
      rw [within_cnt, H2.out] at he
      subst he
      go_wp2
      go_ret
      refine ⟨ret_bool ?_, hbn⟩
      have e0 := HL.out
      have e1 := HLH.out
      simp [flushB, H2.out]
  · have H1 := Lib.hid (show wholeB e l i c = false by simpa using h1)
    clear h1
    go_enter Tryd.func77, Tryd.ntmps77
    go_wp2_with fail
    rw [← HW0.out]
    refine (Whole_any _ _ _ _ _).mono ?_
    rintro _ w2 ⟨he, hb2⟩
    rw [H1.out] at he
    subst he
    have hO2 := hO.over hb2
    have hbn := Below.then hb0 hb2
    have q0 : w2.cell? ⟨w.heap.size, 0, none⟩ = some (.int .i64 e) := by rw [hO2.cell]; rfl
    have q1 : w2.cell? ⟨w.heap.size, 1, none⟩ = some (.int .i64 l) := by rw [hO2.cell]; rfl
    have q2 : w2.cell? ⟨w.heap.size, 2, none⟩ = some (.int .i64 i) := by rw [hO2.cell]; rfl
    have q3 : w2.cell? ⟨w.heap.size, 3, none⟩ = some (.int .i64 c) := by rw [hO2.cell]; rfl
    have q4 : w2.cell? ⟨w.heap.size, 4, none⟩ = some (.int .i64 base) := by rw [hO2.cell]; rfl
    have q5 : w2.cell? ⟨w.heap.size, 5, none⟩ = some (.slice As ns ks) := by rw [hO2.cell]; rfl
    have q6 : w2.cell? ⟨w.heap.size, 6, none⟩ = some (.slice Ah nh kh) := by rw [hO2.cell]; rfl
    go_wp2
    go_ret
    refine ⟨ret_bool ?_, hbn⟩
    have e0 := HL.out
    have e1 := HLH.out
    simp [flushB, H1.out]
end Go.Proofs.YtffcepaegcllmaaDoor
