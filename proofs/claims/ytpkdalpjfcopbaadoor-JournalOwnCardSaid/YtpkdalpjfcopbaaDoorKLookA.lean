/-
  The program's look: its two closures. And: The program's attempt: a reading that may be left by damage. And: The program's reader of a file: head.
-/
import Derived.Test.YtpkdalpjfcopbaaDoorKRec
namespace Go.Proofs.YtpkdalpjfcopbaaDoor
open Go.RowKit
def HeadP (w : World) (gr B : Nat) (A : Option Addr) (n cap : Nat) (bs : List UInt8) (e : Ending) (w' : World) : Prop :=
  Chg (fun k => k = gr) w w' ∧ match headR bs with
    | none => Dam e
    | some (g, c) => e = .returned (.tuple #[.int .i64 (g : Int), .int .i64 (c : Int)]) ∧ ∃ A2 c2, RdAt w' gr B A n cap bs 18 (.slice A2 4 c2) ∧ 4 ≤ c2 ∧ RdB w' B A2 4 (part bs 14 4)
theorem magic_iff {l : List UInt8} (h : l.length = 2) : l = [113, 106] ↔ numB l = 29034 := by
  match l, h with
  | [a, b], _ =>
    rw [numB_two]
    have ha : a.toNat < 256 := a.toNat_lt
    have hb : b.toNat < 256 := b.toNat_lt
    constructor
    · intro e
      injection e with e1 e
      injection e with e2 _
      subst e1 e2
      rfl
    · intro e
      have e1 : a = 113 := UInt8.toNat_inj.mp (by show a.toNat = 113; omega)
      have e2 : b = 106 := UInt8.toNat_inj.mp (by show b.toNat = 106; omega)
      rw [e1, e2]
theorem gen_iff (x : Nat) (hx : x < 18446744073709551616) : (1 ≤ IntKind.i64.wrap (x : Int) ∧ IntKind.i64.wrap (x : Int) ≤ 4611686018427387904) ↔ (1 ≤ x ∧ x ≤ 4611686018427387904) := by
  rw [IntKind.wrap_i64]
  omega
theorem num_wrap {l : List UInt8} {m : Nat} (h : l.length = m) (hm : m ≤ 4) : IntKind.i64.wrap ((numB l : Nat) : Int) = ((numB l : Nat) : Int) := by
  have h1 := numB_lt l
  have h2 : 256 ^ l.length ≤ 256 ^ 4 := Nat.pow_le_pow_right (by omega) (by omega)
  exact IntWalk.i64_in _ (by omega)
set_option maxRecDepth 100000 in
set_option maxHeartbeats 1600000 in
theorem head_any {w : World} {gr B n cap : Nat} {A : Option Addr} {bs : List UInt8} {S : Value} (h : RdAt w gr B A n cap bs 0 S) (hn : n ≤ cap) (hc : cap ≤ 9223372036854775807) (ht : Nibs w) (hgn : 0 ≠ gr) :
    Calls Tryd.prog 81 #[.pointer (some ⟨gr, 0, none⟩)] w (HeadP w gr B A n cap bs) := by
  have hl := h.rd.lenB
  have hcm : cap ≤ maxLen := by simp only [maxLen]; omega
  have c0 : w.cell? ⟨gr, 0, none⟩ = some (.slice A n cap) := h.blk.cell 0
  have HN1 := Lib.hid (readN_any h hn hcm 2 (by omega))
  have HL := Lib.hid hl
  have HT := Lib.hid ht
  have HNE := Lib.hid hgn
  clear h hl ht hgn
  have HXD : Hid (headR bs = none → ∀ (e : Ending) (w' : World), Chg (fun k => k = gr) w w' → Dam e → HeadP w gr B A n cap bs e w') := Lib.hid fun hx e w' h1 h2 => ⟨h1, by rw [hx]; exact h2⟩
  have HXS : Hid (∀ g c, headR bs = some (g, c) → ∀ (e : Ending) (w' : World), Chg (fun k => k = gr) w w' → (e = .returned (.tuple #[.int .i64 (g : Int), .int .i64 (c : Int)]) ∧ ∃ A2 c2, RdAt w' gr B A n cap bs 18 (.slice A2 4 c2) ∧ 4 ≤ c2 ∧ RdB w' B A2 4 (part bs 14 4)) → HeadP w gr B A n cap bs e w') := Lib.hid fun g c hx e w' h1 h2 => ⟨h1, by rw [hx]; exact h2⟩
  generalize HeadP w gr B A n cap bs = PP at HXD HXS ⊢
  have HR : Hid (headR bs = if 18 ≤ n ∧ n ≤ 65536 ∧ part bs 0 2 = [113, 106] ∧ 1 ≤ numB (part bs 2 8) ∧ numB (part bs 2 8) ≤ 4611686018427387904 ∧ numB (part bs 14 4) = Crc.crc (part bs 0 14) then some (numB (part bs 2 8), numB (part bs 10 4)) else none) := Lib.hid (by rw [← HL.out]; rfl)
  by_cases hbig : n ≤ 65536
  · have dbig : decide (65536 < (n : Int)) = false := by simp; omega
    by_cases h2 : n < 0 + 2
    · have hx0 : headR bs = none := by rw [HR.out, if_neg (by omega)]
      have HX := Lib.hid (HXD.out hx0)
      clear HXD HXS HR hx0
      go_enter Tryd.func81, Tryd.ntmps81
      go_wp2_with (go_at_call 85; refine HN1.out.mono ?_; rintro e w2 ⟨hc2, hp⟩; rw [if_pos h2] at hp; obtain ⟨q, rfl⟩ := hp)
      exact ⟨rfl, HX.out _ _ hc2 ⟨_, rfl⟩⟩
    · have hw2 := num_wrap (part_length (l := bs) (p := 0) (n := 2) (by have := HL.out; omega)) (by omega)
      have hmi := magic_iff (part_length (l := bs) (p := 0) (n := 2) (by have := HL.out; omega))
      generalize hm : numB (part bs 0 2) = m at hw2 hmi
      have HM := Lib.hid hm
      have HW2 := Lib.hid hw2
      have HMI := Lib.hid hmi
      clear hm hw2 hmi
      by_cases hmg : m = 29034
      · have hb0 : ((m : Int) != 29034) = false := by rw [hmg]; rfl
        have HMG := Lib.hid hmg
        clear hmg
        go_enter Tryd.func81, Tryd.ntmps81
        go_upto_region 3 with (go_at_call 85; refine HN1.out.mono ?_; rintro e w2 ⟨hc2, hp⟩; rw [if_neg h2, HM.out, HW2.out] at hp; obtain ⟨rfl, hat2⟩ := hp)
        have HC2 := Lib.hid hc2
        have HN2 := Lib.hid (readN_any hat2 hn hcm 8 (by omega))
        have HPM : Hid (part bs 0 2 = [113, 106]) := Lib.hid (HMI.out.2 HMG.out)
        clear HN1 c0 hat2 hc2 h2
        by_cases h10 : n < 0 + 2 + 8
        · have hx0 : headR bs = none := by rw [HR.out, if_neg (by omega)]
          have HX := Lib.hid (HXD.out hx0)
          clear HXD HXS HR hx0
          go_wp2_with (go_at_call 85; refine HN2.out.mono ?_; rintro e w3 ⟨hc3, hp⟩; rw [if_pos h10] at hp; obtain ⟨q, rfl⟩ := hp)
          exact ⟨rfl, HX.out _ _ (HC2.out.trans hc3) ⟨_, rfl⟩⟩
        · go_upto_region 4 with (go_at_call 85; refine HN2.out.mono ?_; rintro e w3 ⟨hc3, hp⟩; rw [if_neg h10] at hp; obtain ⟨rfl, hat3⟩ := hp)
          have HC3 := Lib.hid (HC2.out.trans hc3)
          have HN3 := Lib.hid (readN_any hat3 hn hcm 4 (by omega))
          have hgi := gen_iff (numB (part bs 2 8)) (by have := numB_lt (part bs 2 8); rw [part_length (by have := HL.out; omega)] at this; exact this)
          clear HN2 hat3 hc3 HC2
          obtain ⟨G, hG⟩ : ∃ G, G = IntKind.i64.wrap ((numB (part bs 2 8) : Nat) : Int) := ⟨_, rfl⟩
          rw [← hG] at hgi ⊢
          have HGI := Lib.hid hgi
          have HG := Lib.hid hG
          clear hgi hG
          by_cases h14 : n < 0 + 2 + 8 + 4
          · have hx0 : headR bs = none := by rw [HR.out, if_neg (by omega)]
            have HX := Lib.hid (HXD.out hx0)
            clear HXD HXS HR hx0
            go_wp2_with (go_at_call 85; refine HN3.out.mono ?_; rintro e w4 ⟨hc4, hp⟩; rw [if_pos h14] at hp; obtain ⟨q, rfl⟩ := hp)
            exact ⟨rfl, HX.out _ _ (HC3.out.trans hc4) ⟨_, rfl⟩⟩
          · have hw4 := num_wrap (part_length (l := bs) (p := 0 + 2 + 8) (n := 4) (by have := HL.out; omega)) (by omega)
            have HW4 := Lib.hid hw4
            clear hw4
            go_upto_region 5 with (go_at_call 85; refine HN3.out.mono ?_; rintro e w4 ⟨hc4, hp⟩; rw [if_neg h14, HW4.out] at hp; obtain ⟨rfl, hat4⟩ := hp)
            have HC4 := Lib.hid (HC3.out.trans hc4)
            have HAT4 := Lib.hid hat4
            clear HN3 HC3 hat4 hc4
            have e14 : 0 + 2 + 8 + 4 = 14 := rfl
            rw [e14] at HAT4
            have HSE := Lib.hid (seal_any HAT4.out hn hc (by omega) 0 (by omega) none 0 0 [] (Rd.nil_ none) (by omega) (HT.out.chg HC4.out HNE.out) HNE.out)
            obtain ⟨cr, hcr⟩ : ∃ cr, cr = Crc.crc (part bs 0 14) := ⟨_, rfl⟩
            rw [List.nil_append, Nat.sub_zero, ← hcr] at HSE
            have HCR := Lib.hid hcr
            clear hcr
            by_cases hG1 : G < 1
            · have hx0 : headR bs = none := by rw [HR.out, if_neg (fun h => by have := HGI.out.2 ⟨h.2.2.2.1, h.2.2.2.2.1⟩; omega)]
              have HX := Lib.hid (HXD.out hx0)
              have dg1 : decide (G < 1) = true := by simpa using hG1
              clear HXD HXS HR hx0
              go_wp2_with fail
              exact ⟨rfl, HX.out _ _ HC4.out ⟨_, rfl⟩⟩
            · have dg1 : decide (G < 1) = false := by simpa using hG1
              by_cases hG2 : 4611686018427387904 < G
              · have hx0 : headR bs = none := by rw [HR.out, if_neg (fun h => by have := HGI.out.2 ⟨h.2.2.2.1, h.2.2.2.2.1⟩; omega)]
                have HX := Lib.hid (HXD.out hx0)
                have dg2 : decide (4611686018427387904 < G) = true := by simpa using hG2
                clear HXD HXS HR hx0
                go_wp2_with fail
                exact ⟨rfl, HX.out _ _ HC4.out ⟨_, rfl⟩⟩
              · have dg2 : decide (4611686018427387904 < G) = false := by simpa using hG2
                have hgg := HGI.out.1 ⟨by omega, by omega⟩
                have hGn : G = ((numB (part bs 2 8) : Nat) : Int) := by
                  have h1 := HG.out
                  rw [IntKind.wrap_i64] at h1
                  omega
                rw [hGn]
                rw [hGn] at dg1 dg2
                have HGG := Lib.hid hgg
                clear hGn hgg HG HGI hG1 hG2
                by_cases hgood : 18 ≤ n ∧ numB (part bs 14 4) = cr
                · have hx0 : headR bs = some (numB (part bs 2 8), numB (part bs 10 4)) := by
                    rw [HR.out, if_pos ⟨hgood.1, hbig, HPM.out, HGG.out.1, HGG.out.2, by rw [← HCR.out]; exact hgood.2⟩]
                  have HX := Lib.hid (HXS.out _ _ hx0)
                  have HGD := Lib.hid hgood
                  clear HXD HXS HR hx0 hgood
                  go_wp2_with (go_at_call 86; refine HSE.out.mono ?_; rintro e w5 ⟨hc5, hp⟩; rw [if_neg (by have := HGD.out.1; omega), if_pos HGD.out.2] at hp; obtain ⟨rfl, A2, cc2, hat5, hcc2, hrd5⟩ := hp)
                  exact HX.out _ _ (HC4.out.trans hc5) ⟨rfl, A2, cc2, hat5, hcc2, hrd5⟩
                · have hx0 : headR bs = none := by rw [HR.out, if_neg (fun h => hgood ⟨h.1, by rw [HCR.out]; exact h.2.2.2.2.2⟩)]
                  have HX := Lib.hid (HXD.out hx0)
                  have HGD := Lib.hid hgood
                  clear HXD HXS HR hx0 hgood
                  go_wp2_with (go_at_call 86; refine HSE.out.mono ?_; rintro e w5 ⟨hc5, hp⟩; obtain ⟨qq, rfl⟩ := seal_bad hp (fun h => HGD.out ⟨by omega, h.2⟩))
                  exact ⟨rfl, HX.out _ _ (HC4.out.trans hc5) ⟨_, rfl⟩⟩
      · have hb0 : ((m : Int) != 29034) = true := by simp only [bne_iff_ne, ne_eq]; omega
        have hx0 : headR bs = none := by rw [HR.out, if_neg (fun h => hmg (HMI.out.1 h.2.2.1))]
        have HX := Lib.hid (HXD.out hx0)
        clear HXD HXS HR hx0 hmg
        go_enter Tryd.func81, Tryd.ntmps81
        go_wp2_with (go_at_call 85; refine HN1.out.mono ?_; rintro e w2 ⟨hc2, hp⟩; rw [if_neg h2, HM.out, HW2.out] at hp; obtain ⟨rfl, hat2⟩ := hp)
        exact ⟨rfl, HX.out _ _ hc2 ⟨_, rfl⟩⟩
  · have dbig : 65536 < (n : Int) := by omega
    have dbig2 : decide (65536 < (n : Int)) = true := by simpa using dbig
    have hx0 : headR bs = none := by rw [HR.out, if_neg (by omega)]
    have HX := Lib.hid (HXD.out hx0)
    clear HXD HXS HR hx0
    go_enter Tryd.func81, Tryd.ntmps81
    go_wp2_with fail
    exact ⟨rfl, HX.out _ _ (Chg.refl _ _) ⟨_, rfl⟩⟩
end Go.Proofs.YtpkdalpjfcopbaaDoor
namespace Go.Proofs.YtpkdalpjfcopbaaDoor
open Go.RowKit
theorem asDam (q : Int) (w : World) : (Instr.typeAssert (.iface 135 (.agg #[.int .i64 q])) 20 135 true).run Tryd.prog w = .ok (.tuple #[.agg #[.int .i64 q], .bool true]) w := by kernel_rfl
set_option maxRecDepth 100000 in
theorem tryI (p : Addr) (w : World) :
    CallsD Tryd.prog 84 #[.pointer (some p)] .returning w fun e u' w' => e = .returned (.tuple #[]) ∧ u' = .returning ∧ w' = w := by
  refine callsD_of_wpS Tryd.func84 rfl fun c₀ cs hu => ?_
  simp only [Tryd.ntmps84, List.size_toArray, List.length_cons, List.length_nil, Nat.reduceAdd, Nat.reduceSub, Array.replicate_succ,
     Array.replicate_zero, List.push_toArray, List.append_toArray, List.nil_append, List.cons_append]
  apply wpS_seq
  apply wpS_region
  simp [wpOpsS, go_sem, recoverD, hu, Exit.thenS]
  refine wpS_of_wp ?_
  go_wp2_with fail
  refine ⟨rfl, .returning, ?_, .tuple #[], results_none rfl _ _ _, rfl, rfl, rfl⟩
  cases c₀
  simp_all
set_option maxRecDepth 100000 in
set_option maxHeartbeats 1600000 in
theorem tryP (p : Nat) (b : Bool) (q : Int) (w : World) (hp : Blk w p 4 #[.bool b]) (older : List PanicEntry) :
    CallsD Tryd.prog 84 #[.pointer (some ⟨p, 0, none⟩)] (.panicking ({ v := .iface 135 (.agg #[.int .i64 q]), recovered := false } :: older)) w fun e u' w' =>
      e = .returned (.tuple #[]) ∧ u' = .panicking ({ v := .iface 135 (.agg #[.int .i64 q]), recovered := true } :: older) ∧ Blk w' p 4 #[.bool false] ∧ Chg (fun k => k = p) w w' := by
  refine callsD_of_wpS Tryd.func84 rfl fun c₀ cs hu => ?_
  have hT := asDam q w
  have c0 : w.cell? ⟨p, 0, none⟩ = some (.bool b) := hp.cell 0
  have f0 := hp.frozen 0
  have hlt := hp.lt
  simp only [Tryd.ntmps84, List.size_toArray, List.length_cons, List.length_nil, Nat.reduceAdd, Nat.reduceSub, Array.replicate_succ,
     Array.replicate_zero, List.push_toArray, List.append_toArray, List.nil_append, List.cons_append]
  apply wpS_seq
  apply wpS_region
  simp [wpOpsS, go_sem, recoverD, hu, Exit.thenS]
  refine wpS_of_wp ?_
  go_wp2_with fail
  exact ⟨rfl, _, rfl, .tuple #[], results_none rfl _ _ _, rfl, rfl, (hp.set_ 0 (.bool false)).alloc _, ((Chg.refl (fun k => k = p) w).setCell (p := ⟨p, 0, none⟩) (.inl rfl) (.bool false)).alloc _⟩
theorem tryResults (t2 : Nat) (tmps : Array Value) (w : World) (b : Bool) (h2 : tmps.getD 2 undef = .pointer (some ⟨t2, 0, none⟩)) (hq : Blk w t2 4 #[.bool b]) :
    (results Tryd.f79 tmps).run Tryd.prog w = .ok (.bool b) w := by
  have d0 : w.cell? ⟨t2, 0, none⟩ = some (.bool b) := hq.cell 0
  simp only [results]
  rw [show Tryd.f79.results = #[.cell 2 4] from rfl]
  rw [Array.getD_eq_getD_getElem?] at h2
  simp [h2, d0, go_sem]
def Tried (w : World) (Q : Bool → World → Prop) (e : Ending) (w' : World) : Prop := ∃ b W, e = .returned (.bool b) ∧ Q b W ∧ Chg (fun k => k = w.heap.size) W w'
set_option maxRecDepth 100000 in
set_option maxHeartbeats 1600000 in
theorem attempt_any (F : Nat) (caps : Array Value) (w : World) (Q : Bool → World → Prop) (hcf : ∀ args W, Sem.run Tryd.prog (callFunc F args) W = .ok (.enter F args) W)
    (h : Calls Tryd.prog F caps (w.alloc (.cells #[.bool false] 4)) (fun e W => ((e = .returned (.tuple #[]) ∧ Q true W) ∨ (Dam e ∧ Q false W)) ∧ Blk W w.heap.size 4 #[.bool false])) :
    Calls Tryd.prog 79 #[.func (.func F) #[] caps] w (Tried w Q) := by
  have hmf : ∀ (fn : Fn) (first cap : Array Value) (w : World), (Instr.makeFunc fn first cap).run Tryd.prog w = .ok (.func fn first cap) w := fun _ _ _ _ => rfl
  have H := Lib.hid h
  clear h
  go_enter_defers Tryd.func79, Tryd.ntmps79
  go_wp2_with fail
  refine H.out.mono ?_
  clear H
  rintro e W ⟨hq | hq, hB⟩
  · obtain ⟨rfl, hQ⟩ := hq
    have c0 : W.cell? ⟨w.heap.size, 0, none⟩ = some (.bool false) := hB.cell 0
    have f0 := hB.frozen 0
    have HQ := Lib.hid hQ
    have HB := Lib.hid hB
    clear hQ hB
    go_wp2_with fail
    refine leaves_cons (f := 84) (args := #[.pointer (some ⟨w.heap.size, 0, none⟩)]) (by simp) (by simp [go_sem]) ?_
    refine (tryI ⟨w.heap.size, 0, none⟩ _).mono ?_
    rintro e u' w2 ⟨rfl, rfl, rfl⟩
    exact ⟨_, tryResults w.heap.size _ _ true rfl (HB.out.set_ 0 (.bool true)), true, W, rfl, HQ.out, (Chg.refl (fun k => k = w.heap.size) W).setCell (p := ⟨w.heap.size, 0, none⟩) (.inl rfl) (.bool true)⟩
  · obtain ⟨⟨q, rfl⟩, hQ⟩ := hq
    show bodyPostD _ _ _ _ _ _
    refine leaves_cons (f := 84) (args := #[.pointer (some ⟨w.heap.size, 0, none⟩)]) (by simp) (by simp [go_sem]) ?_
    refine (tryP w.heap.size false q W hB []).mono ?_
    rintro e u' w2 ⟨rfl, rfl, hB2, hc2⟩
    exact ⟨_, tryResults w.heap.size _ _ false rfl hB2, false, W, rfl, hQ, hc2⟩
end Go.Proofs.YtpkdalpjfcopbaaDoor
namespace Go.Proofs.YtpkdalpjfcopbaaDoor
open Go.RowKit
/-- A file as it is read, in memory: its nine cells. -/
def fcs (sound clean : Bool) (gen : Int) (v : Value) (fin : Int) (s : UInt8 × UInt8 × UInt8 × UInt8) : Array Value := #[.bool sound, .bool clean, .int .i64 gen, v, .int .i64 fin, .int .u8 (s.1.toNat : Int), .int .u8 (s.2.1.toNat : Int), .int .u8 (s.2.2.1.toNat : Int), .int .u8 (s.2.2.2.toNat : Int)]
def HeadQ (W : World) (gr B : Nat) (A : Option Addr) (n cap : Nat) (bs : List UInt8) (Fb Cb : Nat) (v : Value) (s : UInt8 × UInt8 × UInt8 × UInt8) (b : Bool) (W' : World) : Prop :=
  Chg (fun k => k = gr ∨ k = Fb ∨ k = Cb) W W' ∧ match b with
    | false => headR bs = none
    | true => ∃ g c, headR bs = some (g, c) ∧ Blk W' Fb 87 (fcs false false (g : Int) v 0 s) ∧ Blk W' Cb 3 #[.int .i64 (c : Int)] ∧ ∃ A2 c2, RdAt W' gr B A n cap bs 18 (.slice A2 4 c2) ∧ 4 ≤ c2 ∧ RdB W' B A2 4 (part bs 14 4)
set_option maxRecDepth 100000 in
set_option maxHeartbeats 1600000 in
theorem look1_any {W : World} {gr B n cap Pb Fb Cb : Nat} {A : Option Addr} {bs : List UInt8} {S : Value} {v : Value} {s : UInt8 × UInt8 × UInt8 × UInt8} (hP : Blk W Pb 124 #[.pointer (some ⟨gr, 0, none⟩)]) (hF : Blk W Fb 87 (fcs false false 0 v 0 s)) (hC : Blk W Cb 3 #[.int .i64 0])
    (h : RdAt W gr B A n cap bs 0 S) (hn : n ≤ cap) (hc : cap ≤ 9223372036854775807) (ht : Nibs W) (hgn : 0 ≠ gr) (hBF : B ≤ Fb) (hBC : B ≤ Cb) :
    Calls Tryd.prog 80 #[.pointer (some ⟨Pb, 0, none⟩), .pointer (some ⟨Fb, 0, none⟩), .pointer (some ⟨Cb, 0, none⟩)] W (fun e W' => ((e = .returned (.tuple #[]) ∧ HeadQ W gr B A n cap bs Fb Cb v s true W') ∨ (Dam e ∧ HeadQ W gr B A n cap bs Fb Cb v s false W'))) := by
  have c0 : W.cell? ⟨Pb, 0, none⟩ = some (.pointer (some ⟨gr, 0, none⟩)) := hP.cell 0
  have HH := Lib.hid (head_any h hn hc ht hgn)
  have HF := Lib.hid hF
  have HC := Lib.hid hC
  have HA := Lib.hid h
  have hFg : ¬ Fb = gr := fun e => by subst e; exact absurd (hF.isT.eq_ h.blk.isT) (by decide)
  have hCg : ¬ Cb = gr := fun e => by subst e; exact absurd (hC.isT.eq_ h.blk.isT) (by decide)
  have hFC : Fb ≠ Cb := fun e => by subst e; exact absurd (hF.isT.eq_ hC.isT) (by decide)
  clear hP hF hC h ht hgn
  generalize hPP : (fun e W' => ((e = Ending.returned (.tuple #[]) ∧ HeadQ W gr B A n cap bs Fb Cb v s true W') ∨ (Dam e ∧ HeadQ W gr B A n cap bs Fb Cb v s false W'))) = PP
  have HPP := Lib.hid hPP
  clear hPP
  cases hh : headR bs with
  | none =>
    have HX := Lib.hid hh
    clear hh
    go_enter Tryd.func80, Tryd.ntmps80
    go_wp2_with (go_at_call 81; refine HH.out.mono ?_; rintro e w2 ⟨hc2, hp⟩; rw [HX.out] at hp; obtain ⟨q, rfl⟩ := hp)
    refine ⟨rfl, ?_⟩
    rw [← HPP.out]
    exact .inr ⟨⟨_, rfl⟩, hc2.mono fun k _ h => .inl h, HX.out⟩
  | some gc =>
    obtain ⟨g, c⟩ := gc
    have HX := Lib.hid hh
    clear hh
    go_enter Tryd.func80, Tryd.ntmps80
    go_wp2_with (go_at_call 81; refine HH.out.mono ?_; rintro e w2 ⟨hc2, hp⟩; rw [HX.out] at hp; obtain ⟨rfl, A2, cc2, hat, hcc, hrd⟩ := hp; have hF2 := HF.out.chg hc2 hFg; have hC2 := HC.out.chg hc2 hCg; have x2 : w2.cell? ⟨Fb, 2, none⟩ = some (.int .i64 0) := hF2.cell 2; have x0 : w2.cell? ⟨Cb, 0, none⟩ = some (.int .i64 0) := hC2.cell 0; have y2 := hF2.frozen 2; have y0 := hC2.frozen 0; have H2 := Lib.hid (And.intro hc2 (And.intro hat (And.intro hcc (And.intro hrd (And.intro hF2 hC2))))); clear hc2 hat hcc hrd hF2 hC2)
    go_end0
    rw [← HPP.out]
    obtain ⟨hc2, hat, hcc, hrd, hF2, hC2⟩ := H2.out
    have hcs : Chg (fun k => k = Fb ∨ k = Cb) w2 ((w2.setCell ⟨Fb, 2, none⟩ (.int .i64 (g : Int))).setCell ⟨Cb, 0, none⟩ (.int .i64 (c : Int))) := ((Chg.refl (fun k => k = Fb ∨ k = Cb) w2).setCell (p := ⟨Fb, 2, none⟩) (.inl (.inl rfl)) _).setCell (p := ⟨Cb, 0, none⟩) (.inl (.inr rfl)) _
    have hlt := hat.blk.lt
    refine .inl ⟨rfl, (hc2.mono fun k _ h => .inl h).thenS hcs fun k _ h => .inr h, g, c, HX.out, (hF2.set_ 2 _).far (p := ⟨Cb, 0, none⟩) hFC _, (hC2.far (p := ⟨Fb, 2, none⟩) (Ne.symm hFC) _).set_ 0 _, A2, cc2, ?_, hcc, ?_⟩
    · exact ⟨hat.blk.chg hcs (fun h => h.elim (fun e => hFg e.symm) (fun e => hCg e.symm)), hat.rd.keep fun g hg => hcs.block g (by have := hat.lo; omega) (by omega), hat.lo, hat.le⟩
    · exact hrd.keep fun g hg => hcs.block g (by have := hat.lo; omega) (by omega)
/-- What the second closure comes to: a record more, or damage. -/
def RecQ (W : World) (gr B : Nat) (A : Option Addr) (n cap : Nat) (bs : List UInt8) (p Rb : Nat) (b : Bool) (W' : World) : Prop :=
  Chg (fun k => k = gr ∨ k = Rb) W W' ∧ match b with
    | false => nextR bs p = none
    | true => ∃ r v, nextR bs p = some r ∧ W'.ownsRow W.heap.size 5 1 v r.body.length (bvs r.body) ∧ Blk W' Rb 34 #[.int .i64 r.kind, v] ∧ ∃ A2 c2, RdAt W' gr B A n cap bs (p + 8 + r.body.length) (.slice A2 4 c2) ∧ 4 ≤ c2 ∧ RdB W' B A2 4 (part bs (p + 4 + r.body.length) 4)
set_option maxRecDepth 100000 in
set_option maxHeartbeats 1600000 in
theorem look2_any {W : World} {gr B n cap p Pb Rb : Nat} {A As : Option Addr} {cs : Nat} {bs : List UInt8} (hP : Blk W Pb 124 #[.pointer (some ⟨gr, 0, none⟩)]) (hR : Blk W Rb 34 #[.int .i64 0, .slice none 0 0])
    (h : RdAt W gr B A n cap bs p (.slice As 4 cs)) (hs : RdB W B As 4 (part bs (p - 4) 4)) (hn : n ≤ cap) (hc : cap ≤ 9223372036854775807) (hc2 : n ≤ 140737488351232) (ht : Nibs W) (hgn : 0 ≠ gr) (hBR : B ≤ Rb) :
    Calls Tryd.prog 82 #[.pointer (some ⟨Pb, 0, none⟩), .pointer (some ⟨Rb, 0, none⟩)] W (fun e W' => ((e = .returned (.tuple #[]) ∧ RecQ W gr B A n cap bs p Rb true W') ∨ (Dam e ∧ RecQ W gr B A n cap bs p Rb false W'))) := by
  have c0 : W.cell? ⟨Pb, 0, none⟩ = some (.pointer (some ⟨gr, 0, none⟩)) := hP.cell 0
  have HH := Lib.hid (record_any h hs hn hc hc2 ht hgn)
  have HR := Lib.hid hR
  have hRg : ¬ Rb = gr := fun e => by subst e; exact absurd (hR.isT.eq_ h.blk.isT) (by decide)
  have hRlt := hR.lt
  clear hP hR h ht hgn hs
  generalize hPP : (fun e W' => ((e = Ending.returned (.tuple #[]) ∧ RecQ W gr B A n cap bs p Rb true W') ∨ (Dam e ∧ RecQ W gr B A n cap bs p Rb false W'))) = PP
  have HPP := Lib.hid hPP
  clear hPP
  cases hh : nextR bs p with
  | none =>
    have HX := Lib.hid hh
    clear hh
    go_enter Tryd.func82, Tryd.ntmps82
    go_wp2_with (go_at_call 83; refine HH.out.mono ?_; rintro e w2 ⟨hc2, hp⟩; rw [HX.out] at hp; obtain ⟨q, rfl⟩ := hp)
    refine ⟨rfl, ?_⟩
    rw [← HPP.out]
    exact .inr ⟨⟨_, rfl⟩, hc2.mono fun k _ h => .inl h, HX.out⟩
  | some r =>
    have HX := Lib.hid hh
    clear hh
    go_enter Tryd.func82, Tryd.ntmps82
    go_wp2_with (go_at_call 83; refine HH.out.mono ?_; rintro e w2 ⟨hc2, hp⟩; rw [HX.out] at hp; obtain ⟨v, rfl, ho, A2, cc2, hat, hcc, hrd⟩ := hp; have hR2 := HR.out.chg hc2 hRg; have x0 : w2.cell? ⟨Rb, 0, none⟩ = some (.int .i64 0) := hR2.cell 0; have x1 : w2.cell? ⟨Rb, 1, none⟩ = some (.slice none 0 0) := hR2.cell 1; have y0 := hR2.frozen 0; have y1 := hR2.frozen 1; obtain ⟨Av, cv, hv, _, _⟩ := own_shape ho; subst hv; have H2 := Lib.hid (And.intro hc2 (And.intro hat (And.intro hcc (And.intro hrd (And.intro ho hR2))))); clear hc2 hat hcc hrd ho hR2)
    go_end0
    rw [← HPP.out]
    obtain ⟨hc2, hat, hcc, hrd, ho, hR2⟩ := H2.out
    have hcs : Chg (fun k => k = Rb) w2 ((w2.setCell ⟨Rb, 0, none⟩ (.int .i64 r.kind)).setCell ⟨Rb, 1, none⟩ (.slice Av r.body.length cv)) := ((Chg.refl (fun k => k = Rb) w2).setCell (p := ⟨Rb, 0, none⟩) (.inl rfl) _).setCell (p := ⟨Rb, 1, none⟩) (.inl rfl) _
    have hlt := hat.blk.lt
    refine .inl ⟨rfl, (hc2.mono fun k _ h => .inl h).thenS hcs fun k _ h => .inr h, r, _, HX.out, own_chg ho hcs fun g hg e => ?_, (hR2.set_ 0 _).set_ 1 _, A2, cc2, ?_, hcc, ?_⟩
    · have := (own_block_lt ho hg).2.1
      omega
    · exact ⟨hat.blk.chg hcs (fun e => hRg e.symm), hat.rd.keep fun g hg => hcs.block g (by have := hat.lo; omega) (by omega), hat.lo, hat.le⟩
    · exact hrd.keep fun g hg => hcs.block g (by have := hat.lo; omega) (by omega)
end Go.Proofs.YtpkdalpjfcopbaaDoor
