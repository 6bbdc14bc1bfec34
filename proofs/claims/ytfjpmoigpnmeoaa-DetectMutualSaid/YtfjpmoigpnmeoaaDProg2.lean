/-
  The program's detector: valid, Suspects, Tick, Leave.
-/
import Derived.Test.YtfjpmoigpnmeoaaDList
import Derived.Deep.RegionWith
import Derived.ChangeAlike
namespace Go.Proofs.Ytfjpmoigpnmeoaa
open Go.RowKit
variable {w : World} {F : Nat → Prop} {c : Cfg} {D O : Nat} {d : DSt} {Q C : Nat → Nat}

def okV (v : Int) : Bool := decide (0 ≤ v ∧ v ≤ 4611686018427387904)
def validB (c : Cfg) (tick : Int) (hs : List Int) : Bool := decide (0 ≤ tick ∧ tick ≤ 4611686018427387904) && decide (hs.length = c.n) && hs.all okV
theorem all_take {hs : List Int} {k : Nat} {v : Int} (h : (hs.take k).all okV = true) (hv : hs[k]? = some v) (ho : okV v = true) : (hs.take (k + 1)).all okV = true := by
  rw [List.take_add_one, hv, List.all_append, h]
  simp [ho]
theorem all_not {hs : List Int} {k : Nat} {v : Int} (hv : hs[k]? = some v) (ho : okV v = false) : hs.all okV = false := by
  rw [List.all_eq_false]
  exact ⟨v, List.mem_of_getElem? hv, by simp [ho]⟩
set_option maxRecDepth 100000 in
set_option maxHeartbeats 1600000 in
theorem valid_any (h : PD w F c D d O Q C) (hF : ∀ k, F k → k < w.heap.size) (_hn : c.n ≤ 16) (A : Option Addr) (n cap : Nat) (hs : List Int) (hr : RdI w w.heap.size A n hs) (hm : n ≤ 140737488351232) (tick : Int) :
    Calls Try.prog 44 #[.pointer (some ⟨D, 0, none⟩), .agg #[.int .i64 tick, .slice A n cap]] w fun e w' => e = .returned (.bool (validB c tick hs)) ∧ Below w.heap.size w w' := by
  have hl := hr.lenI
  have HL := Lib.hid hl
  have hb0 := one_box' w (.cells #[.int .i64 tick, .slice A n cap] 37)
  have hO := Blk.new w 37 #[.int .i64 tick, .slice A n cap]
  have hP := h.below hF hb0
  have hr0 := hr.below hb0
  obtain ⟨w0, hw0⟩ : ∃ w0, w0 = w.alloc (.cells #[.int .i64 tick, .slice A n cap] 37) := ⟨_, rfl⟩
  rw [← hw0] at hb0 hO hP hr0
  have hs0 := hb0.size
  have HW := Lib.hid hw0
  have HBlk := Lib.hid hO
  obtain ⟨c0, c1, c2, c3, c4⟩ := hP.cell
  have b0 : w0.cell? ⟨w.heap.size, 0, none⟩ = some (.int .i64 tick) := hO.cell 0
  have b1 : w0.cell? ⟨w.heap.size, 1, none⟩ = some (.slice A n cap) := hO.cell 1
  clear hw0 h hF hP hO hl hr
  by_cases ht0 : tick < 0
  · have hv : validB c tick hs = false := by simp [validB]; omega
    have HV := Lib.hid hv
    clear hv
    go_enter Try.func44, Try.ntmps44
    go_upto_region 1 with fail
    rw [← HW.out]
    go_quiet (fail)
    go_wp2
    go_ret
    exact ⟨ret_bool HV.out.symm, below_drewN hb0 _⟩
  · by_cases ht1 : 4611686018427387904 < tick
    · have hv : validB c tick hs = false := by simp [validB]; omega
      have HV := Lib.hid hv
      have ht1' : tick > 4611686018427387904 := ht1
      clear hv
      go_enter Try.func44, Try.ntmps44
      go_upto_region 1 with fail
      rw [← HW.out]
      go_quiet (fail)
      go_wp2
      go_ret
      exact ⟨ret_bool HV.out.symm, below_drewN hb0 _⟩
    · by_cases hln : n = c.n
      · have hne : ((n : Int) != (c.n : Int)) = false := by rw [hln]; simp
        have hlen : hs.length = c.n := by rw [HL.out, hln]
        have hv : validB c tick hs = hs.all okV := by
          unfold validB
          rw [decide_eq_true (by omega : 0 ≤ tick ∧ tick ≤ 4611686018427387904), decide_eq_true hlen]
          simp
        have HV := Lib.hid hv
        clear hv hln hlen
        go_enter Try.func44, Try.ntmps44
        go_upto_region 1 with fail
        rw [← HW.out]
        go_quiet (fail)
        obtain ⟨w1, hw1⟩ : ∃ w1, w1 = w0.drewN nq := ⟨_, rfl⟩
        have hb1 : Below w0.heap.size w0 w1 := by rw [hw1]; exact below_drewN (Below.refl _ _) _
        rw [← hw1]
        have b1 : w1.cell? ⟨w.heap.size, 1, none⟩ = some (.slice A n cap) := (HBlk.out.over hb1).cell 1
        clear hw1 c0 c1 c2 c3 c4 b0 ht0 ht1 hne
        go_wp2_with fail
        go_loopw [6, 29] (fun _ i wr => ∃ k : Nat, k ≤ n ∧ i = .int .i64 (k : Int) ∧ Hid ((hs.take k).all okV = true) ∧ Below w0.heap.size w0 wr) (fun _ i _ => n - (intOf i).toNat)
        case atStart => exact ⟨0, by omega, rfl, Lib.hid (by simp), hb1⟩
        case round =>
          obtain ⟨k, hk, rfl, HA, hb⟩ := hrel
          by_cases hlt : k < n
          · obtain ⟨b, off, v, rfl, hbl, hv, hc⟩ := (hr0.below (hb.mono hs0)).int hlt
            have hI : (k : Int) < (n : Int) := by omega
            by_cases hv0 : v < 0
            · have HN := Lib.hid (all_not hv (by simp [okV]; omega))
              clear hv
              go_wp2
              go_ret
              exact ⟨ret_bool (by rw [HV.out, HN.out]), hb0.trans (hb.mono hs0)⟩
            · by_cases hv1 : 4611686018427387904 < v
              · have HN := Lib.hid (all_not hv (by simp [okV]; omega))
                clear hv
                go_wp2
                go_ret
                exact ⟨ret_bool (by rw [HV.out, HN.out]), hb0.trans (hb.mono hs0)⟩
              · have HN := Lib.hid (all_take HA.out hv (by simp [okV]; omega))
                clear hv
                go_wp2
                go_roundw
                case rel => exact ⟨k + 1, by omega, by go_num, HN, hb⟩
                case measure => simp [intOf] <;> omega
          · obtain rfl : k = n := by omega
            have HN : Hid (hs.all okV = true) := by
              have := HA.out
              rw [List.take_of_length_le (by rw [HL.out]; exact Nat.le_refl _)] at this
              exact this
            go_wp2
            go_ret
            exact ⟨ret_bool (by rw [HV.out, HN.out]), hb0.trans (hb.mono hs0)⟩
      · have hne : ((n : Int) != (c.n : Int)) = true := by simp; omega
        have hlen : hs.length ≠ c.n := by rw [HL.out]; exact hln
        have hv : validB c tick hs = false := by simp [validB, hlen]
        have HV := Lib.hid hv
        clear hv hln hlen
        go_enter Try.func44, Try.ntmps44
        go_upto_region 1 with fail
        rw [← HW.out]
        go_quiet (fail)
        go_wp2
        go_ret
        exact ⟨ret_bool HV.out.symm, below_drewN hb0 _⟩
/-- The detector when k nodes have ticked. -/
def tkSt (d : DSt) (k : Nat) : DSt := ⟨min (d.tick + 1) 4611686018427387904, d.left, fun j => if j < k then tickP (d.pr j) else d.pr j⟩
theorem tkSt_skip {k : Nat} (h : PD w F c D (tkSt d k) O Q C) (hk : k = c.self ∨ (d.pr k).heard = false) : PD w F c D (tkSt d (k + 1)) O Q C := by
  refine h.congr rfl rfl fun q _ hs => ?_
  simp only [tkSt]
  by_cases e : q = k
  · subst e
    rw [if_pos (by omega), if_neg (by omega)]
    rcases hk with hk | hk
    · exact absurd hk hs
    · simp [tickP, hk]
  · by_cases hq : q < k
    · rw [if_pos (by omega), if_pos hq]
    · rw [if_neg (by omega), if_neg hq]
theorem tkSt_at (d : DSt) (k : Nat) : (tkSt d k).pr k = d.pr k := by simp [tkSt]
theorem tkSt_one {k : Nat} {w : World} (h : PD w F c D (tkSt d k) O Q C) (hk : k < c.n) (hs : k ≠ c.self) (hh : (d.pr k).heard = true) :
    PD ((w.setCell ⟨Q k, 4, none⟩ (.int .i64 ((d.pr k).age + 1))).setCell ⟨Q k, 1, none⟩ (.bool (decide ((d.pr k).age + 1 ≤ (d.pr k).tmo)))) F c D (tkSt d (k + 1)) O Q C := by
  have h1 := h.setQ (p' := { d.pr k with age := (d.pr k).age + 1 }) (i := 4) (u := .int .i64 ((d.pr k).age + 1)) hk hs (by rw [tkSt_at]; rfl) (by rw [tkSt_at]; rfl)
  have h2 := h1.setQ (p' := tickP (d.pr k)) (i := 1) (u := .bool (decide ((d.pr k).age + 1 ≤ (d.pr k).tmo))) hk hs (by simp only [updP_same]; simp [tickP, hh, othC]) (by simp only [updP_same]; simp [tickP, hh, capC])
  refine h2.congr rfl rfl fun q _ _ => ?_
  simp only [tkSt]
  by_cases e : q = k
  · subst e
    rw [if_pos (by omega), updP_same]
  · rw [updP_other _ e, updP_other _ e]
    by_cases hq : q < k
    · rw [if_pos (by omega), if_pos hq]
    · rw [if_neg (by omega), if_neg hq]
theorem tkSt_end (h : PD w F c D (tkSt d c.n) O Q C) : PD w F c D (tickD d) O Q C :=
  h.congr rfl rfl fun q hq _ => by simp only [tkSt, tickD]; rw [if_pos hq]
set_option maxRecDepth 100000 in
set_option maxHeartbeats 1600000 in
theorem PTick_any (h : PD w F c D d O Q C) (hF : ∀ k, F k → k < w.heap.size) (hn : c.n ≤ 16) (m : Nat) (hok : d.Ok c m) (_hl : c.lim ≤ 64) :
    Calls Try.prog 16 #[.pointer (some ⟨D, 0, none⟩)] w fun e w' => e = .returned (.tuple #[]) ∧ PD w' F c D (tickD d) O Q C ∧ Chg F w w' := by
  obtain ⟨c0, c1, c2, c3, c4⟩ := h.cell
  have cf := h.blk.frozen 2
  have ht0 := hok.t0
  have ht1 := hok.t1
  have hP1 := h.setD (d' := tkSt d 0) (i := 2) (u := .int .i64 (if 4611686018427387904 < d.tick + 1 then 4611686018427387904 else d.tick + 1)) (by
    simp only [tkSt]
    rw [show min (d.tick + 1) 4611686018427387904 = (if 4611686018427387904 < d.tick + 1 then 4611686018427387904 else d.tick + 1) by split <;> omega]
    rfl) (fun q => by simp [tkSt])
  have hC1 : Chg F w (w.setCell ⟨D, 2, none⟩ (.int .i64 (if 4611686018427387904 < d.tick + 1 then 4611686018427387904 else d.tick + 1))) := (Chg.refl F w).setCell (p := ⟨D, 2, none⟩) (.inl h.fd) _
  have HP := Lib.hid hP1
  have HC := Lib.hid hC1
  have HF := Lib.hid hF
  have HOK := Lib.hid hok
  clear h hF hok hP1 hC1
  go_enter Try.func16, Try.ntmps16
  go_upto_region 1 with fail
  generalize (if 4611686018427387904 < d.tick + 1 then (4611686018427387904 : Int) else d.tick + 1) = X at HP HC ⊢
  generalize (w.setCell ⟨D, 2, none⟩ (.int .i64 X)) = w1 at HP HC ⊢
  clear c0 c1 c2 c3 c4 cf
  obtain ⟨c0, c1, c2, c3, c4⟩ := HP.out.cell
  go_wp2_with fail
  go_loopw [3, 18] (fun _ i wr => ∃ k : Nat, k ≤ c.n ∧ i = .int .i64 (k : Int) ∧ Hid (PD wr F c D (tkSt d k) O Q C) ∧ Hid (Chg F w wr)) (fun _ i _ => c.n - (intOf i).toNat)
  case atStart => exact ⟨0, by omega, rfl, HP, HC⟩
  case round =>
    clear HP HC c0 c1 c2 c3 c4
    obtain ⟨k, hk, rfl, HP, HC⟩ := hrel
    by_cases hlt : k < c.n
    · have hI : (k : Int) < (c.n : Int) := by omega
      by_cases hs : k = c.self
      · subst hs
        have hp := HP.out.nil_ hlt
        have HN := Lib.hid (tkSt_skip HP.out (.inl rfl))
        go_wp2
        go_roundw
        case rel => exact ⟨c.self + 1, by omega, by go_num, HN, HC⟩
        case measure => simp [intOf] <;> omega
      · have hp := HP.out.ptr hlt hs
        obtain ⟨o0, o1, o2, o3, o4, o5, o6⟩ := HP.out.ocell hlt hs
        obtain ⟨k0, k1, k2⟩ := HP.out.ccell hlt hs
        rw [tkSt_at] at o0 o1 o2 o3 o4 o6 k0
        cases hh : (d.pr k).heard with
        | false =>
          have HN := Lib.hid (tkSt_skip HP.out (.inr hh))
          rw [hh] at o1
          clear hh
          go_wp2
          go_roundw
          case rel => exact ⟨k + 1, by omega, by go_num, HN, HC⟩
          case measure => simp [intOf] <;> omega
        | true =>
          have hb := (HP.out.oth k hlt hs)
          have f4 := hb.frozen 4
          have hz := hb.set_ 4 (.int .i64 ((d.pr k).age + 1))
          have f1 := hz.frozen 1
          have z4 : (wr.setCell ⟨Q k, 4, none⟩ (.int .i64 ((d.pr k).age + 1))).cell? ⟨Q k, 4, none⟩ = some (.int .i64 ((d.pr k).age + 1)) := hz.cell 4
          have z1 : (wr.setCell ⟨Q k, 4, none⟩ (.int .i64 ((d.pr k).age + 1))).cell? ⟨Q k, 1, none⟩ = some (.bool (d.pr k).heard) := by
            rw [hz.cell 1, ← tkSt_at d k]; rfl
          have z5 : (wr.setCell ⟨Q k, 4, none⟩ (.int .i64 ((d.pr k).age + 1))).cell? ⟨Q k, 5, none⟩ = some (.iface 109 (.pointer (some ⟨C k, 0, none⟩))) := hz.cell 5
          have zc : (wr.setCell ⟨Q k, 4, none⟩ (.int .i64 ((d.pr k).age + 1))).cell? ⟨C k, 0, none⟩ = some (.int .i64 (d.pr k).tmo) := by
            have hcb := (HP.out.cap k hlt hs)
            have := (hcb.far (p := ⟨Q k, 4, none⟩) (hcb.ne_ hb (by decide)) (.int .i64 ((d.pr k).age + 1))).cell 0
            rw [this, ← tkSt_at d k]; rfl
          have a0 := (HOK.out.p k).a0
          have a1 := (HOK.out.p k).a1
          have HN := Lib.hid (tkSt_one HP.out hlt hs hh)
          have HN2 : Hid (Chg F w ((wr.setCell ⟨Q k, 4, none⟩ (.int .i64 ((d.pr k).age + 1))).setCell ⟨Q k, 1, none⟩ (.bool (decide ((d.pr k).age + 1 ≤ (d.pr k).tmo))))) :=
            (HC.out.setCell (p := ⟨Q k, 4, none⟩) (.inl (HP.out.fq k hlt hs).1) _).setCell (p := ⟨Q k, 1, none⟩) (.inl (HP.out.fq k hlt hs).1) _
          rw [hh] at o1 z1
          have hm := meth_long ⟨C k, 0, none⟩
          clear hb hz hh
          go_upto_region 6 with fail
          generalize (wr.setCell ⟨Q k, 4, none⟩ (.int .i64 ((d.pr k).age + 1))) = w2 at *
          have HND : Hid (Hid (PD (w2.setCell ⟨Q k, 1, none⟩ (.bool (decide ((d.pr k).age + 1 ≤ (d.pr k).tmo)))).drew F c D (tkSt d (k + 1)) O Q C) ∧ Hid (Chg F w (w2.setCell ⟨Q k, 1, none⟩ (.bool (decide ((d.pr k).age + 1 ≤ (d.pr k).tmo)))).drew)) :=
            ⟨HN.out.chg ((Chg.refl (fun _ => False) _).drew) (fun _ _ h => h), HN2.out.drew⟩
          clear HN HN2
          go_region_with (go_at_call 84; refine (long_any (C k) (d.pr k).tmo _ (by first | exact zc | simpa using zc)).mono ?_; rintro _ _ ⟨rfl, rfl⟩)
          all_goals
            go_wp2
            go_roundw
            case rel => exact ⟨k + 1, by omega, by go_num, HND.out.1, HND.out.2⟩
            case measure => simp [intOf] <;> omega
    · obtain rfl : k = c.n := by omega
      go_wp2
      go_end0
      exact ⟨rfl, tkSt_end HP.out, HC.out⟩
/-- The detector when k nodes have been left. -/
def lvSt (d : DSt) (k : Nat) : DSt := ⟨d.tick, true, fun j => if j < k then leaveP (d.pr j) else d.pr j⟩
theorem lvSt_skip {k : Nat} (h : PD w F c D (lvSt d k) O Q C) (hk : k = c.self) : PD w F c D (lvSt d (k + 1)) O Q C := by
  refine h.congr rfl rfl fun q _ hs => ?_
  simp only [lvSt]
  by_cases hq : q < k
  · rw [if_pos (by omega), if_pos hq]
  · rw [if_neg (by omega), if_neg hq]
theorem lvSt_at (d : DSt) (k : Nat) : (lvSt d k).pr k = d.pr k := by simp [lvSt]
theorem lvSt_one {k : Nat} {w : World} (h : PD w F c D (lvSt d k) O Q C) (hk : k < c.n) (hs : k ≠ c.self) : PD (w.setCell ⟨Q k, 1, none⟩ (.bool false)) F c D (lvSt d (k + 1)) O Q C := by
  have h2 := h.setQ (p' := leaveP (d.pr k)) (i := 1) (u := .bool false) hk hs (by rw [lvSt_at]; simp [leaveP, othC]) (by rw [lvSt_at]; simp [leaveP, capC])
  refine h2.congr rfl rfl fun q _ _ => ?_
  simp only [lvSt]
  by_cases e : q = k
  · subst e
    rw [if_pos (by omega), updP_same]
  · rw [updP_other _ e]
    by_cases hq : q < k
    · rw [if_pos (by omega), if_pos hq]
    · rw [if_neg (by omega), if_neg hq]
theorem lvSt_end (h : PD w F c D (lvSt d c.n) O Q C) : PD w F c D (leaveD d) O Q C :=
  h.congr rfl rfl fun q hq _ => by simp only [lvSt, leaveD]; rw [if_pos hq]
set_option maxRecDepth 100000 in
set_option maxHeartbeats 1600000 in
theorem PLeave_any (h : PD w F c D d O Q C) (hn : c.n ≤ 16) :
    Calls Try.prog 25 #[.pointer (some ⟨D, 0, none⟩)] w fun e w' => e = .returned (.tuple #[]) ∧ PD w' F c D (leaveD d) O Q C ∧ Chg F w w' := by
  obtain ⟨c0, c1, c2, c3, c4⟩ := h.cell
  have cf := h.blk.frozen 3
  have HP := Lib.hid (h.setD (d' := lvSt d 0) (i := 3) (u := .bool true) rfl (fun q => by simp [lvSt]))
  have HC : Hid (Chg F w (w.setCell ⟨D, 3, none⟩ (.bool true))) := (Chg.refl F w).setCell (p := ⟨D, 3, none⟩) (.inl h.fd) _
  clear h
  go_enter Try.func25, Try.ntmps25
  go_upto_region 1 with fail
  generalize (w.setCell ⟨D, 3, none⟩ (.bool true)) = w1 at HP HC ⊢
  clear c0 c1 c2 c3 c4 cf
  obtain ⟨c0, c1, c2, c3, c4⟩ := HP.out.cell
  go_wp2_with fail
  go_loopw [3, 12] (fun _ i wr => ∃ k : Nat, k ≤ c.n ∧ i = .int .i64 (k : Int) ∧ Hid (PD wr F c D (lvSt d k) O Q C) ∧ Hid (Chg F w wr)) (fun _ i _ => c.n - (intOf i).toNat)
  case atStart => exact ⟨0, by omega, rfl, HP, HC⟩
  case round =>
    clear HP HC c0 c1 c2 c3 c4
    obtain ⟨k, hk, rfl, HP, HC⟩ := hrel
    by_cases hlt : k < c.n
    · have hI : (k : Int) < (c.n : Int) := by omega
      by_cases hs : k = c.self
      · have HN := Lib.hid (lvSt_skip HP.out hs)
        subst hs
        have hp := HP.out.nil_ hlt
        go_wp2
        go_roundw
        case rel => exact ⟨c.self + 1, by omega, by go_num, HN, HC⟩
        case measure => simp [intOf] <;> omega
      · have hp := HP.out.ptr hlt hs
        obtain ⟨o0, o1, o2, o3, o4, o5, o6⟩ := HP.out.ocell hlt hs
        have f1 := (HP.out.oth k hlt hs).frozen 1
        have HN := Lib.hid (lvSt_one HP.out hlt hs)
        have HN2 : Hid (Chg F w (wr.setCell ⟨Q k, 1, none⟩ (.bool false))) := HC.out.setCell (p := ⟨Q k, 1, none⟩) (.inl (HP.out.fq k hlt hs).1) _
        go_wp2
        go_roundw
        case rel => exact ⟨k + 1, by omega, by go_num, HN, HN2⟩
        case measure => simp [intOf] <;> omega
    · obtain rfl : k = c.n := by omega
      go_wp2
      go_end0
      exact ⟨rfl, lvSt_end HP.out, HC.out⟩
set_option maxRecDepth 100000 in
set_option maxHeartbeats 1600000 in
theorem PSusp_any (h : PD w F c D d O Q C) (hF : ∀ k, F k → k < w.heap.size) (hn : c.n ≤ 16) :
    Calls Try.prog 28 #[.pointer (some ⟨D, 0, none⟩)] w (GivesL w (suspL c d c.n)) := by
  obtain ⟨i0, hi0, hz0, hz1, hz2⟩ := info_parts info_int
  obtain ⟨c0, c1, c2, c3, c4⟩ := h.cell
  have hH := Lib.hid h
  have HF := Lib.hid hF
  clear hF h
  go_enter Try.func28, Try.ntmps28
  go_wp2_with fail
  go_loopw [3, 4, 5, 11] (fun v _ _ i wr => ∃ k : Nat, k ≤ c.n ∧ i = .int .i64 (k : Int) ∧ wr.ownsRow w.heap.size 3 1 v (suspL c d k).length (ivs (suspL c d k)) ∧ Below w.heap.size w wr) (fun _ _ _ i _ => c.n - (intOf i).toNat)
  case atStart => exact ⟨0, by omega, rfl, ⟨by simp [suspL, ivs], .inl ⟨rfl, by simp [suspL]⟩⟩, Below.refl _ _⟩
  case round =>
    clear c0 c1 c2 c3 c4
    obtain ⟨k, hk, rfl, ho, hb⟩ := hrel
    have hP := hH.out.below HF.out hb
    have HS := Lib.hid (suspL_succ c d k)
    have hsl := suspL_len c d k
    obtain ⟨Al, capl, rfl, hl1, hl2⟩ := own_shape ho
    by_cases hlt : k < c.n
    · have hI : (k : Int) < (c.n : Int) := by omega
      have hno : susp c d k = false → wr.ownsRow w.heap.size 3 1 (.slice Al (suspL c d k).length capl) (suspL c d (k + 1)).length (ivs (suspL c d (k + 1))) := fun hsu => by
        rw [HS.out, hsu]
        simpa using ho
      have HNO := Lib.hid hno
      clear hno
      generalize hL : (suspL c d k).length = L at *
      have HL := Lib.hid hL
      clear hL
      by_cases hs : k = c.self
      · have HN : Hid (wr.ownsRow w.heap.size 3 1 (.slice Al L capl) (suspL c d (k + 1)).length (ivs (suspL c d (k + 1)))) := Lib.hid (HNO.out (by simp [susp, hs]))
        subst hs
        have hp := hP.nil_ hlt
        clear hP HNO
        go_wp2
        go_roundw
        case rel => exact ⟨c.self + 1, by omega, by go_num, HN.out, hb⟩
        case measure => simp [intOf] <;> omega
      · have hp := hP.ptr hlt hs
        obtain ⟨o0, o1, o2, o3, o4, o5, o6⟩ := hP.ocell hlt hs
        clear hP
        cases hh : (d.pr k).heard with
        | true =>
          have HN : Hid (wr.ownsRow w.heap.size 3 1 (.slice Al L capl) (suspL c d (k + 1)).length (ivs (suspL c d (k + 1)))) := Lib.hid (HNO.out (by simp [susp, hh]))
          rw [hh] at o1
          clear hh HNO
          go_wp2
          go_roundw
          case rel => exact ⟨k + 1, by omega, by go_num, HN.out, hb⟩
          case measure => simp [intOf] <;> omega
        | false =>
          rw [hh] at o1
          by_cases hz : (d.pr k).known = 0
          · have HN : Hid (wr.ownsRow w.heap.size 3 1 (.slice Al L capl) (suspL c d (k + 1)).length (ivs (suspL c d (k + 1)))) := Lib.hid (HNO.out (by simp [susp, hz]))
            have hzb : ((d.pr k).known != 0) = false := by simpa using hz
            clear hh HNO hz
            go_wp2
            go_roundw
            case rel => exact ⟨k + 1, by omega, by go_num, HN.out, hb⟩
            case measure => simp [intOf] <;> omega
          · have hsu : susp c d k = true := by simp [susp, hs, hh, hz]
            have HN : Hid (suspL c d (k + 1) = suspL c d k ++ [(k : Int)]) := by
              refine Lib.hid ?_
              rw [HS.out, if_pos hsu]
            have hzb : ((d.pr k).known != 0) = true := by simpa using hz
            clear hh HNO hz hsu
            go_wp2_with (
               at_builtin
               refine app1 wr (by rfl) _ _ 22 (by rfl) w.heap.size 3 i0 _ 8 u_ints hi0 hz0 hz1 hz2 rfl _ _ _ (by rfl) ho _ (by rfl) (by rfl) (by simp only [maxLen]; omega) (by omega) hb.size ?_
               intro v2 w2 hown2 hb2 _)
            go_roundw
            case rel =>
              refine ⟨k + 1, by omega, by go_num, ?_, hb.trans hb2⟩
              rw [HN.out, ivs_append, List.length_append, HL.out]
              exact hown2
            case measure => simp [intOf] <;> omega
    · obtain rfl : k = c.n := by omega
      go_wp2
      go_ret
      exact ⟨Al, capl, rfl, ho, hb⟩
end Go.Proofs.Ytfjpmoigpnmeoaa
