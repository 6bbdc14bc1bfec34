/-
  EtherOnTime: the plain law, and the calls that hand out lists; count.
-/
import Derived.Test.YtgfhmfhhobhojaaEPlay
import Derived.Test.YtgfhmfhhobhojaaEOps
namespace Go.Proofs.Ytgfhmfhhobhojaa
open Go.ChangeShapes Go.WideShapes Go.ChangeAt Go.RowKit
def cntId (l : List Flt) (i : Nat) : Nat := l.countP fun f => decide (f.id = i)
theorem cnt_take {l : List Flt} {k : Nat} {f : Flt} (hf : l[k]? = some f) (i : Nat) : cntId (l.take (k + 1)) i = cntId (l.take k) i + if f.id = i then 1 else 0 := by
  unfold cntId
  rw [List.take_add_one, hf, List.countP_append]
  simp [List.countP_cons]
theorem cnt_le (l : List Flt) (i : Nat) : cntId l i ≤ l.length := List.countP_le_length
set_option maxRecDepth 100000 in
set_option maxHeartbeats 1600000 in
theorem count_any {w : World} (A : Option Addr) (n cap : Nat) (l : List Flt) (h : FlAt w A n l) (hn : n ≤ 1099511627776) (i : Nat) : Calls Try.prog 22 #[.slice A n cap, .int .i64 (i : Int)] w fun e w' => e = .returned (.int .i64 (cntId l i : Int)) ∧ w = w' := by
  have H := Lib.hid h
  have hl := h.len
  have HL := Lib.hid hl
  clear h hl
  go_enter Try.func22, Try.ntmps22
  go_wp2_with fail
  go_loop [5, 6] (fun x j => ∃ k : Nat, k ≤ n ∧ j = .int .i64 (k : Int) ∧ x = .int .i64 (cntId (l.take k) i : Int)) (fun _ j => n - (intOf j).toNat)
  case atStart => exact ⟨0, by omega, rfl, rfl⟩
  case round =>
    obtain ⟨k, hk, rfl, rfl⟩ := hrel
    by_cases hlt : k < n
    · have hI : (k : Int) < (n : Int) := by omega
      obtain ⟨f, hf⟩ : ∃ f, l[k]? = some f := ⟨l[k]'(by rw [← HL.out]; exact hlt), List.getElem?_eq_getElem _⟩
      obtain ⟨g, bA, bc, rfl, _, c0, _⟩ := H.out.at_ k f hf
      have hct := cnt_take hf i
      have hle : cntId (l.take k) i ≤ 1099511627776 := by
        have := cnt_le (l.take k) i
        have h2 := List.length_take_le k l
        omega
      by_cases hid : f.id = i
      · have e1 : ((f.id : Int) == (i : Int)) = true := by rw [hid]; simp
        rw [if_pos hid] at hct
        have HCT := Lib.hid hct
        clear hct hf hid
        obtain ⟨q, hq⟩ : ∃ q, q = cntId (l.take k) i := ⟨_, rfl⟩
        rw [← hq] at HCT hle ⊢
        clear hq
        go_wp2
        go_round
        case rel => exact ⟨k + 1, by omega, by go_num, by rw [HCT.out]; go_num⟩
        case measure => simp [intOf]; omega
      · have e1 : ((f.id : Int) == (i : Int)) = false := by simp; omega
        rw [if_neg hid] at hct
        have HCT := Lib.hid hct
        clear hct hf hid
        obtain ⟨q, hq⟩ : ∃ q, q = cntId (l.take k) i := ⟨_, rfl⟩
        rw [← hq] at HCT hle ⊢
        clear hq
        go_wp2
        go_round
        case rel => exact ⟨k + 1, by omega, by go_num, by rw [HCT.out]; rfl⟩
        case measure => simp [intOf]; omega
    · obtain rfl : k = n := by omega
      have HT : Hid (l.take k = l) := Lib.hid (by rw [HL.out, List.take_length])
      rw [HT.out]
      go_wp2
      go_ret
      exact ⟨rfl, rfl⟩
section
variable {w : World} {B : Nat} {c : ECfg} {D m : Nat} {p : PV} {F : Nat → Prop}
theorem LFlights (hc : c.Ok) (h : LiveP w B c D m p F) (hm : m ≤ 4398046511104) : Calls Try.prog 23 #[.pointer (some ⟨D, 0, none⟩)] w fun e w' => ∃ A cap, e = .returned (.slice A p.way.length cap) ∧ FlAt w' A p.way.length p.way ∧ Below w.heap.size w w' := by
  refine (Flights_any h.pn (h.inv.fine hc hm)).mono ?_
  rintro e w' ⟨v, h1, h2, H, h3, h4, h5, _⟩
  have hl : p.way.length = H.length := by rw [← h3, List.length_map]
  obtain ⟨A, cap, rfl, _⟩ := own_shape h4
  refine ⟨A, cap, by rw [hl]; exact h1, ?_, h2⟩
  rw [hl]
  have h6 := FlAt.of_p h4 h5
  rw [h3] at h6
  exact h6
theorem LRoundF (hc : c.Ok) (h : LiveP w B c D m p F) (hB : B ≤ w.heap.size) (hm : m ≤ 4398046511104) : Calls Try.prog 21 #[.pointer (some ⟨D, 0, none⟩)] w fun e w' => ∃ A cap, e = .returned (.slice A (roundL c p).length cap) ∧ FlAt w' A (roundL c p).length (roundL c p) ∧ LiveR w B c D m (roundP p) w' := by
  refine (LRound hc h hB hm).mono ?_
  rintro e w' ⟨v, h1, ⟨H, h3, h4, h5, _⟩, h6⟩
  have hl : (roundL c p).length = H.length := by rw [← h3, List.length_map]
  obtain ⟨A, cap, rfl, _⟩ := own_shape h4
  refine ⟨A, cap, by rw [hl]; exact h1, ?_, h6⟩
  rw [hl]
  have h7 := FlAt.of_p h4 h5
  rw [h3] at h7
  exact h7
end
section
variable {c : ECfg} {p : PV} {m : Nat}
theorem PInv.ways (h : PInv c p m) : p.way.length ≤ m := by
  obtain ⟨r, h1, _⟩ := h.ex
  rw [h1.way]
  exact Nat.le_trans (wayOf_le _) h1.many
/-- The packet of number i is due in round D; n of it are on their way. -/
structure Tr (c : ECfg) (p : PV) (i D n : Nat) : Prop where
  cnt : cntId p.way i = n
  all : ∀ f ∈ p.way, f.id = i → f.due = D ∧ okB c p f = true
theorem Tr.round {i D n : Nat} (h : Tr c p i D n) : Tr c (roundP p) i D (if p.clock + 1 < D then n else 0) ∧ cntId (roundL c p) i = if p.clock + 1 < D then 0 else n := by
  have hst : ∀ f ∈ p.way, f.id = i → stayB (p.clock + 1) f = decide (p.clock + 1 < D) := fun f hf hi => by
    unfold stayB
    rw [(h.all f hf hi).1]
  have h1 : cntId (roundP p).way i = if p.clock + 1 < D then n else 0 := by
    show (p.way.filter (stayB (p.clock + 1))).countP _ = _
    rw [List.countP_filter]
    by_cases hd : p.clock + 1 < D
    · rw [if_pos hd, ← h.cnt]
      refine List.countP_congr fun f hf => ?_
      by_cases hi : f.id = i
      · simp [hi, hst f hf hi, hd]
      · simp [hi]
    · rw [if_neg hd, List.countP_eq_zero]
      intro f hf
      by_cases hi : f.id = i
      · simp [hi, hst f hf hi, hd]
      · simp [hi]
  refine ⟨⟨h1, fun f hf hi => h.all f (List.mem_filter.1 hf).1 hi⟩, ?_⟩
  show (p.way.filter (hereB c p (p.clock + 1))).countP _ = _
  rw [List.countP_filter]
  by_cases hd : p.clock + 1 < D
  · rw [if_pos hd, List.countP_eq_zero]
    intro f hf
    by_cases hi : f.id = i
    · simp [hi, hereB, hst f hf hi, hd]
    · simp [hi]
  · rw [if_neg hd, ← h.cnt]
    refine List.countP_congr fun f hf => ?_
    by_cases hi : f.id = i
    · simp [hi, hereB, hst f hf hi, hd, (h.all f hf hi).2]
    · simp [hi]
theorem Tr.add {i D n : Nat} (h : Tr c p i D n) (hi : i ≤ p.last) (a b due : Nat) (bs : List UInt8) : Tr c (addP p a b due bs) i D n := by
  refine ⟨?_, fun f hf hfi => ?_⟩
  · show cntId (p.way ++ [_]) i = n
    have e : ¬ p.last + 1 = i := by omega
    unfold cntId
    rw [List.countP_append]
    have := h.cnt
    unfold cntId at this
    rw [this]
    simp [e]
  · have hf' : f ∈ p.way ++ [(⟨p.last + 1, a, b, due, bs⟩ : Flt)] := hf
    rcases List.mem_append.1 hf' with h1 | h1
    · exact h.all f h1 hfi
    · simp only [List.mem_cons, List.not_mem_nil, or_false] at h1
      subst h1
      dsimp only at hfi
      omega
theorem Tr.new_ (h : PInv c p m) {a b : Nat} (due : Nat) (bs : List UInt8) (hok : okB c p ⟨p.last + 1, a, b, due, bs⟩ = true) : Tr c (addP p a b due bs) (p.last + 1) due 1 := by
  have hid := h.ids.2
  refine ⟨?_, fun f hf hfi => ?_⟩
  · show cntId (p.way ++ [_]) _ = 1
    unfold cntId
    rw [List.countP_append, List.countP_eq_zero.2 fun f hf => by have := hid f hf; simp; omega]
    simp
  · have hf' : f ∈ p.way ++ [(⟨p.last + 1, a, b, due, bs⟩ : Flt)] := hf
    rcases List.mem_append.1 hf' with h1 | h1
    · have := hid f h1; omega
    · simp only [List.mem_cons, List.not_mem_nil, or_false] at h1
      subst h1
      exact ⟨rfl, hok⟩
/-- Both ends are up, the path from 0 to 1 is open, its delay is d. -/
structure Rdy (c : ECfg) (p : PV) (d : Nat) : Prop where
  two : 2 ≤ c.n
  big : c.room = 20000
  up0 : p.down 0 = false
  up1 : p.down 1 = false
  open_ : p.shut 0 1 = false
  slow : max 1 (p.slow 0 1) = d
theorem Rdy.join {d : Nat} (h : Rdy c p d) : joinB c 0 1 = true := joinB_nat (i := 0) (j := 1) (by have := h.two; omega) (by have := h.two; omega) (by decide)
theorem Rdy.post {d : Nat} (h : Rdy c p d) (hl : p.way.length < 20000) (bs : List UInt8) (hb : bs.length ≤ 40000) : postE c p 0 1 bs.length true = 0 ∧ postR c p 0 1 bs.length true = (p.last : Int) + 1 ∧ postP c p 0 1 bs true = addP p 0 1 (p.clock + d) bs := by
  have e : postE c p 0 1 bs.length true = 0 := by
    unfold postE launchE
    rw [if_pos ⟨h.join, hb⟩]
    have e0 : (0 : Int).toNat = 0 := rfl
    have e1 : (1 : Int).toNat = 1 := rfl
    rw [e0, e1, h.up0, h.open_, if_neg (by simp), if_neg (by simp), if_neg (by rw [h.big]; omega)]
  refine ⟨e, ?_, ?_⟩
  · unfold postR; rw [if_pos e]
  · unfold postP; rw [if_pos e]
    show addP p 0 1 (p.clock + max 1 (p.slow 0 1)) bs = _
    rw [h.slow]
theorem Rdy.ok {d : Nat} (h : Rdy c p d) (i due : Nat) (bs : List UInt8) : okB c p ⟨i, 0, 1, due, bs⟩ = true := by
  show (joinB c 0 1 && !p.shut 0 1 && (hasB c 1 && !p.down 1)) = true
  have h2 := h.two
  have e2 : hasB c 1 = true := by simp [hasB]; omega
  rw [h.join, h.open_, h.up1, e2]
  rfl
theorem Rdy.round {d : Nat} (h : Rdy c p d) : Rdy c (roundP p) d := ⟨h.two, h.big, h.up0, h.up1, h.open_, h.slow⟩
theorem Rdy.add {d : Nat} (h : Rdy c p d) (a b due : Nat) (bs : List UInt8) : Rdy c (addP p a b due bs) d := ⟨h.two, h.big, h.up0, h.up1, h.open_, h.slow⟩
theorem rest_down {q : Int} {k : Nat} (h : p.down k = false) : (restP c p q).down k = false := by
  unfold restP
  split
  · simp only [updB]; split
    · rfl
    · exact h
  · exact h
theorem rest_up {q : Nat} (hq : q < c.n) : (restP c p (q : Int)).down q = false := by
  unfold restP Rest_e
  have hb : hasB c (q : Int) = true := by simp [hasB, hq]
  rw [if_pos hb, Int.toNat_natCast]
  cases hd : p.down q with
  | true => simp [updB]
  | false => simpa using hd
end
section
variable {c : ECfg} {p : PV}
theorem heal_ok (hj : joinB c 0 1 = true) : doD c p ⟨9, 0, 1, 0, [], []⟩ = (0, { p with shut := updS p.shut 0 1 false }) := by
  unfold doD
  rw [if_pos (by simp), if_pos hj]
  rfl
theorem delay_ok (hj : joinB c 0 1 = true) {d : Int} (hd : 1 ≤ d ∧ d ≤ 16) : doD c p ⟨10, 0, 1, d, [], []⟩ = (0, { p with slow := upd2 p.slow 0 1 (slowV d.toNat) }) := by
  unfold doD
  rw [if_pos (by simp), if_pos hj]
  unfold turnD
  rw [if_neg (by simp), if_neg (by simp), if_pos hd]
  rfl
theorem delay_bad (hj : joinB c 0 1 = true) {d : Int} (hd : ¬ (1 ≤ d ∧ d ≤ 16)) : (doD c p ⟨10, 0, 1, d, [], []⟩).1 = 1 := by
  unfold doD
  rw [if_pos (by simp), if_pos hj]
  unfold turnD
  rw [if_neg (by simp), if_neg (by simp), if_neg hd]
theorem Rdy.made (h2 : 2 ≤ c.n) (hr : c.room = 20000) (h0 : p.down 0 = false) (h1 : p.down 1 = false) {d : Int} (hd : 1 ≤ d ∧ d ≤ 16) : Rdy c (doD c (doD c p ⟨9, 0, 1, 0, [], []⟩).2 ⟨10, 0, 1, d, [], []⟩).2 d.toNat := by
  have hj : joinB c 0 1 = true := joinB_nat (i := 0) (j := 1) (by omega) (by omega) (by decide)
  rw [heal_ok hj, delay_ok hj hd]
  refine ⟨h2, hr, h0, h1, by simp [updS], ?_⟩
  show max 1 (upd2 p.slow 0 1 (slowV d.toNat) 0 1) = d.toNat
  simp only [upd2, slowV]
  split
  · split <;> omega
  · rename_i h; simp at h
theorem joinB_01 (h2 : 2 ≤ c.n) : joinB c 0 1 = true := joinB_nat (i := 0) (j := 1) (by omega) (by omega) (by decide)
end
section
variable {w : World} {B : Nat} {c : ECfg} {D m : Nat} {p : PV}
def LiveX (w : World) (B : Nat) (c : ECfg) (D m : Nat) (p : PV) : Prop := B ≤ w.heap.size ∧ ∃ F, LiveP w B c D m p F
theorem LiveX.below {w1 : World} (h : LiveX w B c D m p) (hb : Below w.heap.size w w1) : LiveX w1 B c D m p := by
  obtain ⟨hB, F, h⟩ := h
  exact ⟨Nat.le_trans hB hb.size, F, h.below hb⟩
theorem LiveX.mono {m' : Nat} (h : LiveX w B c D m p) (hm : m ≤ m') : LiveX w B c D m' p := by
  obtain ⟨hB, F, h⟩ := h
  exact ⟨hB, F, h.mono hm⟩
theorem LiveX.inv (h : LiveX w B c D m p) : PInv c p m := by
  obtain ⟨hB, F, h⟩ := h
  exact h.inv
theorem LiveR.x {p' : PV} {w' : World} (hB : B ≤ w.heap.size) (h : LiveR w B c D m p' w') : LiveX w' B c D (m + 1) p' ∧ Below B w w' :=
  ⟨⟨Nat.le_trans hB h.2.size, h.1⟩, h.2⟩
theorem XRest (h : LiveX w B c D m p) (hm : m ≤ 4398046511104) (q : Int) : Calls Try.prog 17 #[.pointer (some ⟨D, 0, none⟩), .int .i64 q] w fun e w' => e = .returned (.tuple #[.int .i64 (Rest_r c p.down p.inc q), .int .i64 (Rest_e c p.down q)]) ∧ LiveX w' B c D (m + 1) (restP c p q) ∧ Below B w w' := by
  obtain ⟨hB, F, h⟩ := h
  exact (LRest h hB hm q).mono fun _ _ hs => ⟨hs.1, hs.2.x hB⟩
theorem XUp (h : LiveX w B c D m p) (q : Int) : Calls Try.prog 18 #[.pointer (some ⟨D, 0, none⟩), .int .i64 q] w fun e w' => e = .returned (.bool (upA c p.down q)) ∧ w = w' := by
  obtain ⟨hB, F, h⟩ := h
  exact Up_any h.pn q
theorem XDo0 (hc : c.Ok) (h : LiveX w B c D m p) (hm : m ≤ 4398046511104) (kd a b n : Int) (hn : n ≤ 9223372036854775807) : Calls Try.prog 19 #[.pointer (some ⟨D, 0, none⟩), .agg #[.int .i64 kd, .int .i64 a, .int .i64 b, .int .i64 n, .slice none 0 0, .int .i64 0, .int .i64 0, .int .i64 0, .int .i64 0, .string ByteArray.empty, .string ByteArray.empty, .string ByteArray.empty, .slice none 0 0]] w fun e w' => e = .returned (.int .i64 (doD c p ⟨kd, a, b, n, [], []⟩).1) ∧ LiveX w' B c D (m + 1) (doD c p ⟨kd, a, b, n, [], []⟩).2 ∧ Below B w w' := by
  obtain ⟨hB, F, h⟩ := h
  exact (LDo hc h hB hm kd a b n none none 0 0 [] [] hn (Rd.nil_ _) (by simp) (Rd.nil_ _) (by simp) (fun hp => absurd hp (by simp)) (fun hp => absurd hp (by simp))).mono fun _ _ hs => ⟨hs.1, hs.2.x hB⟩
theorem XPostL (hc : c.Ok) (h : LiveX w B c D m p) (hm : m ≤ 4398046511104) (a b : Int) (cap : Nat) (bs : List UInt8) (hn : bs.length ≤ 140737488351232) : Calls Try.prog 20 #[.pointer (some ⟨D, 0, none⟩), .int .i64 a, .int .i64 b, .slice (some ⟨w.heap.size, 0, none⟩) bs.length cap] (w.alloc (.cells (bvs bs).toArray 5)) fun e w' => e = .returned (.tuple #[.int .i64 (postR c p a b bs.length true), .int .i64 (postE c p a b bs.length true)]) ∧ LiveX w' B c D (m + 1) (postP c p a b bs true) ∧ Below B w w' := by
  obtain ⟨hB, F, h⟩ := h
  have hb0 := one_box' w (.cells (bvs bs).toArray 5)
  have hE := Blk.new w 5 (bvs bs).toArray
  have hF := h.pn.1
  refine (LPost hc (h.below hb0) (Nat.le_trans hB hb0.size) hm a b (some ⟨w.heap.size, 0, none⟩) cap bs ⟨by rw [bvs_length, Nat.mul_one], fun _ => ⟨_, 0, rfl, hE.lt, fun q u hu => by rw [Nat.zero_add, hE.cell, List.getElem?_toArray]; exact hu⟩⟩ hn (fun _ b' o s e hf => ?_)).mono fun _ _ hs => ?_
  · injection e with e
    injection e with e
    have := hF _ hf
    omega
  · have h1 := hs.2.x (Nat.le_trans hB hb0.size)
    exact ⟨hs.1, h1.1, (hb0.mono hB).trans h1.2⟩
theorem XPost0 (hc : c.Ok) (h : LiveX w B c D m p) (hm : m ≤ 4398046511104) (a b : Int) : Calls Try.prog 20 #[.pointer (some ⟨D, 0, none⟩), .int .i64 a, .int .i64 b, .slice none 0 0] w fun e w' => e = .returned (.tuple #[.int .i64 (postR c p a b 0 true), .int .i64 (postE c p a b 0 true)]) ∧ LiveX w' B c D (m + 1) (postP c p a b [] true) ∧ Below B w w' := by
  obtain ⟨hB, F, h⟩ := h
  exact (LPost hc h hB hm a b none 0 [] (Rd.nil_ _) (by simp) (fun hp => absurd hp (by simp))).mono fun _ _ hs => ⟨hs.1, hs.2.x hB⟩
theorem XRound (hc : c.Ok) (h : LiveX w B c D m p) (hm : m ≤ 4398046511104) : Calls Try.prog 21 #[.pointer (some ⟨D, 0, none⟩)] w fun e w' => ∃ A cap, e = .returned (.slice A (roundL c p).length cap) ∧ FlAt w' A (roundL c p).length (roundL c p) ∧ LiveX w' B c D (m + 1) (roundP p) ∧ Below B w w' := by
  obtain ⟨hB, F, h⟩ := h
  refine (LRoundF hc h hB hm).mono ?_
  rintro e w' ⟨A, cap, h1, h2, h3⟩
  exact ⟨A, cap, h1, h2, h3.x hB⟩
theorem XFlights (hc : c.Ok) (h : LiveX w B c D m p) (hm : m ≤ 4398046511104) : Calls Try.prog 23 #[.pointer (some ⟨D, 0, none⟩)] w fun e w' => ∃ A cap, e = .returned (.slice A p.way.length cap) ∧ FlAt w' A p.way.length p.way ∧ Below w.heap.size w w' := by
  obtain ⟨hB, F, h⟩ := h
  exact LFlights hc h hm
theorem XPlay (hc : c.Ok) (h : LiveX w B c D m p) (hm : m ≤ 4398046511104) {MB MS b off k : Nat} {kd a q n : Int} {BA : Option Addr} {bc : Nat} {bs : List UInt8} {SA : Option Addr} {sc : Nat} {sides : List Int} (ho : EOpAt w B MB MS b off k kd a q n BA bc bs SA sc sides) (hMB : MB ≤ 140737488351232) (hMS : MS ≤ 17592186043904) : Calls Try.prog 16 #[.pointer (some ⟨D, 0, none⟩), .agg #[.int .i64 kd, .int .i64 a, .int .i64 q, .int .i64 n, .slice BA bs.length bc, .slice SA sides.length sc]] w fun e w' => e = .returned (.tuple #[]) ∧ ∃ p', LiveX w' B c D (m + 1) p' ∧ Below B w w' := by
  obtain ⟨hB, F, h⟩ := h
  refine (play_any hc h hB hm kd a q n BA SA bc sc bs sides ho.nb.2 ho.rb (Nat.le_trans ho.mb hMB) ho.rs (Nat.le_trans ho.ms hMS)).mono ?_
  rintro e w' ⟨h1, p', h2⟩
  exact ⟨h1, p', h2.x hB⟩
/-- What a case's calls are, behind more memory. -/
theorem EOpAt.more {w : World} {B B' MB MS b off k : Nat} {kd p q n : Int} {BA : Option Addr} {bc : Nat} {bs : List UInt8} {SA : Option Addr} {sc : Nat} {sides : List Int} (h : EOpAt w B MB MS b off k kd p q n BA bc bs SA sc sides) (hB : B ≤ B') : EOpAt w B' MB MS b off k kd p q n BA bc bs SA sc sides :=
  ⟨h.c0, h.c1, h.c2, h.c3, h.c4, h.c5, h.rb.more hB, h.rs.more hB, h.mb, h.ms, h.cb, h.cs, h.kb, h.pb, h.qb, h.nb, h.sb⟩
theorem LiveX.new {w1 : World} {D' : Nat} {F : Nat → Prop} (hc : c.Ok) (h1 : PNx w1 F c D' PV.new 0) (h2 : ∀ k, F k → w.heap.size ≤ k) (hb : Below w.heap.size w w1) : LiveX w1 w.heap.size c D' 0 PV.new := ⟨hb.size, F, h1, PInv.new hc, h2⟩
def TrueOk (w : World) (e : Ending) (w' : World) : Prop := e = .returned (.bool true) ∧ Below w.heap.size w w'
end
end Go.Proofs.Ytgfhmfhhobhojaa
