/-
  The journal's disk between two commits: plain law. No program text. And: What is written is read as it was written; what is torn is read as what stood ahead of it. Plain lemmas. No program text.
-/
import Derived.Test.YtpkdalpjfcopbaaDoorKRead
namespace Go.Proofs.YtpkdalpjfcopbaaDoor
theorem part_at {a b : List UInt8} {p n : Nat} (h : a.length ≤ p) : part (a ++ b) p n = part b (p - a.length) n := by
  unfold part
  rw [List.drop_append, List.drop_eq_nil_of_le h, List.nil_append]
theorem numB_be {v b : Nat} (h : v < 256 ^ b) : numB (beN v b) = v := by rw [numB_beN, Nat.mod_eq_of_lt h]
theorem crc_be (l : List UInt8) : numB (beN (Crc.crc l) 4) = Crc.crc l := numB_be (by have := Crc.crc_lt l; omega)
theorem part_whole {a b : List UInt8} {n : Nat} (h : n = a.length) : part (a ++ b) 0 n = a := by
  subst h
  unfold part
  rw [List.drop_zero, List.take_left]
theorem head_parts (g c : Nat) : part (headB g c) 0 2 = [113, 106] ∧ part (headB g c) 2 8 = beN g 8 ∧ part (headB g c) 10 4 = beN c 4 ∧ part (headB g c) 14 4 = beN (Crc.crc (hdr g c)) 4 ∧ part (headB g c) 0 14 = hdr g c := by
  have l8 := beN_length g 8
  have l4 := beN_length c 4
  have l5 := beN_length (Crc.crc (hdr g c)) 4
  have hl := hdr_length g c
  refine ⟨?_, ?_, ?_, ?_, ?_⟩
  · unfold headB
    rw [part_left (by omega), hdr, List.append_assoc]
    exact part_whole rfl
  · unfold headB
    rw [part_left (by omega), hdr, List.append_assoc, part_at (by simp)]
    exact part_whole l8.symm
  · unfold headB
    rw [part_left (by omega), hdr, part_at (by simp [l8])]
    have e : 10 - ([113, 106] ++ beN g 8).length = 0 := by simp [l8]
    rw [e]
    exact part_all l4
  · unfold headB
    rw [part_at (by omega), hl]
    exact part_all l5
  · unfold headB
    exact part_whole hl.symm
theorem beN_cons (v b : Nat) : beN v (b + 1) = UInt8.ofNat (v / 256 ^ b) :: beN v b := by
  unfold beN
  rw [List.range_succ_eq_map, List.map_cons, List.map_map]
  congr 1
  apply List.map_congr_left
  intro j hj
  have e : b + 1 - 1 - (j + 1) = b - 1 - j := by omega
  simp only [Function.comp, Nat.succ_eq_add_one, e]
theorem part_part' {l : List UInt8} {p n a b : Nat} (h : a + b ≤ n) : part (part l p n) a b = part l (p + a) b := by
  unfold part
  rw [List.drop_take, List.drop_drop, List.take_take, Nat.min_eq_left (by omega)]
theorem gen7 {g c : Nat} (hg : g < 72057594037927936) : numB (part (headB g c) 3 7) = g := by
  obtain ⟨_, a2, _⟩ := head_parts g c
  have e : part (headB g c) 3 7 = part (part (headB g c) 2 8) 1 7 := (part_part' (l := headB g c) (p := 2) (n := 8) (a := 1) (b := 7) (by omega)).symm
  rw [e, a2, beN_cons]
  have e2 : part (UInt8.ofNat (g / 256 ^ 7) :: beN g 7) 1 7 = beN g 7 := by
    unfold part
    show (beN g 7).take 7 = beN g 7
    exact List.take_of_length_le (by rw [beN_length]; exact Nat.le_refl _)
  rw [e2]
  exact numB_be hg
theorem headR_of {l : List UInt8} {g c : Nat} (h : l.take 18 = headB g c) (h1 : 18 ≤ l.length) (h2 : l.length ≤ 65536) (hg : 1 ≤ g ∧ g ≤ 4611686018427387904) (hc : c < 4294967296) : headR l = some (g, c) := by
  have key : ∀ p n, p + n ≤ 18 → part l p n = part (headB g c) p n := fun p n hp => by rw [← h, part_take hp]
  obtain ⟨a1, a2, a3, a4, a5⟩ := head_parts g c
  have e1 : numB (part l 2 8) = g := by rw [key 2 8 (by omega), a2]; exact numB_be (by omega)
  have e2 : numB (part l 10 4) = c := by rw [key 10 4 (by omega), a3]; exact numB_be (by omega)
  have e3 : numB (part l 14 4) = Crc.crc (part l 0 14) := by rw [key 14 4 (by omega), key 0 14 (by omega), a4, a5, crc_be]
  unfold headR
  rw [e1, e2, if_pos ⟨h1, h2, (key 0 2 (by omega)).trans a1, hg.1, hg.2, e3⟩]
theorem frame_parts (s : List UInt8) {r : Rc} (hr : r.ok = true) : numB (part (frameB s r) 0 1) = r.kind.toNat ∧ numB (part (frameB s r) 1 2) = r.body.length ∧ part (frameB s r) 0 4 = four r.kind.toNat r.body.length ∧ part (frameB s r) 4 r.body.length = r.body ∧
    part (frameB s r) 0 (4 + r.body.length) = frameH r ∧ part (frameB s r) (4 + r.body.length) 4 = beN (Crc.crc (s ++ frameH r)) 4 := by
  have hk : 1 ≤ r.kind ∧ r.kind ≤ 4 ∧ r.body.length ≤ 4200 := by simpa [Rc.ok] using hr
  have l5 := beN_length (Crc.crc (s ++ frameH r)) 4
  have hl := frameH_length r
  have e0 : ∀ t : List UInt8, part (four r.kind.toNat r.body.length ++ t) 0 1 = [UInt8.ofNat r.kind.toNat] := fun t => by simp [part, four]
  have e1 : ∀ t : List UInt8, part (four r.kind.toNat r.body.length ++ t) 1 2 = [UInt8.ofNat (r.body.length / 256), UInt8.ofNat r.body.length] := fun t => by simp [part, four]
  refine ⟨?_, ?_, ?_, ?_, ?_, ?_⟩
  · unfold frameB frameH
    rw [List.append_assoc, e0]
    simp [numB, UInt8.toNat_ofNat']
    omega
  · unfold frameB frameH
    rw [List.append_assoc, e1]
    simp [numB, UInt8.toNat_ofNat']
    omega
  · unfold frameB frameH
    rw [List.append_assoc]
    exact part_whole (by simp [four])
  · unfold frameB frameH
    rw [List.append_assoc, part_at (by simp [four])]
    have e : 4 - (four r.kind.toNat r.body.length).length = 0 := by simp [four]
    rw [e]
    exact part_whole rfl
  · unfold frameB
    exact part_whole hl.symm
  · unfold frameB
    rw [part_at (by omega), hl, Nat.sub_self]
    exact part_all l5
theorem part_part {l : List UInt8} {p n a b : Nat} (h : a + b ≤ n) : part (part l p n) a b = part l (p + a) b := by
  unfold part
  rw [List.drop_take, List.drop_drop, List.take_take, Nat.min_eq_left (by omega)]
theorem nextR_of {l : List UInt8} {p : Nat} {r : Rc} (h4 : 4 ≤ p) (hl : p + (8 + r.body.length) ≤ l.length) (h : part l p (8 + r.body.length) = frameB (last4 (l.take p)) r) (hr : r.ok = true) : nextR l p = some r := by
  have hk : 1 ≤ r.kind ∧ r.kind ≤ 4 ∧ r.body.length ≤ 4200 := by simpa [Rc.ok] using hr
  obtain ⟨a0, a1, a2, a3, a4, a5⟩ := frame_parts (last4 (l.take p)) hr
  have key : ∀ a b, a + b ≤ 8 + r.body.length → part l (p + a) b = part (frameB (last4 (l.take p)) r) a b := fun a b hab => by rw [← h, part_part hab]
  have b1 : bodyLen l p = r.body.length := by unfold bodyLen; rw [key 1 2 (by omega), a1]
  have b0 : numB (part l p 1) = r.kind.toNat := by have := key 0 1 (by omega); rw [Nat.add_zero] at this; rw [this, a0]
  have b2 : part l p 4 = four r.kind.toNat r.body.length := by have := key 0 4 (by omega); rw [Nat.add_zero] at this; rw [this, a2]
  have b3 : part l (p + 4) r.body.length = r.body := (key 4 _ (by omega)).trans a3
  have b4 : part l p (4 + r.body.length) = frameH r := by have := key 0 (4 + r.body.length) (by omega); rw [Nat.add_zero] at this; rw [this, a4]
  have b5 : numB (part l (p + 4 + r.body.length) 4) = Crc.crc (part l (p - 4) 4 ++ part l p (4 + r.body.length)) := by
    rw [Nat.add_assoc, key _ 4 (by omega), a5, crc_be, b4, part_last h4 (by omega)]
  unfold nextR
  rw [b1, b0, if_pos ⟨by omega, by omega, b2, by omega, by omega, b5⟩, b3]
  congr 1
  cases r
  simp only [Rc.mk.injEq, and_true]
  dsimp only at hk
  omega
theorem nextR_end {l : List UInt8} {p : Nat} (h : l.length < p + 8) : nextR l p = none := by
  unfold nextR
  rw [if_neg (by omega)]
theorem nextR_short {l s : List UInt8} {p k : Nat} {r : Rc} (h : l.drop p = (frameB s r).take k) (hk : k < 8 + r.body.length) (hr : r.ok = true) : nextR l p = none := by
  obtain ⟨_, a1, _⟩ := frame_parts s hr
  have hl : l.length - p = k := by
    have := congrArg List.length h
    rw [List.length_drop, List.length_take, frameB_length] at this
    omega
  unfold nextR
  rw [if_neg]
  rintro ⟨h1, _⟩
  have : bodyLen l p = r.body.length := by
    unfold bodyLen
    have e : part l (p + 1) 2 = part (l.drop p) 1 2 := by unfold part; rw [List.drop_drop]
    rw [e, h, part_take (by omega), a1]
  omega
theorem addB_front : ∀ (l : List Rc) (b : List UInt8), ∃ t, addB b l = b ++ t
  | [], b => ⟨[], by simp [addB]⟩
  | r :: l, b => by
    obtain ⟨t, h⟩ := addB_front l (b ++ frameB (last4 b) r)
    exact ⟨frameB (last4 b) r ++ t, by rw [show addB b (r :: l) = addB (b ++ frameB (last4 b) r) l from rfl, h, List.append_assoc]⟩
theorem framesR_add : ∀ (l : List Rc) (L b t : List UInt8) (f : Nat), L = addB b l ++ t → 4 ≤ b.length → (∀ r ∈ l, r.ok = true) → l.length ≤ f → framesR L f b.length = (l ++ (framesR L (f - l.length) (addB b l).length).1, (framesR L (f - l.length) (addB b l).length).2)
  | [], L, b, t, f, hL, h4, hr, hf => by simp [addB]
  | r :: l, L, b, t, 0, hL, h4, hr, hf => by simp at hf
  | r :: l, L, b, t, f + 1, hL, h4, hr, hf => by
    have hok := hr r (by simp)
    have hL2 : L = addB (b ++ frameB (last4 b) r) l ++ t := hL
    obtain ⟨u, hu⟩ := addB_front l (b ++ frameB (last4 b) r)
    have hL3 : L = b ++ (frameB (last4 b) r ++ (u ++ t)) := by rw [hL2, hu]; simp [List.append_assoc]
    have hfl := frameB_length (last4 b) r
    have hn : nextR L b.length = some r := by
      refine nextR_of h4 ?_ ?_ hok
      · rw [hL3]
        simp [hfl]
      · rw [hL3, List.take_left, part_at (Nat.le_refl _), Nat.sub_self]
        exact part_whole hfl.symm
    have ih := framesR_add l L (b ++ frameB (last4 b) r) t f hL2 (by simp; omega) (fun x hx => hr x (by simp [hx])) (by simp at hf; omega)
    rw [List.length_append, hfl] at ih
    conv => lhs; unfold framesR
    rw [hn]
    dsimp only
    rw [show b.length + 8 + r.body.length = b.length + (8 + r.body.length) by omega, ih]
    have e : f + 1 - (r :: l).length = f - l.length := by simp
    rw [e]
    rfl
theorem framesR_stop {L : List UInt8} {p : Nat} (h : nextR L p = none) : ∀ f, framesR L f p = ([], p)
  | 0 => rfl
  | f + 1 => by unfold framesR; rw [h]
/-- A text with a torn frame behind it is read as the text. -/
theorem readR_torn {g c : Nat} {l : List Rc} {t : List UInt8} (hg : 1 ≤ g ∧ g ≤ 4611686018427387904) (hc : c < 4294967296) (hl : ∀ r ∈ l, r.ok = true) (hn : nextR (textB g c l ++ t) (textB g c l).length = none) (h2 : (textB g c l ++ t).length ≤ 65536) : readR (textB g c l ++ t) = some ⟨g, c, l, (textB g c l).length⟩ := by
  obtain ⟨u, hu⟩ := addB_front l (headB g c)
  have hh := headB_length g c
  have hlen : (textB g c l).length = 18 + bodies l := textB_length g c l
  have h1 : headR (textB g c l ++ t) = some (g, c) := by
    refine headR_of ?_ (by simp; omega) h2 hg hc
    rw [textB, hu, List.append_assoc, List.take_left' hh]
  have hb := bodies_le l
  have h3 := framesR_add l (textB g c l ++ t) (headB g c) t (textB g c l ++ t).length rfl (by omega) hl (by simp; omega)
  rw [hh] at h3
  unfold readR
  rw [h1]
  dsimp only
  rw [h3, show addB (headB g c) l = textB g c l from rfl, framesR_stop hn]
  simp
theorem readR_text {g c : Nat} {l : List Rc} (hg : 1 ≤ g ∧ g ≤ 4611686018427387904) (hc : c < 4294967296) (hl : ∀ r ∈ l, r.ok = true) (h2 : (textB g c l).length ≤ 65536) : readR (textB g c l) = some ⟨g, c, l, (textB g c l).length⟩ := by
  have := readR_torn (t := []) hg hc hl (by rw [List.append_nil]; exact nextR_end (by omega)) (by rw [List.append_nil]; exact h2)
  rwa [List.append_nil] at this
theorem readR_frame {g c k : Nat} {l : List Rc} {r : Rc} (hg : 1 ≤ g ∧ g ≤ 4611686018427387904) (hc : c < 4294967296) (hl : ∀ r ∈ l, r.ok = true) (hr : r.ok = true) (hk : k < 8 + r.body.length) {s : List UInt8} (h2 : (textB g c l).length + k ≤ 65536) :
    readR (textB g c l ++ (frameB s r).take k) = some ⟨g, c, l, (textB g c l).length⟩ := by
  refine readR_torn hg hc hl (nextR_short (s := s) (k := k) (r := r) (by rw [List.drop_left]) hk hr) ?_
  rw [List.length_append, List.length_take]
  omega
theorem readR_low {l : List UInt8} (h : l.length < 18) : readR l = none := by
  unfold readR headR
  rw [if_neg (by omega)]
/-- A text cut off in its midst. -/
theorem take_text (g c m : Nat) (l : List Rc) : m < (textB g c l).length → 18 ≤ m → ∃ i r k, l[i]? = some r ∧ k < 8 + r.body.length ∧ (textB g c l).take m = textB g c (l.take i) ++ (frameB (last4 (textB g c (l.take i))) r).take k ∧ (textB g c (l.take i)).length + k = m := by
  induction l using snoc_rec with
  | h0 =>
    intro h1 h2
    rw [textB_length] at h1
    simp [bodies] at h1
    omega
  | h1 l r ih =>
    intro h1 h2
    rw [textB_snoc] at h1 ⊢
    by_cases hm : m < (textB g c l).length
    · obtain ⟨i, x, k, e1, e2, e3, e4⟩ := ih hm h2
      have hi := (List.getElem?_eq_some_iff.1 e1).1
      refine ⟨i, x, k, by rw [List.getElem?_append_left hi]; exact e1, e2, ?_, ?_⟩
      · rw [List.take_append_of_le_length (by omega), List.take_append_of_le_length (by omega)]
        exact e3
      · rw [List.take_append_of_le_length (by omega)]
        exact e4
    · rw [List.length_append, frameB_length] at h1
      refine ⟨l.length, r, m - (textB g c l).length, by simp, by omega, ?_, ?_⟩
      · rw [List.take_append, List.take_of_length_le (by omega), List.take_left' rfl]
      · rw [List.take_left' rfl]
        omega
/-- A beginning that is not whole does not count. -/
theorem sound_torn {g m : Nat} {l : List Rc} (hg : 1 ≤ g ∧ g ≤ 4611686018427387904) (hl : ∀ r ∈ l, r.ok = true) (h2 : (textB g l.length l).length ≤ 65536) (hm : m < (textB g l.length l).length) : soundR ((textB g l.length l).take m) = none := by
  have hlen : (textB g l.length l).length = 18 + bodies l := textB_length _ _ _
  have hb := bodies_le l
  unfold soundR
  by_cases h18 : 18 ≤ m
  · obtain ⟨i, r, k, e1, e2, e3, e4⟩ := take_text g l.length m l hm h18
    have hi := (List.getElem?_eq_some_iff.1 e1).1
    rw [e3, readR_frame hg (by omega) (fun x hx => hl x (List.mem_of_mem_take hx)) (hl r (List.mem_of_getElem? e1)) e2 (by omega)]
    simp [Option.filter, Fi.sound]
    omega
  · rw [readR_low (by rw [List.length_take]; omega)]
    rfl
end Go.Proofs.YtpkdalpjfcopbaaDoor
namespace Go.Proofs.YtpkdalpjfcopbaaDoor
/-- One file counts; the other, if it is sound, is older. -/
structure Half (f : Fls) (k : Nat) (x : Fi) : Prop where
  k1 : k ≤ 1
  rd : readR (f.nth k) = some x
  snd : x.count ≤ x.recs.length
  oth : ∀ y, soundR (f.nth (1 - k)) = some y → y.gen < x.gen
  la : f.a.length ≤ 65536 ∧ f.b.length ≤ 65536
  od : 18 ≤ (f.nth (1 - k)).length → numB (part (f.nth (1 - k)) 3 7) ≠ x.gen
/-- What the present file tells. -/
def JP.fi (j : JP) : Fi := ⟨j.gen, j.count, j.recs, j.text.length⟩
/-- The journal's disk when all its writes are made. -/
structure Good (f : Fls) (j : JP) : Prop where
  half : Half f j.file j.fi
  text : f.nth j.file = j.text
  fine : j.Fine
theorem Half.sound {f : Fls} {k : Nat} {x : Fi} (h : Half f k x) : soundR (f.nth k) = some x := by
  unfold soundR
  rw [h.rd]
  simp [Option.filter, Fi.sound, h.snd]
theorem nth_0 (f : Fls) : f.nth 0 = f.a := rfl
theorem nth_1 (f : Fls) : f.nth 1 = f.b := rfl
theorem Half.pick {f : Fls} {k : Nat} {x : Fi} (h : Half f k x) : pickR f = some (k, x) := by
  have h1 := h.sound
  have h2 := h.oth
  rcases Nat.lt_or_ge k 1 with hk | hk
  · obtain rfl : k = 0 := by omega
    rw [nth_0] at h1
    rw [Nat.sub_zero, nth_1] at h2
    unfold pickR
    rw [h1]
    cases hb : soundR f.b with
    | none => rfl
    | some y =>
      have := h2 y hb
      dsimp only
      rw [if_neg (by omega)]
  · obtain rfl : k = 1 := by have := h.k1; omega
    rw [nth_1] at h1
    rw [Nat.sub_self, nth_0] at h2
    unfold pickR
    rw [h1]
    cases ha : soundR f.a with
    | none => rfl
    | some y =>
      have := h2 y ha
      dsimp only
      rw [if_pos (by omega)]
theorem put_nth {f : Fls} {i : Nat} (hi : i ≤ 1) (l : List UInt8) : (f.put (i : Int) l).nth i = l ∧ (f.put (i : Int) l).nth (1 - i) = f.nth (1 - i) := by
  rcases Nat.lt_or_ge i 1 with h | h
  · obtain rfl : i = 0 := by omega
    exact ⟨rfl, rfl⟩
  · obtain rfl : i = 1 := by omega
    exact ⟨rfl, rfl⟩
theorem put_la {f : Fls} (h : f.a.length ≤ 65536 ∧ f.b.length ≤ 65536) (i : Int) {l : List UInt8} (hl : l.length ≤ 65536) : (f.put i l).a.length ≤ 65536 ∧ (f.put i l).b.length ≤ 65536 := by
  unfold Fls.put
  split
  · exact ⟨hl, h.2⟩
  · exact ⟨h.1, hl⟩
theorem get_nth (f : Fls) {i : Nat} (hi : i ≤ 1) : f.get (i : Int) = f.nth i := by
  rcases Nat.lt_or_ge i 1 with h | h
  · obtain rfl : i = 0 := by omega
    rfl
  · obtain rfl : i = 1 := by omega
    rfl
theorem ok_nat {i : Nat} (hi : i ≤ 1) (b : Bool) (l : List UInt8) : (⟨(i : Int), b, l⟩ : Wr).ok = true := by
  simp only [Wr.ok, decide_eq_true_eq]
  omega
theorem cost_start {i : Nat} (hi : i ≤ 1) (l : List UInt8) : costW [⟨(i : Int), true, l⟩] = 1 + l.length := by
  simp [costW, Wr.cost, ok_nat hi]
theorem cost_more {i : Nat} (hi : i ≤ 1) (l : List UInt8) : costW [⟨(i : Int), false, l⟩] = l.length := by
  simp [costW, Wr.cost, ok_nat hi]
/-- A file begun, of its units m. -/
theorem ap_start {i : Nat} (hi : i ≤ 1) (l : List UInt8) (f : Fls) (m : Nat) : apR [⟨(i : Int), true, l⟩] m f = if m = 0 then f else f.put (i : Int) (l.take (m - 1)) := by
  unfold apR
  rw [if_pos (ok_nat hi _ _)]
  by_cases h : m = 0
  · rw [if_pos ⟨rfl, h⟩, if_pos h]
  · rw [if_neg (fun e => h e.2), if_neg h]
    have e : (f.put (i : Int) []).get (i : Int) = [] := Fls.get_put _ _ _
    simp only [if_true, e, List.nil_append, Fls.put_put, apR]
    split <;> rfl
theorem ap_more {i : Nat} (hi : i ≤ 1) (l : List UInt8) (f : Fls) (m : Nat) : apR [⟨(i : Int), false, l⟩] m f = f.put (i : Int) (f.get (i : Int) ++ l.take m) := by
  unfold apR
  rw [if_pos (ok_nat hi _ _), if_neg (fun e => by simp at e)]
  simp [apR]
theorem apD_torn (ws : List Wr) (f : Fls) {m : Int} (h : 0 ≤ m) : apD ws m f = apR ws m.toNat f := by
  unfold apD
  rw [if_neg (by omega)]
theorem apD_full (ws : List Wr) (f : Fls) {m : Int} (h : m < 0 ∨ (costW ws : Int) ≤ m) : apD ws m f = apR ws (costW ws) f := by
  unfold apD
  rw [apR_all ws (costW ws) f (Nat.le_refl _)]
  split
  · rfl
  · exact apR_all ws _ f (by omega)
theorem take_all' (l : List UInt8) (n : Nat) (h : l.length ≤ n) : l.take n = l := List.take_of_length_le h
/-- The other file's beginning, torn. -/
theorem text_gen {g c m : Nat} {l : List Rc} (hg : g < 72057594037927936) (h : 18 ≤ m) : numB (part ((textB g c l).take m) 3 7) = g := by
  obtain ⟨t, ht⟩ := addB_front l (headB g c)
  have hh := headB_length g c
  rw [part_take (by omega), textB, ht, part_left (by omega)]
  exact gen7 hg
theorem Half.torn {f : Fls} {k : Nat} {x : Fi} (h : Half f k x) {g : Nat} {l : List Rc} (hf : (JP.mk (1 - k) g l.length l).Fine) (hg : x.gen < g) (hg2 : g < 72057594037927936) {m : Int} (h0 : 0 ≤ m) (h1 : m < (costW [⟨((1 - k : Nat) : Int), true, (JP.mk (1 - k) g l.length l).text⟩] : Nat)) :
    Half (apD [⟨((1 - k : Nat) : Int), true, (JP.mk (1 - k) g l.length l).text⟩] m f) k x := by
  have hk := h.k1
  have hi : 1 - k ≤ 1 := by omega
  rw [cost_start hi] at h1
  rw [apD_torn _ _ h0, ap_start hi]
  split
  · exact h
  · rename_i hm
    obtain ⟨p1, p2⟩ := put_nth (f := f) hi ((JP.mk (1 - k) g l.length l).text.take (m.toNat - 1))
    rw [show 1 - (1 - k) = k by omega] at p2
    refine ⟨hk, by rw [p2]; exact h.rd, h.snd, fun y hy => ?_, put_la h.la _ (by rw [List.length_take]; have := hf.len; omega), fun h18 => ?_⟩
    rotate_left
    · rw [p1] at h18 ⊢
      rw [List.length_take] at h18
      have e := text_gen (g := g) (c := l.length) (m := m.toNat - 1) (l := l) hg2 (by omega)
      intro e2
      rw [show (JP.mk (1 - k) g l.length l).text = textB g l.length l from rfl, e] at e2
      omega
    rw [p1] at hy
    have := sound_torn (g := g) (m := m.toNat - 1) (l := l) hf.gen hf.ok hf.len (by have : (JP.mk (1 - k) g l.length l).text = textB g l.length l := rfl; rw [this] at h1; omega)
    rw [show (JP.mk (1 - k) g l.length l).text = textB g l.length l from rfl, this] at hy
    cases hy
/-- The other file's beginning, whole. -/
theorem Half.begun {f : Fls} {k : Nat} {x : Fi} (h : Half f k x) {g : Nat} {l : List Rc} (hf : (JP.mk (1 - k) g l.length l).Fine) (hg : x.gen < g) (hg2 : g < 72057594037927936) {m : Int} (hm : m < 0 ∨ ((costW [⟨((1 - k : Nat) : Int), true, (JP.mk (1 - k) g l.length l).text⟩] : Nat) : Int) ≤ m) :
    Good (apD [⟨((1 - k : Nat) : Int), true, (JP.mk (1 - k) g l.length l).text⟩] m f) (JP.mk (1 - k) g l.length l) := by
  have hk := h.k1
  have hi : 1 - k ≤ 1 := by omega
  rw [apD_full _ _ hm, cost_start hi, ap_start hi, if_neg (by omega), take_all' _ _ (by omega)]
  obtain ⟨p1, p2⟩ := put_nth (f := f) hi ((JP.mk (1 - k) g l.length l).text)
  refine ⟨⟨hi, ?_, Nat.le_refl _, fun y hy => ?_, put_la h.la _ hf.len, fun h18 => ?_⟩, p1, hf⟩
  rotate_left 2
  · rw [show (JP.mk (1 - k) g l.length l).file = 1 - k from rfl, p2, show 1 - (1 - k) = k by omega]
    have ht := readR_told h.rd
    have e : part (f.nth k) 3 7 = part (textB x.gen x.count x.recs) 3 7 := by
      rw [← ht.text, part_take (by have := ht.lo; omega)]
    have e2 := text_gen (g := x.gen) (c := x.count) (m := (textB x.gen x.count x.recs).length) (l := x.recs) (by omega) (by rw [textB_length]; omega)
    rw [List.take_length] at e2
    rw [e, e2]
    show x.gen ≠ g
    omega
  · rw [p1]
    exact readR_text hf.gen hf.count hf.ok hf.len
  · rw [p2, show 1 - (1 - k) = k by omega, h.sound] at hy
    injection hy with hy
    rw [← hy]
    exact hg
theorem JP.append_textP {j : JP} {r : Rc} : ({ j with recs := j.recs ++ [r] } : JP).text = j.text ++ frameB (last4 j.text) r := textB_snoc _ _ _ _
/-- One record more, torn. -/
theorem Good.torn {f : Fls} {j : JP} (h : Good f j) {r : Rc} (hr : r.ok = true) (hl : j.text.length + 8 + r.body.length ≤ 65536) {m : Int} (h0 : 0 ≤ m) (h1 : m < (costW [⟨(j.file : Int), false, frameB (last4 j.text) r⟩] : Nat)) :
    Half (apD [⟨(j.file : Int), false, frameB (last4 j.text) r⟩] m f) j.file j.fi := by
  have hi := h.fine.file
  rw [cost_more hi, frameB_length] at h1
  rw [apD_torn _ _ h0, ap_more hi, get_nth f hi, h.text]
  obtain ⟨p1, p2⟩ := put_nth (f := f) hi (j.text ++ (frameB (last4 j.text) r).take m.toNat)
  refine ⟨hi, ?_, h.half.snd, fun y hy => h.half.oth y (p2 ▸ hy), put_la h.half.la _ (by rw [List.length_append, List.length_take]; omega), fun h18 => by rw [p2] at h18 ⊢; exact h.half.od h18⟩
  rw [p1]
  exact readR_frame h.fine.gen h.fine.count h.fine.ok hr (by omega) (by show j.text.length + _ ≤ _; omega)
/-- One record more. -/
theorem Good.more {f : Fls} {j : JP} (h : Good f j) {r : Rc} (hr : r.ok = true) (hl : j.text.length + 8 + r.body.length ≤ 65536) {m : Int} (hm : m < 0 ∨ ((costW [⟨(j.file : Int), false, frameB (last4 j.text) r⟩] : Nat) : Int) ≤ m) :
    Good (apD [⟨(j.file : Int), false, frameB (last4 j.text) r⟩] m f) { j with recs := j.recs ++ [r] } := by
  have hi := h.fine.file
  have hlen : ({ j with recs := j.recs ++ [r] } : JP).text.length ≤ 65536 := by rw [JP.append_textP, List.length_append, frameB_length]; omega
  have hok : ∀ x ∈ j.recs ++ [r], x.ok = true := fun x hx => by
    rcases List.mem_append.1 hx with h1 | h1
    · exact h.fine.ok x h1
    · simp at h1
      rw [h1]
      exact hr
  rw [apD_full _ _ hm, cost_more hi, ap_more hi, get_nth f hi, h.text, List.take_length, ← JP.append_textP]
  obtain ⟨p1, p2⟩ := put_nth (f := f) hi (({ j with recs := j.recs ++ [r] } : JP).text)
  refine ⟨⟨hi, ?_, by have := h.half.snd; show j.count ≤ (j.recs ++ [r]).length; rw [List.length_append]; exact Nat.le_trans this (Nat.le_add_right _ _), fun y hy => h.half.oth y (p2 ▸ hy), put_la h.half.la _ hlen, fun h18 => by rw [p2] at h18 ⊢; exact h.half.od h18⟩, p1, ⟨h.fine.file, h.fine.gen, h.fine.count, hlen, hok⟩⟩
  rw [p1]
  exact readR_text h.fine.gen h.fine.count hok hlen
/-- What opening such a disk comes to. -/
theorem Half.opened {f : Fls} {k : Nat} {x : Fi} (h : Half f k x) (hg : x.gen < 4611686018427387904) :
    (openR f = .ok ⟨k, x.gen, x.count, x.recs⟩ x.recs [] ∧ Good f ⟨k, x.gen, x.count, x.recs⟩) ∨
    (openR f = .ok ⟨1 - k, x.gen + 1, x.recs.length, x.recs⟩ x.recs [⟨((1 - k : Nat) : Int), true, (JP.mk (1 - k) (x.gen + 1) x.recs.length x.recs).text⟩] ∧ (JP.mk (1 - k) (x.gen + 1) x.recs.length x.recs).Fine) := by
  have hp := h.pick
  obtain ⟨_, ht, _⟩ := pickR_told hp
  by_cases hc : x.fin = (f.nth k).length
  · refine .inl ?_
    have ho : openR f = .ok ⟨k, x.gen, x.count, x.recs⟩ x.recs [] := by
      unfold openR
      rw [hp]
      dsimp only
      rw [if_pos hc]
    have htx : f.nth k = (JP.mk k x.gen x.count x.recs).text := by
      have := ht.text
      rw [hc, List.take_length] at this
      exact this
    refine ⟨ho, ⟨?_, htx, (openR_fine ho).1⟩⟩
    have e : (JP.mk k x.gen x.count x.recs).fi = x := by
      unfold JP.fi
      rw [← htx, ← hc]
    rw [e]
    exact h
  · refine .inr ?_
    have ho : openR f = .ok ⟨1 - k, x.gen + 1, x.recs.length, x.recs⟩ x.recs [⟨((1 - k : Nat) : Int), true, (JP.mk (1 - k) (x.gen + 1) x.recs.length x.recs).text⟩] := by
      unfold openR
      rw [hp]
      dsimp only
      rw [if_neg hc, if_neg (by omega)]
      rfl
    exact ⟨ho, (openR_fine ho).1⟩
/-- The empty disk's first writes. -/
theorem good_new : Good (apD [⟨0, true, headB 1 0⟩] (-1) ⟨[], []⟩) newJ := by
  have hh := headB_length 1 0
  have e : apD [⟨0, true, headB 1 0⟩] (-1) ⟨[], []⟩ = ⟨headB 1 0, []⟩ := by
    have h1 := apD_full [⟨((0 : Nat) : Int), true, headB 1 0⟩] ⟨[], []⟩ (m := -1) (.inl (by omega))
    rw [cost_start (by omega), ap_start (by omega), if_neg (by omega), take_all' _ _ (by omega)] at h1
    exact h1
  rw [e]
  refine ⟨⟨by decide, ?_, by decide, fun y hy => ?_, by simp [hh], fun h18 => by exact absurd h18 (by show ¬ 18 ≤ ([] : List UInt8).length; simp)⟩, rfl, newJ_fine⟩
  · exact readR_text (g := 1) (c := 0) (l := []) (by decide) (by decide) (by simp) (by rw [textB_length]; simp [bodies])
  · have : soundR ((⟨headB 1 0, []⟩ : Fls).nth (1 - newJ.file)) = none := by
      show soundR [] = none
      unfold soundR
      rw [readR_low (by simp)]
      rfl
    rw [this] at hy
    cases hy
end Go.Proofs.YtpkdalpjfcopbaaDoor
