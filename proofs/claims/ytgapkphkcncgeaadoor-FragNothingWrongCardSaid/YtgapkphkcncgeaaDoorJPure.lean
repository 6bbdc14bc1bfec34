/-
  The joiner's plain law: what a chunk tells, what is held of a sender, what a Take gives. No program text.
-/
import Derived.Test.YtgapkphkcncgeaaDoorSplit
namespace Go.Proofs.YtgapkphkcncgeaaDoor
open Go.RowKit

def by_ (c : List UInt8) (i : Nat) : Nat := (c.getD i 0).toNat
theorem by_lt (c : List UInt8) (i : Nat) : by_ c i < 256 := (c.getD i 0).toNat_lt
def cSize (c : List UInt8) : Nat := by_ c 0 * 256 + by_ c 1
def cAt (c : List UInt8) : Nat := by_ c 2 * 256 + by_ c 3
def cSum (c : List UInt8) : Nat := by_ c 4 * 16777216 + by_ c 5 * 65536 + by_ c 6 * 256 + by_ c 7
theorem cSize_lt (c : List UInt8) : cSize c < 65536 := by have := by_lt c 0; have := by_lt c 1; unfold cSize; omega
theorem cAt_lt (c : List UInt8) : cAt c < 65536 := by have := by_lt c 2; have := by_lt c 3; unfold cAt; omega
theorem cSum_lt (c : List UInt8) : cSum c < 4294967296 := by
  have := by_lt c 4; have := by_lt c 5; have := by_lt c 6; have := by_lt c 7; unfold cSum; omega
def Form (c : List UInt8) : Prop := 8 ≤ c.length ∧ cSize c ≤ 4000 ∧ cAt c % 248 = 0 ∧ (cAt c < cSize c ∨ cAt c = 0) ∧ c.length = 8 + min 248 (cSize c - cAt c)
instance (c : List UInt8) : Decidable (Form c) := by unfold Form; infer_instance
def blobS (l : List (List UInt8)) : List UInt8 := (l.map fun c => c.drop 8).flatten
theorem blobS_snoc (l : List (List UInt8)) (c : List UInt8) : blobS (l ++ [c]) = blobS l ++ c.drop 8 := by simp [blobS]
theorem blobS_nil : blobS [] = [] := rfl
theorem blobS_one (c : List UInt8) : blobS [c] = c.drop 8 := by simp [blobS]

abbrev JSt := Nat → List (List UInt8)
def upd (st : JSt) (s : Nat) (l : List (List UInt8)) : JSt := fun k => if k = s then l else st k
theorem upd_same (st : JSt) (s : Nat) (l : List (List UInt8)) : upd st s l s = l := by simp [upd]
theorem upd_other {st : JSt} {s k : Nat} {l : List (List UInt8)} (h : k ≠ s) : upd st s l k = st k := by simp [upd, h]

/-- does a chunk go on with what is held? -/
def Goes (l : List (List UInt8)) (c : List UInt8) : Prop := l ≠ [] ∧ cSize (l.headD []) = cSize c ∧ cSum (l.headD []) = cSum c ∧ l.length * 248 = cAt c
def Fits (l : List (List UInt8)) (c : List UInt8) : Prop := cAt c = 0 ∨ Goes l c
instance (l : List (List UInt8)) (c : List UInt8) : Decidable (Goes l c) := by unfold Goes; infer_instance
instance (l : List (List UInt8)) (c : List UInt8) : Decidable (Fits l c) := by unfold Fits; infer_instance
def joined (l : List (List UInt8)) (c : List UInt8) : List (List UInt8) := if cAt c = 0 then [c] else l ++ [c]
/-- What a Take gives: the blob, is it whole, the error; and what is held behind it. -/
def takeS (N : Nat) (st : JSt) (s : Int) (c : List UInt8) : (List UInt8 × Bool × Nat) × JSt :=
  if s < 0 ∨ (N : Int) ≤ s then (([], false, 1), st)
  else if ¬ Form c then (([], false, 91), st)
  else if ¬ Fits (st s.toNat) c then (([], false, 91), st)
  else if (blobS (joined (st s.toNat) c)).length < cSize c then (([], false, 0), upd st s.toNat (joined (st s.toNat) c))
  else if Crc.crc (blobS (joined (st s.toNat) c)) = cSum c then ((blobS (joined (st s.toNat) c), true, 0), upd st s.toNat [])
  else (([], false, 91), upd st s.toNat [])

/-- What may be held of a sender. -/
structure Part (l : List (List UInt8)) : Prop where
  each : ∀ c ∈ l, (8 ≤ c.length ∧ c.length ≤ 256) ∧ cSize c = cSize (l.headD []) ∧ cSum c = cSum (l.headD [])
  len : (blobS l).length = 248 * l.length
  lt : l ≠ [] → 248 * l.length < cSize (l.headD [])
  le : l ≠ [] → cSize (l.headD []) ≤ 4000
theorem Part.nil_ : Part [] := ⟨by simp, rfl, by simp, by simp⟩
def PartsOk (N : Nat) (st : JSt) : Prop := ∀ s, s < N → Part (st s)

section
variable {N : Nat} {st : JSt} {l : List (List UInt8)} {c : List UInt8}
theorem joined_zero (h : cAt c = 0) : joined l c = [c] := by simp [joined, h]
theorem joined_more (h : cAt c ≠ 0) : joined l c = l ++ [c] := by simp [joined, h]
theorem drop8_len (h : Form c) : (c.drop 8).length = min 248 (cSize c - cAt c) := by rw [List.length_drop, h.2.2.2.2]; omega
/-- how long the joined blob is -/
theorem joined_len (hp : Part l) (hf : Form c) (hg : Fits l c) : (blobS (joined l c)).length = cAt c + min 248 (cSize c - cAt c) := by
  by_cases h : cAt c = 0
  · rw [joined_zero h, blobS_one, drop8_len hf, h]; omega
  · rcases hg with hg | ⟨_, _, _, hg⟩
    · exact absurd hg h
    · rw [joined_more h, blobS_snoc, List.length_append, drop8_len hf, hp.len]; omega
theorem joined_le (hp : Part l) (hf : Form c) (hg : Fits l c) : (blobS (joined l c)).length ≤ cSize c := by
  rw [joined_len hp hf hg]; have := hf.2.2.2.1; omega
theorem joined_ne : joined l c ≠ [] := by unfold joined; split <;> simp
theorem joined_head (hg : Fits l c) : cSize ((joined l c).headD []) = cSize c ∧ cSum ((joined l c).headD []) = cSum c := by
  by_cases h : cAt c = 0
  · rw [joined_zero h]; exact ⟨rfl, rfl⟩
  · rcases hg with hg | ⟨h1, h2, h3, _⟩
    · exact absurd hg h
    · rw [joined_more h]
      cases l with
      | nil => exact absurd rfl h1
      | cons x r => exact ⟨h2, h3⟩
theorem joined_part (hp : Part l) (hf : Form c) (hg : Fits l c) (hlt : (blobS (joined l c)).length < cSize c) : Part (joined l c) := by
  have hh := joined_head hg
  have hl := joined_len hp hf hg
  have hc : 8 ≤ c.length ∧ c.length ≤ 256 := ⟨hf.1, by rw [hf.2.2.2.2]; omega⟩
  refine ⟨?_, ?_, fun _ => ?_, fun _ => by rw [hh.1]; exact hf.2.1⟩
  · intro d hd
    rw [hh.1, hh.2]
    by_cases h : cAt c = 0
    · rw [joined_zero h] at hd
      obtain rfl : d = c := by simpa using hd
      exact ⟨hc, rfl, rfl⟩
    · rcases hg with hg | ⟨_, h2, h3, _⟩
      · exact absurd hg h
      · rw [joined_more h] at hd
        rcases List.mem_append.1 hd with hd | hd
        · obtain ⟨a, b, e⟩ := hp.each d hd
          exact ⟨a, by rw [b, h2], by rw [e, h3]⟩
        · obtain rfl : d = c := by simpa using hd
          exact ⟨hc, rfl, rfl⟩
  · rw [hl]
    rw [hl] at hlt
    by_cases h : cAt c = 0
    · rw [joined_zero h]; simp; omega
    · rcases hg with hg | ⟨_, _, _, hg⟩
      · exact absurd hg h
      · rw [joined_more h, List.length_append, List.length_singleton]; omega
  · rw [hh.1]
    rw [hl] at hlt
    by_cases h : cAt c = 0
    · rw [joined_zero h]; simp; omega
    · rcases hg with hg | ⟨_, _, _, hg⟩
      · exact absurd hg h
      · rw [joined_more h, List.length_append, List.length_singleton]; omega
theorem PartsOk.upd (h : PartsOk N st) (s : Nat) (hp : Part l) : PartsOk N (upd st s l) := fun k hk => by
  by_cases e : k = s
  · subst e; rw [upd_same]; exact hp
  · rw [upd_other e]; exact h k hk

theorem takeS_arg {s : Int} (h : s < 0 ∨ (N : Int) ≤ s) : takeS N st s c = (([], false, 1), st) := by unfold takeS; rw [if_pos h]
theorem takeS_form {s : Nat} (h : s < N) (hf : ¬ Form c) : takeS N st s c = (([], false, 91), st) := by
  unfold takeS; rw [if_neg (by omega), if_pos hf]
theorem takeS_bad {s : Nat} (h : s < N) (hf : Form c) (hg : ¬ Fits (st s) c) : takeS N st s c = (([], false, 91), st) := by
  unfold takeS; rw [if_neg (by omega), if_neg (by simpa using hf), Int.toNat_natCast, if_pos hg]
theorem takeS_hold {s : Nat} (h : s < N) (hf : Form c) (hg : Fits (st s) c) (hl : (blobS (joined (st s) c)).length < cSize c) : takeS N st s c = (([], false, 0), upd st s (joined (st s) c)) := by
  unfold takeS; rw [if_neg (by omega), if_neg (by simpa using hf), Int.toNat_natCast, if_neg (by simpa using hg), if_pos hl]
theorem takeS_good {s : Nat} (h : s < N) (hf : Form c) (hg : Fits (st s) c) (hl : ¬ (blobS (joined (st s) c)).length < cSize c) (hs : Crc.crc (blobS (joined (st s) c)) = cSum c) : takeS N st s c = ((blobS (joined (st s) c), true, 0), upd st s []) := by
  unfold takeS; rw [if_neg (by omega), if_neg (by simpa using hf), Int.toNat_natCast, if_neg (by simpa using hg), if_neg hl, if_pos hs]
theorem takeS_wrong {s : Nat} (h : s < N) (hf : Form c) (hg : Fits (st s) c) (hl : ¬ (blobS (joined (st s) c)).length < cSize c) (hs : ¬ Crc.crc (blobS (joined (st s) c)) = cSum c) : takeS N st s c = (([], false, 91), upd st s []) := by
  unfold takeS; rw [if_neg (by omega), if_neg (by simpa using hf), Int.toNat_natCast, if_neg (by simpa using hg), if_neg hl, if_neg hs]
theorem takeS_ok (h : PartsOk N st) (s : Int) (c : List UInt8) : PartsOk N (takeS N st s c).2 := by
  by_cases hs : s < 0 ∨ (N : Int) ≤ s
  · rw [takeS_arg hs]; exact h
  obtain ⟨k, rfl⟩ := Int.eq_ofNat_of_zero_le (show 0 ≤ s by omega)
  have hk : k < N := by omega
  by_cases hf : Form c
  · by_cases hg : Fits (st k) c
    · by_cases hl : (blobS (joined (st k) c)).length < cSize c
      · rw [takeS_hold hk hf hg hl]; exact h.upd k (joined_part (h k hk) hf hg hl)
      · by_cases hc : Crc.crc (blobS (joined (st k) c)) = cSum c
        · rw [takeS_good hk hf hg hl hc]; exact h.upd k Part.nil_
        · rw [takeS_wrong hk hf hg hl hc]; exact h.upd k Part.nil_
    · rw [takeS_bad hk hf hg]; exact h
  · rw [takeS_form hk hf]; exact h
end

/-! ### The chunks of one blob. -/
theorem u8_nat (x : Nat) : (UInt8.ofNat x).toNat = x % 256 := by simp
theorem chunkS_nums (bs : List UInt8) (k : Nat) (hn : bs.length < 65536) (hk : 248 * k < 65536) : cSize (chunkS bs k) = bs.length ∧ cAt (chunkS bs k) = 248 * k ∧ cSum (chunkS bs k) = Crc.crc bs := by
  have hs := Crc.crc_lt bs
  generalize hS : Crc.crc bs = s at hs
  have e : ∀ i, i < 8 → (chunkS bs k).getD i 0 = (hdr bs.length (248 * k) s).getD i 0 := by
    intro i hi
    unfold chunkS
    rw [hS, List.getD_eq_getElem?_getD, List.getD_eq_getElem?_getD, List.getElem?_append_left (by simpa [hdr] using hi)]
  unfold cSize cAt cSum by_
  rw [e 0 (by omega), e 1 (by omega), e 2 (by omega), e 3 (by omega), e 4 (by omega), e 5 (by omega), e 6 (by omega), e 7 (by omega)]
  generalize 248 * k = m at *
  simp only [hdr, List.getD_cons_zero, List.getD_cons_succ, u8_nat]
  refine ⟨?_, ?_, ?_⟩ <;> omega
theorem chunkS_form {bs : List UInt8} {k : Nat} (hn : bs.length ≤ 4000) (hk : 248 * k < bs.length ∨ k = 0) : Form (chunkS bs k) := by
  obtain ⟨h1, h2, _⟩ := chunkS_nums bs k (by omega) (by omega)
  have hl := chunkS_length bs k
  unfold Form
  rw [h1, h2, hl]
  omega
theorem chunkS_drop (bs : List UInt8) (k : Nat) : (chunkS bs k).drop 8 = (bs.drop (248 * k)).take 248 := by
  unfold chunkS
  rw [List.drop_append_of_le_length (by simp [hdr])]
  simp [hdr]
theorem blobS_split (bs : List UInt8) (k : Nat) : blobS (splitS bs k) = bs.take (248 * k) := by
  induction k with
  | zero => simp [splitS, blobS]
  | succ k ih =>
    rw [splitS_succ, blobS_snoc, ih, chunkS_drop, Nat.mul_succ, List.take_add]
theorem splitS_length (bs : List UInt8) (k : Nat) : (splitS bs k).length = k := by simp [splitS]
theorem splitS_zero (bs : List UInt8) : splitS bs 0 = [] := rfl
theorem splitS_head (bs : List UInt8) {k : Nat} (hk : 0 < k) : (splitS bs k).headD [] = chunkS bs 0 := by
  obtain ⟨j, rfl⟩ : ∃ j, k = j + 1 := ⟨k - 1, by omega⟩
  simp [splitS, List.range_succ_eq_map]
theorem splitS_at {bs : List UInt8} {C k : Nat} (hk : k < C) : (splitS bs C)[k]? = some (chunkS bs k) := by simp [splitS, hk]
section
variable {N : Nat} {st : JSt} {bs : List UInt8} {C k s : Nat}
/-- A blob's next chunk, its earlier ones being held. -/
theorem feed_fits (hn : bs.length ≤ 4000) (hk : 248 * k < bs.length ∨ k = 0) (hst : k = 0 ∨ st s = splitS bs k) : Fits (st s) (chunkS bs k) ∧ joined (st s) (chunkS bs k) = splitS bs (k + 1) := by
  obtain ⟨h1, h2, h3⟩ := chunkS_nums bs k (by omega) (by omega)
  rcases Nat.eq_zero_or_pos k with h0 | h0
  · subst h0
    have hz : cAt (chunkS bs 0) = 0 := by rw [h2]
    exact ⟨.inl hz, by rw [joined_zero hz]; simp [splitS]⟩
  · have hst : st s = splitS bs k := by rcases hst with h | h; · omega
                                        · exact h
    obtain ⟨g1, _, g3⟩ := chunkS_nums bs 0 (by omega) (by omega)
    refine ⟨.inr ⟨?_, ?_, ?_, ?_⟩, ?_⟩
    · rw [hst]; intro h; have := congrArg List.length h; rw [splitS_length] at this; simp at this; omega
    · rw [hst, splitS_head bs h0, g1, h1]
    · rw [hst, splitS_head bs h0, g3, h3]
    · rw [hst, splitS_length, h2]; omega
    · rw [joined_more (by rw [h2]; omega), hst, splitS_succ]
theorem feed_hold (hs : s < N) (hn : bs.length ≤ 4000) (hk : 248 * (k + 1) < bs.length) (hst : k = 0 ∨ st s = splitS bs k) : takeS N st s (chunkS bs k) = (([], false, 0), upd st s (splitS bs (k + 1))) := by
  obtain ⟨h1, h2⟩ := feed_fits (st := st) (s := s) hn (.inl (by omega)) hst
  obtain ⟨n1, _, _⟩ := chunkS_nums bs k (by omega) (by omega)
  rw [takeS_hold hs (chunkS_form hn (.inl (by omega))) h1 (by rw [h2, blobS_split, n1, List.length_take]; omega), h2]
theorem feed_last (hs : s < N) (hn : bs.length ≤ 4000) (hk : 248 * k < bs.length ∨ k = 0) (hk2 : bs.length ≤ 248 * (k + 1)) (hst : k = 0 ∨ st s = splitS bs k) : takeS N st s (chunkS bs k) = ((bs, true, 0), upd st s []) := by
  obtain ⟨h1, h2⟩ := feed_fits (st := st) (s := s) hn hk hst
  obtain ⟨n1, _, n3⟩ := chunkS_nums bs k (by omega) (by omega)
  have hb : blobS (joined (st s) (chunkS bs k)) = bs := by rw [h2, blobS_split, List.take_of_length_le hk2]
  rw [takeS_good hs (chunkS_form hn hk) h1 (by rw [hb, n1]; omega) (by rw [hb, n3]), hb]
/-- A chunk that is not the next one is refused. -/
theorem feed_bad {j : Nat} (hs : s < N) (hn : bs.length ≤ 4000) (hk : 248 * k < bs.length) (hk0 : 0 < k) (hj : j ≠ k) (hst : st s = splitS bs j) : takeS N st s (chunkS bs k) = (([], false, 91), st) := by
  obtain ⟨_, n2, _⟩ := chunkS_nums bs k (by omega) (by omega)
  refine takeS_bad hs (chunkS_form hn (.inl hk)) ?_
  rintro (h | ⟨_, _, _, h⟩)
  · rw [n2] at h; omega
  · rw [hst, splitS_length, n2] at h; omega
end
end Go.Proofs.YtgapkphkcncgeaaDoor
