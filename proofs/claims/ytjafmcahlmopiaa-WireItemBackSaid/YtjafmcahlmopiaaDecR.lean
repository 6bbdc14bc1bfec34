/-
  DecodeItem, both, as the laws want them; what its answer is bounded by; the law's item text.
-/
import Derived.Test.YtjafmcahlmopiaaRDec2
import Derived.Test.YtjafmcahlmopiaaItems
namespace Go.Proofs.Ytjafmcahlmopiaa
open Go.RowKit

theorem textP_len {bs : List UInt8} {p : Nat} {lo hi : Int} {l : List UInt8} {nx : Nat} (h : textP bs p lo hi = .inr (l, nx)) : l.length ≤ bs.length := by
  unfold textP at h
  cases h4 : numP bs p lo hi with
  | inl er => rw [h4] at h; simp at h
  | inr x =>
    obtain ⟨m, q⟩ := x
    rw [h4] at h
    simp only at h
    split at h
    · simp at h
    · simp only [Sum.inr.injEq, Prod.mk.injEq] at h
      rw [← h.1, List.length_take, List.length_drop]
      omega
theorem textP_bad {bs : List UInt8} {p : Nat} {lo hi er : Int} (h : textP bs p lo hi = .inl er) : 0 < er ∧ er ≤ 17 := by
  unfold textP at h
  cases h4 : numP bs p lo hi with
  | inl er' => rw [h4] at h; simp only [Sum.inl.injEq] at h; have := numP_bad h4; omega
  | inr x =>
    obtain ⟨m, q⟩ := x
    rw [h4] at h
    simp only at h
    split at h
    · simp only [Sum.inl.injEq] at h; omega
    · simp at h
theorem dataP_bd (bs : List UInt8) (p : Nat) : (∀ er, dataP bs p = .inl er → 0 < er ∧ er ≤ 17) ∧ ∀ a b c l nx, dataP bs p = .inr ((a, b, c, l), nx) → l.length ≤ bs.length := by
  unfold dataP
  cases h0 : numP bs p 0 15 with
  | inl er => exact ⟨fun e h => by simp only [Sum.inl.injEq] at h; have := numP_bad h0; omega, fun a b c l nx h => by simp at h⟩
  | inr x =>
    obtain ⟨a, p1⟩ := x
    simp only
    cases h1 : numP bs p1 1 4611686018427387904 with
    | inl er => exact ⟨fun e h => by simp only [Sum.inl.injEq] at h; have := numP_bad h1; omega, fun a b c l nx h => by simp at h⟩
    | inr x =>
      obtain ⟨b, p2⟩ := x
      simp only
      cases h2 : numP bs p2 0 4611686018427387904 with
      | inl er => exact ⟨fun e h => by simp only [Sum.inl.injEq] at h; have := numP_bad h2; omega, fun a b c l nx h => by simp at h⟩
      | inr x =>
        obtain ⟨c, p3⟩ := x
        simp only
        cases h3 : textP bs p3 0 256 with
        | inl er => exact ⟨fun e h => by simp only [Sum.inl.injEq] at h; have := textP_bad h3; omega, fun a b c l nx h => by simp at h⟩
        | inr x =>
          obtain ⟨l, p4⟩ := x
          refine ⟨fun e h => by simp at h, fun a' b' c' l' nx h => ?_⟩
          simp only [Sum.inr.injEq, Prod.mk.injEq] at h
          obtain ⟨⟨rfl, rfl, rfl, rfl⟩, rfl⟩ := h
          exact textP_len h3
theorem decItem_bd (bs : List UInt8) : (decItem bs).1.l.length ≤ 300 ∧ 0 ≤ (decItem bs).2 ∧ (decItem bs).2 ≤ 17 := by
  unfold decItem
  split
  · simp [ItemD.zero]
  · rename_i hlen
    split
    · simp [ItemD.zero]
    · rename_i b bs
      split
      · cases h : dataP (b :: bs) 1 with
        | inl er => have := (dataP_bd _ _).1 _ h; simp only [ItemD.zero, List.length_nil]; omega
        | inr x =>
          obtain ⟨⟨s, q, t, l⟩, nx⟩ := x
          have := (dataP_bd _ _).2 _ _ _ _ _ h
          simp only
          split
          · simp [ItemD.zero]
          · simp only; omega
      · split
        · cases h0 : numP (b :: bs) 1 1 4611686018427387904 with
          | inl er => have := numP_bad h0; simp only [ItemD.zero, List.length_nil]; omega
          | inr x =>
            obtain ⟨p, p1⟩ := x
            simp only
            cases h1 : numP (b :: bs) p1 0 ((p : Int) - 1) with
            | inl er => have := numP_bad h1; simp only [ItemD.zero, List.length_nil]; omega
            | inr x =>
              obtain ⟨st, p2⟩ := x
              simp only
              cases h2 : numP (b :: bs) p2 0 15 with
              | inl er => have := numP_bad h2; simp only [ItemD.zero, List.length_nil]; omega
              | inr x =>
                obtain ⟨a, p3⟩ := x
                simp only
                cases h3 : numP (b :: bs) p3 1 4611686018427387904 with
                | inl er => have := numP_bad h3; simp only [ItemD.zero, List.length_nil]; omega
                | inr x =>
                  obtain ⟨c, p4⟩ := x
                  simp only
                  split
                  · simp [ItemD.zero]
                  · simp
        · simp [ItemD.zero]
def DecR (w : World) (d : ItemD) (er : Int) (e : Ending) (w' : World) : Prop :=
  ∃ A cap, e = .returned (.tuple #[.agg #[.int .i64 d.k, .int .i64 d.s, .int .i64 d.q, .int .i64 d.t, .slice A d.l.length cap, .int .i64 d.p, .int .i64 d.st, .int .i64 d.a, .int .i64 d.c], .int .i64 er]) ∧
    w'.ownsRow w.heap.size 5 1 (.slice A d.l.length cap) d.l.length (bvs d.l) ∧ Below w.heap.size w w'
theorem DecodeItem_r (A : Option Addr) (n cap : Nat) (bs : List UInt8) (w : World) (hr : RdB w w.heap.size A n bs) (hn : n ≤ cap) (hc : n ≤ 140737488351232) (d : ItemD) (er : Int) (hD : decItem bs = (d, er)) :
    Calls Try.prog 29 #[.slice A n cap] w (DecR w d er) :=
  (DecodeItem_any A n cap bs w hr hn hc).mono fun _ _ h => by rw [hD] at h; exact h
theorem RDecodeItem_r (A : Option Addr) (n cap : Nat) (bs : List UInt8) (w : World) (hr : RdB w w.heap.size A n bs) (hn : n ≤ cap) (hc : n ≤ 140737488351232) (d : ItemD) (er : Int) (hD : decItem bs = (d, er)) :
    Calls Try.prog 28 #[.slice A n cap] w (DecR w d er) :=
  (RDecodeItem_any A n cap bs w hr hn hc).mono fun _ _ h => by rw [hD] at h; exact h
def itemTxt : List UInt8 := (encItem 1 1 1 0 [4, 5, 6] 0 0 0 0).1
theorem itemTxt_enc : encItem 1 1 1 0 [4, 5, 6] 0 0 0 0 = (itemTxt, 0) := by decide
theorem itemTxt_dec : decItem itemTxt = (⟨1, 1, 1, 0, [4, 5, 6], 0, 0, 0, 0⟩, 0) := by rfl
set_option maxRecDepth 100000 in
theorem itemText_any (w : World) : Calls Try.prog 30 #[] w fun e w' => ∃ A cap, e = .returned (.slice A itemTxt.length cap) ∧ w'.ownsRow w.heap.size 5 1 (.slice A itemTxt.length cap) itemTxt.length (bvs itemTxt) ∧ Below w.heap.size w w' := by
  have HE := Lib.hid itemTxt_enc
  have hb := one_box w (.cells #[.int .u8 4, .int .u8 5, .int .u8 6] 5)
  have hB := Blk.new w 5 #[.int .u8 4, .int .u8 5, .int .u8 6]
  have hr : RdB (w.alloc (.cells #[.int .u8 4, .int .u8 5, .int .u8 6] 5)) (w.alloc (.cells #[.int .u8 4, .int .u8 5, .int .u8 6] 5)).heap.size (some ⟨w.heap.size, 0, none⟩) 3 [4, 5, 6] :=
    Blk.rd hB rfl (fun j u h => by simpa [bvs] using h)
  have HB := Lib.hid hb
  have HR := Lib.hid hr
  clear hb hB hr
  go_enter Try.func30, Try.ntmps30
  go_wp2_with fail
  refine (REncodeItem_r 1 1 1 0 (some ⟨w.heap.size, 0, none⟩) 3 3 [4, 5, 6] 0 0 0 0 _ HR.out (by omega) (by omega) itemTxt 0 HE.out).mono ?_
  rintro _ w1 ⟨v, rfl, ho, hb1⟩
  obtain ⟨Aw, capw, rfl, hcw, _⟩ := own_shape ho
  go_wp2
  go_ret
  exact ⟨Aw, capw, rfl, own_base ho (by simp), Below.then HB.out hb1⟩
end Go.Proofs.Ytjafmcahlmopiaa
