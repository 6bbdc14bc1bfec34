/-
  Items: what is encoded is decoded.
-/
import Derived.Test.YtjafmcahlmopiaaBackPure
namespace Go.Proofs.Ytjafmcahlmopiaa
open Go.RowKit

theorem numP_fwd {bs pre rest : List UInt8} {v : Nat} {lo hi : Int} (h : bs = pre ++ (putB v ++ rest)) (hv : v ≤ 4611686018427387904) (h0 : lo ≤ (v : Int)) (h1 : (v : Int) ≤ hi) :
    numP bs pre.length lo hi = .inr (v, (pre ++ putB v).length) := by
  have ht := take_put pre rest v hv
  rw [← h] at ht
  unfold takeInt at ht
  rw [if_neg (by rw [h]; simp; omega), Int.toNat_natCast] at ht
  unfold numP
  rw [ht]
  simp only [ne_eq, not_true, if_false]
  rw [if_neg (by omega), List.length_append]
theorem textP_fwd {bs pre rest l : List UInt8} {lo hi : Int} (h : bs = pre ++ (packB l ++ rest)) (hv : l.length ≤ 4611686018427387904) (h0 : lo ≤ (l.length : Int)) (h1 : (l.length : Int) ≤ hi) :
    textP bs pre.length lo hi = .inr (l, (pre ++ packB l).length) := by
  unfold packB at h
  have h' : bs = pre ++ (putB l.length ++ (l ++ rest)) := by rw [h, List.append_assoc]
  have h2 : bs = (pre ++ putB l.length) ++ (l ++ rest) := by rw [h', List.append_assoc]
  unfold textP
  rw [numP_fwd h' hv h0 h1]
  simp only
  rw [if_neg (by rw [h2]; simp only [List.length_append]; omega)]
  congr 2
  · rw [h2, List.drop_left, List.take_left]
  · unfold packB; simp only [List.length_append]; omega
theorem dataP_fwd {bs pre rest l : List UInt8} {a b c : Nat} (h : bs = pre ++ (packD a b c l ++ rest)) (ha : a ≤ 15) (hb0 : 1 ≤ b) (hb : b ≤ 4611686018427387904) (hc : c ≤ 4611686018427387904) (hl : l.length ≤ 256) :
    dataP bs pre.length = .inr ((a, b, c, l), (pre ++ packD a b c l).length) := by
  have e : packD a b c l = putB a ++ (putB b ++ (putB c ++ packB l)) := by simp [packD, pack, List.append_assoc]
  rw [e] at h ⊢
  have n0 := numP_fwd (bs := bs) (pre := pre) (v := a) (lo := 0) (hi := 15) (rest := putB b ++ (putB c ++ (packB l ++ rest))) (by rw [h]; simp only [List.append_assoc]) (by omega) (by omega) (by omega)
  have n1 := numP_fwd (bs := bs) (pre := pre ++ putB a) (v := b) (lo := 1) (hi := 4611686018427387904) (rest := putB c ++ (packB l ++ rest)) (by rw [h]; simp only [List.append_assoc]) (by omega) (by omega) (by omega)
  have n2 := numP_fwd (bs := bs) (pre := pre ++ putB a ++ putB b) (v := c) (lo := 0) (hi := 4611686018427387904) (rest := packB l ++ rest) (by rw [h]; simp only [List.append_assoc]) (by omega) (by omega) (by omega)
  have n3 := textP_fwd (bs := bs) (pre := pre ++ putB a ++ putB b ++ putB c) (l := l) (lo := 0) (hi := 256) (rest := rest) (by rw [h]; simp only [List.append_assoc]) (by omega) (by omega) (by omega)
  unfold dataP
  simp only [n0, n1, n2, n3]
  simp only [List.append_assoc]
theorem pack_len (is : List Int) : is.length ≤ (pack is).length := by
  induction is with
  | nil => simp
  | cons i is ih =>
    have := putB_length i.toNat
    simp only [pack, List.flatMap_cons, List.length_append, List.length_cons] at *
    omega
theorem decItem_fwd {k s q t : Int} {ls : List UInt8} {p st a c : Int} (hv : itemB k s q t ls.length p st a c = true) :
    ∃ ps, encItem k s q t ls p st a c = (ps, 0) ∧ decItem ps = (⟨k, s, q, t, ls, p, st, a, c⟩, 0) ∧ 5 ≤ ps.length ∧ ps.length ≤ 300 := by
  refine ⟨_, by unfold encItem; rw [if_pos hv], ?_⟩
  rcases itemB_k hv with rfl | rfl
  · obtain ⟨hd, rfl, rfl, rfl, rfl⟩ := itemB_1 hv
    obtain ⟨⟨h1, h2, h3, h4⟩, ⟨h5, h6⟩, h7⟩ := datB_true hd
    obtain ⟨s, rfl⟩ : ∃ n : Nat, s = n := ⟨s.toNat, by omega⟩
    obtain ⟨q, rfl⟩ : ∃ n : Nat, q = n := ⟨q.toNat, by omega⟩
    obtain ⟨t, rfl⟩ : ∃ n : Nat, t = n := ⟨t.toNat, by omega⟩
    simp only [if_true]
    have hlen : (packD s q t ls).length ≤ 293 ∧ 4 ≤ (packD s q t ls).length := by
      have e1 := pack_le [(s : Int), q, t]
      have e2 := packB_le ls
      have e3 := pack_len [(s : Int), q, t]
      have e4 := putB_length ls.length
      simp only [packD, packB, List.length_append, List.length_cons, List.length_nil] at *
      omega
    have hdp := dataP_fwd (bs := 1 :: packD s q t ls) (pre := [1]) (rest := []) (by simp) (show s ≤ 15 by omega) (show 1 ≤ q by omega) (by omega) (show t ≤ 4611686018427387904 by omega) h7
    refine ⟨?_, by simp only [List.length_cons]; omega, by simp only [List.length_cons]; omega⟩
    show decItem (1 :: packD s q t ls) = _
    unfold decItem
    rw [if_neg (by simp only [List.length_cons]; omega)]
    simp only [if_true]
    have hdp' : dataP (1 :: packD s q t ls) 1 = _ := hdp
    rw [hdp']
    simp only
    rw [if_neg (by simp)]
  · obtain ⟨⟨rfl, rfl, rfl, hn⟩, ⟨h1, h2⟩, h3, h4, h5, h6, h7, h8⟩ := itemB_2 hv
    obtain rfl : ls = [] := List.eq_nil_of_length_eq_zero hn
    obtain ⟨p, rfl⟩ : ∃ n : Nat, p = n := ⟨p.toNat, by omega⟩
    obtain ⟨st, rfl⟩ : ∃ n : Nat, st = n := ⟨st.toNat, by omega⟩
    obtain ⟨a, rfl⟩ : ∃ n : Nat, a = n := ⟨a.toNat, by omega⟩
    obtain ⟨c, rfl⟩ : ∃ n : Nat, c = n := ⟨c.toNat, by omega⟩
    simp only [show ¬ ((2 : Int) = 1) by decide, if_false]
    have hlen : (pack [(p : Int), st, a, c]).length ≤ 36 ∧ 4 ≤ (pack [(p : Int), st, a, c]).length := by
      have e1 := pack_le [(p : Int), st, a, c]
      have e3 := pack_len [(p : Int), st, a, c]
      simp only [List.length_cons, List.length_nil] at *
      omega
    refine ⟨?_, by simp only [List.length_cons]; omega, by simp only [List.length_cons]; omega⟩
    show decItem (2 :: pack [(p : Int), st, a, c]) = _
    have e : (2 :: pack [(p : Int), st, a, c] : List UInt8) = [2] ++ (putB p ++ (putB st ++ (putB a ++ (putB c ++ [])))) := by simp [pack]
    have n0 := numP_fwd (bs := 2 :: pack [(p : Int), st, a, c]) (pre := [2]) (v := p) (lo := 1) (hi := 4611686018427387904) e (by omega) (by omega) (by omega)
    have n1 := numP_fwd (bs := 2 :: pack [(p : Int), st, a, c]) (pre := [2] ++ putB p) (v := st) (lo := 0) (hi := (p : Int) - 1) (rest := putB a ++ (putB c ++ [])) (by rw [e]; simp only [List.append_assoc]) (by omega) (by omega) (by omega)
    have n2 := numP_fwd (bs := 2 :: pack [(p : Int), st, a, c]) (pre := [2] ++ putB p ++ putB st) (v := a) (lo := 0) (hi := 15) (rest := putB c ++ []) (by rw [e]; simp only [List.append_assoc]) (by omega) (by omega) (by omega)
    have n3 := numP_fwd (bs := 2 :: pack [(p : Int), st, a, c]) (pre := [2] ++ putB p ++ putB st ++ putB a) (v := c) (lo := 1) (hi := 4611686018427387904) (rest := []) (by rw [e]; simp only [List.append_assoc]) (by omega) (by omega) (by omega)
    have n0' : numP (2 :: pack [(p : Int), st, a, c]) 1 1 4611686018427387904 = _ := n0
    unfold decItem
    rw [if_neg (by simp only [List.length_cons]; omega)]
    simp only [show ¬ ((2 : UInt8) = 1) by decide, if_false, if_true, n0', n1, n2, n3]
    rw [if_neg (by rw [e]; simp only [List.length_append, List.length_nil]; omega)]
end Go.Proofs.Ytjafmcahlmopiaa
