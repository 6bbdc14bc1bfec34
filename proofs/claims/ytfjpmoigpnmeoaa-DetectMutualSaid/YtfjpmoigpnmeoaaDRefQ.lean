/-
  The document's detector: New, Known, Timeout, Wrong.
-/
import Derived.Test.YtfjpmoigpnmeoaaDRefI
import Derived.Test.YtfjpmoigpnmeoaaDNew2
namespace Go.Proofs.Ytfjpmoigpnmeoaa
open Go.RowKit
variable {w : World} {F : Nat → Prop} {c : Cfg} {K : Nat} {l : List Ev} {v : Value}

def NewsR (w : World) (c : Cfg) (e : Ending) (w' : World) : Prop := ∃ K, e = .returned (.tuple #[.pointer (some ⟨K, 0, none⟩), .int .i64 0]) ∧ RDx w' (fun k => w.heap.size ≤ k ∧ k < w'.heap.size) c K [] ∧ Below w.heap.size w w'
set_option maxRecDepth 100000 in
set_option maxHeartbeats 3200000 in
theorem RNew_yes (c : Cfg) (hc : c.Ok) (w : World) :
    Calls Try.prog 41 #[.int .i64 (c.n : Int), .int .i64 (c.self : Int), .int .i64 c.inc, .int .i64 c.base, .int .i64 c.step, .int .i64 c.lim] w (NewsR w c) := by
  obtain ⟨h1, h2, h3, h4, h5, h6, h7, h8, h9, h10, h11⟩ := hc
  have a1 : ¬ (c.n : Int) < 1 := by omega
  have a2 : ¬ (16 : Int) < (c.n : Int) := by omega
  have a3 : ¬ (c.self : Int) < 0 := by omega
  have a4 : (c.self : Int) < (c.n : Int) := by omega
  have a5 : ¬ c.inc < 1 := by omega
  have a6 : ¬ 4611686018427387904 < c.inc := by omega
  have a7 : ¬ c.lim < 1 := by omega
  have a8 : ¬ 64 < c.lim := by omega
  have a9 : ¬ c.base < 1 := by omega
  have b1 : ¬ c.lim < c.base := by omega
  have b2 : ¬ c.step < 1 := by omega
  have b3 : ¬ 64 < c.step := by omega
  have hB := Blk.new w 107 (refC c (.slice none 0 0))
  have hb := one_box' w (.cells (refC c (.slice none 0 0)) 107)
  have hz : (w.alloc (.cells (refC c (.slice none 0 0)) 107)).heap.size = w.heap.size + 1 := by simp
  have HE : Hid (NewsR w c (.returned (.tuple #[.pointer (some ⟨w.heap.size, 0, none⟩), .int .i64 0])) (w.alloc (.cells (refC c (.slice none 0 0)) 107))) :=
    ⟨w.heap.size, rfl, ⟨fun k hk => hk.2, (fun x hx => by cases hx), .slice none 0 0, hB, ⟨by simp [evV], .inl ⟨rfl, rfl⟩⟩, ⟨Nat.le_refl _, by rw [hz]; omega⟩, fun g hg => by simp [Value.ownBlock] at hg⟩, hb⟩
  clear hB hb hz
  go_enter Try.func41, Try.ntmps41
  go_wp2
  go_ret2
  exact HE.out
set_option maxRecDepth 100000 in
set_option maxHeartbeats 3200000 in
theorem RNew_no (n s i b st l : Int) (w : World) (hno : ¬ NewOk n s i b st l) :
    Calls Try.prog 41 #[.int .i64 n, .int .i64 s, .int .i64 i, .int .i64 b, .int .i64 st, .int .i64 l] w fun e w' => e = .returned (.tuple #[.pointer none, .int .i64 1]) ∧ w = w' := by
  have hno := NewOk.not hno
  rcases hno with h | ⟨h1, h | ⟨h2, h | ⟨h3, h | ⟨h4, h | ⟨h5, h⟩⟩⟩⟩⟩
  all_goals
    (try obtain ⟨a1, a2⟩ := h1)
    (try obtain ⟨a3, a4⟩ := h2)
    (try obtain ⟨a5, a6⟩ := h3)
    (try obtain ⟨a7, a8⟩ := h4)
    (try obtain ⟨a9, a10⟩ := h5)
    rcases h with h | h
    all_goals
      (try have a1' : ¬ n < 1 := by omega)
      (try have a2' : ¬ 16 < n := by omega)
      (try have a3' : ¬ s < 0 := by omega)
      (try have a4' : s < n := by omega)
      (try have a4'' : ¬ s < n := by omega)
      (try have a5' : ¬ i < 1 := by omega)
      (try have a6' : ¬ 4611686018427387904 < i := by omega)
      (try have a7' : ¬ l < 1 := by omega)
      (try have a8' : ¬ 64 < l := by omega)
      (try have a9' : ¬ b < 1 := by omega)
      (try have a10' : ¬ l < b := by omega)
      go_enter Try.func41, Try.ntmps41
      go_wp2
      all_goals
        go_ret2
        exact ⟨rfl, rfl⟩
/-- What is told of a node, by the document. -/
def OfP (w : World) (_c : Cfg) (_l : List Ev) (x : Int) (e : Ending) (w' : World) : Prop := e = .returned (.int .i64 x) ∧ Below w.heap.size w w'
set_option maxRecDepth 100000 in
set_option maxHeartbeats 3200000 in
theorem RKnown_any (hc : c.Ok) (h : RD w F c K l v) (hF : ∀ k, F k → k < w.heap.size) (hl : ∀ x ∈ l, x.Ok) (hn : l.length < 3518437208883) (q : Int) :
    Calls Try.prog 51 #[.pointer (some ⟨K, 0, none⟩), .int .i64 q] w (OfP w c l (knownQ c (dOf c l) q)) := by
  have hcc := hc
  obtain ⟨hN1, hn16, hsf, _⟩ := hcc
  have HO := Lib.hid (other_any h hn16 hsf q)
  obtain ⟨c0, c1, c2, c3, c4, c5, c6⟩ := h.cell
  cases ho : otherB c q with
  | true =>
    rw [ho] at HO
    have hq : 0 ≤ q ∧ q ≠ (c.self : Int) := by simp only [otherB, decide_eq_true_eq] at ho; omega
    have HK : Hid (knownQ c (dOf c l) q = ((dOf c l).pr q.toNat).known) := Lib.hid (by rw [knownQ, if_neg hq.2, if_pos ho])
    obtain ⟨j, rfl⟩ := Int.eq_ofNat_of_zero_le hq.1
    rw [Int.toNat_natCast] at HK
    have hOf := Of_any hc h hF hl (by omega) j
    rw [refOf_eq] at hOf
    have HOf := Lib.hid hOf
    generalize (dOf c l).pr j = p at *
    generalize (dOf c l).left = lf at *
    clear hOf ho hq h hF hl
    go_enter Try.func51, Try.ntmps51
    go_wp2_with fail
    refine HO.out.mono ?_
    rintro _ _ ⟨rfl, rfl⟩
    go_wp2_with fail
    refine HOf.out.mono ?_
    rintro _ w2 ⟨rfl, hb2⟩
    simp only [peerC]
    have HB : Hid (Below w.heap.size w (w2.alloc (.cells #[.int .i64 p.known, .int .i64 p.last, .int .i64 p.age, .int .i64 p.tmo, .int .i64 p.wrong, .bool p.heard, .bool p.mutl, .bool lf] 116))) := hb2.alloc hb2.size _
    go_wp2
    go_ret
    exact ⟨ret_int HK.out.symm, HB.out⟩
  | false =>
    rw [ho] at HO
    by_cases hs : q = (c.self : Int)
    · have HK : Hid (knownQ c (dOf c l) q = c.inc) := Lib.hid (by rw [knownQ, if_pos hs])
      have e1 : (q == (c.self : Int)) = true := by simpa using hs
      clear ho hs h hF hl
      go_enter Try.func51, Try.ntmps51
      go_wp2_with fail
      refine HO.out.mono ?_
      rintro _ _ ⟨rfl, rfl⟩
      go_wp2
      go_ret
      exact ⟨ret_int HK.out.symm, Below.refl _ _⟩
    · have HK : Hid (knownQ c (dOf c l) q = 0) := Lib.hid (by rw [knownQ, if_neg hs, ho]; simp)
      have e1 : (q == (c.self : Int)) = false := by simpa using hs
      clear ho hs h hF hl
      go_enter Try.func51, Try.ntmps51
      go_wp2_with fail
      refine HO.out.mono ?_
      rintro _ _ ⟨rfl, rfl⟩
      go_wp2
      go_ret
      exact ⟨ret_int HK.out.symm, Below.refl _ _⟩
set_option maxRecDepth 100000 in
set_option maxHeartbeats 3200000 in
theorem RTimeout_any (hc : c.Ok) (h : RD w F c K l v) (hF : ∀ k, F k → k < w.heap.size) (hl : ∀ x ∈ l, x.Ok) (hn : l.length < 3518437208883) (q : Int) :
    Calls Try.prog 52 #[.pointer (some ⟨K, 0, none⟩), .int .i64 q] w (OfP w c l (timeoutQ c (dOf c l) q)) := by
  have hcc := hc
  obtain ⟨hN1, hn16, hsf, _⟩ := hcc
  have HO := Lib.hid (other_any h hn16 hsf q)
  obtain ⟨c0, c1, c2, c3, c4, c5, c6⟩ := h.cell
  cases ho : otherB c q with
  | true =>
    rw [ho] at HO
    have hq : 0 ≤ q ∧ q ≠ (c.self : Int) := by simp only [otherB, decide_eq_true_eq] at ho; omega
    have HK : Hid (timeoutQ c (dOf c l) q = ((dOf c l).pr q.toNat).tmo) := Lib.hid (by rw [timeoutQ, if_pos ho])
    obtain ⟨j, rfl⟩ := Int.eq_ofNat_of_zero_le hq.1
    rw [Int.toNat_natCast] at HK
    have hOf := Of_any hc h hF hl (by omega) j
    rw [refOf_eq] at hOf
    have HOf := Lib.hid hOf
    generalize (dOf c l).pr j = p at *
    generalize (dOf c l).left = lf at *
    clear hOf ho hq h hF hl
    go_enter Try.func52, Try.ntmps52
    go_wp2_with fail
    refine HO.out.mono ?_
    rintro _ _ ⟨rfl, rfl⟩
    go_wp2_with fail
    refine HOf.out.mono ?_
    rintro _ w2 ⟨rfl, hb2⟩
    simp only [peerC]
    have HB : Hid (Below w.heap.size w (w2.alloc (.cells #[.int .i64 p.known, .int .i64 p.last, .int .i64 p.age, .int .i64 p.tmo, .int .i64 p.wrong, .bool p.heard, .bool p.mutl, .bool lf] 116))) := hb2.alloc hb2.size _
    go_wp2
    go_ret
    exact ⟨ret_int HK.out.symm, HB.out⟩
  | false =>
    rw [ho] at HO
    have HK : Hid (timeoutQ c (dOf c l) q = 0) := Lib.hid (by rw [timeoutQ, ho]; simp)
    clear ho h hF hl
    go_enter Try.func52, Try.ntmps52
    go_wp2_with fail
    refine HO.out.mono ?_
    rintro _ _ ⟨rfl, rfl⟩
    go_wp2
    go_ret
    exact ⟨ret_int HK.out.symm, Below.refl _ _⟩
set_option maxRecDepth 100000 in
set_option maxHeartbeats 3200000 in
theorem RWrong_any (hc : c.Ok) (h : RD w F c K l v) (hF : ∀ k, F k → k < w.heap.size) (hl : ∀ x ∈ l, x.Ok) (hn : l.length < 3518437208883) (q : Int) :
    Calls Try.prog 53 #[.pointer (some ⟨K, 0, none⟩), .int .i64 q] w (OfP w c l (wrongQ c (dOf c l) q)) := by
  have hcc := hc
  obtain ⟨hN1, hn16, hsf, _⟩ := hcc
  have HO := Lib.hid (other_any h hn16 hsf q)
  obtain ⟨c0, c1, c2, c3, c4, c5, c6⟩ := h.cell
  cases ho : otherB c q with
  | true =>
    rw [ho] at HO
    have hq : 0 ≤ q ∧ q ≠ (c.self : Int) := by simp only [otherB, decide_eq_true_eq] at ho; omega
    have HK : Hid (wrongQ c (dOf c l) q = ((dOf c l).pr q.toNat).wrong) := Lib.hid (by rw [wrongQ, if_pos ho])
    obtain ⟨j, rfl⟩ := Int.eq_ofNat_of_zero_le hq.1
    rw [Int.toNat_natCast] at HK
    have hOf := Of_any hc h hF hl (by omega) j
    rw [refOf_eq] at hOf
    have HOf := Lib.hid hOf
    generalize (dOf c l).pr j = p at *
    generalize (dOf c l).left = lf at *
    clear hOf ho hq h hF hl
    go_enter Try.func53, Try.ntmps53
    go_wp2_with fail
    refine HO.out.mono ?_
    rintro _ _ ⟨rfl, rfl⟩
    go_wp2_with fail
    refine HOf.out.mono ?_
    rintro _ w2 ⟨rfl, hb2⟩
    simp only [peerC]
    have HB : Hid (Below w.heap.size w (w2.alloc (.cells #[.int .i64 p.known, .int .i64 p.last, .int .i64 p.age, .int .i64 p.tmo, .int .i64 p.wrong, .bool p.heard, .bool p.mutl, .bool lf] 116))) := hb2.alloc hb2.size _
    go_wp2
    go_ret
    exact ⟨ret_int HK.out.symm, HB.out⟩
  | false =>
    rw [ho] at HO
    have HK : Hid (wrongQ c (dOf c l) q = 0) := Lib.hid (by rw [wrongQ, ho]; simp)
    clear ho h hF hl
    go_enter Try.func53, Try.ntmps53
    go_wp2_with fail
    refine HO.out.mono ?_
    rintro _ _ ⟨rfl, rfl⟩
    go_wp2
    go_ret
    exact ⟨ret_int HK.out.symm, Below.refl _ _⟩
end Go.Proofs.Ytfjpmoigpnmeoaa
