/-
  The program's frame: a record's frame behind the journal's last sum. And: The document's number, and the program's big: so many bytes, the highest first.
-/
import Derived.Test.YtpkdalpjfcopbaaDoorKRead
import Derived.Test.YtpkdalpjfcopbaaDoorAFil
import Derived.Test.YtpkdalpjfcopbaaDoorSum
namespace Go.Proofs.YtpkdalpjfcopbaaDoor
open Go.RowKit

theorem bvs_one_nat (x : Nat) : bvs [UInt8.ofNat x] = [.int .u8 ((x : Int) % 256)] := by
  simp only [bvs, List.map_cons, List.map_nil, UInt8.toNat_ofNat', List.cons.injEq, Value.int.injEq, true_and, and_true]
  omega
set_option maxRecDepth 100000 in
set_option maxHeartbeats 800000 in
theorem number_any (v b : Nat) (w : World) (hv : v < 9223372036854775808) (hb1 : 1 ≤ b) (hb : b ≤ 8) :
    Calls Tryd.prog 76 #[.int .i64 v, .int .i64 b] w fun e w' => ∃ u, e = .returned u ∧ w'.ownsRow w.heap.size 5 1 u b (bvs (beN v b)) ∧ Below w.heap.size w w' := by
  obtain ⟨i0, hi0, hz0, hz1, hz2⟩ := info_parts info_u8
  go_enter Tryd.func76, Tryd.ntmps76
  go_wp2_with fail
  go_loopw [5, 6, 7, 8] (fun l i _ _ wr => ∃ j : Nat, j ≤ b ∧ i = .int .i64 ((b : Int) - 1 - (j : Int)) ∧ wr.ownsRow w.heap.size 5 1 l j (bvs ((beN v b).take j)) ∧ Below w.heap.size w wr) (fun _ i _ _ _ => ((intOf i) + 1).toNat)
  case atStart => exact ⟨0, by omega, by simp, ⟨by simp [bvs], .inl ⟨rfl, rfl⟩⟩, Below.refl _ _⟩
  case round =>
    obtain ⟨j, hj, rfl, ho, hbw⟩ := hrel
    obtain ⟨Al, capl, rfl, _, _⟩ := own_shape ho
    by_cases hlt : j < b
    · have HT := Lib.hid (beN_take v b j hlt)
      obtain ⟨d, hd⟩ : ∃ d : Nat, (b : Int) - 1 - (j : Int) = (d : Int) := ⟨b - 1 - j, by omega⟩
      have hd2 : b - 1 - j = d := by omega
      rw [hd2] at HT
      have hd3 : d ≤ 7 := by omega
      rw [hd]
      have HD := Lib.hid hd
      clear hd hd2
      go_wp2_with fail
      go_loop [7, 8] (fun x k => ∃ m : Nat, m ≤ d ∧ k = .int .i64 m ∧ x = .int .i64 ((v / 256 ^ m : Nat) : Int)) (fun _ k => d - (intOf k).toNat)
      case atStart => exact ⟨0, by omega, rfl, by simp⟩
      case round =>
        obtain ⟨m, hm, rfl, rfl⟩ := hrel
        have hX : v / 256 ^ m < 9223372036854775808 := Nat.lt_of_le_of_lt (Nat.div_le_self _ _) hv
        have hS : v / 256 ^ (m + 1) = v / 256 ^ m / 256 := by rw [Nat.pow_succ, Nat.div_div_eq_div_mul]
        have HS := Lib.hid hS
        clear hS
        by_cases hlt2 : m < d
        · generalize v / 256 ^ m = X at *
          go_wp2
          go_round
          case rel => exact ⟨m + 1, by omega, by go_num, by rw [HS.out]; first | rfl | go_num⟩
          case measure => simp [intOf] <;> omega
        · obtain rfl : d = m := by omega
          generalize hX : v / 256 ^ d = X at *
          have HX := Lib.hid (bvs_one_nat X)
          clear hX
          go_wp2_with (
             at_builtin
             refine app1 wr (by rfl) _ _ 22 (by rfl) w.heap.size 5 i0 _ 1 u_bytes hi0 hz0 hz1 hz2 rfl _ _ _ (by rfl) ho _ (by rfl) (by rfl) (by simp only [maxLen]; omega) (by omega) hbw.size ?_
             intro v2 w2 hown2 hb2 _)
          go_roundw
          case rel =>
            refine ⟨j + 1, by omega, ?_, ?_, hbw.trans hb2⟩
            · have := HD.out
              exact congrArg (Value.int .i64) (by omega)
            · rw [HT.out, bvs_append, HX.out]; exact hown2
          case measure => simp [intOf] <;> omega
    · obtain rfl : b = j := by omega
      have hneg : (b : Int) - 1 - (b : Int) < 0 := by omega
      rw [List.take_of_length_le (by rw [beN_length]; omega)] at ho
      go_wp2
      go_ret
      exact ⟨_, rfl, ho, hbw⟩
theorem big_byte (v d : Nat) : bvs [UInt8.ofNat (v / 256 ^ d)] = [.int .u8 ((v : Int) / 2 ^ (8 * d) % 256)] := by
  have e : 256 ^ d = 2 ^ (8 * d) := by rw [Nat.pow_mul]
  rw [bvs_one_nat, e]
  push_cast
  rfl
set_option maxRecDepth 100000 in
set_option maxHeartbeats 800000 in
theorem big_any (base : Nat) (A : Option Addr) (n cap v b : Nat) (bs : List UInt8) (w : World) (ho : w.ownsRow base 5 1 (.slice A n cap) n (bvs bs)) (hn : n ≤ 140737488351232) (hbase : base ≤ w.heap.size) (_hv : v < 9223372036854775808) (hb1 : 1 ≤ b) (hb : b ≤ 8) :
    Calls Tryd.prog 71 #[.slice A n cap, .int .i64 v, .int .i64 b] w fun e w' => ∃ A' cap', e = .returned (.slice A' (n + b) cap') ∧ w'.ownsRow base 5 1 (.slice A' (n + b) cap') (n + b) (bvs (bs ++ beN v b)) ∧ Below base w w' := by
  obtain ⟨i0, hi0, hz0, hz1, hz2⟩ := info_parts info_u8
  have HO := Lib.hid ho
  clear ho
  go_enter Tryd.func71, Tryd.ntmps71
  go_wp2_with fail
  go_loopw [0, 7] (fun l i wr => ∃ j : Nat, j ≤ b ∧ i = .int .i64 (8 * ((b : Int) - 1 - (j : Int))) ∧ wr.ownsRow base 5 1 l (n + j) (bvs (bs ++ (beN v b).take j)) ∧ Below base w wr) (fun _ i _ => ((intOf i) + 8).toNat)
  case atStart => exact ⟨0, by omega, by simp, by rw [List.take_zero, List.append_nil]; exact HO.out, Below.refl _ _⟩
  case round =>
    obtain ⟨j, hj, rfl, ho, hbw⟩ := hrel
    obtain ⟨Al, capl, rfl, _, _⟩ := own_shape ho
    by_cases hlt : j < b
    · have HT := Lib.hid (beN_take v b j hlt)
      obtain ⟨d, hd⟩ : ∃ d : Nat, (b : Int) - 1 - (j : Int) = (d : Int) := ⟨b - 1 - j, by omega⟩
      have hd2 : b - 1 - j = d := by omega
      rw [hd2] at HT
      have hd3 : d ≤ 7 := by omega
      rw [hd]
      have HD := Lib.hid hd
      clear hd hd2
      have h0 : (0 : Int) ≤ 8 * (d : Int) := by omega
      have HX := Lib.hid (big_byte v d)
      go_wp2_with (
         at_builtin
         refine app1 wr (by rfl) _ _ 22 (by rfl) base 5 i0 _ 1 u_bytes hi0 hz0 hz1 hz2 rfl _ _ _ (by rfl) ho _ (by rfl) (by rfl) (by simp only [maxLen]; omega) (by omega) (by have := hbw.size; omega) ?_
         intro v2 w2 hown2 hb2 _)
      go_roundw
      case rel =>
        refine ⟨j + 1, by omega, ?_, ?_, hbw.trans hb2⟩
        · have := HD.out
          exact congrArg (Value.int .i64) (by omega)
        · rw [HT.out, ← List.append_assoc, bvs_append, HX.out]; exact hown2
      case measure => simp [intOf] <;> omega
    · obtain rfl : b = j := by omega
      have hneg : 8 * ((b : Int) - 1 - (b : Int)) < 0 := by omega
      rw [List.take_of_length_le (by rw [beN_length]; omega)] at ho
      go_wp2
      go_ret
      exact ⟨_, _, rfl, ho, hbw⟩
end Go.Proofs.YtpkdalpjfcopbaaDoor
namespace Go.Proofs.YtpkdalpjfcopbaaDoor
open Go.RowKit
theorem own_made (w : World) (base : Nat) (e : TypeId) (z : Value) (c : Nat) (_hz : z.cells.size = 1) (hm : c ≤ maxLen) (hb : base ≤ w.heap.size) : (w.alloc (.cells (madeCells z.cells c) e)).ownsRow base e 1 (.slice (some ⟨w.heap.size, 0, none⟩) 0 c) 0 [] :=
  ⟨by simp, .inr ⟨w.heap.size, c, _, rfl, hb, heap_alloc_new w _, by omega, hm, by rw [size_madeCells]; simp [], by simp⟩⟩
theorem own_get {base e n k : Nat} {v x : Value} {xs : List Value} {w : World} (h : w.ownsRow base e 1 v n xs) (hx : xs[k]? = some x) : ∃ g cap, v = .slice (some ⟨g, 0, none⟩) n cap ∧ base ≤ g ∧ k < n ∧ w.cell? ⟨g, k, none⟩ = some x ∧ w.frozen? ⟨g, k, none⟩ = false := by
  have hl := h.1
  have hk := (List.getElem?_eq_some_iff.1 hx).1
  obtain ⟨g, cap, cur, hv, hb, hB, _, _, _, ht⟩ := own_parts h (by omega)
  refine ⟨g, cap, hv, hb, by omega, ?_, hB.frozen k⟩
  rw [hB.cell, ← Array.getElem?_toList]
  rw [← ht, List.getElem?_take] at hx
  split at hx
  · exact hx
  · cases hx
theorem own_open {base e n cap : Nat} {A : Option Addr} {xs : List Value} {w : World} (h : w.ownsRow base e 1 (.slice A n cap) n xs) (hn : 0 < n) : ∃ g, A = some ⟨g, 0, none⟩ ∧ base ≤ g ∧ n ≤ cap ∧ ∀ (k : Nat) (x : Value), xs[k]? = some x → w.cell? ⟨g, k, none⟩ = some x := by
  obtain ⟨g, cap', cur, hv, hb, hB, hle, _, _, ht⟩ := own_parts h hn
  simp only [Value.slice.injEq] at hv
  obtain ⟨rfl, _, rfl⟩ := hv
  refine ⟨g, rfl, hb, hle, fun k x hx => ?_⟩
  rw [hB.cell, ← Array.getElem?_toList]
  rw [← ht, List.getElem?_take] at hx
  split at hx
  · exact hx
  · cases hx
theorem Nibs.chg {S : Nat → Prop} {w w' : World} (h : Nibs w) (hc : Chg S w w') (hn : ¬ S 0) : Nibs w' := fun k hk => by
  have h0 := h k hk
  have hlt : 0 < w.heap.size := by
    rcases Nat.lt_or_ge 0 w.heap.size with h1 | h1
    · exact h1
    · unfold World.cell? at h0
      rw [Array.getElem?_eq_none h1] at h0
      cases h0
  unfold World.cell? at h0 ⊢
  rw [hc.block _ hlt hn]
  exact h0
theorem Nibs.off {w : World} {t : TypeId} {g : Nat} {cs : Array Value} {x : Int} (h : Nibs w) (hB : Blk w g t cs) (hx : cs[0]? = some (.int .i64 x)) : 0 ≠ g := fun e => by
  have h0 := h 0 (by omega)
  subst e
  rw [hB.cell 0, hx] at h0
  injection h0 with h0
  injection h0 with h1 h2
  cases h1
/-- A journal in memory: the file, the generation, the size, the last sum. -/
def jcs (fl gn sz : Int) (s : UInt8 × UInt8 × UInt8 × UInt8) : Array Value := #[.int .i64 fl, .int .i64 gn, .int .i64 sz, .int .u8 (s.1.toNat : Int), .int .u8 (s.2.1.toNat : Int), .int .u8 (s.2.2.1.toNat : Int), .int .u8 (s.2.2.2.toNat : Int)]
def sl (s : UInt8 × UInt8 × UInt8 × UInt8) : List UInt8 := [s.1, s.2.1, s.2.2.1, s.2.2.2]
theorem sl_of {l : List UInt8} (h : l.length = 4) : ∃ s, l = sl s := by
  match l, h with
  | [a, b, c, d], _ => exact ⟨(a, b, c, d), rfl⟩
/-- 'append(s, x)' with x in a cell of its own, inside a region that draws; the old list stays. -/
theorem step_app1k {P : Program} {ops : Array Oper} {o : Oper} {a : Act} {K : Act → World → Prop} {Q : Exit → Act → World → Prop} {E : Prop} (W : World) (hgd : o.guard = none) (s x : Operand) (t : TypeId)
    (ho : o.op = .call { callee := .builtin .append, args := #[s, x], argTypes := #[t, t] })
    (base : Nat) (e : TypeId) (i : TypeInfo) (z : Value) (bytes : Nat) (ht : P.underlying t = some (.slice e)) (hi : P.info? e = some i) (hz : i.zero = some z)
    (hsize : i.size = 1) (hby : i.bytes = bytes) (hzs : z.cells.size = 1)
    (v : Value) (n : Nat) (xs : List Value) (hs : a.eval s = v) (hown : W.ownsRow base e 1 v n xs)
    (u : Value) (hx : a.eval x = .slice (some ⟨W.heap.size, 0, none⟩) 1 1) (h1 : u.oneCell' = true)
    (h63 : n + 1 ≤ maxLen) (hbytes : (n + 1) * bytes ≤ 140737488355328) (hbase : base ≤ W.heap.size)
    (h : ∀ v' w', w'.ownsRow base e 1 v' (n + 1) (xs ++ [u]) → w'.ownsRow base e 1 v n xs → Below base W w' → K (a.put o.dst v') w') :
    if Region.wanted o (yielded ops a.tmps) = true then Oper.wp P o a (W.alloc (.cells #[u] e)) K Q else E := by
  have hw : Region.wanted o (yielded ops a.tmps) = true := by simp [Region.wanted, hgd]
  rw [if_pos hw]
  have hown2 : (W.alloc (.cells #[u] e)).ownsRow base e 1 v n xs := hown.alloc _
  refine wp_append_keep (P := P) _ s x t ho base e i z 1 bytes ht hi hz hsize hby hzs (by omega) v n xs hs hown2 (W.heap.size + 1) (some ⟨W.heap.size, 0, none⟩) 1 1 [u] hx ?_ (by simpa using h1) h63 hbytes (by simp; omega) ?_
  · refine ⟨by simp, fun _ => ⟨W.heap.size, 0, rfl, by omega, fun j y hj => ?_⟩⟩
    match j, hj with
    | 0, hj =>
      simp only [List.getElem?_cons_zero, Option.some.injEq] at hj
      subst hj
      exact (Blk.new W e #[u]).cell 0
    | j + 1, hj => simp at hj
  · intro v' w' h2 h3 h4 _
    exact h v' w' h2 h3 (((Below.refl _ _).alloc hbase _).trans (below_app hown2 h4 (by simp; omega)))
theorem xor_u8 (a b : UInt8) : bits .xor .u8 (a.toNat : Int) (b.toNat : Int) = ((a ^^^ b).toNat : Int) := by
  have ha := a.toNat_lt
  have hb := b.toNat_lt
  have hx : a.toNat ^^^ b.toNat < 2 ^ 8 := Nat.xor_lt_two_pow ha hb
  show IntKind.u8.wrap ((BitVec.ofInt 8 (a.toNat : Int) ^^^ BitVec.ofInt 8 (b.toNat : Int)).toNat : Int) = _
  rw [BitVec.toNat_xor, BitVec.ofInt_natCast, BitVec.ofInt_natCast, BitVec.toNat_ofNat, BitVec.toNat_ofNat, Nat.mod_eq_of_lt ha, Nat.mod_eq_of_lt hb, UInt8.toNat_xor]
  simp only [IntKind.wrap, IntKind.signed, IntKind.bits, Bool.false_and, Bool.false_eq_true, if_false]
  omega
theorem at4 (p : Addr) (c : Nat) (w : World) : Sem.run Tryd.prog (Instr.arrayAt 85 (.slice (some p) 4 c)) w = .ok (.pointer (some p)) w := by kernel_rfl
theorem sl_rd {w : World} {jg : Nat} {fl gn sz : Int} {s : UInt8 × UInt8 × UInt8 × UInt8} {t : TypeId} (h : Blk w jg t (jcs fl gn sz s)) : RdB w w.heap.size (some ⟨jg, 3, none⟩) 4 (sl s) := by
  refine ⟨by simp [bvs, sl], fun _ => ⟨jg, 3, rfl, h.lt, fun j u hj => ?_⟩⟩
  match j, hj with
  | 0, hj => rw [← hj]; exact h.cell 3
  | 1, hj => rw [← hj]; exact h.cell 4
  | 2, hj => rw [← hj]; exact h.cell 5
  | 3, hj => rw [← hj]; exact h.cell 6
  | j + 4, hj => simp [bvs, sl] at hj
theorem four_split (k n : Nat) : four k n = [UInt8.ofNat k] ++ beN n 2 ++ [165 ^^^ UInt8.ofNat k ^^^ UInt8.ofNat (n / 256) ^^^ UInt8.ofNat n] := by
  simp [four, beN, List.range_succ]
set_option maxRecDepth 100000 in
set_option maxHeartbeats 1600000 in
theorem Frame_any (jg : Nat) (fl gn sz : Int) (s : UInt8 × UInt8 × UInt8 × UInt8) (k : Nat) (A : Option Addr) (n cap : Nat) (body : List UInt8) (w : World) (hj : Blk w jg 96 (jcs fl gn sz s)) (hr : RdB w w.heap.size A n body) (hn : n ≤ 4200) (hk : k ≤ 4) (ht : Nibs w) :
    Calls Tryd.prog 56 #[.pointer (some ⟨jg, 0, none⟩), .agg #[.int .i64 (k : Int), .slice A n cap]] w fun e w' => ∃ (g c : Nat) (s' : UInt8 × UInt8 × UInt8 × UInt8), e = .returned (.slice (some ⟨g, 4, none⟩) (8 + n) c) ∧ w'.ownsRow w.heap.size 5 1 (.slice (some ⟨g, 0, none⟩) (12 + n) (c + 4)) (12 + n) (bvs (sl s ++ frameB (sl s) ⟨(k : Int), body⟩)) ∧ last4 (frameB (sl s) ⟨(k : Int), body⟩) = sl s' ∧ Blk w' jg 96 (jcs fl gn sz s') ∧ Chg (fun k => k = jg) w w' := by
  obtain ⟨i0, hi0, hz0, hz1, hz2⟩ := info_parts info_u8
  have hmk := run_make_rowN (P := Tryd.prog) 22 5 i0 (.int .u8 0) u_bytes hi0 hz0 .i64 .i64 0 (12 + n) (by omega) (by rw [hz2]; omega) (by omega)
  have e1 : ((12 + n : Nat) : Int) = 12 + (n : Int) := by omega
  rw [hz1] at hmk
  simp only [e1, Nat.mul_one] at hmk
  have hmk : ∀ W, Sem.run Tryd.prog (Instr.makeSlice 22 (.int .i64 0) (.int .i64 (12 + (n : Int)))) W = .ok (.slice (some ⟨W.heap.size, 0, none⟩) 0 (12 + n)) (W.alloc (.cells (madeCells #[.int .u8 0] (12 + n)) 5)) := hmk
  have hl := hr.lenB
  have HL := Lib.hid hl
  have HT := Lib.hid ht
  have hjl := hj.lt
  have HJ := Lib.hid hj
  have HR := Lib.hid hr
  clear hl ht hj hr e1
  obtain ⟨w1, hw1⟩ : ∃ w1, w1 = w.alloc (.cells #[.int .i64 (k : Int), .slice A n cap] 34) := ⟨_, rfl⟩
  have hb1 : Below w.heap.size w w1 := by rw [hw1]; exact one_box' _ _
  have hz1' : w1.heap.size = w.heap.size + 1 := by rw [hw1]; simp
  have hR1 : Blk w1 w.heap.size 34 #[.int .i64 (k : Int), .slice A n cap] := by rw [hw1]; exact Blk.new _ _ _
  obtain ⟨w2, hw2⟩ : ∃ w2, w2 = w1.alloc (.cells (madeCells #[.int .u8 0] (12 + n)) 5) := ⟨_, rfl⟩
  have hb2 : Below w1.heap.size w1 w2 := by rw [hw2]; exact one_box' _ _
  have ho2 : w2.ownsRow w1.heap.size 5 1 (.slice (some ⟨w1.heap.size, 0, none⟩) 0 (12 + n)) 0 [] := by
    rw [hw2]
    exact own_made w1 w1.heap.size 5 (.int .u8 0) (12 + n) rfl (by simp only [maxLen]; omega) (by omega)
  have HBX := Lib.hid (hR1)
  have HW1 := Lib.hid hw1
  have HW2 := Lib.hid hw2
  have HB2 := Lib.hid (Below.then hb1 hb2)
  have c1 : w1.cell? ⟨w.heap.size, 1, none⟩ = some (.slice A n cap) := hR1.cell 1
  have HB1 := Lib.hid hb1
  have HBW := Lib.hid hb2
  have hsz2 : w1.heap.size ≤ w2.heap.size := hb2.size
  have HZ1 := Lib.hid hz1'
  clear hw1 hw2 hb1 hR1 hb2 hz1'
  go_enter Tryd.func56, Tryd.ntmps56
  go_upto_region 1 with fail
  rw [← HW1.out]
  go_upto_region 2 with fail
  rw [← HW2.out]
  have hj2 := HJ.out.over HB2.out
  have HS2 := Lib.hid (sl_rd hj2)
  have HO2 := Lib.hid ho2
  have HSZ2 := Lib.hid hsz2
  clear ho2 hj2 c1 hmk
  go_upto_region 3 with (
     at_builtin
     refine wpList_append_any _ (by rfl) _ _ 22 (by rfl) w1.heap.size 5 i0 _ 1 1 u_bytes hi0 hz0 hz1 hz2 rfl (by omega) _ 0 [] (by rfl) HO2.out w2.heap.size _ 4 4 (bvs (sl s)) (by rfl) HS2.out (bvs_one _) (by simp only [maxLen]; omega) (by omega) HSZ2.out ?_
     intro v3 w3 ho3 hg3 _)
  have hb3 := below_app HO2.out hg3 HSZ2.out
  obtain ⟨A3, cap3, rfl, _, _⟩ := own_shape ho3
  have HO3 : Hid (w3.ownsRow w1.heap.size 5 1 (.slice A3 4 cap3) 4 (bvs (sl s))) := ho3
  have HB3 := Lib.hid (HBW.out.trans hb3)
  clear ho3 hg3 hb3 HO2 HS2 HSZ2 HB2
  have HBX3 := Lib.hid (HBX.out.below (g := w.heap.size) HB3.out (by have := HZ1.out; omega))
  have c0 : w3.cell? ⟨w.heap.size, 0, none⟩ = some (.int .i64 (k : Int)) := HBX3.out.cell 0
  have HK1 : Hid (bvs [UInt8.ofNat k] = [.int .u8 (k : Int)]) := Lib.hid (by rw [bvs_one_nat k, show (k : Int) % 256 = (k : Int) by omega])
  have hs3 := HB3.out.size
  go_upto_region 4 with (
     at_builtin
     refine app1 w3 (by rfl) _ _ 22 (by rfl) w1.heap.size 5 i0 _ 1 u_bytes hi0 hz0 hz1 hz2 rfl _ _ _ (by rfl) HO3.out _ (by rfl) (by rfl) (by simp only [maxLen]; omega) (by omega) (by omega) ?_
     intro v4 w4 ho4 hb4 _)
  obtain ⟨A4, cap4, rfl, _, _⟩ := own_shape ho4
  rw [← HK1.out, ← bvs_append] at ho4
  have HB4 := Lib.hid (HB3.out.trans hb4)
  have HBX4 := Lib.hid (HBX3.out.below (g := w.heap.size) hb4 (by have := HZ1.out; omega))
  have c1 : w4.cell? ⟨w.heap.size, 1, none⟩ = some (.slice A n cap) := HBX4.out.cell 1
  have HG := Lib.hid (big_any w1.heap.size A4 5 cap4 n 2 (sl s ++ [UInt8.ofNat k]) w4 ho4 (by omega) HB4.out.size (by omega) (by omega) (by omega))
  clear ho4 hb4 c0 HBX3 HO3 HB3 HK1 hs3
  go_upto_region 5 with (go_at_call 71; refine HG.out.mono ?_; rintro _ w5 ⟨A5, cap5, rfl, ho5, hb5⟩; have HO5 := Lib.hid ho5; have HB5 := Lib.hid (HB4.out.trans hb5); have HBX5 := Lib.hid (HBX4.out.below (g := w.heap.size) hb5 (by have := HZ1.out; omega)); clear ho5 hb5)
  clear HG HBX4 HB4 c1
  obtain ⟨g5, rfl, hbg5, _, hc5⟩ := own_open HO5.out (by omega)
  obtain ⟨y4, hy4⟩ : ∃ y, y = UInt8.ofNat k := ⟨_, rfl⟩
  obtain ⟨y5, hy5⟩ : ∃ y, y = UInt8.ofNat (n / 256) := ⟨_, rfl⟩
  obtain ⟨y6, hy6⟩ : ∃ y, y = UInt8.ofNat n := ⟨_, rfl⟩
  have d4 : w5.cell? ⟨g5, 4, none⟩ = some (.int .u8 (y4.toNat : Int)) := by rw [hy4]; exact hc5 4 _ (bvs_at (by simp [sl]))
  have d5 : w5.cell? ⟨g5, 5, none⟩ = some (.int .u8 (y5.toNat : Int)) := by rw [hy5]; exact hc5 5 _ (bvs_at (by simp [sl, beN, List.range_succ]))
  have d6 : w5.cell? ⟨g5, 6, none⟩ = some (.int .u8 (y6.toNat : Int)) := by rw [hy6]; exact hc5 6 _ (bvs_at (by simp [sl, beN, List.range_succ]))
  have HOD : Hid (w5.drew.ownsRow w1.heap.size 5 1 (.slice (some ⟨g5, 0, none⟩) 7 cap5) 7 (bvs (sl s ++ [UInt8.ofNat k] ++ beN n 2))) := HO5.out
  have hsd : w1.heap.size ≤ w5.drew.heap.size := HB5.out.size
  have HXR : Hid (([.int .u8 (bits .xor .u8 (bits .xor .u8 (bits .xor .u8 165 (y4.toNat : Int)) (y5.toNat : Int)) (y6.toNat : Int))] : List Value) = bvs [165 ^^^ UInt8.ofNat k ^^^ UInt8.ofNat (n / 256) ^^^ UInt8.ofNat n]) := Lib.hid (by
    show _ = ([.int .u8 ((165 ^^^ UInt8.ofNat k ^^^ UInt8.ofNat (n / 256) ^^^ UInt8.ofNat n).toNat : Int)] : List Value)
    rw [← hy4, ← hy5, ← hy6, ← xor_u8, ← xor_u8, ← xor_u8]
    rfl)
  have HCX : Hid (∀ (W : World) (A : Option Addr) (m c : Nat), W.ownsRow w1.heap.size 5 1 (.slice (some ⟨g5, 0, none⟩) m c) m (bvs (sl s ++ [UInt8.ofNat k] ++ beN n 2)) → m = 7 → W.cell? ⟨g5, 4, none⟩ = some (.int .u8 (y4.toNat : Int)) ∧ W.cell? ⟨g5, 5, none⟩ = some (.int .u8 (y5.toNat : Int)) ∧ W.cell? ⟨g5, 6, none⟩ = some (.int .u8 (y6.toNat : Int))) := Lib.hid fun W A m c ho hm => by
    obtain ⟨g, e, _, _, hc⟩ := own_open ho (by omega)
    injection e with e
    injection e with e
    subst e
    refine ⟨?_, ?_, ?_⟩
    · rw [hy4]; exact hc 4 _ (bvs_at (by simp [sl]))
    · rw [hy5]; exact hc 5 _ (bvs_at (by simp [sl, beN, List.range_succ]))
    · rw [hy6]; exact hc 6 _ (bvs_at (by simp [sl, beN, List.range_succ]))
  have HTX : Hid (bvs (sl s ++ [UInt8.ofNat k] ++ beN n 2) ++ bvs [165 ^^^ UInt8.ofNat k ^^^ UInt8.ofNat (n / 256) ^^^ UInt8.ofNat n] = bvs (sl s ++ four k n)) := Lib.hid (by
    rw [← bvs_append, four_split]
    simp only [List.append_assoc])
  have hb5 : Below w1.heap.size w1 w5.drew := HB5.out.trans (below_drewN (Below.refl _ w5) 1)
  obtain ⟨wd, hwd⟩ : ∃ wd, wd = w5.drew := ⟨_, rfl⟩
  rw [← hwd] at HOD hb5 hsd
  have HB5d := Lib.hid hb5
  have HWD := Lib.hid hwd
  have HSD := Lib.hid hsd
  clear hc5 HO5 hy4 hy5 hy6 d4 d5 d6 hb5 hwd hsd HBX5 HB5
  go_cut [5] from 42 to 42 (fun v wc => ∃ A8 c8, v = .slice A8 8 c8 ∧ Hid (wc.ownsRow w1.heap.size 5 1 (.slice A8 8 c8) 8 (bvs (sl s ++ four k n))) ∧ Hid (Below w1.heap.size w1 wc))
  case first =>
    refine wp_region_held_drew (S := fun W => W.cell? ⟨g5, 4, none⟩ = some (.int .u8 (y4.toNat : Int)) ∧ W.cell? ⟨g5, 5, none⟩ = some (.int .u8 (y5.toNat : Int)) ∧ W.cell? ⟨g5, 6, none⟩ = some (.int .u8 (y6.toNat : Int))) (by kernel_rfl) (by rw [← HWD.out]; exact HCX.out _ none _ _ HOD.out rfl) (fun hsw => ?_)
    rw [← HWD.out] at hsw ⊢
    refine wpAnyH_take (i := 0) (oi := ?oi0a) (v := ?v0a) ?hi0a (by kernel_rfl) (by kernel_rfl) (by kernel_rfl) ?hq0a ?hy0a (by assumption) ?rest0a
    case hi0a => (simp only [List.getElem?_toArray, List.getElem?_cons_zero]; rfl)
    case hy0a => (refine Or.inl ⟨by rfl, ?_⟩; intro w hSw; (try dsimp only at hSw); go_simp; try with_reducible rfl)
    case hq0a => exact fun _ _ _ h => h
    try simp only [Act.put, List.setIfInBounds_toArray, List.set_cons_zero, List.set_cons_succ]
    refine wpAnyH_take (i := 1) (oi := ?oi1a) (v := ?v1a) ?hi1a (by kernel_rfl) (by kernel_rfl) (by kernel_rfl) ?hq1a ?hy1a (by assumption) ?rest1a
    case hi1a => (simp only [List.getElem?_toArray, List.getElem?_cons_zero, List.getElem?_cons_succ]; rfl)
    case hy1a => (refine Or.inl ⟨by rfl, ?_⟩; intro w hSw; (try dsimp only at hSw); go_simp; try with_reducible rfl)
    case hq1a => exact fun _ _ _ h => h
    try simp only [Act.put, List.setIfInBounds_toArray, List.set_cons_zero, List.set_cons_succ]
    refine wpAnyH_take (i := 2) (oi := ?oi2a) (v := ?v2a) ?hi2a (by kernel_rfl) (by kernel_rfl) (by kernel_rfl) ?hq2a ?hy2a (by assumption) ?rest2a
    case hi2a => (simp only [List.getElem?_toArray, List.getElem?_cons_zero, List.getElem?_cons_succ]; rfl)
    case hy2a => (refine Or.inl ⟨by rfl, ?_⟩; intro w hSw; (try dsimp only at hSw); go_simp; try with_reducible rfl)
    case hq2a => exact fun _ _ _ h => h
    try simp only [Act.put, List.setIfInBounds_toArray, List.set_cons_zero, List.set_cons_succ]
    refine wpAnyH_take (i := 3) (oi := ?oi3a) (v := ?v3a) ?hi3a (by kernel_rfl) (by kernel_rfl) (by kernel_rfl) ?hq3a ?hy3a (by assumption) ?rest3a
    case hi3a => (simp only [List.getElem?_toArray, List.getElem?_cons_zero, List.getElem?_cons_succ]; rfl)
    case hy3a => (refine Or.inl ⟨by rfl, ?_⟩; intro w hSw; (try dsimp only at hSw); go_simp; try with_reducible rfl)
    case hq3a => exact fun _ _ _ h => h
    try simp only [Act.put, List.setIfInBounds_toArray, List.set_cons_zero, List.set_cons_succ]
    refine wpAnyH_take (i := 4) (oi := ?oi4a) (v := ?v4a) ?hi4a (by kernel_rfl) (by kernel_rfl) (by kernel_rfl) ?hq4a ?hy4a (by assumption) ?rest4a
    case hi4a => (simp only [List.getElem?_toArray, List.getElem?_cons_zero, List.getElem?_cons_succ]; rfl)
    case hy4a => (refine Or.inl ⟨by rfl, ?_⟩; intro w hSw; (try dsimp only at hSw); go_simp; try with_reducible rfl)
    case hq4a => exact fun _ _ _ h => h
    try simp only [Act.put, List.setIfInBounds_toArray, List.set_cons_zero, List.set_cons_succ]
    refine wpAnyH_take (i := 5) (oi := ?oi5a) (v := ?v5a) ?hi5a (by kernel_rfl) (by kernel_rfl) (by kernel_rfl) ?hq5a ?hy5a (by assumption) ?rest5a
    case hi5a => (simp only [List.getElem?_toArray, List.getElem?_cons_zero, List.getElem?_cons_succ]; rfl)
    case hy5a => (refine Or.inl ⟨by rfl, ?_⟩; intro w hSw; (try dsimp only at hSw); go_simp; try with_reducible rfl)
    case hq5a => exact fun _ _ _ h => h
    try simp only [Act.put, List.setIfInBounds_toArray, List.set_cons_zero, List.set_cons_succ]
    refine wpAnyH_take (i := 6) (oi := ?oi6a) (v := ?v6a) ?hi6a (by kernel_rfl) (by kernel_rfl) (by kernel_rfl) ?hq6a ?hy6a (by assumption) ?rest6a
    case hi6a => (simp only [List.getElem?_toArray, List.getElem?_cons_zero, List.getElem?_cons_succ]; rfl)
    case hy6a => (refine Or.inl ⟨by rfl, ?_⟩; intro w hSw; (try dsimp only at hSw); go_simp; try with_reducible rfl)
    case hq6a => exact fun _ _ _ h => h
    try simp only [Act.put, List.setIfInBounds_toArray, List.set_cons_zero, List.set_cons_succ]
    refine wpAnyH_take (i := 7) (oi := ?oi7a) (v := ?v7a) ?hi7a (by kernel_rfl) (by kernel_rfl) (by kernel_rfl) ?hq7a ?hy7a (by assumption) ?rest7a
    case hi7a => (simp only [List.getElem?_toArray, List.getElem?_cons_zero, List.getElem?_cons_succ]; rfl)
    case hy7a => (refine Or.inl ⟨by rfl, ?_⟩; intro w hSw; (try dsimp only at hSw); go_simp; try with_reducible rfl)
    case hq7a => exact fun _ _ _ h => h
    try simp only [Act.put, List.setIfInBounds_toArray, List.set_cons_zero, List.set_cons_succ]
    refine wpAnyH_take (i := 8) (oi := ?oi8a) (v := ?v8a) ?hi8a (by kernel_rfl) (by kernel_rfl) (by kernel_rfl) ?hq8a ?hy8a (by assumption) ?rest8a
    case hi8a => (simp only [List.getElem?_toArray, List.getElem?_cons_zero, List.getElem?_cons_succ]; rfl)
    case hy8a => (refine Or.inl ⟨by rfl, ?_⟩; intro w hSw; (try dsimp only at hSw); go_simp; try with_reducible rfl)
    case hq8a => exact fun _ _ _ h => h
    try simp only [Act.put, List.setIfInBounds_toArray, List.set_cons_zero, List.set_cons_succ]
    refine wpAnyH_take (i := 9) (oi := ?oi9a) (v := ?v9a) ?hi9a (by kernel_rfl) (by kernel_rfl) (by kernel_rfl) ?hq9a ?hy9a (by assumption) ?rest9a
    case hi9a => (simp only [List.getElem?_toArray, List.getElem?_cons_zero, List.getElem?_cons_succ]; rfl)
    case hy9a => (refine Or.inl ⟨by rfl, ?_⟩; intro w hSw; (try dsimp only at hSw); go_simp; try with_reducible rfl)
    case hq9a => exact fun _ _ _ h => h
    try simp only [Act.put, List.setIfInBounds_toArray, List.set_cons_zero, List.set_cons_succ]
    refine wpAnyH_take (i := 10) (oi := ?oi10a) (v := ?v10a) ?hi10a (by kernel_rfl) (by kernel_rfl) (by kernel_rfl) ?hq10a ?hy10a (by assumption) ?rest10a
    case hi10a => (simp only [List.getElem?_toArray, List.getElem?_cons_zero, List.getElem?_cons_succ]; rfl)
    case hy10a => (refine Or.inl ⟨by rfl, ?_⟩; intro w hSw; (try dsimp only at hSw); go_simp; try with_reducible rfl)
    case hq10a => exact fun _ _ _ h => h
    try simp only [Act.put, List.setIfInBounds_toArray, List.set_cons_zero, List.set_cons_succ]
    refine wpAnyH_take (i := 11) (oi := ?oi11a) (v := ?v11a) ?hi11a (by kernel_rfl) (by kernel_rfl) (by kernel_rfl) ?hq11a ?hy11a (by assumption) ?rest11a
    case hi11a => (simp only [List.getElem?_toArray, List.getElem?_cons_zero, List.getElem?_cons_succ]; rfl)
    case hy11a => (refine Or.inl ⟨by rfl, ?_⟩; intro w hSw; (try dsimp only at hSw); go_simp; try with_reducible rfl)
    case hq11a => exact fun _ _ _ h => h
    try simp only [Act.put, List.setIfInBounds_toArray, List.set_cons_zero, List.set_cons_succ]
    refine wpAnyH_take (i := 12) (oi := ?oi12a) (v := ?v12a) ?hi12a (by kernel_rfl) (by kernel_rfl) (by kernel_rfl) ?hq12a ?hy12a (by assumption) ?rest12a
    case hi12a => (simp only [List.getElem?_toArray, List.getElem?_cons_zero, List.getElem?_cons_succ]; rfl)
    case hy12a => (refine Or.inl ⟨by rfl, ?_⟩; intro w hSw; (try dsimp only at hSw); go_simp; try with_reducible rfl)
    case hq12a => exact fun _ _ _ h => h
    try simp only [Act.put, List.setIfInBounds_toArray, List.set_cons_zero, List.set_cons_succ]
    refine wpAnyH_ready (rs := [13]) (by kernel_rfl) (by simp) ?_
    refine AllReadyH.cons (o := ?o13a) ?ho13a (fun K hK => ?st13a) ?mo13a
    case ho13a => (simp only [List.getElem?_toArray, List.getElem?_cons_zero, List.getElem?_cons_succ]; rfl)
    · skip
      go_simp
      refine hK.out _ _ (HCX.out _ none _ _ (own_over HOD.out (one_box' wd _)) rfl) (fun _ => ?_)
      clear hK K
      try simp only [Act.put, List.setIfInBounds_toArray, List.set_cons_zero, List.set_cons_succ]
      refine wpAnyH_ready (rs := [14]) (by kernel_rfl) (by simp) ?_
      refine AllReadyH.cons (o := ?o14b) ?ho14b (fun K hK => ?st14b) ?mo14b
      case ho14b => (simp only [List.getElem?_toArray, List.getElem?_cons_zero, List.getElem?_cons_succ]; rfl)
      · skip
        refine step_app1k wd (by rfl) _ _ 22 (by rfl) w1.heap.size 5 i0 _ 1 u_bytes hi0 hz0 hz1 hz2 rfl _ _ _ (by rfl) HOD.out _ (by rfl) (by rfl) (by simp only [maxLen]; omega) (by omega) HSD.out ?_
        intro v6 w6 ho6 hk6 hb6
        rw [HXR.out, HTX.out] at ho6
        obtain ⟨A6, cap6, rfl, _, _⟩ := own_shape ho6
        have HE := Lib.hid (And.intro ho6 (HB5d.out.trans hb6))
        refine hK.out _ _ (HCX.out _ none _ _ hk6 rfl) (fun _ => ?_)
        clear hK K ho6 hk6 hb6
        try simp only [Act.put, List.setIfInBounds_toArray, List.set_cons_zero, List.set_cons_succ]
        refine wpAnyH_take (i := 15) (oi := ?oi15b) (v := ?v15b) ?hi15b (by kernel_rfl) (by kernel_rfl) (by kernel_rfl) ?hq15b ?hy15b (by assumption) ?rest15b
        case hi15b => (simp only [List.getElem?_toArray, List.getElem?_cons_zero, List.getElem?_cons_succ]; rfl)
        case hy15b => (refine Or.inl ⟨by rfl, ?_⟩; intro w hSw; (try dsimp only at hSw); go_simp; try with_reducible rfl)
        case hq15b => exact fun _ _ _ h => h
        try simp only [Act.put, List.setIfInBounds_toArray, List.set_cons_zero, List.set_cons_succ]
        refine wpAnyH_done (by kernel_rfl) ?_ _
        go_wp2_with fail
        go_meet
        exact ⟨_, _, rfl, Lib.hid HE.out.1, Lib.hid HE.out.2⟩
      exact AllReadyH.nil
    exact AllReadyH.nil
  obtain ⟨A6, cap6, rfl, HO6, HB6⟩ := hcut
  clear HXR HOD HCX HTX HWD HSD HB5d
  have HBX6 := Lib.hid (HBX.out.below (g := w.heap.size) HB6.out (by have := HZ1.out; omega))
  have c1 : wc.cell? ⟨w.heap.size, 1, none⟩ = some (.slice A n cap) := HBX6.out.cell 1
  have HWQ : Hid (Below w.heap.size w wc) := Lib.hid (HB1.out.trans (HB6.out.mono HB1.out.size))
  have HR6 := Lib.hid (HR.out.over HWQ.out)
  have hs6 := HB6.out.size
  go_upto_region 7 with (
     at_builtin
     refine wpList_append_any _ (by rfl) _ _ 22 (by rfl) w1.heap.size 5 i0 _ 1 1 u_bytes hi0 hz0 hz1 hz2 rfl (by omega) _ 8 (bvs (sl s ++ four k n)) (by rfl) HO6.out wc.heap.size _ n cap (bvs body) (by rfl) HR6.out (bvs_one _) (by simp only [maxLen]; omega) (by omega) hs6 ?_
     intro v7 w7 ho7 hg7 _)
  have hb7 := below_app HO6.out hg7 hs6
  obtain ⟨A7, cap7, rfl, _, _⟩ := own_shape ho7
  have HFH : Hid (sl s ++ four k n ++ body = sl s ++ frameH ⟨(k : Int), body⟩) := Lib.hid (by rw [frameH, List.append_assoc]; simp [HL.out])
  rw [← bvs_append, HFH.out] at ho7
  have HB7 := Lib.hid (HB6.out.trans hb7)
  have HW7 : Hid (Below w.heap.size w w7) := Lib.hid (HB1.out.trans (HB7.out.mono HB1.out.size))
  have HT7 := Lib.hid (HT.out.below HW7.out)
  have HO7 := Lib.hid ho7
  have HSM := Lib.hid (Sum_any A7 (8 + n) cap7 w7.heap.size (sl s ++ frameH ⟨(k : Int), body⟩) w7 (Rd.of_own ho7) (by omega) HT7.out)
  have hcr := Crc.crc_lt (sl s ++ frameH ⟨(k : Int), body⟩)
  have HG := Lib.hid (big_any w1.heap.size A7 (8 + n) cap7 (Crc.crc (sl s ++ frameH ⟨(k : Int), body⟩)) 4 (sl s ++ frameH ⟨(k : Int), body⟩) w7 ho7 (by omega) HB7.out.size (by omega) (by omega) (by omega))
  clear ho7 hg7 hb7 HO6 HB6 HBX6 HWQ HR6 hs6 c1
  obtain ⟨cr, hcr0⟩ : ∃ cr, cr = Crc.crc (sl s ++ frameH ⟨(k : Int), body⟩) := ⟨_, rfl⟩
  rw [← hcr0] at HSM HG hcr
  have HCR := Lib.hid hcr0
  clear hcr0
  go_upto_region 8 with (first | (go_at_call 72; refine HSM.out.mono ?_; rintro _ w7' ⟨rfl, rfl⟩) | (go_at_call 71; refine HG.out.mono ?_; rintro _ w8 ⟨A8, cap8, rfl, ho8, hb8⟩))
  clear HSM HG HT7 HO7
  obtain ⟨s', hs'⟩ := sl_of (beN_length cr 4)
  have HS' := Lib.hid hs'
  have HFB : Hid (sl s ++ frameB (sl s) ⟨(k : Int), body⟩ = sl s ++ frameH ⟨(k : Int), body⟩ ++ beN cr 4) := Lib.hid (by rw [frameB, ← HCR.out, List.append_assoc])
  have hLL : (sl s ++ frameH ⟨(k : Int), body⟩).length = 8 + n := by rw [List.length_append, frameH_length]; simp [sl, HL.out]; omega
  rw [← HFB.out] at ho8
  have e12 : 8 + n + 4 = 12 + n := by omega
  rw [e12] at ho8
  obtain ⟨g8, rfl, hg8, hle8, hc8⟩ := own_open ho8 (by omega)
  have hx : ∀ (i : Nat) (u : UInt8), (sl s')[i]? = some u → w8.cell? ⟨g8, 8 + n + i, none⟩ = some (.int .u8 (u.toNat : Int)) := fun i u hu => hc8 _ _ (bvs_at (by
    rw [HFB.out, List.getElem?_append_right (by omega), hLL, Nat.add_sub_cancel_left, HS'.out]
    exact hu))
  have x0 : w8.cell? ⟨g8, 8 + n, none⟩ = some (.int .u8 (s'.1.toNat : Int)) := hx 0 _ rfl
  have x1 : w8.cell? ⟨g8, 8 + n + 1, none⟩ = some (.int .u8 (s'.2.1.toNat : Int)) := hx 1 _ rfl
  have x2 : w8.cell? ⟨g8, 8 + n + 2, none⟩ = some (.int .u8 (s'.2.2.1.toNat : Int)) := hx 2 _ rfl
  have x3 : w8.cell? ⟨g8, 8 + n + 3, none⟩ = some (.int .u8 (s'.2.2.2.toNat : Int)) := hx 3 _ rfl
  have HO8 := Lib.hid ho8
  have HB8 := Lib.hid (HB7.out.trans hb8)
  have HW8 : Hid (Below w.heap.size w w8) := Lib.hid (HB1.out.trans (HB8.out.mono HB1.out.size))
  have hj8 := HJ.out.over HW8.out
  have f3 := hj8.frozen 3
  have f4 := hj8.frozen 4
  have f5 := hj8.frozen 5
  have f6 := hj8.frozen 6
  have j3 : w8.cell? ⟨jg, 3, none⟩ = some (.int .u8 (s.1.toNat : Int)) := hj8.cell 3
  have j4 : w8.cell? ⟨jg, 4, none⟩ = some (.int .u8 (s.2.1.toNat : Int)) := hj8.cell 4
  have j5 : w8.cell? ⟨jg, 5, none⟩ = some (.int .u8 (s.2.2.1.toNat : Int)) := hj8.cell 5
  have j6 : w8.cell? ⟨jg, 6, none⟩ = some (.int .u8 (s.2.2.2.toNat : Int)) := hj8.cell 6
  have e4 : 12 + n - 4 = 8 + n := by omega
  have e5 : 12 + n - (8 + n) = 4 := by omega
  have HJ8 := Lib.hid hj8
  clear ho8 hb8 hc8 hx hs' hj8 hLL
  simp only [e12]
  have hat := at4 ⟨g8, 8 + n, none⟩ (cap8 - (8 + n)) w8
  go_upto_region 9 with fail
  have hc9 := (((((Chg.refl (fun x => x = jg) w8).setCell (p := ⟨jg, 3, none⟩) (.inl rfl) (.int .u8 (s'.1.toNat : Int))).setCell (p := ⟨jg, 4, none⟩) (.inl rfl) (.int .u8 (s'.2.1.toNat : Int))).setCell (p := ⟨jg, 5, none⟩) (.inl rfl) (.int .u8 (s'.2.2.1.toNat : Int))).setCell (p := ⟨jg, 6, none⟩) (.inl rfl) (.int .u8 (s'.2.2.2.toNat : Int)))
  have hj9 : Blk ((((w8.setCell ⟨jg, 3, none⟩ (.int .u8 (s'.1.toNat : Int))).setCell ⟨jg, 4, none⟩ (.int .u8 (s'.2.1.toNat : Int))).setCell ⟨jg, 5, none⟩ (.int .u8 (s'.2.2.1.toNat : Int))).setCell ⟨jg, 6, none⟩ (.int .u8 (s'.2.2.2.toNat : Int))) jg 96 (jcs fl gn sz s') := (((HJ8.out.set_ 3 _).set_ 4 _).set_ 5 _).set_ 6 _
  generalize World.setCell _ _ _ = w9 at hc9 hj9 ⊢
  have h48 : 4 ≤ cap8 := by omega
  have h4n : 4 ≤ 12 + n := by omega
  go_wp2
  go_ret
  have hne : ∀ g, (Value.slice (some ⟨g8, 0, none⟩) (12 + n) cap8).ownBlock = some g → ¬ g = jg := fun g hg e => by
    have h1 := (own_block_lt HO8.out hg).2.1
    have h2 := HZ1.out
    omega
  refine ⟨g8, cap8 - 4, s', by rfl, ?_, ?_, hj9, ?_⟩
  · rw [Nat.sub_add_cancel h48]
    exact own_base (own_chg HO8.out hc9 hne) (by have := HZ1.out; omega)
  · rw [frameB, last4_append (beN_length _ _), ← HCR.out]
    exact HS'.out
  · exact (Chg.of_below HW8.out (fun k => k = jg)).trans hc9
end Go.Proofs.YtpkdalpjfcopbaaDoor
