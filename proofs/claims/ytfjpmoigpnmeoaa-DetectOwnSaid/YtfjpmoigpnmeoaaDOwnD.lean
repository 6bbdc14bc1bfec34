/-
  DetectOwn: the lists that were handed out, all of them, as they stand.
-/
import Derived.Test.YtfjpmoigpnmeoaaDOwnC
namespace Go.Proofs.Ytfjpmoigpnmeoaa
open Go.RowKit
structure Hnd where
  A : Option Addr
  n : Nat
  cap : Nat
  g1 : Nat
  g2 : Nat
  c1 : Nat
  c2 : Nat
  mrk : Int
def Hnd.row (h : Hnd) : List Value := [.slice h.A h.n h.cap, .slice (some ⟨h.g1, 0, none⟩) (h.n + 1) h.c1, .slice (some ⟨h.g2, 0, none⟩) (h.n + 1) h.c2, .int .i64 h.mrk]
def rowsH (K : List Hnd) : List Value := (K.map Hnd.row).flatten
theorem rowsH_app (K : List Hnd) (h : Hnd) : rowsH (K ++ [h]) = rowsH K ++ h.row := by simp [rowsH]
theorem rowH_one (h : Hnd) : ∀ u ∈ h.row, u.oneCell' = true := by
  intro u hu
  simp only [Hnd.row, List.mem_cons, List.not_mem_nil, or_false] at hu
  rcases hu with rfl | rfl | rfl | rfl <;> rfl
theorem info_handed : (Try.prog.info? 74).map (fun i => (i.zero, i.size, i.bytes)) = some (some (.agg #[.slice none 0 0, .slice none 0 0, .slice none 0 0, .int .i64 0]), 4, 80) := by kernel_rfl
theorem u_handed : Try.prog.underlying 70 = some (.slice 74) := Try.underlying70
theorem handed_at {w : World} {B : Nat} {e : TypeId} {v : Value} {K : List Hnd} {j : Nat} (h : w.ownsRow B e 4 v K.length (rowsH K)) (hj : j < K.length) :
    ∃ g cap x, v = .slice (some ⟨g, 0, none⟩) K.length cap ∧ x ∈ K ∧ w.cell? ⟨g, j * 4, none⟩ = some (.slice x.A x.n x.cap) ∧ w.cell? ⟨g, j * 4 + 1, none⟩ = some (.slice (some ⟨x.g1, 0, none⟩) (x.n + 1) x.c1) ∧ w.cell? ⟨g, j * 4 + 2, none⟩ = some (.slice (some ⟨x.g2, 0, none⟩) (x.n + 1) x.c2) ∧ w.cell? ⟨g, j * 4 + 3, none⟩ = some (.int .i64 x.mrk) := by
  obtain ⟨g, cap, cur, rfl, hg, hB, hle, hcm, hsz, htk⟩ := own_parts h (by omega)
  have hall := flat_at (z := 4) (es := K.map Hnd.row) (fun x hx => by
    simp only [List.mem_map] at hx
    obtain ⟨y, _, rfl⟩ := hx
    rfl) j
  have hr := h.cells (g := g) rfl
  have hx : K[j]? = some K[j] := List.getElem?_eq_getElem hj
  have hc : ∀ (i : Nat) (u : Value), i < 4 → (K[j]).row[i]? = some u → w.cell? ⟨g, j * 4 + i, none⟩ = some u := fun i u hi hu => by
    have h1 := hr (j * 4 + i) u ((hall i hi).trans (by rw [List.getElem?_map, hx]; exact hu))
    rw [addr_add, Nat.zero_add] at h1
    exact h1
  exact ⟨g, cap, K[j], rfl, List.getElem_mem hj, hc 0 _ (by omega) rfl, hc 1 _ (by omega) rfl, hc 2 _ (by omega) rfl, hc 3 _ (by omega) rfl⟩
/-- One that was handed out: it stands, and is none of the detectors'. -/
structure HndOk (w : World) (B : Nat) (F : Nat → Prop) (h : Hnd) : Prop where
  at_ : HandedAt w B h.A h.n h.cap h.g1 h.g2 h.c1 h.c2 h.mrk
  f0 : ∀ g, (Value.slice h.A h.n h.cap).ownBlock = some g → ¬ F g
  f1 : ¬ F h.g1
  f2 : ¬ F h.g2
  n : h.n ≤ 1000
  mrk : 0 ≤ h.mrk ∧ h.mrk ≤ 10000
section
variable {w w' w0 : World} {B : Nat} {F F' : Nat → Prop} {h : Hnd} {K : List Hnd} {c : Cfg} {D Kk : Nat} {l l' : List Ev} {v v' : Value} {k : Nat}
theorem HndOk.moved (h1 : HndOk w B F h) (hm : Moved w w' F F') : HndOk w' B F' h := by
  have hlt : ∀ g, g < w.heap.size → ¬ F g → ¬ F' g := fun g hg hn hf => by
    rcases hm.1 g hf with h2 | h2
    · exact hn h2
    · omega
  exact ⟨h1.at_.chg hm.2 h1.f0 h1.f1 h1.f2, fun g hg => hlt g (own_block_lt h1.at_.got hg).1 (h1.f0 g hg), hlt _ h1.at_.b1.2 h1.f1, hlt _ h1.at_.b2.2 h1.f2, h1.n, h1.mrk⟩
theorem HndOk.over (h1 : HndOk w B F h) (hb : Below w.heap.size w w') : HndOk w' B F h := h1.moved (Moved.of_below F hb)
/-- The row of the handed ones turns. -/
theorem HndOk.row_ (h1 : HndOk w B F h) {row : Option Nat} (hg : w.grownBy w' row) (hr : ∀ g, row = some g → IsT w 74 g) : HndOk w' B F h := by
  have hne : ∀ g, IsT w 3 g → ¬ some g = row := fun g h2 e => absurd (h2.eq_ (hr g e.symm)) (by decide)
  exact ⟨h1.at_.chg (Chg.of_grown hg) (fun g h2 => hne g (own_isT h1.at_.got h2)) (hne _ h1.at_.t1) (hne _ h1.at_.t2), h1.f0, h1.f1, h1.f2, h1.n, h1.mrk⟩
theorem HandedAt.base {A : Option Addr} {n cap g1 g2 c1 c2 : Nat} {mk : Int} {B' : Nat} (h : HandedAt w B A n cap g1 g2 c1 c2 mk) (hB : B' ≤ B) : HandedAt w B' A n cap g1 g2 c1 c2 mk :=
  ⟨own_base h.got hB, ⟨Nat.le_trans hB h.b1.1, h.b1.2⟩, ⟨Nat.le_trans hB h.b2.1, h.b2.2⟩, h.c1, h.c2, h.t1, h.t2⟩
/-- The statement's state: both detectors, what was handed out, the row of it. -/
structure OwnSt (w0 w : World) (B : Nat) (F : Nat → Prop) (c : Cfg) (D Kk : Nat) (l : List Ev) (K : List Hnd) (v : Value) (k : Nat) : Prop where
  pair : Pair w F c D Kk l
  fw : ∀ j, F j → w0.heap.size ≤ j
  len : l.length ≤ k
  below : Below w0.heap.size w0 w
  all : ∀ h ∈ K, HndOk w B F h
  out : w.ownsRow B 74 4 v K.length (rowsH K)
  outF : ∀ g, v.ownBlock = some g → ¬ F g
  base : w0.heap.size ≤ B ∧ B ≤ w.heap.size
theorem OwnSt.moved {k' : Nat} (h : OwnSt w0 w B F c D Kk l K v k) (hm : Moved w w' F F') (hp : Pair w' F' c D Kk l') (hl : l'.length ≤ k') : OwnSt w0 w' B F' c D Kk l' K v k' := by
  have hs := hm.2.size
  have hb := h.base
  refine ⟨hp, fun j hj => ?_, hl, h.below.trans (hm.2.to_below (by omega) h.fw), fun x hx => (h.all x hx).moved hm, own_chg h.out hm.2 h.outF, fun g hg hf => ?_, hb.1, by omega⟩
  · rcases hm.1 j hj with h2 | h2
    · exact h.fw j h2
    · omega
  · rcases hm.1 g hf with h2 | h2
    · exact h.outF g hg h2
    · have := (own_block_lt h.out hg).1; omega
theorem OwnSt.over (h : OwnSt w0 w B F c D Kk l K v k) (hb : Below w.heap.size w w') : OwnSt w0 w' B F c D Kk l K v k := h.moved (Moved.of_below F hb) (h.pair.below hb) h.len
theorem OwnSt.up {k' : Nat} (h : OwnSt w0 w B F c D Kk l K v k) (hk : k ≤ k') : OwnSt w0 w B F c D Kk l K v k' := ⟨h.pair, h.fw, by have := h.len; omega, h.below, h.all, h.out, h.outF, h.base⟩
theorem Pair.lt (h : Pair w F c D Kk l) : ∀ j, F j → j < w.heap.size := h.elim fun _ h => h.elim fun _ h => h.2.2.2.2.2
theorem OwnSt.push {x : Hnd} (h : OwnSt w0 w B F c D Kk l K v k) (hx : HndOk w B F x) (hg : w.grownBy w' v.ownBlock) (ho : w'.ownsRow B 74 4 v' (K.length + 1) (rowsH K ++ x.row)) (hat : v'.ownBlock = v.ownBlock ∨ v'.ownBlock = some (w.heap.size + 1)) : OwnSt w0 w' B F c D Kk l (K ++ [x]) v' k := by
  have hs := hg.size
  have hb := h.base
  have hT : ∀ g, v.ownBlock = some g → IsT w 74 g := fun g hv => own_isT h.out hv
  have hvb : ∀ g, v.ownBlock = some g → B ≤ g := fun g hv => (own_block_lt h.out hv).2.1
  refine ⟨h.pair.chg (Chg.of_grown hg) fun j hj e => h.outF j e.symm hj, h.fw, h.len, h.below.trans ((Chg.of_grown hg).to_below (by omega) fun j e => ?_), fun y hy => ?_, ?_, fun g hv hf => ?_, hb.1, by omega⟩
  · have := hvb j e.symm; omega
  · rcases List.mem_append.1 hy with h2 | h2
    · exact (h.all y h2).row_ hg hT
    · simp only [List.mem_cons, List.not_mem_nil, or_false] at h2
      subst h2
      exact hx.row_ hg hT
  · rw [List.length_append, rowsH_app]; exact ho
  · rcases hat with e | e
    · rw [e] at hv; exact h.outF g hv hf
    · rw [e] at hv
      injection hv with hv
      have := h.pair.lt g hf; omega
/-- What marked has left of a list that a call gave: one more. -/
theorem OwnSt.given {A : Option Addr} {n cap g1 g2 c1 c2 : Nat} {mk : Int} {w1 : World} {B1 : Nat} (h : OwnSt w0 w B F c D Kk l K v k) (hB : w.heap.size ≤ B1) (hb : Below w.heap.size w w1) (hh : HandedAt w1 B1 A n cap g1 g2 c1 c2 mk) (hn : n ≤ 1000) (hm : 0 ≤ mk ∧ mk ≤ 10000) : HndOk w1 B F ⟨A, n, cap, g1, g2, c1, c2, mk⟩ := by
  have hF := h.pair.lt
  have hbb := h.base
  refine ⟨hh.base (by omega), fun g hg hf => ?_, fun hf => ?_, fun hf => ?_, hn, hm⟩
  · have := hF g hf; have := (own_block_lt hh.got hg).2.1; omega
  · have := hF g1 hf; have := hh.b1.1; omega
  · have := hF g2 hf; have := hh.b2.1; omega
end
/-- The document's list behind its first. -/
theorem Rd.tailI {w : World} {B n : Nat} {A : Option Addr} {t : Int} {l : List Int} {cap : Nat} (h : RdI w B A (n + 1) (t :: l)) (hc : n + 1 ≤ cap) : RdI w B (if cap = 1 then A else A.map fun a => { a with off := a.off + 1, spot := none }) n l := by
  have hl := h.lenI
  simp only [List.length_cons] at hl
  refine ⟨by rw [ivs_length]; omega, fun hn => ?_⟩
  obtain ⟨b, off, rfl, hb, hcell⟩ := h.at_ (by omega)
  rw [if_neg (by omega)]
  refine ⟨b, off + 1, rfl, hb, fun j u hu => ?_⟩
  rw [Nat.add_assoc, Nat.add_comm 1 j]
  exact hcell _ u (by simpa [ivs] using hu)
end Go.Proofs.Ytfjpmoigpnmeoaa
