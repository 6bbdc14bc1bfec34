/-
  The outright laws' desk: what a call's writes do to the disk.
-/
import Derived.Test.YtpkdalpjfcopbaaDoorMDeskR
namespace Go.Proofs.YtpkdalpjfcopbaaDoor
open Go.RowKit
/-- What a call's writes do to the disk. -/
structure Writes (j : JP) (f : Fls) (j' : JP) (ws : List Wr) : Prop where
  full : ∀ m : Int, m < 0 ∨ ((costW ws : Nat) : Int) ≤ m → Good (apD ws m f) j'
  torn : ∀ m : Int, 0 ≤ m → m < ((costW ws : Nat) : Int) → Half (apD ws m f) j.file j.fi
  last : lastF ws (j.file : Int) = (j'.file : Int)
  side : lastF ws (j.file : Int) = (j.file : Int) ∨ lastF ws (j.file : Int) = ((1 - j.file : Nat) : Int)
  gen : j'.gen ≤ j.gen + 1
  cost : costW ws ≤ 65537
theorem append_writes {j : JP} {f : Fls} {r : Rc} (h : Good f j) (hr : r.ok = true) (hl : j.text.length + 8 + r.body.length ≤ 65536) : Writes j f ⟨j.file, j.gen, j.count, j.recs ++ [r]⟩ [⟨(j.file : Int), false, frameB (last4 j.text) r⟩] :=
  ⟨fun _ hm => h.more hr hl hm, fun _ h0 h1 => h.torn hr hl h0 h1, rfl, .inl rfl, Nat.le_add_right _ _, by rw [cost_more h.fine.file, frameB_length]; omega⟩
theorem compact_writes {j : JP} {f : Fls} {r : Rc} (h : Good f j) (hr : r.ok = true) (hg : j.gen ≤ 1125899906842000) : Writes j f ⟨1 - j.file, j.gen + 1, 1, [r]⟩ [⟨((1 - j.file : Nat) : Int), true, textB (j.gen + 1) 1 [r]⟩] := by
  obtain ⟨k, _, _, _, hb⟩ := Rc.ok_k hr
  have hi := h.fine.file
  have hlen : (textB (j.gen + 1) 1 [r]).length ≤ 65536 := by rw [textB_length]; simp [bodies]; omega
  have hfine : (JP.mk (1 - j.file) (j.gen + 1) [r].length [r]).Fine := ⟨by show 1 - j.file ≤ 1; omega, ⟨by show 1 ≤ j.gen + 1; omega, by show j.gen + 1 ≤ _; omega⟩, by show 1 < _; omega, hlen, fun x hx => by simp at hx; rw [hx]; exact hr⟩
  have hgen : j.fi.gen < j.gen + 1 := by show j.gen < _; omega
  refine ⟨fun m hm => h.half.begun (g := j.gen + 1) (l := [r]) hfine hgen (by omega) hm, fun m h0 h1 => h.half.torn (g := j.gen + 1) (l := [r]) hfine hgen (by omega) h0 h1, rfl, .inr rfl, Nat.le_refl _, ?_⟩
  rw [cost_start (by omega)]
  omega
theorem RcB.rowsN {w : World} {F : Nat → Prop} {A : Option Addr} {cap : Nat} {K : List Rk} {recs : List Rc} (h : RcB w F (.slice A recs.length cap) K) (hm : K.map Rk.rc = recs) : Rd w w.heap.size 2 A recs.length (rowsK K) := by
  subst hm
  rw [List.length_map] at h ⊢
  exact h.rows
theorem recs_le {f : Fls} {j : JP} (h : Good f j) : j.recs.length ≤ 65536 := by
  have h1 := h.fine.len
  have h2 : j.text.length = 18 + bodies j.recs := textB_length _ _ _
  have h3 := bodies_le j.recs
  omega
theorem desk_nib {w w' : World} {tg jg : Nat} (h : Nibs w) (hn : 0 ≠ tg ∧ 0 ≠ jg) (hc : Chg (fun i => i = tg ∨ i = jg) w w') : Nibs w' := h.chg hc fun e => e.elim hn.1 hn.2
theorem own_oneB {w : World} {g base : Nat} {a b : Value} (h : Blk w g 34 #[a, b]) (hb : base ≤ g) : w.ownsRow base 34 2 (.slice (some ⟨g, 0, none⟩) 1 1) 1 [a, b] :=
  ⟨by simp, .inr ⟨g, 1, _, rfl, hb, h, by omega, by simp [maxLen], by simp, by simp⟩⟩
end Go.Proofs.YtpkdalpjfcopbaaDoor
