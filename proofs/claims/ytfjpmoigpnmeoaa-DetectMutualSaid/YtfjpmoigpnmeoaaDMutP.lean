/-
  DetectMutual: the plain law: two nodes, what each has told, and what follows. No program text.
-/
import Derived.Test.YtfjpmoigpnmeoaaDPure
namespace Go.Proofs.Ytfjpmoigpnmeoaa
/-- The two sides. -/
def Opp (m y : Nat) : Prop := (m = 0 ∧ y = 1) ∨ (m = 1 ∧ y = 0)
theorem Opp.symm {m y : Nat} (h : Opp m y) : Opp y m := by unfold Opp at *; omega
theorem Opp.ne {m y : Nat} (h : Opp m y) : m ≠ y := by unfold Opp at h; omega
def updN {α : Type} (f : Nat → α) (m : Nat) (x : α) : Nat → α := fun j => if j = m then x else f j
theorem updN_same {α : Type} (f : Nat → α) (m : Nat) (x : α) : updN f m x m = x := by simp [updN]
theorem updN_other {α : Type} (f : Nat → α) {m j : Nat} (x : α) (h : j ≠ m) : updN f m x j = f j := by simp [updN, h]
structure Mst where
  d : Nat → DSt
  told : Nat → List (Int × List Int)
  said : Nat → Bool
  left : Bool
def Mst.new (c : Nat → Cfg) : Mst := ⟨fun m => DSt.new (c m), fun _ => [], fun _ => false, false⟩
/-- A tick and its beat. -/
def sayT (c : Nat → Cfg) (s : Mst) (m y : Nat) : Mst :=
  { d := updN s.d m (tickD (s.d m)), told := updN s.told m (s.told m ++ [((tickD (s.d m)).tick, hearsL (c m) (tickD (s.d m)))]),
    said := updN s.said m (s.said m || (hearsAt (c m) (tickD (s.d m)) y == (c y).inc)), left := s.left }
/-- A beat of the other is heard. -/
def sayH (c : Nat → Cfg) (s : Mst) (m y k : Nat) : Mst :=
  match (s.told y)[k]? with
  | some b => { s with d := updN s.d m (hearD (c m) (s.d m) (y : Int) (c y).inc b.1 b.2) }
  | none => s
def sayL (s : Mst) (m : Nat) : Mst := { s with d := updN s.d m (leaveD (s.d m)), left := true }
structure TwoC (c : Nat → Cfg) : Prop where
  ok : ∀ m, m < 2 → (c m).Ok
  n : ∀ m, m < 2 → (c m).n = 2
  self : ∀ m, m < 2 → (c m).self = m
structure MI (c : Nat → Cfg) (s : Mst) (N : Nat) : Prop where
  tk : ∀ m, m < 2 → (s.d m).tick = ((s.told m).length : Int)
  ok : ∀ m, m < 2 → (s.d m).Ok (c m) N
  kn : ∀ m y, Opp m y → (((s.d m).pr y).known = 0 ∧ ((s.d m).pr y).heard = false ∧ ((s.d m).pr y).mutl = false) ∨ ((s.d m).pr y).known = (c y).inc
  mu : ∀ m y, Opp m y → ((s.d m).pr y).mutl = true → s.said y = true ∧ ((s.d y).pr m).known = (c m).inc
  be : ∀ m y, Opp m y → ∀ k b, (s.told m)[k]? = some b → b.1 = ((k + 1 : Nat) : Int) ∧ b.2.length = 2 ∧ (∀ v ∈ b.2, 0 ≤ v ∧ v ≤ 4611686018427387904) ∧ (b.2.getD y 0 = (c y).inc → s.said m = true ∧ ((s.d m).pr y).known = (c y).inc)
  la : ∀ m y, Opp m y → ((s.d m).pr y).last ≤ ((s.told y).length : Int)
  lf : s.left = false → ∀ m, m < 2 → (s.d m).left = false
theorem lt2 {m y : Nat} (h : Opp m y) : m < 2 ∧ y < 2 := by unfold Opp at h; omega
theorem MI.new {c : Nat → Cfg} (hc : TwoC c) (N : Nat) : MI c (Mst.new c) N := by
  refine ⟨fun m _ => rfl, fun m hm => DSt.new_ok (hc.ok m hm) N, fun m y h => .inl ⟨rfl, rfl, rfl⟩, fun m y h e => Bool.noConfusion e, fun m y h k b e => ?_, fun m y h => ?_, fun _ m _ => rfl⟩
  · simp [Mst.new] at e
  · simp [Mst.new, DSt.new, Pr.new]
theorem hearsL_at {c : Cfg} (d : DSt) {q : Nat} (h : q < c.n) : (hearsL c d).getD q 0 = hearsAt c d q := by simp [hearsL, List.getD, h]
theorem hears_bd {c : Cfg} {d : DSt} {N : Nat} (hc : c.Ok) (h : d.Ok c N) : ∀ v ∈ hearsL c d, 0 ≤ v ∧ v ≤ 4611686018427387904 := by
  intro v hv
  simp only [hearsL, List.mem_map] at hv
  obtain ⟨q, _, rfl⟩ := hv
  obtain ⟨_, _, _, h1, h2, _⟩ := hc
  have h3 := h.p q
  unfold hearsAt
  have := h3.k0
  have := h3.k1
  repeat' split
  all_goals omega
section
variable {c : Nat → Cfg} {s : Mst} {N m y : Nat}
theorem tick_pr (d : DSt) (q : Nat) : ((tickD d).pr q).known = (d.pr q).known ∧ ((tickD d).pr q).mutl = (d.pr q).mutl ∧ ((tickD d).pr q).last = (d.pr q).last ∧ ((d.pr q).heard = false → ((tickD d).pr q).heard = false) := by
  unfold tickD tickP
  dsimp only
  split
  · rename_i h
    exact ⟨rfl, rfl, rfl, fun e => by rw [h] at e; cases e⟩
  · exact ⟨rfl, rfl, rfl, fun e => e⟩
/-- What an own step keeps of what is known. -/
theorem upd_pr (h : Opp m y) (x : DSt) (i j : Nat) (_hij : Opp i j) : (i = m ∧ updN s.d m x i = x) ∨ (i ≠ m ∧ updN s.d m x i = s.d i) := by
  by_cases e : i = m
  · subst e; exact .inl ⟨rfl, updN_same _ _ _⟩
  · exact .inr ⟨e, updN_other _ _ e⟩
theorem MI.sayT (h : MI c s N) (hc : TwoC c) (ho : Opp m y) (hl : (s.told m).length < 4611686018427387904) : MI c (sayT c s m y) N := by
  obtain ⟨hm, hy⟩ := lt2 ho
  have hT : ∀ q, _ := fun q => tick_pr (s.d m) q
  have hd : ∀ i, i < 2 → ∀ q, (((Go.Proofs.Ytfjpmoigpnmeoaa.sayT c s m y).d i).pr q).known = ((s.d i).pr q).known ∧ (((Go.Proofs.Ytfjpmoigpnmeoaa.sayT c s m y).d i).pr q).mutl = ((s.d i).pr q).mutl ∧ (((Go.Proofs.Ytfjpmoigpnmeoaa.sayT c s m y).d i).pr q).last = ((s.d i).pr q).last ∧ (((s.d i).pr q).heard = false → (((Go.Proofs.Ytfjpmoigpnmeoaa.sayT c s m y).d i).pr q).heard = false) := fun i _ q => by
    unfold Go.Proofs.Ytfjpmoigpnmeoaa.sayT
    by_cases e : i = m
    · subst e
      dsimp only
      rw [updN_same]
      exact hT q
    · dsimp only
      rw [updN_other _ _ e]
      exact ⟨rfl, rfl, rfl, fun e => e⟩
  have hsd : ∀ i, s.said i = true → (Go.Proofs.Ytfjpmoigpnmeoaa.sayT c s m y).said i = true := fun i e => by
    unfold Go.Proofs.Ytfjpmoigpnmeoaa.sayT
    by_cases e1 : i = m
    · subst e1; dsimp only; rw [updN_same, e]; rfl
    · dsimp only; rw [updN_other _ _ e1]; exact e
  have htk := h.tk m hm
  have htick : (tickD (s.d m)).tick = ((s.told m).length : Int) + 1 := by simp only [tickD]; omega
  refine ⟨fun i hi => ?_, fun i hi => ?_, fun i j hij => ?_, fun i j hij e => ?_, fun i j hij k b e => ?_, fun i j hij => ?_, fun e i hi => ?_⟩
  · unfold Go.Proofs.Ytfjpmoigpnmeoaa.sayT
    by_cases e : i = m
    · subst e; dsimp only; rw [updN_same, updN_same, htick, List.length_append]; simp
    · dsimp only; rw [updN_other _ _ e, updN_other _ _ e]; exact h.tk i hi
  · unfold Go.Proofs.Ytfjpmoigpnmeoaa.sayT
    by_cases e : i = m
    · subst e; dsimp only; rw [updN_same]; exact (h.ok i hi).tick (hc.ok i hi)
    · dsimp only; rw [updN_other _ _ e]; exact h.ok i hi
  · obtain ⟨h1, h2, _, h4⟩ := hd i (lt2 hij).1 j
    rcases h.kn i j hij with ⟨a, b, e⟩ | a
    · exact .inl ⟨h1.trans a, h4 b, h2.trans e⟩
    · exact .inr (h1.trans a)
  · obtain ⟨_, h2, _, _⟩ := hd i (lt2 hij).1 j
    obtain ⟨a, b⟩ := h.mu i j hij (h2.symm.trans e)
    exact ⟨hsd j a, (hd j (lt2 hij).2 i).1.trans b⟩
  · have old : ∀ b, (s.told i)[k]? = some b → b.1 = ((k + 1 : Nat) : Int) ∧ b.2.length = 2 ∧ (∀ v ∈ b.2, 0 ≤ v ∧ v ≤ 4611686018427387904) ∧ (b.2.getD j 0 = (c j).inc → (Go.Proofs.Ytfjpmoigpnmeoaa.sayT c s m y).said i = true ∧ (((Go.Proofs.Ytfjpmoigpnmeoaa.sayT c s m y).d i).pr j).known = (c j).inc) := fun b e => by
      obtain ⟨h1, h2, h3, h4⟩ := h.be i j hij k b e
      exact ⟨h1, h2, h3, fun e => ⟨hsd i (h4 e).1, (hd i (lt2 hij).1 j).1.trans (h4 e).2⟩⟩
    by_cases e1 : i = m
    · subst e1
      have hjy : j = y := by unfold Opp at ho hij; omega
      subst hjy
      have e' : (s.told i ++ [((tickD (s.d i)).tick, hearsL (c i) (tickD (s.d i)))])[k]? = some b := by
        unfold Go.Proofs.Ytfjpmoigpnmeoaa.sayT at e
        dsimp only at e
        rwa [updN_same] at e
      rcases Nat.lt_or_ge k (s.told i).length with hk | hk
      · rw [List.getElem?_append_left hk] at e'
        exact old b e'
      · rw [List.getElem?_append_right hk] at e'
        have hk0 : k - (s.told i).length = 0 := by
          have := (List.getElem?_eq_some_iff.1 e').1
          simp at this
          omega
        rw [hk0] at e'
        simp only [List.getElem?_cons_zero, Option.some.injEq] at e'
        subst e'
        have hok := (h.ok i hm).tick (hc.ok i hm)
        have hat := hearsL_at (c := c i) (tickD (s.d i)) (q := j) (by rw [hc.n i hm]; exact hy)
        refine ⟨by rw [htick]; omega, by simp [hearsL, hc.n i hm], hears_bd (hc.ok i hm) hok, fun e => ?_⟩
        dsimp only at e
        rw [hat] at e
        refine ⟨?_, ?_⟩
        · unfold Go.Proofs.Ytfjpmoigpnmeoaa.sayT
          dsimp only
          rw [updN_same, e]
          simp
        · rw [(hd i hm j).1]
          rcases h.kn i j hij with ⟨_, b, _⟩ | a
          · have hb := (hT j).2.2.2 b
            unfold hearsAt at e
            rw [if_neg (by rw [hc.self i hm]; exact hij.ne.symm), hb] at e
            obtain ⟨_, _, _, h1, _⟩ := hc.ok j hy
            simp at e
            omega
          · exact a
    · have e' : (s.told i)[k]? = some b := by
        unfold Go.Proofs.Ytfjpmoigpnmeoaa.sayT at e
        dsimp only at e
        rwa [updN_other _ _ e1] at e
      exact old b e'
  · rw [(hd i (lt2 hij).1 j).2.2.1]
    have h1 := h.la i j hij
    unfold Go.Proofs.Ytfjpmoigpnmeoaa.sayT
    by_cases e : j = m
    · subst e; dsimp only; rw [updN_same, List.length_append]; simp; omega
    · dsimp only; rw [updN_other _ _ e]; exact h1
  · have h1 := h.lf e i hi
    unfold Go.Proofs.Ytfjpmoigpnmeoaa.sayT
    by_cases e : i = m
    · subst e; dsimp only; rw [updN_same]; exact h1
    · dsimp only; rw [updN_other _ _ e]; exact h1
theorem MI.sayL (h : MI c s N) (ho : Opp m y) : MI c (sayL s m) N := by
  have hd : ∀ i q, ((((Go.Proofs.Ytfjpmoigpnmeoaa.sayL s m).d i).pr q).known = ((s.d i).pr q).known) ∧ ((((Go.Proofs.Ytfjpmoigpnmeoaa.sayL s m).d i).pr q).mutl = ((s.d i).pr q).mutl) ∧ ((((Go.Proofs.Ytfjpmoigpnmeoaa.sayL s m).d i).pr q).last = ((s.d i).pr q).last) ∧ (((s.d i).pr q).heard = false → (((Go.Proofs.Ytfjpmoigpnmeoaa.sayL s m).d i).pr q).heard = false) := fun i q => by
    unfold Go.Proofs.Ytfjpmoigpnmeoaa.sayL
    by_cases e : i = m
    · subst e
      dsimp only
      rw [updN_same]
      exact ⟨rfl, rfl, rfl, fun _ => rfl⟩
    · dsimp only
      rw [updN_other _ _ e]
      exact ⟨rfl, rfl, rfl, fun e => e⟩
  refine ⟨fun i hi => ?_, fun i hi => ?_, fun i j hij => ?_, fun i j hij e => ?_, fun i j hij k b e => ?_, fun i j hij => ?_, fun e => by cases e⟩
  · unfold Go.Proofs.Ytfjpmoigpnmeoaa.sayL
    by_cases e : i = m
    · subst e; dsimp only; rw [updN_same]; exact h.tk i hi
    · dsimp only; rw [updN_other _ _ e]; exact h.tk i hi
  · unfold Go.Proofs.Ytfjpmoigpnmeoaa.sayL
    by_cases e : i = m
    · subst e; dsimp only; rw [updN_same]; exact (h.ok i hi).leave
    · dsimp only; rw [updN_other _ _ e]; exact h.ok i hi
  · obtain ⟨h1, h2, _, h4⟩ := hd i j
    rcases h.kn i j hij with ⟨a, b, e⟩ | a
    · exact .inl ⟨h1.trans a, h4 b, h2.trans e⟩
    · exact .inr (h1.trans a)
  · obtain ⟨a, b⟩ := h.mu i j hij ((hd i j).2.1.symm.trans e)
    exact ⟨a, (hd j i).1.trans b⟩
  · obtain ⟨h1, h2, h3, h4⟩ := h.be i j hij k b e
    exact ⟨h1, h2, h3, fun e => ⟨(h4 e).1, (hd i j).1.trans (h4 e).2⟩⟩
  · rw [(hd i j).2.2.1]
    exact h.la i j hij
/-- What hearing a beat of the other that was told does. -/
theorem hear_told (h : MI c s N) (hc : TwoC c) (ho : Opp m y) {k : Nat} {b : Int × List Int} (hk : (s.told y)[k]? = some b) : hearE (c m) (s.d m) (y : Int) (c y).inc b.1 b.2 = (if ((s.d m).pr y).known = (c y).inc ∧ b.1 ≤ ((s.d m).pr y).last then 51 else 0) := by
  obtain ⟨hm, hy⟩ := lt2 ho
  obtain ⟨h1, h2, h3, _⟩ := h.be y m ho.symm k b hk
  obtain ⟨_, _, _, hi1, hi2, _⟩ := hc.ok y hy
  have hlen := (List.getElem?_eq_some_iff.1 hk).1
  have htk := h.tk y hy
  have ht1 := (h.ok y hy).t1
  have hfit : fits (c m) (y : Int) (c y).inc b.1 b.2 = true := by
    unfold fits
    simp only [Bool.and_eq_true, decide_eq_true_eq, List.all_eq_true]
    refine ⟨⟨⟨⟨⟨by omega, by rw [hc.n m hm]; omega, by rw [hc.self m hm]; have := ho.ne; omega⟩, hi1, hi2⟩, by omega, by omega⟩, by rw [h2, hc.n m hm]⟩, fun v hv => h3 v hv⟩
  unfold hearE
  rw [if_neg (by simp [hfit]), Int.toNat_natCast]
  rcases h.kn m y ho with ⟨a, _, _⟩ | a
  · rw [if_neg (by omega), if_neg (by omega), if_neg (by omega)]
  · rw [a, if_neg (by omega)]
theorem MI.sayH (h : MI c s N) (hc : TwoC c) (ho : Opp m y) (k : Nat) : MI c (sayH c s m y k) (N + 1) := by
  obtain ⟨hm, hy⟩ := lt2 ho
  have hmono : MI c s (N + 1) := ⟨h.tk, fun i hi => (h.ok i hi).mono (by omega), h.kn, h.mu, h.be, h.la, h.lf⟩
  unfold Go.Proofs.Ytfjpmoigpnmeoaa.sayH
  split
  · rename_i b hk
    have hE := hear_told h hc ho hk
    obtain ⟨hb1, hb2, hb3, hb4⟩ := h.be y m ho.symm k b hk
    have hlen := (List.getElem?_eq_some_iff.1 hk).1
    obtain ⟨_, _, _, hi1, hi2, _⟩ := hc.ok y hy
    have htk := h.tk y hy
    have ht1 := (h.ok y hy).t1
    unfold hearD
    rw [hE]
    by_cases hst : ((s.d m).pr y).known = (c y).inc ∧ b.1 ≤ ((s.d m).pr y).last
    · rw [if_pos hst, if_neg (by decide)]
      have e : updN s.d m (s.d m) = s.d := by
        funext i
        unfold updN
        split
        · rename_i e; rw [e]
        · rfl
      rw [e]
      exact hmono
    · rw [if_neg hst, if_pos rfl]
      obtain ⟨x, hx⟩ : ∃ x, x = beatD (c m) (s.d m) (y : Int) (c y).inc b.1 (b.2.getD (c m).self 0 == (c m).inc) := ⟨_, rfl⟩
      have hxy : x.pr y = beatP (c m) (s.d m).left ((s.d m).pr y) (c y).inc b.1 (b.2.getD (c m).self 0 == (c m).inc) := by rw [hx]; simp [beatD]
      have hxk : (x.pr y).known = (c y).inc := by
        rw [hxy]
        unfold beatP
        dsimp only
        rcases h.kn m y ho with ⟨a, _, _⟩ | a
        · rw [if_pos (by omega)]
        · rw [if_neg (by omega)]; exact a
      rw [← hx]
      have hself : ∀ i j, Opp i j → i = m → j = y := fun i j hij e => by unfold Opp at ho hij; omega
      refine ⟨fun i hi => ?_, fun i hi => ?_, fun i j hij => ?_, fun i j hij e => ?_, fun i j hij k' b' e => ?_, fun i j hij => ?_, fun e i hi => ?_⟩
      · by_cases e : i = m
        · subst e; dsimp only; rw [updN_same, hx]; exact h.tk i hi
        · dsimp only; rw [updN_other _ _ e]; exact h.tk i hi
      · by_cases e : i = m
        · subst e
          dsimp only
          rw [updN_same, hx]
          exact (h.ok i hi).beat (hc.ok i hi) _ _ _ _ hi1 hi2 (by omega) (by omega)
        · dsimp only; rw [updN_other _ _ e]; exact (h.ok i hi).mono (by omega)
      · by_cases e : i = m
        · obtain rfl := hself i j hij e
          subst e
          dsimp only
          rw [updN_same]
          exact .inr hxk
        · dsimp only; rw [updN_other _ _ e]; exact h.kn i j hij
      · dsimp only at e ⊢
        by_cases e1 : i = m
        · obtain rfl := hself i j hij e1
          subst e1
          rw [updN_same, hxy] at e
          unfold beatP at e
          dsimp only at e
          have e2 : b.2.getD i 0 = (c i).inc := by rw [hc.self i hm] at e; simpa using e
          have e3 := hb4 e2
          refine ⟨e3.1, ?_⟩
          rw [updN_other _ _ ho.ne.symm]
          exact e3.2
        · rw [updN_other _ _ e1] at e
          obtain ⟨a, b⟩ := h.mu i j hij e
          refine ⟨a, ?_⟩
          have ej : j = m := by unfold Opp at ho hij; omega
          subst ej
          have ei : i = y := by unfold Opp at ho hij; omega
          subst ei
          rw [updN_same]
          exact hxk
      · obtain ⟨h1, h2, h3, h4⟩ := h.be i j hij k' b' e
        refine ⟨h1, h2, h3, fun e => ⟨(h4 e).1, ?_⟩⟩
        dsimp only
        by_cases e1 : i = m
        · obtain rfl := hself i j hij e1
          subst e1
          rw [updN_same]
          exact hxk
        · rw [updN_other _ _ e1]; exact (h4 e).2
      · dsimp only
        by_cases e1 : i = m
        · obtain rfl := hself i j hij e1
          subst e1
          rw [updN_same, hxy]
          unfold beatP
          dsimp only
          omega
        · rw [updN_other _ _ e1]; exact h.la i j hij
      · dsimp only at e ⊢
        by_cases e1 : i = m
        · subst e1; rw [updN_same, hx]; exact h.lf e i hi
        · rw [updN_other _ _ e1]; exact h.lf e i hi
  · exact hmono
/-- The estimate. -/
theorem MI.est (h : MI c s N) (hc : TwoC c) (ho : Opp m y) : estAt (c m) (s.d m) y = 0 ∨ (estAt (c m) (s.d m) y = (c y).inc ∧ s.said y = true ∧ knownQ (c y) (s.d y) (m : Int) = (c m).inc) := by
  obtain ⟨hm, hy⟩ := lt2 ho
  unfold estAt
  rw [if_neg (by rw [hc.self m hm]; exact ho.ne.symm)]
  split
  · rename_i hh
    rcases h.kn m y ho with ⟨a, _, _⟩ | a
    · exact .inl a
    · obtain ⟨h1, h2⟩ := h.mu m y ho hh.2
      refine .inr ⟨a, h1, ?_⟩
      unfold knownQ
      rw [if_neg (by rw [hc.self y hy]; have := ho.ne; omega), if_pos (by
        unfold otherB
        simp only [decide_eq_true_eq]
        rw [hc.n y hy, hc.self y hy]
        have := ho.ne
        omega), Int.toNat_natCast]
      exact h2
  · exact .inl rfl
theorem est_self (hc : TwoC c) (hm : m < 2) : estAt (c m) (s.d m) m = (c m).inc := by
  unfold estAt
  rw [if_pos (hc.self m hm).symm]
/-- The last beat that was told is heard: it is new, or it was the last that was heard. -/
theorem hear_last (h : MI c s N) (hc : TwoC c) (ho : Opp m y) {b : Int × List Int} (hk : (s.told y)[(s.told y).length - 1]? = some b) (hnew : ((s.d m).pr y).last < ((s.told y).length : Int)) :
    (sayH c s m y ((s.told y).length - 1)).d m = beatD (c m) (s.d m) (y : Int) (c y).inc b.1 (b.2.getD (c m).self 0 == (c m).inc) ∧ ∀ i, i ≠ m → (sayH c s m y ((s.told y).length - 1)).d i = s.d i := by
  have hE := hear_told h hc ho hk
  obtain ⟨hb1, _⟩ := h.be y m ho.symm _ b hk
  have hlen := (List.getElem?_eq_some_iff.1 hk).1
  rw [if_neg (fun e => by omega)] at hE
  unfold sayH
  rw [hk]
  dsimp only
  refine ⟨?_, fun i hi => updN_other _ _ hi⟩
  rw [updN_same]
  unfold hearD
  rw [if_pos hE]
/-- The end's pair of steps: y ticks and tells, m hears it. -/
def pairS (c : Nat → Cfg) (s : Mst) (m y : Nat) : Mst := sayH c (sayT c s y m) m y (s.told y).length
theorem MI.pair (h : MI c s N) (hc : TwoC c) (ho : Opp m y) (hl : (s.told y).length < 4611686018427387904) : MI c (pairS c s m y) (N + 1) := (h.sayT hc ho.symm hl).sayH hc ho _
theorem pair_d (h : MI c s N) (hc : TwoC c) (ho : Opp m y) (hl : (s.told y).length < 4611686018427387904) (hlf : s.left = false) :
    ((pairS c s m y).d m).pr y = beatP (c m) false ((s.d m).pr y) (c y).inc ((tickD (s.d y)).tick) (hearsAt (c y) (tickD (s.d y)) m == (c m).inc) ∧ (pairS c s m y).d y = tickD (s.d y) := by
  obtain ⟨hm, hy⟩ := lt2 ho
  have h1 := h.sayT hc ho.symm hl
  have e1 : (sayT c s y m).told y = s.told y ++ [((tickD (s.d y)).tick, hearsL (c y) (tickD (s.d y)))] := updN_same _ _ _
  have e2 : (sayT c s y m).d m = s.d m := updN_other _ _ ho.ne
  have e3 : (sayT c s y m).d y = tickD (s.d y) := updN_same _ _ _
  have el : ((sayT c s y m).told y).length - 1 = (s.told y).length := by rw [e1]; simp
  have hk : ((sayT c s y m).told y)[((sayT c s y m).told y).length - 1]? = some ((tickD (s.d y)).tick, hearsL (c y) (tickD (s.d y))) := by rw [el, e1]; simp
  have hla := h.la m y ho
  obtain ⟨a, b⟩ := hear_last h1 hc ho hk (by rw [e2, e1, List.length_append]; simp; omega)
  rw [el] at a b
  refine ⟨?_, ?_⟩
  · show ((sayH c (sayT c s y m) m y (s.told y).length).d m).pr y = _
    rw [a, e2]
    unfold beatD
    dsimp only
    rw [if_pos rfl, h.lf hlf m hm, hearsL_at _ (by rw [hc.n y hy, hc.self m hm]; exact hm), hc.self m hm]
  · show (sayH c (sayT c s y m) m y (s.told y).length).d y = _
    rw [b y ho.ne.symm, e3]
theorem pair_left (c : Nat → Cfg) (s : Mst) (m y : Nat) : (pairS c s m y).left = s.left := by
  unfold pairS sayH
  split <;> rfl
theorem pair_told (c : Nat → Cfg) (s : Mst) {m y : Nat} (ho : Opp m y) : (pairS c s m y).told y = s.told y ++ [((tickD (s.d y)).tick, hearsL (c y) (tickD (s.d y)))] ∧ (pairS c s m y).told m = s.told m := by
  have : (pairS c s m y).told = (sayT c s y m).told := by
    unfold pairS sayH
    split <;> rfl
  rw [this]
  exact ⟨updN_same _ _ _, updN_other _ _ ho.ne⟩
theorem tick_heard (_hc : TwoC c) (h : MI c s N) (hm : m < 2) (q : Nat) (hh : ((s.d m).pr q).heard = true) (ha : ((s.d m).pr q).age = 0) : ((tickD (s.d m)).pr q).heard = true := by
  have h1 := ((h.ok m hm).p q).t1
  unfold tickD tickP
  dsimp only
  rw [if_pos hh]
  dsimp only
  rw [ha]
  simpa using h1
/-- Two beats each way bring both in. -/
theorem both_in (h : MI c s N) (hc : TwoC c) (hlf : s.left = false) (h0 : (s.told 0).length < 4611686018427387900) (h1 : (s.told 1).length < 4611686018427387900) :
    estAt (c 0) ((pairS c (pairS c (pairS c (pairS c s 1 0) 0 1) 1 0) 0 1).d 0) 1 = (c 1).inc ∧ estAt (c 1) ((pairS c (pairS c (pairS c (pairS c s 1 0) 0 1) 1 0) 0 1).d 1) 0 = (c 0).inc := by
  have o01 : Opp 0 1 := .inl ⟨rfl, rfl⟩
  have o10 : Opp 1 0 := .inr ⟨rfl, rfl⟩
  obtain ⟨s1, hs1⟩ : ∃ s1, s1 = pairS c s 1 0 := ⟨_, rfl⟩
  obtain ⟨s2, hs2⟩ : ∃ s2, s2 = pairS c s1 0 1 := ⟨_, rfl⟩
  obtain ⟨s3, hs3⟩ : ∃ s3, s3 = pairS c s2 1 0 := ⟨_, rfl⟩
  obtain ⟨s4, hs4⟩ : ∃ s4, s4 = pairS c s3 0 1 := ⟨_, rfl⟩
  rw [← hs1, ← hs2, ← hs3, ← hs4]
  have i1 : MI c s1 (N + 1) := by rw [hs1]; exact h.pair hc o10 (by omega)
  have t1 := pair_told c s o10
  rw [← hs1] at t1
  have i2 : MI c s2 (N + 1 + 1) := by rw [hs2]; exact i1.pair hc o01 (by rw [t1.2]; omega)
  have t2 := pair_told c s1 o01
  rw [← hs2] at t2
  have i3 : MI c s3 (N + 1 + 1 + 1) := by rw [hs3]; exact i2.pair hc o10 (by rw [t2.2, t1.1, List.length_append]; simp; omega)
  have t3 := pair_told c s2 o10
  rw [← hs3] at t3
  have l1 : s1.left = false := by rw [hs1, pair_left]; exact hlf
  have l2 : s2.left = false := by rw [hs2, pair_left]; exact l1
  have l3 : s3.left = false := by rw [hs3, pair_left]; exact l2
  have d1 := pair_d h hc o10 (by omega) hlf
  have d2 := pair_d i1 hc o01 (by rw [t1.2]; omega) l1
  have d3 := pair_d i2 hc o10 (by rw [t2.2, t1.1, List.length_append]; simp; omega) l2
  have d4 := pair_d i3 hc o01 (by rw [t3.2, t2.1, t1.2, List.length_append]; simp; omega) l3
  rw [← hs1] at d1
  rw [← hs2] at d2
  rw [← hs3] at d3
  rw [← hs4] at d4
  have kn1 : ((s1.d 1).pr 0).known = (c 0).inc := by
    rcases i1.kn 1 0 o10 with ⟨_, a, _⟩ | a
    · rw [d1.1] at a; simp [beatP] at a
    · exact a
  have kn2 : ((s2.d 0).pr 1).known = (c 1).inc := by
    rcases i2.kn 0 1 o01 with ⟨_, a, _⟩ | a
    · rw [d2.1] at a; simp [beatP] at a
    · exact a
  have kn3 : ((s3.d 1).pr 0).known = (c 0).inc := by
    rcases i3.kn 1 0 o10 with ⟨_, a, _⟩ | a
    · rw [d3.1] at a; simp [beatP] at a
    · exact a
  have i4 : MI c s4 (N + 1 + 1 + 1 + 1) := by rw [hs4]; exact i3.pair hc o01 (by rw [t3.2, t2.1, t1.2, List.length_append]; simp; omega)
  have kn4 : ((s4.d 0).pr 1).known = (c 1).inc := by
    rcases i4.kn 0 1 o01 with ⟨_, a, _⟩ | a
    · rw [d4.1] at a; simp [beatP] at a
    · exact a
  -- side 1 behind the first pair hears 0, and still behind its own tick
  have th1 : ((tickD (s1.d 1)).pr 0).heard = true := tick_heard hc i1 (by omega) 0 (by rw [d1.1]; rfl) (by rw [d1.1]; rfl)
  have th2 : ((tickD (s2.d 0)).pr 1).heard = true := tick_heard hc i2 (by omega) 1 (by rw [d2.1]; rfl) (by rw [d2.1]; rfl)
  have th3 : ((tickD (s3.d 1)).pr 0).heard = true := tick_heard hc i3 (by omega) 0 (by rw [d3.1]; rfl) (by rw [d3.1]; rfl)
  have ha2 : hearsAt (c 0) (tickD (s2.d 0)) 1 = (c 1).inc := by
    unfold hearsAt
    rw [if_neg (by rw [hc.self 0 (by omega)]; decide), if_pos th2, (tick_pr _ _).1]
    exact kn2
  have ha3 : hearsAt (c 1) (tickD (s3.d 1)) 0 = (c 0).inc := by
    unfold hearsAt
    rw [if_neg (by rw [hc.self 1 (by omega)]; decide), if_pos th3, (tick_pr _ _).1]
    exact kn3
  have m3 : ((s3.d 1).pr 0).mutl = true := by
    rw [d3.1]
    unfold beatP
    dsimp only
    rw [ha2]
    simp
  have m4 : ((s4.d 0).pr 1).mutl = true ∧ ((s4.d 0).pr 1).heard = true := by
    rw [d4.1]
    unfold beatP
    dsimp only
    rw [ha3]
    simp
  refine ⟨?_, ?_⟩
  · unfold estAt
    rw [if_neg (by rw [hc.self 0 (by omega)]; decide), if_pos ⟨m4.2, m4.1⟩]
    exact kn4
  · unfold estAt
    rw [d4.2, if_neg (by rw [hc.self 1 (by omega)]; decide), if_pos ⟨th3, by rw [(tick_pr _ _).2.1]; exact m3⟩, (tick_pr _ _).1]
    exact kn3
end
/-- The place of the beat that is heard. -/
def whichB (bt : Int) (n : Nat) : Nat := if bt = -1 then n - 1 else (bt % (n : Int)).toNat
theorem which_lt {bt : Int} {n : Nat} (h : 0 < n) : whichB bt n < n := by
  unfold whichB
  split
  · omega
  · have h1 := Int.emod_nonneg bt (show (n : Int) ≠ 0 by omega)
    have h2 := Int.emod_lt_of_pos bt (show 0 < (n : Int) by omega)
    omega
/-- One step of the talk, by the side m, the other y. -/
def stepS (c : Nat → Cfg) (s : Mst) (kd : Int) (m y : Nat) (bt : Int) : Mst :=
  if kd = 1 then sayT c s m y else if kd = 2 then (if 0 < (s.told y).length then sayH c s m y (whichB bt (s.told y).length) else s) else if kd = 3 then sayL s m else s
section
variable {c : Nat → Cfg} {s : Mst} {N m y : Nat}
theorem MI.up (h : MI c s N) : MI c s (N + 1) := ⟨h.tk, fun i hi => (h.ok i hi).mono (by omega), h.kn, h.mu, h.be, h.la, h.lf⟩
theorem MI.stepS (h : MI c s N) (hc : TwoC c) (ho : Opp m y) (hl : (s.told m).length < 4611686018427387904) (kd bt : Int) : MI c (stepS c s kd m y bt) (N + 1) := by
  unfold Go.Proofs.Ytfjpmoigpnmeoaa.stepS
  split
  · exact (h.sayT hc ho hl).up
  · split
    · split
      · exact h.sayH hc ho _
      · exact h.up
    · split
      · exact (h.sayL ho).up
      · exact h.up
theorem stepS_len (c : Nat → Cfg) (s : Mst) (kd : Int) (m y : Nat) (bt : Int) (i : Nat) : ((stepS c s kd m y bt).told i).length ≤ (s.told i).length + 1 := by
  unfold stepS
  split
  · unfold sayT
    by_cases e : i = m
    · subst e; dsimp only; rw [updN_same]; simp
    · dsimp only; rw [updN_other _ _ e]; omega
  · split
    · split
      · unfold sayH
        split
        · dsimp only; omega
        · omega
      · omega
    · split
      · unfold sayL; dsimp only; omega
      · omega
end
/-- The last eight steps: kind, side, the other, beat. -/
def endsL : List (Int × Nat × Nat × Int) := [(1, 0, 1, 0), (2, 1, 0, -1), (1, 1, 0, 0), (2, 0, 1, -1), (1, 0, 1, 0), (2, 1, 0, -1), (1, 1, 0, 0), (2, 0, 1, -1)]
def endS (c : Nat → Cfg) (s : Mst) (j : Nat) : Mst := (endsL.take j).foldl (fun s x => stepS c s x.1 x.2.1 x.2.2.1 x.2.2.2) s
theorem endS_succ (c : Nat → Cfg) (s : Mst) {j : Nat} {x : Int × Nat × Nat × Int} (h : endsL[j]? = some x) : endS c s (j + 1) = stepS c (endS c s j) x.1 x.2.1 x.2.2.1 x.2.2.2 := by
  unfold endS
  rw [List.take_add_one, h]
  simp
theorem pair_eq (c : Nat → Cfg) (s : Mst) {m y : Nat} (_ho : Opp m y) (b : Int) : stepS c (stepS c s 1 y m b) 2 m y (-1) = pairS c s m y := by
  have e1 : stepS c s 1 y m b = sayT c s y m := by unfold stepS; rw [if_pos rfl]
  have e2 : (sayT c s y m).told y = s.told y ++ [((tickD (s.d y)).tick, hearsL (c y) (tickD (s.d y)))] := updN_same _ _ _
  rw [e1]
  unfold stepS
  rw [if_neg (by decide), if_pos rfl, e2, if_pos (by simp)]
  unfold pairS whichB
  rw [if_pos rfl]
  simp
theorem endS_all (c : Nat → Cfg) (s : Mst) : endS c s 8 = pairS c (pairS c (pairS c (pairS c s 1 0) 0 1) 1 0) 0 1 := by
  have o01 : Opp 0 1 := .inl ⟨rfl, rfl⟩
  have o10 : Opp 1 0 := .inr ⟨rfl, rfl⟩
  have h0 : endS c s 0 = s := rfl
  have h1 := endS_succ c s (j := 0) (x := (1, 0, 1, 0)) rfl
  have h2 := endS_succ c s (j := 1) (x := (2, 1, 0, -1)) rfl
  have h3 := endS_succ c s (j := 2) (x := (1, 1, 0, 0)) rfl
  have h4 := endS_succ c s (j := 3) (x := (2, 0, 1, -1)) rfl
  have h5 := endS_succ c s (j := 4) (x := (1, 0, 1, 0)) rfl
  have h6 := endS_succ c s (j := 5) (x := (2, 1, 0, -1)) rfl
  have h7 := endS_succ c s (j := 6) (x := (1, 1, 0, 0)) rfl
  have h8 := endS_succ c s (j := 7) (x := (2, 0, 1, -1)) rfl
  simp only [Nat.reduceAdd] at h1 h2 h3 h4 h5 h6 h7 h8
  rw [h8, h7, h6, h5, h4, h3, h2, h1, h0, pair_eq c s o10 0, pair_eq c _ o01 0, pair_eq c _ o10 0, pair_eq c _ o01 0]
theorem endS_left (c : Nat → Cfg) (s : Mst) : (endS c s 8).left = s.left := by
  rw [endS_all]
  simp only [pair_left]
end Go.Proofs.Ytfjpmoigpnmeoaa
