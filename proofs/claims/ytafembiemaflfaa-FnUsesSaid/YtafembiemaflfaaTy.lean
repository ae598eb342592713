/-
  Memory by types: rows of numbers, phis, instructions, blocks and codes, each cell of its kind; such memory stays such where cells of their kind are written. No condition.
-/
import Derived.Test.YtafembiemaflfaaSz
import Derived.ArgAppend
import Derived.Maps.AppendAt
namespace Go.Proofs.Ytafembiemaflfaa
open Go.RowKit Go.ChangeShapes Go.WideShapes Go.Deep
variable {D : Nat}
set_option linter.unusedVariables false
set_option linter.unusedSimpArgs false
def IntP (u : Value) : Prop := ∃ n : Int, I64 n ∧ u = .int .i64 n
/-- a slice of few elements in a row of a type, from the row's first cell on; each of its cells is as P says, by its place -/
def TyS (t : TypeId) (size N : Nat) (lo : Nat) (w : World) (P : Nat → Value → Prop) (v : Value) : Prop :=
  ∃ (A : Option Addr) (n cap : Nat), v = .slice A n cap ∧ n ≤ N ∧ n ≤ cap ∧ cap ≤ maxLen ∧
    (0 < cap → ∃ b cur, A = some ⟨b, 0, none⟩ ∧ lo ≤ b ∧ Row w b t cur ∧ cur.size = cap * size ∧ ∀ j, j < n * size → ∃ u, cur[j]? = some u ∧ P j u)
def TyI (D lo : Nat) (w : World) (v : Value) : Prop := TyS 3 1 (30 + D) lo w (fun _ u => IntP u) v
def PhiP (D lo : Nat) (w : World) (j : Nat) (u : Value) : Prop := if j % 2 = 1 then TyI D lo w u else IntP u
def TyPhis (D lo : Nat) (w : World) (v : Value) : Prop := TyS 68 2 (4 + D) lo w (PhiP D lo w) v
def InsP (D lo : Nat) (w : World) (j : Nat) (u : Value) : Prop := if j % 4 = 2 then TyI D lo w u else IntP u
def TyInss (D lo : Nat) (w : World) (v : Value) : Prop := TyS 44 4 10 lo w (InsP D lo w) v
def BlkP (D lo : Nat) (w : World) (j : Nat) (u : Value) : Prop := if j % 5 = 0 then TyPhis D lo w u else if j % 5 = 1 then TyInss D lo w u else if j % 5 = 4 then TyI D lo w u else IntP u
def TyBlks (D lo : Nat) (w : World) (v : Value) : Prop := TyS 34 5 10 lo w (BlkP D lo w) v
def SmallP (N : Nat) (u : Value) : Prop := ∃ n : Nat, n ≤ N ∧ u = .int .i64 (n : Int)
/-- a slice that is not empty -/
def NonE (u : Value) : Prop := ∃ A n cap, u = .slice A n cap ∧ 0 < n
def CodP (D lo : Nat) (w : World) (j : Nat) (u : Value) : Prop := if j % 3 = 0 then SmallP 3 u else if j % 3 = 1 then SmallP 300 u else TyBlks D lo w u ∧ NonE u
def TyCods (D lo : Nat) (w : World) (v : Value) : Prop := TyS 25 3 10 lo w (CodP D lo w) v
/-- a value that may stand at a place of a row of a type -/
def OK (D lo : Nat) (w : World) (t : TypeId) (j : Nat) (u : Value) : Prop :=
  (t = 3 ∧ IntP u) ∨ (t = 68 ∧ PhiP D lo w j u) ∨ (t = 44 ∧ InsP D lo w j u) ∨ (t = 34 ∧ BlkP D lo w j u) ∨ (t = 25 ∧ CodP D lo w j u) ∨ (t = 39 ∧ (if j = 0 then TyCods D lo w u else TyBlks D lo w u))
/-- from block lo on, rows stay rows, and their cells are as they were or have values of their kind -/
def Chg (D lo : Nat) (w w' : World) : Prop := ∀ (b : Nat) (t : TypeId) (cur : Array Value), lo ≤ b → Row w b t cur → ∃ cur' : Array Value, Row w' b t cur' ∧ cur'.size = cur.size ∧ ∀ (j : Nat) (u : Value), cur[j]? = some u → ∃ u', cur'[j]? = some u' ∧ (u' = u ∨ OK D lo w t j u')
theorem TyS.keep {t : TypeId} {size N lo : Nat} {w w' : World} {P P' : Nat → Value → Prop} {v : Value} (h : TyS t size N lo w P v) (hc : Chg D lo w w') (hP : ∀ j u, P j u → P' j u) (hO : ∀ j u, OK D lo w t j u → P j u) : TyS t size N lo w' P' v := by
  obtain ⟨A, n, cap, rfl, h1, h2, h3, h4⟩ := h
  refine ⟨A, n, cap, rfl, h1, h2, h3, fun hcap => ?_⟩
  obtain ⟨b, cur, rfl, hlo, R, hs, hcells⟩ := h4 hcap
  obtain ⟨cur', R', hs', hch⟩ := hc b t cur hlo R
  refine ⟨b, cur', rfl, hlo, R', hs'.trans hs, fun j hj => ?_⟩
  obtain ⟨u, hu, hp⟩ := hcells j hj
  obtain ⟨u', hu', e | e⟩ := hch j u hu
  · exact ⟨u', hu', hP _ _ (e ▸ hp)⟩
  · exact ⟨u', hu', hP _ _ (hO _ _ e)⟩
theorem OK.int {lo : Nat} {w : World} {j : Nat} {u : Value} (h : OK D lo w 3 j u) : IntP u := by
  rcases h with ⟨_, h⟩ | ⟨e, _⟩ | ⟨e, _⟩ | ⟨e, _⟩ | ⟨e, _⟩ | ⟨e, _⟩
  · exact h
  all_goals exact absurd e (by decide)
theorem OK.phi {lo : Nat} {w : World} {j : Nat} {u : Value} (h : OK D lo w 68 j u) : PhiP D lo w j u := by
  rcases h with ⟨e, _⟩ | ⟨_, h⟩ | ⟨e, _⟩ | ⟨e, _⟩ | ⟨e, _⟩ | ⟨e, _⟩
  · exact absurd e (by decide)
  · exact h
  all_goals exact absurd e (by decide)
theorem OK.ins {lo : Nat} {w : World} {j : Nat} {u : Value} (h : OK D lo w 44 j u) : InsP D lo w j u := by
  rcases h with ⟨e, _⟩ | ⟨e, _⟩ | ⟨_, h⟩ | ⟨e, _⟩ | ⟨e, _⟩ | ⟨e, _⟩
  · exact absurd e (by decide)
  · exact absurd e (by decide)
  · exact h
  all_goals exact absurd e (by decide)
theorem OK.blk {lo : Nat} {w : World} {j : Nat} {u : Value} (h : OK D lo w 34 j u) : BlkP D lo w j u := by
  rcases h with ⟨e, _⟩ | ⟨e, _⟩ | ⟨e, _⟩ | ⟨_, h⟩ | ⟨e, _⟩ | ⟨e, _⟩
  · exact absurd e (by decide)
  · exact absurd e (by decide)
  · exact absurd e (by decide)
  · exact h
  all_goals exact absurd e (by decide)
theorem OK.cod {lo : Nat} {w : World} {j : Nat} {u : Value} (h : OK D lo w 25 j u) : CodP D lo w j u := by
  rcases h with ⟨e, _⟩ | ⟨e, _⟩ | ⟨e, _⟩ | ⟨e, _⟩ | ⟨_, h⟩ | ⟨e, _⟩
  · exact absurd e (by decide)
  · exact absurd e (by decide)
  · exact absurd e (by decide)
  · exact absurd e (by decide)
  · exact h
  · exact absurd e (by decide)
theorem OK.unit {lo : Nat} {w : World} {j : Nat} {u : Value} (h : OK D lo w 39 j u) : if j = 0 then TyCods D lo w u else TyBlks D lo w u := by
  rcases h with ⟨e, _⟩ | ⟨e, _⟩ | ⟨e, _⟩ | ⟨e, _⟩ | ⟨e, _⟩ | ⟨_, h⟩
  · exact absurd e (by decide)
  · exact absurd e (by decide)
  · exact absurd e (by decide)
  · exact absurd e (by decide)
  · exact absurd e (by decide)
  · exact h
theorem TyI.keep {lo : Nat} {w w' : World} {v : Value} (h : TyI D lo w v) (hc : Chg D lo w w') : TyI D lo w' v := TyS.keep h hc (fun _ _ h => h) (fun _ _ h => h.int)
theorem PhiP.keep {lo : Nat} {w w' : World} {j : Nat} {v : Value} (h : PhiP D lo w j v) (hc : Chg D lo w w') : PhiP D lo w' j v := by
  unfold PhiP at h ⊢
  by_cases e : j % 2 = 1
  · rw [if_pos e] at h ⊢
    exact h.keep hc
  · rw [if_neg e] at h ⊢
    exact h
theorem TyPhis.keep {lo : Nat} {w w' : World} {v : Value} (h : TyPhis D lo w v) (hc : Chg D lo w w') : TyPhis D lo w' v := TyS.keep h hc (fun _ _ h => h.keep hc) (fun _ _ h => h.phi)
theorem InsP.keep {lo : Nat} {w w' : World} {j : Nat} {v : Value} (h : InsP D lo w j v) (hc : Chg D lo w w') : InsP D lo w' j v := by
  unfold InsP at h ⊢
  by_cases e : j % 4 = 2
  · rw [if_pos e] at h ⊢
    exact h.keep hc
  · rw [if_neg e] at h ⊢
    exact h
theorem TyInss.keep {lo : Nat} {w w' : World} {v : Value} (h : TyInss D lo w v) (hc : Chg D lo w w') : TyInss D lo w' v := TyS.keep h hc (fun _ _ h => h.keep hc) (fun _ _ h => h.ins)
theorem BlkP.keep {lo : Nat} {w w' : World} {j : Nat} {v : Value} (h : BlkP D lo w j v) (hc : Chg D lo w w') : BlkP D lo w' j v := by
  unfold BlkP at h ⊢
  by_cases e : j % 5 = 0
  · rw [if_pos e] at h ⊢
    exact h.keep hc
  · rw [if_neg e] at h ⊢
    by_cases e1 : j % 5 = 1
    · rw [if_pos e1] at h ⊢
      exact h.keep hc
    · rw [if_neg e1] at h ⊢
      by_cases e4 : j % 5 = 4
      · rw [if_pos e4] at h ⊢
        exact h.keep hc
      · rw [if_neg e4] at h ⊢
        exact h
theorem TyBlks.keep {lo : Nat} {w w' : World} {v : Value} (h : TyBlks D lo w v) (hc : Chg D lo w w') : TyBlks D lo w' v := TyS.keep h hc (fun _ _ h => h.keep hc) (fun _ _ h => h.blk)
theorem CodP.keep {lo : Nat} {w w' : World} {j : Nat} {v : Value} (h : CodP D lo w j v) (hc : Chg D lo w w') : CodP D lo w' j v := by
  unfold CodP at h ⊢
  by_cases e : j % 3 = 0
  · rw [if_pos e] at h ⊢
    exact h
  · rw [if_neg e] at h ⊢
    by_cases e1 : j % 3 = 1
    · rw [if_pos e1] at h ⊢
      exact h
    · rw [if_neg e1] at h ⊢
      exact ⟨h.1.keep hc, h.2⟩
theorem TyCods.keep {lo : Nat} {w w' : World} {v : Value} (h : TyCods D lo w v) (hc : Chg D lo w w') : TyCods D lo w' v := TyS.keep h hc (fun _ _ h => h.keep hc) (fun _ _ h => h.cod)
theorem OK.keep {lo : Nat} {w w' : World} {t : TypeId} {j : Nat} {u : Value} (h : OK D lo w t j u) (hc : Chg D lo w w') : OK D lo w' t j u := by
  rcases h with ⟨e, h⟩ | ⟨e, h⟩ | ⟨e, h⟩ | ⟨e, h⟩ | ⟨e, h⟩ | ⟨e, h⟩
  · exact Or.inl ⟨e, h⟩
  · exact Or.inr (Or.inl ⟨e, h.keep hc⟩)
  · exact Or.inr (Or.inr (Or.inl ⟨e, h.keep hc⟩))
  · exact Or.inr (Or.inr (Or.inr (Or.inl ⟨e, h.keep hc⟩)))
  · exact Or.inr (Or.inr (Or.inr (Or.inr (Or.inl ⟨e, h.keep hc⟩))))
  · refine Or.inr (Or.inr (Or.inr (Or.inr (Or.inr ⟨e, ?_⟩))))
    by_cases q : j = 0
    · rw [if_pos q] at h ⊢
      exact h.keep hc
    · rw [if_neg q] at h ⊢
      exact h.keep hc
theorem Chg.same {lo : Nat} {w w' : World} (h : ∀ b, lo ≤ b → b < w.heap.size → w'.heap[b]? = w.heap[b]?) : Chg D lo w w' := fun b t cur hb R => ⟨cur, (h b hb R.lt).trans R, rfl, fun j u hu => ⟨u, hu, Or.inl rfl⟩⟩
theorem Chg.refl (lo : Nat) (w : World) : Chg D lo w w := Chg.same fun _ _ _ => rfl
theorem Chg.below {lo : Nat} {w w' : World} (h : Below w.heap.size w w') : Chg D lo w w' := Chg.same fun b _ hb => h.block b hb
/-- a cell of its kind is written -/
theorem Chg.set {lo : Nat} {w : World} {b j : Nat} {t : TypeId} {cur : Array Value} {v : Value} (R : Row w b t cur) (hv : OK D lo w t j v) : Chg D lo w (w.setCell ⟨b, j, none⟩ v) := by
  intro b' t' cur' hb' R'
  by_cases e : b' = b
  · subst e
    have e2 := R.symm.trans R'
    injection e2 with e2
    injection e2 with e2 e3
    subst e2
    subst e3
    refine ⟨_, R.set_ j v, by simp, fun i u hu => ?_⟩
    by_cases hij : i = j
    · subst hij
      have hi := (Array.getElem?_eq_some_iff.1 hu).1
      exact ⟨v, set_same hi v, Or.inr hv⟩
    · exact ⟨u, (set_ne (Ne.symm hij) v).trans hu, Or.inl rfl⟩
  · exact ⟨cur', R'.far e v, rfl, fun i u hu => ⟨u, hu, Or.inl rfl⟩⟩
theorem Chg.trans {lo : Nat} {a b c : World} (h : Chg D lo a b) (k : Chg D lo b c) (hk : ∀ t j u, OK D lo b t j u → OK D lo a t j u) : Chg D lo a c := by
  intro x t cur hx R
  obtain ⟨cur1, R1, s1, h1⟩ := h x t cur hx R
  obtain ⟨cur2, R2, s2, h2⟩ := k x t cur1 hx R1
  refine ⟨cur2, R2, s2.trans s1, fun j u hu => ?_⟩
  obtain ⟨u1, e1, f1⟩ := h1 j u hu
  obtain ⟨u2, e2, f2⟩ := h2 j u1 e1
  refine ⟨u2, e2, ?_⟩
  rcases f2 with rfl | f2
  · exact f1
  · exact Or.inr (hk _ _ _ f2)
/-- what is of its kind stays so: this runs through any number of steps -/
def Kept (D lo : Nat) (w w' : World) : Prop := ∀ (t : TypeId) (j : Nat) (u : Value), OK D lo w t j u → OK D lo w' t j u
theorem Chg.kept {lo : Nat} {w w' : World} (h : Chg D lo w w') : Kept D lo w w' := fun _ _ _ k => k.keep h
theorem Kept.trans {lo : Nat} {a b c : World} (h : Kept D lo a b) (k : Kept D lo b c) : Kept D lo a c := fun t j u x => k t j u (h t j u x)
theorem Kept.refl (lo : Nat) (w : World) : Kept D lo w w := fun _ _ _ h => h
theorem OK.ofI {lo : Nat} {w : World} {u : Value} (h : TyI D lo w u) : OK D lo w 68 1 u := Or.inr (Or.inl ⟨rfl, by unfold PhiP; rw [if_pos rfl]; exact h⟩)
theorem OK.toI {lo : Nat} {w : World} {u : Value} (h : OK D lo w 68 1 u) : TyI D lo w u := by have := h.phi; unfold PhiP at this; rwa [if_pos rfl] at this
theorem OK.ofPhis {lo : Nat} {w : World} {u : Value} (h : TyPhis D lo w u) : OK D lo w 34 0 u := Or.inr (Or.inr (Or.inr (Or.inl ⟨rfl, by unfold BlkP; rw [if_pos rfl]; exact h⟩)))
theorem OK.toPhis {lo : Nat} {w : World} {u : Value} (h : OK D lo w 34 0 u) : TyPhis D lo w u := by have := h.blk; unfold BlkP at this; rwa [if_pos rfl] at this
theorem OK.ofInss {lo : Nat} {w : World} {u : Value} (h : TyInss D lo w u) : OK D lo w 34 1 u := Or.inr (Or.inr (Or.inr (Or.inl ⟨rfl, by unfold BlkP; rw [if_neg (by decide), if_pos rfl]; exact h⟩)))
theorem OK.toInss {lo : Nat} {w : World} {u : Value} (h : OK D lo w 34 1 u) : TyInss D lo w u := by have := h.blk; unfold BlkP at this; rwa [if_neg (by decide), if_pos rfl] at this
theorem OK.ofBlks {lo : Nat} {w : World} {u : Value} (h : TyBlks D lo w u) : OK D lo w 39 1 u := Or.inr (Or.inr (Or.inr (Or.inr (Or.inr ⟨rfl, by rw [if_neg (by decide)]; exact h⟩))))
theorem OK.toBlks {lo : Nat} {w : World} {u : Value} (h : OK D lo w 39 1 u) : TyBlks D lo w u := by have := h.unit; rwa [if_neg (by decide)] at this
theorem OK.ofCods {lo : Nat} {w : World} {u : Value} (h : TyCods D lo w u) : OK D lo w 39 0 u := Or.inr (Or.inr (Or.inr (Or.inr (Or.inr ⟨rfl, by rw [if_pos rfl]; exact h⟩))))
theorem OK.toCods {lo : Nat} {w : World} {u : Value} (h : OK D lo w 39 0 u) : TyCods D lo w u := by have := h.unit; rwa [if_pos rfl] at this
theorem TyI.kept {lo : Nat} {w w' : World} {u : Value} (h : TyI D lo w u) (k : Kept D lo w w') : TyI D lo w' u := (k _ _ _ (OK.ofI h)).toI
theorem TyPhis.kept {lo : Nat} {w w' : World} {u : Value} (h : TyPhis D lo w u) (k : Kept D lo w w') : TyPhis D lo w' u := (k _ _ _ (OK.ofPhis h)).toPhis
theorem TyInss.kept {lo : Nat} {w w' : World} {u : Value} (h : TyInss D lo w u) (k : Kept D lo w w') : TyInss D lo w' u := (k _ _ _ (OK.ofInss h)).toInss
theorem TyBlks.kept {lo : Nat} {w w' : World} {u : Value} (h : TyBlks D lo w u) (k : Kept D lo w w') : TyBlks D lo w' u := (k _ _ _ (OK.ofBlks h)).toBlks
theorem TyCods.kept {lo : Nat} {w w' : World} {u : Value} (h : TyCods D lo w u) (k : Kept D lo w w') : TyCods D lo w' u := (k _ _ _ (OK.ofCods h)).toCods
/-- the bounds may be raised -/
theorem TyS.up {t : TypeId} {size N N' lo : Nat} {w : World} {P P' : Nat → Value → Prop} {v : Value} (h : TyS t size N lo w P v) (hN : N ≤ N') (hP : ∀ j u, P j u → P' j u) : TyS t size N' lo w P' v := by
  obtain ⟨A, n, cap, rfl, h1, h2, h3, h4⟩ := h
  refine ⟨A, n, cap, rfl, by omega, h2, h3, fun hc => ?_⟩
  obtain ⟨b, cur, rfl, hb, R, hs, hcs⟩ := h4 hc
  exact ⟨b, cur, rfl, hb, R, hs, fun j hj => (hcs j hj).imp fun u hu => ⟨hu.1, hP j u hu.2⟩⟩
theorem TyI.up {D' lo : Nat} {w : World} {v : Value} (hD : D ≤ D') (h : TyI D lo w v) : TyI D' lo w v := TyS.up h (by omega) fun _ _ h => h
theorem PhiP.up {D' lo : Nat} {w : World} {j : Nat} {v : Value} (hD : D ≤ D') (h : PhiP D lo w j v) : PhiP D' lo w j v := by
  unfold PhiP at h ⊢
  by_cases e : j % 2 = 1
  · rw [if_pos e] at h ⊢
    exact h.up hD
  · rw [if_neg e] at h ⊢
    exact h
theorem TyPhis.up {D' lo : Nat} {w : World} {v : Value} (hD : D ≤ D') (h : TyPhis D lo w v) : TyPhis D' lo w v := TyS.up h (by omega) fun _ _ h => h.up hD
theorem InsP.up {D' lo : Nat} {w : World} {j : Nat} {v : Value} (hD : D ≤ D') (h : InsP D lo w j v) : InsP D' lo w j v := by
  unfold InsP at h ⊢
  by_cases e : j % 4 = 2
  · rw [if_pos e] at h ⊢
    exact h.up hD
  · rw [if_neg e] at h ⊢
    exact h
theorem TyInss.up {D' lo : Nat} {w : World} {v : Value} (hD : D ≤ D') (h : TyInss D lo w v) : TyInss D' lo w v := TyS.up h (by omega) fun _ _ h => h.up hD
theorem BlkP.up {D' lo : Nat} {w : World} {j : Nat} {v : Value} (hD : D ≤ D') (h : BlkP D lo w j v) : BlkP D' lo w j v := by
  unfold BlkP at h ⊢
  by_cases e : j % 5 = 0
  · rw [if_pos e] at h ⊢
    exact h.up hD
  · rw [if_neg e] at h ⊢
    by_cases e1 : j % 5 = 1
    · rw [if_pos e1] at h ⊢
      exact h.up hD
    · rw [if_neg e1] at h ⊢
      by_cases e4 : j % 5 = 4
      · rw [if_pos e4] at h ⊢
        exact h.up hD
      · rw [if_neg e4] at h ⊢
        exact h
theorem TyBlks.up {D' lo : Nat} {w : World} {v : Value} (hD : D ≤ D') (h : TyBlks D lo w v) : TyBlks D' lo w v := TyS.up h (by omega) fun _ _ h => h.up hD
theorem CodP.up {D' lo : Nat} {w : World} {j : Nat} {v : Value} (hD : D ≤ D') (h : CodP D lo w j v) : CodP D' lo w j v := by
  unfold CodP at h ⊢
  by_cases e : j % 3 = 0
  · rw [if_pos e] at h ⊢
    exact h
  · rw [if_neg e] at h ⊢
    by_cases e1 : j % 3 = 1
    · rw [if_pos e1] at h ⊢
      exact h
    · rw [if_neg e1] at h ⊢
      exact ⟨h.1.up hD, h.2⟩
theorem TyCods.up {D' lo : Nat} {w : World} {v : Value} (hD : D ≤ D') (h : TyCods D lo w v) : TyCods D' lo w v := TyS.up h (by omega) fun _ _ h => h.up hD
end Go.Proofs.Ytafembiemaflfaa
