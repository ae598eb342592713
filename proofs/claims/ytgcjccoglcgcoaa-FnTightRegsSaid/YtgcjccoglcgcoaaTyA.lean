/-
  Several texts in one: Ty, TyApp, TySl.
-/
import Derived.Test.YtgcjccoglcgcoaaSz
import Derived.ArgAppend
import Derived.Maps.AppendAt
namespace Go.Proofs.Ytgcjccoglcgcoaa
open Go.RowKit Go.ChangeShapes Go.WideShapes Go.Deep
variable {D : Nat}
set_option linter.unusedVariables false
set_option linter.unusedSimpArgs false
def IntP (u : Value) : Prop := ∃ n : Int, I64 n ∧ u = .int .i64 n
/-- a slice of few elements in a row of a type, from the row's first cell on; each of its cells is as P says, by its place -/
def TyS (t : TypeId) (size N : Nat) (lo : Nat) (w : World) (P : Nat → Value → Prop) (v : Value) : Prop :=
  ∃ (A : Option Addr) (n cap : Nat), v = .slice A n cap ∧ n ≤ N ∧ n ≤ cap ∧ cap ≤ maxLen ∧
    (0 < cap → ∃ b cur, A = some ⟨b, 0, none⟩ ∧ lo ≤ b ∧ Row w b t cur ∧ cur.size = cap * size ∧ ∀ j, j < n * size → ∃ u, cur[j]? = some u ∧ P j u)
def TyI (D lo : Nat) (w : World) (v : Value) : Prop := TyS 3 1 (30 + D) lo w (fun _ u => IntP u) v
def PhiP (D lo : Nat) (w : World) (j : Nat) (u : Value) : Prop := if j % 2 = 1 then TyI D lo w u else IntP u
def TyPhis (D lo : Nat) (w : World) (v : Value) : Prop := TyS 69 2 (4 + D) lo w (PhiP D lo w) v
def InsP (D lo : Nat) (w : World) (j : Nat) (u : Value) : Prop := if j % 4 = 2 then TyI D lo w u else IntP u
def TyInss (D lo : Nat) (w : World) (v : Value) : Prop := TyS 72 4 10 lo w (InsP D lo w) v
def BlkP (D lo : Nat) (w : World) (j : Nat) (u : Value) : Prop := if j % 5 = 0 then TyPhis D lo w u else if j % 5 = 1 then TyInss D lo w u else if j % 5 = 4 then TyI D lo w u else IntP u
def TyBlks (D lo : Nat) (w : World) (v : Value) : Prop := TyS 65 5 10 lo w (BlkP D lo w) v
def SmallP (N : Nat) (u : Value) : Prop := ∃ n : Nat, n ≤ N ∧ u = .int .i64 (n : Int)
/-- a slice that is not empty -/
def NonE (u : Value) : Prop := ∃ A n cap, u = .slice A n cap ∧ 0 < n
def CodP (D lo : Nat) (w : World) (j : Nat) (u : Value) : Prop := if j % 3 = 0 then SmallP 3 u else if j % 3 = 1 then SmallP 300 u else TyBlks D lo w u ∧ NonE u
def TyCods (D lo : Nat) (w : World) (v : Value) : Prop := TyS 39 3 10 lo w (CodP D lo w) v
/-- a value that may stand at a place of a row of a type -/
def OK (D lo : Nat) (w : World) (t : TypeId) (j : Nat) (u : Value) : Prop :=
  (t = 3 ∧ IntP u) ∨ (t = 69 ∧ PhiP D lo w j u) ∨ (t = 72 ∧ InsP D lo w j u) ∨ (t = 65 ∧ BlkP D lo w j u) ∨ (t = 39 ∧ CodP D lo w j u) ∨ (t = 28 ∧ (if j = 0 then TyCods D lo w u else TyBlks D lo w u))
/-- from block lo on, rows stay rows, and their cells are as they were or have values of their kind -/
def Chg (D lo : Nat) (w w' : World) : Prop := ∀ (b : Nat) (t : TypeId) (cur : Array Value), lo ≤ b → Row w b t cur → ∃ cur' : Array Value, Row w' b t cur' ∧ cur'.size = cur.size ∧ ∀ (j : Nat) (u : Value), cur[j]? = some u → ∃ u', cur'[j]? = some u' ∧ (u' = u ∨ OK D lo w t j u')
theorem TyS.keep {t : TypeId} {size N lo : Nat} {w w' : World} {P P' : Nat → Value → Prop} {v : Value} (h : TyS t size N lo w P v) (hc : Chg D lo w w') (hP : ∀ j u, P j u → P' j u) (hO : ∀ j u, OK D lo w t j u → P j u) : TyS t size N lo w' P' v := by
  obtain ⟨A, n, cap, rfl, h1, h2, h3, h4⟩ := h
  refine ⟨A, n, cap, rfl, h1, h2, h3, fun hcap => ?_⟩
  obtain ⟨b, cur, rfl, hlo, R, hs, hcells⟩ := h4 hcap
  obtain ⟨cur', R', hs', hch⟩ := hc b t cur hlo R
  refine ⟨b, cur', rfl, hlo, R', hs'.trans hs, fun j hj => ?_⟩
  obtain ⟨u, hu, hp⟩ := hcells j hj
  obtain ⟨u', hu', e | e⟩ := hch j u hu
  · exact ⟨u', hu', hP _ _ (e ▸ hp)⟩
  · exact ⟨u', hu', hP _ _ (hO _ _ e)⟩
theorem OK.int {lo : Nat} {w : World} {j : Nat} {u : Value} (h : OK D lo w 3 j u) : IntP u := by
  rcases h with ⟨_, h⟩ | ⟨e, _⟩ | ⟨e, _⟩ | ⟨e, _⟩ | ⟨e, _⟩ | ⟨e, _⟩
  · exact h
  all_goals exact absurd e (by decide)
theorem OK.phi {lo : Nat} {w : World} {j : Nat} {u : Value} (h : OK D lo w 69 j u) : PhiP D lo w j u := by
  rcases h with ⟨e, _⟩ | ⟨_, h⟩ | ⟨e, _⟩ | ⟨e, _⟩ | ⟨e, _⟩ | ⟨e, _⟩
  · exact absurd e (by decide)
  · exact h
  all_goals exact absurd e (by decide)
theorem OK.ins {lo : Nat} {w : World} {j : Nat} {u : Value} (h : OK D lo w 72 j u) : InsP D lo w j u := by
  rcases h with ⟨e, _⟩ | ⟨e, _⟩ | ⟨_, h⟩ | ⟨e, _⟩ | ⟨e, _⟩ | ⟨e, _⟩
  · exact absurd e (by decide)
  · exact absurd e (by decide)
  · exact h
  all_goals exact absurd e (by decide)
theorem OK.blk {lo : Nat} {w : World} {j : Nat} {u : Value} (h : OK D lo w 65 j u) : BlkP D lo w j u := by
  rcases h with ⟨e, _⟩ | ⟨e, _⟩ | ⟨e, _⟩ | ⟨_, h⟩ | ⟨e, _⟩ | ⟨e, _⟩
  · exact absurd e (by decide)
  · exact absurd e (by decide)
  · exact absurd e (by decide)
  · exact h
  all_goals exact absurd e (by decide)
theorem OK.cod {lo : Nat} {w : World} {j : Nat} {u : Value} (h : OK D lo w 39 j u) : CodP D lo w j u := by
  rcases h with ⟨e, _⟩ | ⟨e, _⟩ | ⟨e, _⟩ | ⟨e, _⟩ | ⟨_, h⟩ | ⟨e, _⟩
  · exact absurd e (by decide)
  · exact absurd e (by decide)
  · exact absurd e (by decide)
  · exact absurd e (by decide)
  · exact h
  · exact absurd e (by decide)
theorem OK.unit {lo : Nat} {w : World} {j : Nat} {u : Value} (h : OK D lo w 28 j u) : if j = 0 then TyCods D lo w u else TyBlks D lo w u := by
  rcases h with ⟨e, _⟩ | ⟨e, _⟩ | ⟨e, _⟩ | ⟨e, _⟩ | ⟨e, _⟩ | ⟨_, h⟩
  · exact absurd e (by decide)
  · exact absurd e (by decide)
  · exact absurd e (by decide)
  · exact absurd e (by decide)
  · exact absurd e (by decide)
  · exact h
theorem TyI.keep {lo : Nat} {w w' : World} {v : Value} (h : TyI D lo w v) (hc : Chg D lo w w') : TyI D lo w' v := TyS.keep h hc (fun _ _ h => h) (fun _ _ h => h.int)
theorem PhiP.keep {lo : Nat} {w w' : World} {j : Nat} {v : Value} (h : PhiP D lo w j v) (hc : Chg D lo w w') : PhiP D lo w' j v := by
  unfold PhiP at h ⊢
  by_cases e : j % 2 = 1
  · rw [if_pos e] at h ⊢
    exact h.keep hc
  · rw [if_neg e] at h ⊢
    exact h
theorem TyPhis.keep {lo : Nat} {w w' : World} {v : Value} (h : TyPhis D lo w v) (hc : Chg D lo w w') : TyPhis D lo w' v := TyS.keep h hc (fun _ _ h => h.keep hc) (fun _ _ h => h.phi)
theorem InsP.keep {lo : Nat} {w w' : World} {j : Nat} {v : Value} (h : InsP D lo w j v) (hc : Chg D lo w w') : InsP D lo w' j v := by
  unfold InsP at h ⊢
  by_cases e : j % 4 = 2
  · rw [if_pos e] at h ⊢
    exact h.keep hc
  · rw [if_neg e] at h ⊢
    exact h
theorem TyInss.keep {lo : Nat} {w w' : World} {v : Value} (h : TyInss D lo w v) (hc : Chg D lo w w') : TyInss D lo w' v := TyS.keep h hc (fun _ _ h => h.keep hc) (fun _ _ h => h.ins)
theorem BlkP.keep {lo : Nat} {w w' : World} {j : Nat} {v : Value} (h : BlkP D lo w j v) (hc : Chg D lo w w') : BlkP D lo w' j v := by
  unfold BlkP at h ⊢
  by_cases e : j % 5 = 0
  · rw [if_pos e] at h ⊢
    exact h.keep hc
  · rw [if_neg e] at h ⊢
    by_cases e1 : j % 5 = 1
    · rw [if_pos e1] at h ⊢
      exact h.keep hc
    · rw [if_neg e1] at h ⊢
      by_cases e4 : j % 5 = 4
      · rw [if_pos e4] at h ⊢
        exact h.keep hc
      · rw [if_neg e4] at h ⊢
        exact h
theorem TyBlks.keep {lo : Nat} {w w' : World} {v : Value} (h : TyBlks D lo w v) (hc : Chg D lo w w') : TyBlks D lo w' v := TyS.keep h hc (fun _ _ h => h.keep hc) (fun _ _ h => h.blk)
theorem CodP.keep {lo : Nat} {w w' : World} {j : Nat} {v : Value} (h : CodP D lo w j v) (hc : Chg D lo w w') : CodP D lo w' j v := by
  unfold CodP at h ⊢
  by_cases e : j % 3 = 0
  · rw [if_pos e] at h ⊢
    exact h
  · rw [if_neg e] at h ⊢
    by_cases e1 : j % 3 = 1
    · rw [if_pos e1] at h ⊢
      exact h
    · rw [if_neg e1] at h ⊢
      exact ⟨h.1.keep hc, h.2⟩
theorem TyCods.keep {lo : Nat} {w w' : World} {v : Value} (h : TyCods D lo w v) (hc : Chg D lo w w') : TyCods D lo w' v := TyS.keep h hc (fun _ _ h => h.keep hc) (fun _ _ h => h.cod)
theorem OK.keep {lo : Nat} {w w' : World} {t : TypeId} {j : Nat} {u : Value} (h : OK D lo w t j u) (hc : Chg D lo w w') : OK D lo w' t j u := by
  rcases h with ⟨e, h⟩ | ⟨e, h⟩ | ⟨e, h⟩ | ⟨e, h⟩ | ⟨e, h⟩ | ⟨e, h⟩
  · exact Or.inl ⟨e, h⟩
  · exact Or.inr (Or.inl ⟨e, h.keep hc⟩)
  · exact Or.inr (Or.inr (Or.inl ⟨e, h.keep hc⟩))
  · exact Or.inr (Or.inr (Or.inr (Or.inl ⟨e, h.keep hc⟩)))
  · exact Or.inr (Or.inr (Or.inr (Or.inr (Or.inl ⟨e, h.keep hc⟩))))
  · refine Or.inr (Or.inr (Or.inr (Or.inr (Or.inr ⟨e, ?_⟩))))
    by_cases q : j = 0
    · rw [if_pos q] at h ⊢
      exact h.keep hc
    · rw [if_neg q] at h ⊢
      exact h.keep hc
theorem Chg.same {lo : Nat} {w w' : World} (h : ∀ b, lo ≤ b → b < w.heap.size → w'.heap[b]? = w.heap[b]?) : Chg D lo w w' := fun b t cur hb R => ⟨cur, (h b hb R.lt).trans R, rfl, fun j u hu => ⟨u, hu, Or.inl rfl⟩⟩
theorem Chg.refl (lo : Nat) (w : World) : Chg D lo w w := Chg.same fun _ _ _ => rfl
theorem Chg.below {lo : Nat} {w w' : World} (h : Below w.heap.size w w') : Chg D lo w w' := Chg.same fun b _ hb => h.block b hb
/-- a cell of its kind is written -/
theorem Chg.set {lo : Nat} {w : World} {b j : Nat} {t : TypeId} {cur : Array Value} {v : Value} (R : Row w b t cur) (hv : OK D lo w t j v) : Chg D lo w (w.setCell ⟨b, j, none⟩ v) := by
  intro b' t' cur' hb' R'
  by_cases e : b' = b
  · subst e
    have e2 := R.symm.trans R'
    injection e2 with e2
    injection e2 with e2 e3
    subst e2
    subst e3
    refine ⟨_, R.set_ j v, by simp, fun i u hu => ?_⟩
    by_cases hij : i = j
    · subst hij
      have hi := (Array.getElem?_eq_some_iff.1 hu).1
      exact ⟨v, set_same hi v, Or.inr hv⟩
    · exact ⟨u, (set_ne (Ne.symm hij) v).trans hu, Or.inl rfl⟩
  · exact ⟨cur', R'.far e v, rfl, fun i u hu => ⟨u, hu, Or.inl rfl⟩⟩
theorem Chg.trans {lo : Nat} {a b c : World} (h : Chg D lo a b) (k : Chg D lo b c) (hk : ∀ t j u, OK D lo b t j u → OK D lo a t j u) : Chg D lo a c := by
  intro x t cur hx R
  obtain ⟨cur1, R1, s1, h1⟩ := h x t cur hx R
  obtain ⟨cur2, R2, s2, h2⟩ := k x t cur1 hx R1
  refine ⟨cur2, R2, s2.trans s1, fun j u hu => ?_⟩
  obtain ⟨u1, e1, f1⟩ := h1 j u hu
  obtain ⟨u2, e2, f2⟩ := h2 j u1 e1
  refine ⟨u2, e2, ?_⟩
  rcases f2 with rfl | f2
  · exact f1
  · exact Or.inr (hk _ _ _ f2)
/-- what is of its kind stays so: this runs through any number of steps -/
def Kept (D lo : Nat) (w w' : World) : Prop := ∀ (t : TypeId) (j : Nat) (u : Value), OK D lo w t j u → OK D lo w' t j u
theorem Chg.kept {lo : Nat} {w w' : World} (h : Chg D lo w w') : Kept D lo w w' := fun _ _ _ k => k.keep h
theorem Kept.trans {lo : Nat} {a b c : World} (h : Kept D lo a b) (k : Kept D lo b c) : Kept D lo a c := fun t j u x => k t j u (h t j u x)
theorem Kept.refl (lo : Nat) (w : World) : Kept D lo w w := fun _ _ _ h => h
theorem OK.ofI {lo : Nat} {w : World} {u : Value} (h : TyI D lo w u) : OK D lo w 69 1 u := Or.inr (Or.inl ⟨rfl, by unfold PhiP; rw [if_pos rfl]; exact h⟩)
theorem OK.toI {lo : Nat} {w : World} {u : Value} (h : OK D lo w 69 1 u) : TyI D lo w u := by have := h.phi; unfold PhiP at this; rwa [if_pos rfl] at this
theorem OK.ofPhis {lo : Nat} {w : World} {u : Value} (h : TyPhis D lo w u) : OK D lo w 65 0 u := Or.inr (Or.inr (Or.inr (Or.inl ⟨rfl, by unfold BlkP; rw [if_pos rfl]; exact h⟩)))
theorem OK.toPhis {lo : Nat} {w : World} {u : Value} (h : OK D lo w 65 0 u) : TyPhis D lo w u := by have := h.blk; unfold BlkP at this; rwa [if_pos rfl] at this
theorem OK.ofInss {lo : Nat} {w : World} {u : Value} (h : TyInss D lo w u) : OK D lo w 65 1 u := Or.inr (Or.inr (Or.inr (Or.inl ⟨rfl, by unfold BlkP; rw [if_neg (by decide), if_pos rfl]; exact h⟩)))
theorem OK.toInss {lo : Nat} {w : World} {u : Value} (h : OK D lo w 65 1 u) : TyInss D lo w u := by have := h.blk; unfold BlkP at this; rwa [if_neg (by decide), if_pos rfl] at this
theorem OK.ofBlks {lo : Nat} {w : World} {u : Value} (h : TyBlks D lo w u) : OK D lo w 28 1 u := Or.inr (Or.inr (Or.inr (Or.inr (Or.inr ⟨rfl, by rw [if_neg (by decide)]; exact h⟩))))
theorem OK.toBlks {lo : Nat} {w : World} {u : Value} (h : OK D lo w 28 1 u) : TyBlks D lo w u := by have := h.unit; rwa [if_neg (by decide)] at this
theorem OK.ofCods {lo : Nat} {w : World} {u : Value} (h : TyCods D lo w u) : OK D lo w 28 0 u := Or.inr (Or.inr (Or.inr (Or.inr (Or.inr ⟨rfl, by rw [if_pos rfl]; exact h⟩))))
theorem OK.toCods {lo : Nat} {w : World} {u : Value} (h : OK D lo w 28 0 u) : TyCods D lo w u := by have := h.unit; rwa [if_pos rfl] at this
theorem TyI.kept {lo : Nat} {w w' : World} {u : Value} (h : TyI D lo w u) (k : Kept D lo w w') : TyI D lo w' u := (k _ _ _ (OK.ofI h)).toI
theorem TyPhis.kept {lo : Nat} {w w' : World} {u : Value} (h : TyPhis D lo w u) (k : Kept D lo w w') : TyPhis D lo w' u := (k _ _ _ (OK.ofPhis h)).toPhis
theorem TyInss.kept {lo : Nat} {w w' : World} {u : Value} (h : TyInss D lo w u) (k : Kept D lo w w') : TyInss D lo w' u := (k _ _ _ (OK.ofInss h)).toInss
theorem TyBlks.kept {lo : Nat} {w w' : World} {u : Value} (h : TyBlks D lo w u) (k : Kept D lo w w') : TyBlks D lo w' u := (k _ _ _ (OK.ofBlks h)).toBlks
theorem TyCods.kept {lo : Nat} {w w' : World} {u : Value} (h : TyCods D lo w u) (k : Kept D lo w w') : TyCods D lo w' u := (k _ _ _ (OK.ofCods h)).toCods
/-- the bounds may be raised -/
theorem TyS.up {t : TypeId} {size N N' lo : Nat} {w : World} {P P' : Nat → Value → Prop} {v : Value} (h : TyS t size N lo w P v) (hN : N ≤ N') (hP : ∀ j u, P j u → P' j u) : TyS t size N' lo w P' v := by
  obtain ⟨A, n, cap, rfl, h1, h2, h3, h4⟩ := h
  refine ⟨A, n, cap, rfl, by omega, h2, h3, fun hc => ?_⟩
  obtain ⟨b, cur, rfl, hb, R, hs, hcs⟩ := h4 hc
  exact ⟨b, cur, rfl, hb, R, hs, fun j hj => (hcs j hj).imp fun u hu => ⟨hu.1, hP j u hu.2⟩⟩
theorem TyI.up {D' lo : Nat} {w : World} {v : Value} (hD : D ≤ D') (h : TyI D lo w v) : TyI D' lo w v := TyS.up h (by omega) fun _ _ h => h
theorem PhiP.up {D' lo : Nat} {w : World} {j : Nat} {v : Value} (hD : D ≤ D') (h : PhiP D lo w j v) : PhiP D' lo w j v := by
  unfold PhiP at h ⊢
  by_cases e : j % 2 = 1
  · rw [if_pos e] at h ⊢
    exact h.up hD
  · rw [if_neg e] at h ⊢
    exact h
theorem TyPhis.up {D' lo : Nat} {w : World} {v : Value} (hD : D ≤ D') (h : TyPhis D lo w v) : TyPhis D' lo w v := TyS.up h (by omega) fun _ _ h => h.up hD
theorem InsP.up {D' lo : Nat} {w : World} {j : Nat} {v : Value} (hD : D ≤ D') (h : InsP D lo w j v) : InsP D' lo w j v := by
  unfold InsP at h ⊢
  by_cases e : j % 4 = 2
  · rw [if_pos e] at h ⊢
    exact h.up hD
  · rw [if_neg e] at h ⊢
    exact h
theorem TyInss.up {D' lo : Nat} {w : World} {v : Value} (hD : D ≤ D') (h : TyInss D lo w v) : TyInss D' lo w v := TyS.up h (by omega) fun _ _ h => h.up hD
theorem BlkP.up {D' lo : Nat} {w : World} {j : Nat} {v : Value} (hD : D ≤ D') (h : BlkP D lo w j v) : BlkP D' lo w j v := by
  unfold BlkP at h ⊢
  by_cases e : j % 5 = 0
  · rw [if_pos e] at h ⊢
    exact h.up hD
  · rw [if_neg e] at h ⊢
    by_cases e1 : j % 5 = 1
    · rw [if_pos e1] at h ⊢
      exact h.up hD
    · rw [if_neg e1] at h ⊢
      by_cases e4 : j % 5 = 4
      · rw [if_pos e4] at h ⊢
        exact h.up hD
      · rw [if_neg e4] at h ⊢
        exact h
theorem TyBlks.up {D' lo : Nat} {w : World} {v : Value} (hD : D ≤ D') (h : TyBlks D lo w v) : TyBlks D' lo w v := TyS.up h (by omega) fun _ _ h => h.up hD
theorem CodP.up {D' lo : Nat} {w : World} {j : Nat} {v : Value} (hD : D ≤ D') (h : CodP D lo w j v) : CodP D' lo w j v := by
  unfold CodP at h ⊢
  by_cases e : j % 3 = 0
  · rw [if_pos e] at h ⊢
    exact h
  · rw [if_neg e] at h ⊢
    by_cases e1 : j % 3 = 1
    · rw [if_pos e1] at h ⊢
      exact h
    · rw [if_neg e1] at h ⊢
      exact ⟨h.1.up hD, h.2⟩
theorem TyCods.up {D' lo : Nat} {w : World} {v : Value} (hD : D ≤ D') (h : TyCods D lo w v) : TyCods D' lo w v := TyS.up h (by omega) fun _ _ h => h.up hD
end Go.Proofs.Ytgcjccoglcgcoaa

namespace Go.Proofs.Ytgcjccoglcgcoaa
open Go.RowKit Go.ChangeShapes Go.WideShapes Go.Deep
variable {D : Nat}
set_option linter.unusedVariables false
set_option linter.unusedSimpArgs false
theorem mid_get {α : Type} (L news : List α) (k j : Nat) (h : k + news.length ≤ L.length) : (L.take k ++ news ++ L.drop (k + news.length))[j]? = if j < k then L[j]? else if j < k + news.length then news[j - k]? else L[j]? := by
  have hk : (L.take k).length = k := by rw [List.length_take]; omega
  by_cases h1 : j < k
  · rw [if_pos h1, List.append_assoc, List.getElem?_append_left (by omega), List.getElem?_take_of_lt h1]
  · rw [if_neg h1]
    by_cases h2 : j < k + news.length
    · rw [if_pos h2, List.append_assoc, List.getElem?_append_right (by omega), hk, List.getElem?_append_left (by omega)]
    · rw [if_neg h2, List.getElem?_append_right (by rw [List.length_append]; omega), List.getElem?_drop, List.length_append, hk]
      congr 1
      omega
/-- one element more at the end of a slice of its kind -/
theorem run_append_ty2 {P : Program} (w : World) (t ty e : TypeId) (i : TypeInfo) (z : Value) (size bytes N lo : Nat) (Pp : Nat → Value → Prop) (ht : P.underlying t = some (.slice e)) (hi : P.info? e = some i) (hz : i.zero = some z)
    (hsize : i.size = size) (hby : i.bytes = bytes) (hzs : z.cells.size = size) (hsz : 0 < size) (A : Option Addr) (n cap : Nat) (h : TyS e size N lo w Pp (.slice A n cap))
    (a : Addr) (c : Nat) (news : List Value) (hl : news.length = size) (hnews : ∀ j u, news[j]? = some u → w.cell? (a.add j) = some u) (h1 : ∀ u ∈ news, u.oneCell' = true)
    (hP : ∀ j u, news[j]? = some u → Pp (n * size + j) u ∧ OK D lo w e (n * size + j) u) (hN : n + 1 ≤ N) (hN2 : n + 1 ≤ 1000) (hbytes : 1000 * bytes ≤ 140737488355328) (hlo : lo ≤ w.heap.size) :
    ∃ (A' : Option Addr) (cap' : Nat) (w' : World), (Builtin.append_ #[t, t] ty #[.slice A n cap, .slice (some a) 1 c]).run P w = .ok (.slice A' (n + 1) cap') w' ∧ TyS e size N lo w' Pp (.slice A' (n + 1) cap') ∧ Chg D lo w w' ∧ ∃ r : Option Nat, w.grownBy w' r ∧ (∀ b, r = some b → lo ≤ b ∧ ∃ cur, Row w b e cur) ∧ ∀ b, r = some b → A = some ⟨b, 0, none⟩ ∧ 0 < cap := by
  subst hsize
  subst hby
  have hb1 : (n + 1) * i.bytes ≤ 140737488355328 := Nat.le_trans (Nat.mul_le_mul_right _ (by omega)) hbytes
  have grown : ∀ (xs : List Value) (old : Nat), xs.length = n * i.size → (∀ j u, xs[j]? = some u → Pp j u) → old < n + 1 →
      TyS e i.size N lo (w.drew.alloc (.cells (xs.toArray ++ news.toArray ++ Builtin.zeroCells z.cells (grownCap w (n + 1) old e - (n + 1))) e)) Pp (.slice (some ⟨w.heap.size, 0, none⟩) (n + 1) (grownCap w (n + 1) old e)) ∧
      Chg D lo w (w.drew.alloc (.cells (xs.toArray ++ news.toArray ++ Builtin.zeroCells z.cells (grownCap w (n + 1) old e - (n + 1))) e)) ∧
      ∃ r : Option Nat, w.grownBy (w.drew.alloc (.cells (xs.toArray ++ news.toArray ++ Builtin.zeroCells z.cells (grownCap w (n + 1) old e - (n + 1))) e)) r ∧ (∀ b, r = some b → lo ≤ b ∧ ∃ cur, Row w b e cur) ∧ ∀ b, r = some b → A = some ⟨b, 0, none⟩ ∧ 0 < cap := by
    intro xs old hx hxP ho
    have hge := grownCap_ge w (n + 1) old e
    have hBel : Below w.heap.size w (w.drew.alloc (.cells (xs.toArray ++ news.toArray ++ Builtin.zeroCells z.cells (grownCap w (n + 1) old e - (n + 1))) e)) := ((Below.refl _ w).drew).alloc (Nat.le_refl _) _
    have hcm : grownCap w (n + 1) old e ≤ maxLen := grownCap_le_maxLen w (n + 1) old e (by unfold maxLen; omega)
    refine ⟨⟨_, _, _, rfl, hN, hge, hcm, fun _ => ⟨w.heap.size, _, rfl, hlo, heap_alloc_new w.drew _, ?_, fun j hj => ?_⟩⟩, Chg.below hBel, none, ⟨rfl, rfl, rfl, by simp, fun k hk _ => hBel.block k hk⟩, (fun b hb => by cases hb), fun b hb => by cases hb⟩
    · simp only [Array.size_append, List.size_toArray, size_zeroCells, hzs, hx, hl]
      rw [show n * i.size + i.size = (n + 1) * i.size by rw [Nat.add_mul, Nat.one_mul], ← Nat.add_mul]
      congr 1
      omega
    · rw [Nat.add_mul, Nat.one_mul] at hj
      by_cases hjn : j < n * i.size
      · obtain ⟨u, hu⟩ : ∃ u, xs[j]? = some u := ⟨_, List.getElem?_eq_getElem (by omega)⟩
        refine ⟨u, ?_, hxP j u hu⟩
        rw [Array.append_assoc, Array.getElem?_append_left (by simp; omega)]
        simpa using hu
      · obtain ⟨u, hu⟩ : ∃ u, news[j - n * i.size]? = some u := ⟨_, List.getElem?_eq_getElem (by omega)⟩
        have hp := (hP _ u hu).1
        rw [show n * i.size + (j - n * i.size) = j by omega] at hp
        refine ⟨u, ?_, hp⟩
        rw [Array.getElem?_append_left (by simp; omega), Array.getElem?_append_right (by simp; omega)]
        simpa [hx] using hu
  obtain ⟨A1, n1, cap1, e1, k1, k2, k3, k4⟩ := h
  injection e1 with e1 e2 e3
  subst e1
  subst e2
  subst e3
  by_cases hc0 : cap = 0
  · subst hc0
    obtain rfl : n = 0 := by omega
    have hg := grown [] 0 (by simp) (fun j u hu => by simp at hu) (by omega)
    cases A with
    | none =>
      have hr := run_append_nil (P := P) w t ty e i z ht hi hz a 1 c news (by omega) hnews (by omega) (by omega) (by omega)
      simp only [Nat.zero_add, List.nil_append, Array.empty_append] at hg ⊢
      exact ⟨_, _, _, hr, hg⟩
    | some b =>
      have hr := run_append_grow (P := P) w t ty e i z ht hi hz b 0 0 [] (by simp) (fun j v hv => by simp at hv) a 1 c news (by omega) hnews (by omega) (by omega) (growslice_fits (by omega) hb1)
      exact ⟨_, _, _, hr, hg⟩
  · obtain ⟨b, cur, rfl, hb, R, hcs, hcells⟩ := k4 (by omega)
    have hxl : (cur.toList.take (n * i.size)).length = n * i.size := by
      rw [List.length_take, Array.length_toList, hcs]
      have := Nat.mul_le_mul_right i.size k2
      omega
    by_cases hroom : n + 1 ≤ cap
    · have hfit : n * i.size + news.length ≤ cur.size := by
        have := Nat.mul_le_mul_right i.size hroom
        rw [Nat.add_mul, Nat.one_mul] at this
        omega
      have hr := run_append_room (P := P) w t ty e i ht hi b n cap cur R a 1 c news (by omega) hnews h1 hroom hfit
      have hget := fun j => mid_get cur.toList news (n * i.size) j (by rw [Array.length_toList]; exact hfit)
      obtain ⟨L, hLe⟩ : ∃ L, L = cur.toList.take (n * i.size) ++ news ++ cur.toList.drop (n * i.size + news.length) := ⟨_, rfl⟩
      rw [← hLe] at hr
      have R' : Row (w.setRow b L.toArray) b e L.toArray := setRow_heap w b cur _ e _ R
      have hLs : L.length = cur.size := by
        have q1 : L.length = n * i.size + news.length + (cur.size - (n * i.size + news.length)) := by
          rw [hLe, List.length_append, List.length_append, hxl, List.length_drop, show cur.toList.length = cur.size from Array.length_toList]
        omega
      have hcell : ∀ j u, cur[j]? = some u → ∃ u', L[j]? = some u' ∧ (u' = u ∨ (n * i.size ≤ j ∧ news[j - n * i.size]? = some u')) := by
        intro j u hu
        have hu' : cur.toList[j]? = some u := by simpa using hu
        rw [hLe, hget j]
        by_cases q1 : j < n * i.size
        · rw [if_pos q1]
          exact ⟨u, hu', Or.inl rfl⟩
        · rw [if_neg q1]
          by_cases q2 : j < n * i.size + news.length
          · rw [if_pos q2]
            exact ⟨_, List.getElem?_eq_getElem (by omega), Or.inr ⟨by omega, List.getElem?_eq_getElem (by omega)⟩⟩
          · rw [if_neg q2]
            exact ⟨u, hu', Or.inl rfl⟩
      refine ⟨_, _, _, hr, ⟨_, _, _, rfl, hN, hroom, k3, fun _ => ⟨b, L.toArray, rfl, hb, R', by simp [hLs, hcs], fun j hj => ?_⟩⟩, fun b' t' cur' hb' Rb => ?_, some b, ⟨rfl, rfl, rfl, by simp, fun k _ hk => setRow_other w b k _ (fun e => hk (by rw [e]))⟩, (fun b' hb' => by injection hb' with hb'; subst hb'; exact ⟨hb, cur, R⟩), fun b' hb' => by injection hb' with hb'; subst hb'; exact ⟨rfl, by omega⟩⟩
      · rw [Nat.add_mul, Nat.one_mul] at hj
        by_cases hjn : j < n * i.size
        · obtain ⟨u, hu, hp⟩ := hcells j hjn
          refine ⟨u, ?_, hp⟩
          have hu' : cur.toList[j]? = some u := by simpa using hu
          rw [List.getElem?_toArray, hLe, hget j, if_pos hjn]
          exact hu'
        · obtain ⟨u, hu⟩ : ∃ u, news[j - n * i.size]? = some u := ⟨_, List.getElem?_eq_getElem (by omega)⟩
          have hp := (hP _ u hu).1
          rw [show n * i.size + (j - n * i.size) = j by omega] at hp
          refine ⟨u, ?_, hp⟩
          rw [List.getElem?_toArray, hLe, hget j, if_neg hjn, if_pos (by omega)]
          exact hu
      · by_cases q : b' = b
        · subst q
          have e2 := R.symm.trans Rb
          injection e2 with e2
          injection e2 with e2 e3
          subst e2
          subst e3
          refine ⟨_, R', by simp [hLs], fun j u hu => ?_⟩
          obtain ⟨u', hu', hq⟩ := hcell j u hu
          refine ⟨u', by rw [List.getElem?_toArray]; exact hu', ?_⟩
          rcases hq with hq | ⟨hq1, hq2⟩
          · exact Or.inl hq
          · have := (hP _ u' hq2).2
            rw [show n * i.size + (j - n * i.size) = j by omega] at this
            exact Or.inr this
        · exact ⟨cur', (setRow_other w b b' _ q).trans Rb, rfl, fun j u hu => ⟨u, hu, Or.inl rfl⟩⟩
    · have holds : ∀ j u, (cur.toList.take (n * i.size))[j]? = some u → w.cell? ((⟨b, 0, none⟩ : Addr).add j) = some u := by
        intro j u hu
        have hj : j < n * i.size := by
          have := (List.getElem?_eq_some_iff.1 hu).1
          omega
        rw [List.getElem?_take_of_lt hj] at hu
        have := R.cell j
        rw [show (⟨b, 0, none⟩ : Addr).add j = ⟨b, j, none⟩ by by_cases hj0 : j = 0 <;> simp [Addr.add, hj0], this]
        simpa using hu
      have hr := run_append_grow (P := P) w t ty e i z ht hi hz ⟨b, 0, none⟩ n cap _ hxl holds a 1 c news (by omega) hnews (by omega) (by omega) (growslice_fits (by omega) hb1)
      have hg := grown (cur.toList.take (n * i.size)) cap hxl (fun j u hu => ?_) (by omega)
      · exact ⟨_, _, _, hr, hg⟩
      · have hj : j < n * i.size := by
          have := (List.getElem?_eq_some_iff.1 hu).1
          omega
        obtain ⟨u', hu', hp⟩ := hcells j hj
        rw [List.getElem?_take_of_lt hj] at hu
        have : cur[j]? = some u := by simpa using hu
        rw [this] at hu'
        injection hu' with hu'
        rw [hu']
        exact hp
/-- .. without the block's name -/
theorem run_append_ty {P : Program} (w : World) (t ty e : TypeId) (i : TypeInfo) (z : Value) (size bytes N lo : Nat) (Pp : Nat → Value → Prop) (ht : P.underlying t = some (.slice e)) (hi : P.info? e = some i) (hz : i.zero = some z)
    (hsize : i.size = size) (hby : i.bytes = bytes) (hzs : z.cells.size = size) (hsz : 0 < size) (A : Option Addr) (n cap : Nat) (h : TyS e size N lo w Pp (.slice A n cap))
    (a : Addr) (c : Nat) (news : List Value) (hl : news.length = size) (hnews : ∀ j u, news[j]? = some u → w.cell? (a.add j) = some u) (h1 : ∀ u ∈ news, u.oneCell' = true)
    (hP : ∀ j u, news[j]? = some u → Pp (n * size + j) u ∧ OK D lo w e (n * size + j) u) (hN : n + 1 ≤ N) (hN2 : n + 1 ≤ 1000) (hbytes : 1000 * bytes ≤ 140737488355328) (hlo : lo ≤ w.heap.size) :
    ∃ (A' : Option Addr) (cap' : Nat) (w' : World), (Builtin.append_ #[t, t] ty #[.slice A n cap, .slice (some a) 1 c]).run P w = .ok (.slice A' (n + 1) cap') w' ∧ TyS e size N lo w' Pp (.slice A' (n + 1) cap') ∧ Chg D lo w w' ∧ ∃ r : Option Nat, w.grownBy w' r ∧ ∀ b, r = some b → lo ≤ b ∧ ∃ cur, Row w b e cur := by
  obtain ⟨A', cap', w', h1', h2', h3', r, g, hr, _⟩ := run_append_ty2 (D := D) (P := P) w t ty e i z size bytes N lo Pp ht hi hz hsize hby hzs hsz A n cap h a c news hl hnews h1 hP hN hN2 hbytes hlo
  exact ⟨A', cap', w', h1', h2', h3', r, g, hr⟩
end Go.Proofs.Ytgcjccoglcgcoaa

namespace Go.Proofs.Ytgcjccoglcgcoaa
open Go.RowKit Go.ChangeShapes Go.WideShapes Go.Deep
variable {D : Nat}
set_option linter.unusedVariables false
set_option linter.unusedSimpArgs false
theorem TyS.sl {α : Type} {S : Shp α} {t : TypeId} {size N lo : Nat} {w : World} {P : Nat → Value → Prop} {v : Value} {G : α → Prop} (h : TyS t size N lo w P v) (hz : S.size = size) (hs : 0 < size)
    (hR : ∀ (f : Nat → Value) (i : Nat), (∀ q, q < size → P (i * size + q) (f q)) → ∃ a, S.rep w lo w.heap.size a ((List.range size).map f) ∧ G a) :
    ∃ l : List α, l.length ≤ N ∧ (∀ a ∈ l, G a) ∧ (∃ A cap, v = .slice A l.length cap) ∧ Sl false S w lo w.heap.size l v := by
  obtain ⟨A, n, cap, rfl, h1, h2, h3, h4⟩ := h
  by_cases hc : cap = 0
  · obtain rfl : n = 0 := by omega
    exact ⟨[], by simp, (fun a ha => by cases ha), ⟨A, cap, rfl⟩, A, cap, rfl, by simp, h3, fun hl => absurd rfl hl⟩
  · obtain ⟨b, cur, rfl, hb, R, hcs, hcells⟩ := h4 (by omega)
    have hcell : ∀ i, i < n → ∀ q, q < size → ∃ u, cur[i * size + q]? = some u ∧ P (i * size + q) u := fun i hi q hq => hcells _ (by
      have : (i + 1) * size ≤ n * size := Nat.mul_le_mul_right _ hi
      rw [Nat.add_mul, Nat.one_mul] at this
      omega)
    obtain ⟨l, hl, hla⟩ := choose_list (n := n) (p := fun i a => (∃ f : Nat → Value, (∀ q, q < size → cur[i * size + q]? = some (f q)) ∧ S.rep w lo w.heap.size a ((List.range size).map f)) ∧ G a) (fun i hi => by
      have hf : ∀ q, ∃ u, q < size → cur[i * size + q]? = some u ∧ P (i * size + q) u := fun q => by
        by_cases hq : q < size
        · obtain ⟨u, hu⟩ := hcell i hi q hq
          exact ⟨u, fun _ => hu⟩
        · exact ⟨.nilFunc, fun h => absurd h hq⟩
      obtain ⟨a, ha, hg⟩ := hR (fun q => Classical.choose (hf q)) i (fun q hq => (Classical.choose_spec (hf q) hq).2)
      exact ⟨a, ⟨_, fun q hq => (Classical.choose_spec (hf q) hq).1, ha⟩, hg⟩)
    refine ⟨l, by omega, fun a ha => ?_, ⟨_, _, by rw [hl]⟩, some ⟨b, 0, none⟩, cap, by rw [hl], by omega, h3, fun _ => ⟨b, 0, rfl, hb, R.lt, (fun h => by cases h), fun i a ha => ?_⟩⟩
    · obtain ⟨i, hi⟩ := List.mem_iff_getElem?.1 ha
      exact (hla i a hi).2
    · obtain ⟨⟨f, hf, hrep⟩, _⟩ := hla i a ha
      refine ⟨_, hrep, fun j u hu => ?_⟩
      have hj : j < size := by simpa using (List.getElem?_eq_some_iff.1 hu).1
      rw [List.getElem?_map, List.getElem?_range hj] at hu
      simp at hu
      subst hu
      rw [hz, Nat.zero_add]
      exact (R.cell _).trans (hf j hj)
theorem TyI.sl {lo : Nat} {w : World} {v : Value} (hD : D ≤ 6) (h : TyI D lo w v) : ∃ l : List Int, l.length ≤ 40 ∧ Sl false (intS false) w lo w.heap.size l v := by
  obtain ⟨l, h1, _, _, h2⟩ := TyS.sl (S := intS false) (G := fun _ => True) h rfl (by omega) (fun f i hf => by
    obtain ⟨n, hn, e⟩ := hf 0 (by omega)
    exact ⟨n, by simp only [List.range_succ, List.range_zero, List.map_append, List.map_nil, List.map_cons, List.nil_append]; rw [e]; exact int_mk false _ _ _ hn, trivial⟩)
  exact ⟨l, by omega, h2⟩
theorem rng2 (f : Nat → Value) : (List.range 2).map f = [f 0, f 1] := rfl
theorem rng3 (f : Nat → Value) : (List.range 3).map f = [f 0, f 1, f 2] := rfl
theorem rng4 (f : Nat → Value) : (List.range 4).map f = [f 0, f 1, f 2, f 3] := rfl
theorem rng5 (f : Nat → Value) : (List.range 5).map f = [f 0, f 1, f 2, f 3, f 4] := rfl
theorem TyPhis.sl {lo : Nat} {w : World} {v : Value} (hD : D ≤ 6) (h : TyPhis D lo w v) : ∃ l : List PhiD, l.length ≤ 10 ∧ (∀ a ∈ l, phiN a ≤ 40) ∧ Sl false (phiS false) w lo w.heap.size l v := by
  obtain ⟨l, h1, h2, _, h3⟩ := TyS.sl (S := phiS false) (G := fun a => phiN a ≤ 40) h rfl (by omega) (fun f i hf => by
    have p0 := hf 0 (by omega)
    have p1 := hf 1 (by omega)
    unfold PhiP at p0 p1
    rw [if_neg (by omega)] at p0
    rw [if_pos (by omega)] at p1
    obtain ⟨to, ht, e0⟩ := p0
    obtain ⟨args, ha, hs⟩ := p1.sl hD
    exact ⟨⟨to, args⟩, by rw [rng2, e0]; exact phi_mk false to args _ ht hs, ha⟩)
  exact ⟨l, by omega, h2, h3⟩
theorem TyInss.sl {lo : Nat} {w : World} {v : Value} (hD : D ≤ 6) (h : TyInss D lo w v) : ∃ l : List InsD, l.length ≤ 10 ∧ (∀ a ∈ l, insN a ≤ 40) ∧ Sl false (insS false) w lo w.heap.size l v := by
  obtain ⟨l, h1, h2, _, h3⟩ := TyS.sl (S := insS false) (G := fun a => insN a ≤ 40) h rfl (by omega) (fun f i hf => by
    have p0 := hf 0 (by omega)
    have p1 := hf 1 (by omega)
    have p2 := hf 2 (by omega)
    have p3 := hf 3 (by omega)
    unfold InsP at p0 p1 p2 p3
    rw [if_neg (by omega)] at p0 p1 p3
    rw [if_pos (by omega)] at p2
    obtain ⟨op, h0, e0⟩ := p0
    obtain ⟨to, h1, e1⟩ := p1
    obtain ⟨args, ha, hs⟩ := p2.sl hD
    obtain ⟨n, hn, e3⟩ := p3
    exact ⟨⟨op, to, args, n⟩, by rw [rng4, e0, e1, e3]; exact ins_mk false op to args _ n h0 h1 hs hn, ha⟩)
  exact ⟨l, h1, h2, h3⟩
theorem sumBy_few {α : Type} (f : α → Nat) (K : Nat) : ∀ l : List α, (∀ a ∈ l, f a ≤ K) → sumBy f l ≤ l.length * K
  | [], _ => by simp [sumBy]
  | a :: r, h => by
    have h1 := h a (by simp)
    have h2 := sumBy_few f K r (fun x hx => h x (by simp [hx]))
    have e : sumBy f (a :: r) = f a + sumBy f r := by simp [sumBy]
    rw [e, List.length_cons, Nat.add_mul, Nat.one_mul]
    omega
theorem TyBlks.sl {lo : Nat} {w : World} {v : Value} (hD : D ≤ 6) (h : TyBlks D lo w v) : ∃ l : List BlkD, l.length ≤ 10 ∧ (∀ a ∈ l, blkN a ≤ 1000) ∧ (∃ A cap, v = .slice A l.length cap) ∧ Sl false (blkS false) w lo w.heap.size l v := by
  refine TyS.sl (S := blkS false) (G := fun a => blkN a ≤ 1000) h rfl (by omega) (fun f i hf => ?_)
  have p0 := hf 0 (by omega)
  have p1 := hf 1 (by omega)
  have p2 := hf 2 (by omega)
  have p3 := hf 3 (by omega)
  have p4 := hf 4 (by omega)
  unfold BlkP at p0 p1 p2 p3 p4
  rw [if_pos (by omega)] at p0
  rw [if_neg (by omega), if_pos (by omega)] at p1
  rw [if_neg (by omega), if_neg (by omega), if_neg (by omega)] at p2 p3
  rw [if_neg (by omega), if_neg (by omega), if_pos (by omega)] at p4
  obtain ⟨phis, a0, b0, s0⟩ := p0.sl hD
  obtain ⟨ins, a1, b1, s1⟩ := p1.sl hD
  obtain ⟨jump, hj, e2⟩ := p2
  obtain ⟨on, ho, e3⟩ := p3
  obtain ⟨next, a4, s4⟩ := p4.sl hD
  refine ⟨⟨phis, ins, jump, on, next⟩, by rw [rng5, e2, e3]; exact blk_mk false phis _ ins _ jump on next _ s0 s1 hj ho s4, ?_⟩
  have c0 := sumBy_few phiN 40 phis b0
  have c1 := sumBy_few insN 40 ins b1
  show (phis.length + sumBy phiN phis) + (ins.length + sumBy insN ins) + next.length ≤ 1000
  omega
theorem TyCods.sl {lo : Nat} {w : World} {v : Value} (hD : D ≤ 6) (h : TyCods D lo w v) : ∃ l : List CodeD, l.length ≤ 10 ∧ (∀ a ∈ l, codeN a ≤ 10010) ∧ (∃ A cap, v = .slice A l.length cap) ∧ Sl false (codeS false) w lo w.heap.size l v := by
  refine TyS.sl (S := codeS false) (G := fun a => codeN a ≤ 10010) h rfl (by omega) (fun f i hf => ?_)
  have p0 := hf 0 (by omega)
  have p1 := hf 1 (by omega)
  have p2 := hf 2 (by omega)
  unfold CodP at p0 p1 p2
  rw [if_pos (by omega)] at p0
  rw [if_neg (by omega), if_pos (by omega)] at p1
  rw [if_neg (by omega), if_neg (by omega)] at p2
  obtain ⟨m, hm, e0⟩ := p0
  obtain ⟨r, hr, e1⟩ := p1
  obtain ⟨blocks, a2, b2, _, s2⟩ := p2.1.sl hD
  refine ⟨⟨(m : Int), (r : Int), blocks⟩, by rw [rng3, e0, e1]; exact code_mk false (m : Int) (r : Int) blocks _ ⟨by omega, by omega⟩ ⟨by omega, by omega⟩ s2, ?_⟩
  have c2 := sumBy_few blkN 1000 blocks b2
  show blocks.length + sumBy blkN blocks ≤ 10010
  omega
/-- the size of a drawn unit -/
theorem cods_small {l : List CodeD} (h1 : l.length ≤ 10) (h2 : ∀ a ∈ l, codeN a ≤ 10010) : l.length + sumBy codeN l ≤ 1048576 := by
  have := sumBy_few codeN 10010 l h2
  omega
end Go.Proofs.Ytgcjccoglcgcoaa
