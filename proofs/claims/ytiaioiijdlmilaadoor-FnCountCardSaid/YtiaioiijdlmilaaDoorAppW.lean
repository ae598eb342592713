/-
  A list of words appended to a row that the call made itself. Condition: the list reads as data.
-/
import Derived.Test.YtiaioiijdlmilaaDoorDraw3
import Derived.Lib.SlFresh
import Derived.Laws.OwnMore
namespace Go.Proofs.YtiaioiijdlmilaaDoor
open Go.RowKit Go.ChangeShapes Go.WideShapes Go.Deep
set_option linter.unusedVariables false
set_option linter.unusedSimpArgs false
theorem wcells_app (a b : List WordD) : wcells (a ++ b) = wcells a ++ wcells b := by simp [wcells]
theorem wcells_len : ∀ l : List WordD, (wcells l).length = l.length * 2
  | [] => rfl
  | a :: r => by
    have := wcells_len r
    simp only [wcells, List.flatMap_cons, List.length_append, List.length_cons, List.length_nil] at this ⊢
    omega
theorem wcells_at {l : List WordD} {j : Nat} {u : Value} (h : (wcells l)[j]? = some u) : ∃ i a, l[i]? = some a ∧ ((j = i * 2 ∧ u = .int .i64 a.kind) ∨ (j = i * 2 + 1 ∧ u = .string a.text)) := by
  have hj := (List.getElem?_eq_some_iff.1 h).1
  rw [wcells_len] at hj
  have hi : j / 2 < l.length := by omega
  obtain ⟨h1, h2⟩ := wcells_get l (j / 2) l[j / 2] (List.getElem?_eq_getElem hi)
  refine ⟨j / 2, l[j / 2], List.getElem?_eq_getElem hi, ?_⟩
  rcases Nat.mod_two_eq_zero_or_one j with hm | hm
  · have e : j = j / 2 * 2 := by omega
    rw [← e, h] at h1
    exact Or.inl ⟨e, Option.some.inj h1⟩
  · have e : j = j / 2 * 2 + 1 := by omega
    rw [← e, h] at h2
    exact Or.inr ⟨e, Option.some.inj h2⟩
theorem run_append_none {P : Program} {w : World} {base : Nat} (t ty e : TypeId) (i : TypeInfo) (size c : Nat) (ht : P.underlying t = some (.slice e)) (hi : P.info? e = some i) (v : Value) (n : Nat) (xs : List Value) (hown : w.ownsRow base e size v n xs) :
    (Builtin.append_ #[t, t] ty #[v, .slice none 0 c]).run P w = .ok v w := by
  rcases hown.2 with ⟨rfl, rfl⟩ | ⟨g, cap, cur, rfl, _, _, hnc, _⟩
  · simp [Builtin.append_, run_underlying ht, sizeOf, typeInfo, hi, Builtin.lenOf, Builtin.firstCells]
  · simp [Builtin.append_, run_underlying ht, sizeOf, typeInfo, hi, Builtin.lenOf, Builtin.firstCells, hnc, storeCells]
theorem append_words (w : World) (base : Nat) (ty : TypeId) (v : Value) (l0 : List WordD) (hown : w.ownsRow base 29 2 v l0.length (wcells l0)) (l : List WordD) (vs : Value) (lo B : Nat) (hv : Sl false (wordS false) w lo B l vs) (h1 : l0.length + l.length ≤ 1000000) (hbase : base ≤ w.heap.size) :
    ∃ v' w', (Builtin.append_ #[25, 25] ty #[v, vs]).run Tryd.prog w = .ok v' w' ∧ w'.ownsRow base 29 2 v' (l0 ++ l).length (wcells (l0 ++ l)) ∧ w.grownBy w' v.ownBlock := by
  obtain ⟨i0, hi, hz0, hz1, hz2⟩ := info_parts Tryd.info_Word
  obtain ⟨A, cap, rfl, hlc, hcm, h3⟩ := hv
  rw [List.length_append, wcells_app]
  have go : ∀ (b o : Nat), (∀ j u, (wcells l)[j]? = some u → w.cell? ((⟨b, o, none⟩ : Addr).add j) = some u) →
      ∃ v' w', (Builtin.append_ #[25, 25] ty #[v, .slice (some ⟨b, o, none⟩) l.length cap]).run Tryd.prog w = .ok v' w' ∧ w'.ownsRow base 29 2 v' (l0.length + l.length) (wcells l0 ++ wcells l) ∧ w.grownBy w' v.ownBlock := by
    intro b o hn
    obtain ⟨v', w', k1, k2, k3, _, _⟩ := run_append_own_at (P := Tryd.prog) w base 25 ty 29 i0 (.agg #[.int .i64 0, .string ⟨#[]⟩]) 2 24 Tryd.underlying25 hi hz0 hz1 hz2 rfl (by decide) v l0.length (wcells l0) hown ⟨b, o, none⟩ l.length cap (wcells l) (wcells_len l) hn (by
      intro u hu
      obtain ⟨j, hj⟩ := List.mem_iff_getElem?.1 hu
      obtain ⟨i, a, _, ⟨_, rfl⟩ | ⟨_, rfl⟩⟩ := wcells_at hj <;> rfl) (by unfold maxLen; omega) (by omega) hbase
    exact ⟨v', w', k1, k2, k3⟩
  by_cases hl : l = []
  · subst hl
    cases A with
    | none =>
      refine ⟨v, w, run_append_none _ _ _ i0 2 cap Tryd.underlying25 hi v l0.length (wcells l0) hown, ?_, ⟨rfl, rfl, rfl, Nat.le_refl _, fun _ _ _ => rfl⟩⟩
      simpa [wcells] using hown
    | some p =>
      obtain ⟨v', w', k1, k2, k3, _, _⟩ := run_append_own_at (P := Tryd.prog) w base 25 ty 29 i0 (.agg #[.int .i64 0, .string ⟨#[]⟩]) 2 24 Tryd.underlying25 hi hz0 hz1 hz2 rfl (by decide) v l0.length (wcells l0) hown p 0 cap [] rfl (fun j u h => by simp at h) (fun u h => by cases h) (by unfold maxLen; omega) (by omega) hbase
      exact ⟨v', w', k1, by simpa [wcells] using k2, k3⟩
  · obtain ⟨b, o, rfl, _, _, _, hc⟩ := h3 hl
    refine go b o fun j u hj => ?_
    obtain ⟨i, a, ha, hja⟩ := wcells_at hj
    obtain ⟨cs, hr, hcs⟩ := hc i a ha
    obtain ⟨rfl, _, _⟩ := word_open hr
    have e : (⟨b, o, none⟩ : Addr).add j = ⟨b, o + j, none⟩ := by
      simp only [Addr.add]
      split <;> simp_all
    rw [e]
    rcases hja with ⟨rfl, rfl⟩ | ⟨rfl, rfl⟩
    · exact hcs 0 _ rfl
    · exact hcs 1 _ rfl
end Go.Proofs.YtiaioiijdlmilaaDoor
