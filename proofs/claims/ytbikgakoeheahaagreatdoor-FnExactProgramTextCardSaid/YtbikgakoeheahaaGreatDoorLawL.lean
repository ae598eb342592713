/-
  Plain laws of words joined and cut again. No condition.
-/
import Derived.Test.YtbikgakoeheahaaGreatDoorCutL
namespace Go.Proofs.YtbikgakoeheahaaGreatDoor
open Go.RowKit Go.ChangeShapes Go.WideShapes Go.Deep
set_option linter.unusedSimpArgs false
set_option linter.unusedVariables false
theorem jOk_inv {l : List WordD} (h : jOk l = true) : l.length ≤ 600 ∧ l.all wv = true ∧ (jT l).size ≤ 3000 := by
  unfold jOk at h
  simp only [Bool.and_eq_true, decide_eq_true_eq] at h
  exact h
theorem jOk_mk {l : List WordD} (h1 : l.length ≤ 600) (h2 : l.all wv = true) (h3 : (jT l).size ≤ 3000) : jOk l = true := by
  unfold jOk
  rw [h2]
  simp [h1, h3]
theorem join_cut {l : List WordD} (h : jOk l = true) : cutOk (jT l) = true ∧ cutLst (jT l) = l := by
  obtain ⟨h1, h2, h3⟩ := jOk_inv h
  exact cut_some (cutB_jT l h2) h3 h1
theorem pV_false {s : ByteArray} (h : pOk s = false) : pV s = .tuple #[.string ⟨#[]⟩, .bool false] := by
  have e : pS s = ⟨#[]⟩ := by
    unfold pOk at h
    unfold pS
    split
    · rename_i hc
      rw [hc, Bool.true_and] at h
      unfold jS
      rw [h]
      rfl
    · rfl
  unfold pV
  rw [e, h]
theorem pOk_inv {s : ByteArray} (h : pOk s = true) : cutOk s = true ∧ jOk (cutLst s) = true ∧ pS s = jT (cutLst s) := by
  unfold pOk at h
  rw [Bool.and_eq_true] at h
  refine ⟨h.1, h.2, ?_⟩
  unfold pS jS
  rw [if_pos h.1, if_pos h.2]
theorem pV_of {s : ByteArray} {l : List WordD} (h1 : cutOk s = true) (h2 : cutLst s = l) (h3 : jOk l = true) : pV s = .tuple #[.string (jT l), .bool true] := by
  have h4 : pOk s = true := by unfold pOk; rw [h1, h2, h3]; rfl
  obtain ⟨_, _, e⟩ := pOk_inv h4
  unfold pV
  rw [e, h4, h2]
theorem wv_size {a : WordD} (h : wv a = true) : a.text.size ≤ 4 := by
  obtain ⟨kind, s⟩ := a
  change wvB kind s = true at h
  show s.size ≤ 4
  unfold wvB at h
  split at h
  · simp only [isName, Bool.and_eq_true, decide_eq_true_eq] at h
    exact h.2.1
  · split at h
    · rcases Nat.lt_or_ge 3 s.size with h3 | h3
      · have := numW_long h3
        simp only [numOk, decide_eq_true_eq] at h
        omega
      · omega
    · split at h
      · simp only [sigW, Bool.and_eq_true, decide_eq_true_eq] at h
        omega
      · split at h
        · have hall : ∀ k ∈ keysL, k.data.toList.length ≤ 4 := by decide +kernel
          unfold isKey at h
          obtain ⟨k, hm, he⟩ := List.any_eq_true.1 h
          have h1 : s.toList = k.toList := by simpa using he
          rw [ba_toList, ba_toList] at h1
          have h2 := hall k hm
          rw [← h1] at h2
          simpa using h2
        · cases h
theorem bulk_le {l : List WordD} {c : Nat} (h : ∀ a ∈ l, a.text.size ≤ c) : sumBy wordN l ≤ l.length * c := by
  induction l with
  | nil => simp [sumBy]
  | cons a r ih =>
    have h1 := ih fun x hx => h x (List.mem_cons_of_mem _ hx)
    have h2 : wordN a ≤ c := h a List.mem_cons_self
    simp only [sumBy, List.map_cons, List.sum_cons, List.length_cons, Nat.succ_mul] at h1 ⊢
    omega
end Go.Proofs.YtbikgakoeheahaaGreatDoor
