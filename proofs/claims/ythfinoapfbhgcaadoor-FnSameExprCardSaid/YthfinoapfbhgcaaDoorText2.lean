/-
  The text of an expression, by the reference. Conditions: the argument reads as data; it is of the form and has few parts.
-/
import Derived.Test.YthfinoapfbhgcaaDoorText1
import Derived.Test.YthfinoapfbhgcaaDoorReg2
import Derived.Deep.DeepCutAuto
namespace Go.Proofs.YthfinoapfbhgcaaDoor
open Go.RowKit Go.ChangeShapes Go.WideShapes Go.Deep
set_option linter.unusedVariables false
set_option linter.unusedSimpArgs false
def kid0 (l : List Ex) : Ex := match l with | a :: _ => a | [] => exZ
def kid1 (l : List Ex) : Ex := match l with | _ :: b :: _ => b | _ => exZ
/-- an argument more of a call -/
def cmS (f : Ex → ByteArray) (p : Nat × ByteArray) (k : Ex) : Nat × ByteArray := (p.1 + 1, ((if 0 < p.1 then p.2 ++ ⟨#[32, 44]⟩ else p.2) ++ ⟨#[32]⟩) ++ f k)
/-- the text, brackets aside -/
def inE (f : Int → Ex → ByteArray) (op n : Int) (name : ByteArray) (kids : List Ex) : ByteArray :=
  if op = 1 then decT n.toNat else if op = 2 then name
  else if op = 13 then (kids.foldl (cmS (f 1)) (0, name ++ ⟨#[32, 40]⟩)).2 ++ ⟨#[32, 41]⟩
  else if levOf op = 5 then (sgS op ++ ⟨#[32]⟩) ++ f 5 (kid0 kids)
  else ((((f (levOf op) (kid0 kids) ++ ⟨#[32]⟩) ++ sgS op) ++ ⟨#[32]⟩) ++ f (levOf op + 1) (kid1 kids))
/-- the text of an expression where a level is needed -/
def txE : Nat → Int → Ex → ByteArray
  | 0, _, _ => ⟨#[]⟩
  | m + 1, need, .mk op n name kids => if levOf op < need then (⟨#[40, 32]⟩ ++ inE (txE m) op n name kids) ++ ⟨#[32, 41]⟩ else inE (txE m) op n name kids
theorem sgS_size (op : Int) : (sgS op).size ≤ 1 := by
  unfold sgS sgn
  repeat' split
  all_goals decide
theorem decT_size {n : Nat} (h : n ≤ 255) : (decT n).size ≤ 3 := by
  show (Lib.decDigits n).toArray.size ≤ 3
  rw [List.size_toArray]
  by_cases h1 : n < 10
  · rw [decT_one h1]; simp
  · rw [decT_more (by omega)]
    by_cases h2 : n / 10 < 10
    · rw [decT_one h2]; simp
    · rw [decT_more (by omega), decT_one (by omega)]; simp
theorem cm_size {f : Ex → ByteArray} : ∀ (l : List Ex) (p : Nat × ByteArray), (∀ k ∈ l, (f k).size + 3 ≤ 20 * partsE k) → (l.foldl (cmS f) p).2.size ≤ p.2.size + 20 * partsL l
  | [], p, _ => by rw [partsL_nil]; exact Nat.le_refl _
  | k :: r, p, h => by
    have h1 := h k (by simp)
    have h2 := cm_size r (cmS f p k) (fun x hx => h x (by simp [hx]))
    have h3 : (cmS f p k).2.size ≤ p.2.size + 3 + (f k).size := by
      unfold cmS
      simp only [ByteArray.size_append]
      split
      · rw [ByteArray.size_append]; show p.2.size + 2 + 1 + _ ≤ _; omega
      · show p.2.size + 1 + _ ≤ _; omega
    rw [List.foldl_cons, partsL_cons]
    omega
theorem cm_fst {f : Ex → ByteArray} : ∀ (l : List Ex) (p : Nat × ByteArray), (l.foldl (cmS f) p).1 = p.1 + l.length
  | [], p => rfl
  | k :: r, p => by rw [List.foldl_cons, cm_fst r]; simp only [cmS, List.length_cons]; omega
theorem parts_two {a b : Ex} : partsL [a, b] = partsE a + partsE b := by rw [partsL_cons, partsL_cons, partsL_nil]; omega
theorem fm_len {op n : Int} {name : ByteArray} {len : Nat} (h : fmK op n name len = true) : (op = 1 ∧ len = 0 ∧ 0 ≤ n ∧ n ≤ 255) ∨ (op = 2 ∧ len = 0 ∧ name.size ≤ 4) ∨ (op = 13 ∧ len ≤ 3 ∧ name.size ≤ 4) ∨ (3 ≤ op ∧ op ≤ 10 ∧ len = 2) ∨ ((op = 11 ∨ op = 12) ∧ len = 1) := by
  unfold fmK at h
  have hnm : isName name = true → name.size ≤ 4 := fun h => by
    simp only [isName, Bool.and_eq_true, decide_eq_true_eq] at h
    exact h.2.1
  split at h
  · simp only [Bool.and_eq_true, decide_eq_true_eq, inB] at h
    exact Or.inl ⟨by assumption, h.2.2, h.1⟩
  · split at h
    · simp only [Bool.and_eq_true, decide_eq_true_eq] at h
      exact Or.inr (Or.inl ⟨by assumption, h.2.2, hnm h.1⟩)
    · split at h
      · simp only [Bool.and_eq_true, decide_eq_true_eq] at h
        exact Or.inr (Or.inr (Or.inl ⟨by assumption, h.2.2, hnm h.1⟩))
      · split at h
        · rename_i hr
          simp only [Bool.and_eq_true, decide_eq_true_eq] at h
          exact Or.inr (Or.inr (Or.inr (Or.inl ⟨hr.1, hr.2, h.2.2⟩)))
        · split at h
          · rename_i hr
            simp only [Bool.and_eq_true, decide_eq_true_eq] at h
            exact Or.inr (Or.inr (Or.inr (Or.inr ⟨hr, h.2.2⟩)))
          · cases h
theorem lev_two {op : Int} (h1 : 3 ≤ op) (h2 : op ≤ 10) : 1 ≤ levOf op ∧ levOf op ≤ 4 := by
  have h3 := lev_mid h1 h2
  have h4 := lev_range op
  unfold levOf
  rw [if_pos h3]
  omega
theorem tx_size : ∀ (m : Nat) (need : Int) (e : Ex), formB m e = true → (txE m need e).size + 3 ≤ 20 * partsE e
  | 0, need, e, h => by simp [formB] at h
  | m + 1, need, .mk op n name kids, h => by
    rw [formB, Bool.and_eq_true] at h
    have ih := fun (nd : Int) (k : Ex) (hk : k ∈ kids) => tx_size m nd k (List.all_eq_true.1 h.2 k hk)
    have hin : (inE (txE m) op n name kids).size + 7 ≤ 20 * partsE (.mk op n name kids) := by
      rw [partsE_mk]
      unfold inE
      rcases fm_len h.1 with ⟨rfl, hl, n0, n1⟩ | ⟨rfl, hl, hn⟩ | ⟨rfl, hl, hn⟩ | ⟨h3, h10, hl⟩ | ⟨ho, hl⟩
      · rw [if_pos rfl]
        have := decT_size (n := n.toNat) (by omega)
        omega
      · rw [if_neg (by omega), if_pos rfl]
        omega
      · rw [if_neg (by omega), if_neg (by omega), if_pos rfl, ByteArray.size_append]
        have h1 := cm_size (f := txE m 1) kids (0, name ++ ⟨#[32, 40]⟩) (fun k hk => ih 1 k hk)
        rw [ByteArray.size_append] at h1
        have h2 : (⟨#[32, 40]⟩ : ByteArray).size = 2 := rfl
        have h3 : (⟨#[32, 41]⟩ : ByteArray).size = 2 := rfl
        omega
      · have hlv := lev_two h3 h10
        rw [if_neg (by omega), if_neg (by omega), if_neg (by omega), if_neg (by omega)]
        match kids, hl, ih with
        | [a, b], _, ih =>
          have h1 := ih (levOf op) a (by simp)
          have h2 := ih (levOf op + 1) b (by simp)
          have h4 := sgS_size op
          simp only [ByteArray.size_append, kid0, kid1, parts_two]
          have h5 : (⟨#[32]⟩ : ByteArray).size = 1 := rfl
          omega
      · have hlv : levOf op = 5 := by rcases ho with rfl | rfl <;> decide
        rw [if_neg (by omega), if_neg (by omega), if_neg (by omega), if_pos hlv]
        match kids, hl, ih with
        | [a], _, ih =>
          have h1 := ih 5 a (by simp)
          have h4 := sgS_size op
          simp only [ByteArray.size_append, kid0]
          rw [partsL_cons, partsL_nil]
          have h5 : (⟨#[32]⟩ : ByteArray).size = 1 := rfl
          omega
    rw [txE]
    split
    · simp only [ByteArray.size_append]
      have h2 : (⟨#[40, 32]⟩ : ByteArray).size = 2 := rfl
      have h3 : (⟨#[32, 41]⟩ : ByteArray).size = 2 := rfl
      omega
    · omega
end Go.Proofs.YthfinoapfbhgcaaDoor
