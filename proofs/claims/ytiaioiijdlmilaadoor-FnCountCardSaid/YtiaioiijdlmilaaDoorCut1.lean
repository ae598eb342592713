/-
  Words cut from a text: the plain function, and where the program's way and the reference's way agree. No condition.
-/
import Derived.Test.YtiaioiijdlmilaaDoorCut0
import Derived.Test.YtiaioiijdlmilaaDoorJoin0
namespace Go.Proofs.YtiaioiijdlmilaaDoor
open Go.RowKit Go.ChangeShapes Go.WideShapes Go.Deep
set_option linter.unusedSimpArgs false
set_option linter.unusedVariables false
/-- does x go on with a word that begins with b? -/
def goes (b x : UInt8) : Bool := cls x == cls b && decide (cls b < 3)
/-- how far the bytes from i on are taken by p -/
def runF (p : UInt8 → Bool) (s : ByteArray) (i : Nat) : Nat := i + ((s.data.toList.drop i).takeWhile p).length
theorem runF_yes {p : UInt8 → Bool} {s : ByteArray} {i : Nat} (h : i < s.size) (hp : p s[i] = true) : runF p s i = runF p s (i + 1) := by
  have hl : i < s.data.toList.length := by simpa using h
  unfold runF
  rw [List.drop_eq_getElem_cons hl, List.takeWhile_cons]
  have : s.data.toList[i] = s[i] := rfl
  rw [this, hp]
  simp only [if_true, List.length_cons]
  omega
theorem runF_no {p : UInt8 → Bool} {s : ByteArray} {i : Nat} (h : i < s.size) (hp : p s[i] = false) : runF p s i = i := by
  have hl : i < s.data.toList.length := by simpa using h
  unfold runF
  rw [List.drop_eq_getElem_cons hl, List.takeWhile_cons]
  have : s.data.toList[i] = s[i] := rfl
  rw [this, hp]
  simp
theorem runF_end {p : UInt8 → Bool} {s : ByteArray} {i : Nat} (h : s.size ≤ i) : runF p s i = i := by
  unfold runF
  rw [List.drop_eq_nil_of_le (by simpa using h)]
  rfl
theorem runF_ge (p : UInt8 → Bool) (s : ByteArray) (i : Nat) : i ≤ runF p s i := Nat.le_add_right _ _
theorem runF_le {p : UInt8 → Bool} {s : ByteArray} {i : Nat} (h : i ≤ s.size) : runF p s i ≤ s.size := by
  have h1 : ((s.data.toList.drop i).takeWhile p).length ≤ (s.data.toList.drop i).length := (List.takeWhile_sublist p).length_le
  have h2 : (s.data.toList.drop i).length = s.size - i := by simp
  unfold runF
  omega
/-- the word of the bytes i .. e -/
def wordAt (s : ByteArray) (b : UInt8) (i e : Nat) : WordD := ⟨kindS b (s.extract i e), s.extract i e⟩
/-- the words of the bytes from i on -/
def cutF (s : ByteArray) : Nat → Nat → Option (List WordD)
  | 0, _ => some []
  | f + 1, i =>
    if h : i < s.size then
      if cls s[i] = 4 then cutF s f (i + 1)
      else if cls s[i] = 0 then none
      else if wv (wordAt s s[i] i (runF (goes s[i]) s (i + 1))) = true then (cutF s f (runF (goes s[i]) s (i + 1))).map (wordAt s s[i] i (runF (goes s[i]) s (i + 1)) :: ·)
      else none
    else some []
theorem cutF_end {s : ByteArray} {f i : Nat} (h : ¬ i < s.size) : cutF s f i = some [] := by
  cases f with
  | zero => rfl
  | succ f => unfold cutF; rw [dif_neg h]
theorem cutF_blank {s : ByteArray} {f i : Nat} (h : i < s.size) (h4 : cls s[i] = 4) : cutF s (f + 1) i = cutF s f (i + 1) := by
  conv => lhs; unfold cutF
  rw [dif_pos h, if_pos h4]
theorem cutF_zero {s : ByteArray} {f i : Nat} (h : i < s.size) (h0 : cls s[i] = 0) : cutF s (f + 1) i = none := by
  unfold cutF
  rw [dif_pos h, if_neg (by rw [h0]; decide), if_pos h0]
theorem cutF_bad {s : ByteArray} {f i : Nat} (h : i < s.size) (h4 : cls s[i] ≠ 4) (hw : wv (wordAt s s[i] i (runF (goes s[i]) s (i + 1))) = false) : cutF s (f + 1) i = none := by
  unfold cutF
  rw [dif_pos h, if_neg h4]
  split
  · rfl
  · rw [if_neg (by rw [hw]; decide)]
theorem cutF_word {s : ByteArray} {f i : Nat} (h : i < s.size) (h4 : cls s[i] ≠ 4) (h0 : cls s[i] ≠ 0) (hw : wv (wordAt s s[i] i (runF (goes s[i]) s (i + 1))) = true) :
    cutF s (f + 1) i = (cutF s f (runF (goes s[i]) s (i + 1))).map (wordAt s s[i] i (runF (goes s[i]) s (i + 1)) :: ·) := by
  conv => lhs; unfold cutF
  rw [dif_pos h, if_neg h4, if_neg h0, if_pos hw]
/-- what is cut; none: the text is no row of words -/
def cutR (s : ByteArray) : Option (List WordD) := cutF s (s.size + 1) 0
def cutOk (s : ByteArray) : Bool := decide (s.size ≤ 3000) && (match cutR s with | some l => decide (l.length ≤ 600) | none => false)
def cutLst (s : ByteArray) : List WordD := if cutOk s then (cutR s).getD [] else []
theorem cutOk_some {s : ByteArray} {l : List WordD} (h : cutR s = some l) (h3 : s.size ≤ 3000) (h6 : l.length ≤ 600) : cutOk s = true ∧ cutLst s = l := by
  have : cutOk s = true := by unfold cutOk; rw [h]; simp [h3, h6]
  exact ⟨this, by unfold cutLst; rw [if_pos this, h]; rfl⟩
theorem cutOk_no {s : ByteArray} (h : cutOk s = false) : cutLst s = [] := by unfold cutLst; rw [h]; rfl
theorem cutOk_none {s : ByteArray} (h : cutR s = none) : cutOk s = false := by unfold cutOk; rw [h]; simp
theorem cutOk_long {s : ByteArray} (h : 3000 < s.size) : cutOk s = false := by unfold cutOk; simp [show ¬ s.size ≤ 3000 by omega]
theorem cutOk_many {s : ByteArray} {l : List WordD} (h : cutR s = some l) (h6 : 600 < l.length) : cutOk s = false := by unfold cutOk; rw [h]; simp [show ¬ l.length ≤ 600 by omega]
theorem cls_blank (b : UInt8) : decide (b.toNat = 32 ∨ b.toNat = 10) = (cls b == 4) := by
  have hb : b.toNat < 256 := b.toNat_lt
  by_cases h : b.toNat = 32 ∨ b.toNat = 10
  · rcases h with h | h
    · obtain rfl : b = 32 := UInt8.toNat_inj.1 h
      decide
    · obtain rfl : b = 10 := UInt8.toNat_inj.1 h
      decide
  · simp only [h, decide_false]
    unfold cls
    split <;> try rfl
    split <;> try rfl
    split <;> try rfl
theorem low_dig {b : UInt8} (h : low b = true) : isDig b = false := by
  simp only [low, isDig, decide_eq_true_eq, decide_eq_false_iff_not] at h ⊢
  omega
theorem cls_low {b : UInt8} (h : low b = true) : cls b = 1 := by unfold cls; rw [if_pos h]
theorem cls_dig {b : UInt8} (h : isDig b = true) : cls b = 2 := by
  have h1 : low b = false := by
    cases h2 : low b with
    | false => rfl
    | true => rw [low_dig h2] at h; cases h
  unfold cls
  rw [h1, if_neg (by decide), if_pos h]
theorem cls_two (b : UInt8) : (cls b == 2) = isDig b := by
  cases h : isDig b with
  | true => rw [cls_dig h]; rfl
  | false =>
    unfold cls
    rw [h]
    split <;> try rfl
    simp only [Bool.false_eq_true, if_false]
    split <;> try rfl
    split <;> rfl
theorem goes_low {b : UInt8} (h : low b = true) (x : UInt8) : goes b x = low x := by unfold goes; rw [cls_low h, cls_one]; simp
theorem goes_dig {b : UInt8} (h : isDig b = true) (x : UInt8) : goes b x = isDig x := by unfold goes; rw [cls_dig h, cls_two]; simp
theorem cls_cases {b : UInt8} (h1 : low b = false) (h2 : isDig b = false) : cls b = 3 ∨ cls b = 4 ∨ cls b = 0 := by
  unfold cls
  rw [h1, h2]
  simp only [Bool.false_eq_true, if_false]
  split
  · exact .inl rfl
  · split
    · exact .inr (.inl rfl)
    · exact .inr (.inr rfl)
theorem goes_three {b : UInt8} (h : cls b = 3) (x : UInt8) : goes b x = false := by unfold goes; rw [h]; simp
end Go.Proofs.YtiaioiijdlmilaaDoor
