/-
  The sz.. functions: they answer what is left of a size. Conditions: the arguments read as data.
-/
import Derived.Test.YtiaioiijdlmilaaDoorTypes
import Derived.Lib.Hide
namespace Go.Proofs.YtiaioiijdlmilaaDoor
open Go.RowKit Go.ChangeShapes Go.WideShapes Go.Deep
set_option linter.unusedVariables false

/-- what a sz.. function answers: what is left, or -1 -/
def SzP (left : Int) (n : Nat) (w : World) (e : Ending) (w' : World) : Prop :=
  ∃ r : Int, e = .returned (.int .i64 r) ∧ -1 ≤ r ∧ r ≤ left ∧ (0 ≤ r → r = left - n) ∧ Below w.heap.size w w'
theorem sumBy_take {α : Type} (f : α → Nat) (l : List α) {k : Nat} (h : k < l.length) : sumBy f (l.take (k + 1)) = sumBy f (l.take k) + f l[k] := by
  unfold sumBy
  rw [List.take_succ_eq_append_getElem h, List.map_append, List.sum_append]
  simp
theorem sumBy_all {α : Type} (f : α → Nat) (l : List α) {k : Nat} (h : l.length ≤ k) : sumBy f (l.take k) = sumBy f l := by rw [List.take_of_length_le h]
theorem sumBy_mem {α : Type} (f : α → Nat) {l : List α} {a : α} (h : a ∈ l) : f a ≤ sumBy f l := by
  unfold sumBy
  induction l with
  | nil => cases h
  | cons x r ih =>
    simp only [List.map_cons, List.sum_cons]
    cases List.mem_cons.1 h with
    | inl e => subst e; omega
    | inr e => have := ih e; omega

theorem int_get {w : World} {lo B : Nat} {l : List Int} {A : Option Addr} {n cap : Nat} (h : Sl false (intS false) w lo B l (.slice A n cap)) {i : Nat} (hi : i < l.length) :
    ∃ (b o : Nat) (a : Int), A = some ⟨b, o, none⟩ ∧ lo ≤ b ∧ b < B ∧ Hid (l[i] = a) ∧ I64 a ∧ w.cell? ⟨b, o + i, none⟩ = some (.int .i64 a) := by
  obtain ⟨b, o, cs, rfl, hlb, hb, _, hr, hc⟩ := h.at_ hi
  obtain ⟨rfl, hg⟩ := int_rep hr
  exact ⟨b, o, _, rfl, hlb, hb, rfl, hg, by simpa [intS] using hc 0 _ rfl⟩

theorem str_get {w : World} {lo B : Nat} {l : List ByteArray} {A : Option Addr} {n cap : Nat} (h : Sl false (strS false) w lo B l (.slice A n cap)) {i : Nat} (hi : i < l.length) :
    ∃ (b o : Nat) (a : ByteArray), A = some ⟨b, o, none⟩ ∧ lo ≤ b ∧ b < B ∧ Hid (l[i] = a) ∧ a.size ≤ maxLen ∧ w.cell? ⟨b, o + i, none⟩ = some (.string a) := by
  obtain ⟨b, o, cs, rfl, hlb, hb, _, hr, hc⟩ := h.at_ hi
  obtain ⟨rfl, hg⟩ := str_rep hr
  exact ⟨b, o, _, rfl, hlb, hb, rfl, hg, by simpa [strS] using hc 0 _ rfl⟩

theorem word_get {w : World} {lo B : Nat} {l : List WordD} {A : Option Addr} {n cap : Nat} (h : Sl false (wordS false) w lo B l (.slice A n cap)) {i : Nat} (hi : i < l.length) :
    ∃ (b o : Nat) (kind : Int) (text : ByteArray), A = some ⟨b, o, none⟩ ∧ lo ≤ b ∧ b < B ∧ Hid (l[i] = ⟨kind, text⟩) ∧ I64 kind ∧ text.size ≤ maxLen ∧ w.cell? ⟨b, o + i * 2, none⟩ = some (.int .i64 kind) ∧ w.cell? ⟨b, o + i * 2 + 1, none⟩ = some (.string text) := by
  obtain ⟨b, o, cs, rfl, hlb, hb, _, hr, hc⟩ := h.at_ hi
  obtain ⟨e, hl⟩ : ∃ e, l[i] = e := ⟨_, rfl⟩
  rw [hl] at hr ⊢
  obtain ⟨rfl, g0, g1⟩ := word_open hr
  obtain ⟨kind, text⟩ := e
  exact ⟨b, o, kind, text, rfl, hlb, hb, rfl, g0, g1, hc 0 _ rfl, hc 1 _ rfl⟩

end Go.Proofs.YtiaioiijdlmilaaDoor


