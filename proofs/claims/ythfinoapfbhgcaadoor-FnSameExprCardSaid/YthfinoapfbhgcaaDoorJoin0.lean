/-
  Words joined: the plain function; by the reference. Condition: the words read as data and are of bulk at most 1048576.
-/
import Derived.Test.YthfinoapfbhgcaaDoorWord
import Derived.Test.YthfinoapfbhgcaaDoorWd
import Derived.Lib.Join
namespace Go.Proofs.YthfinoapfbhgcaaDoor
open Go.RowKit Go.ChangeShapes Go.WideShapes Go.Deep
set_option linter.unusedSimpArgs false
set_option linter.unusedVariables false
theorem word_get {w : World} {lo B : Nat} {l : List WordD} {A : Option Addr} {n cap : Nat} (h : Sl false (wordS false) w lo B l (.slice A n cap)) {i : Nat} (hi : i < l.length) :
    ∃ (b o : Nat) (kind : Int) (text : ByteArray), A = some ⟨b, o, none⟩ ∧ lo ≤ b ∧ b < B ∧ Hid (l[i] = ⟨kind, text⟩) ∧ I64 kind ∧ text.size ≤ maxLen ∧ w.cell? ⟨b, o + i * 2, none⟩ = some (.int .i64 kind) ∧ w.cell? ⟨b, o + i * 2 + 1, none⟩ = some (.string text) := by
  obtain ⟨b, o, cs, rfl, hlb, hb, _, hr, hc⟩ := h.at_ hi
  obtain ⟨e, hl⟩ : ∃ e, l[i] = e := ⟨_, rfl⟩
  rw [hl] at hr ⊢
  obtain ⟨rfl, g0, g1⟩ := word_open hr
  obtain ⟨kind, text⟩ := e
  exact ⟨b, o, kind, text, rfl, hlb, hb, rfl, g0, g1, hc 0 _ rfl, hc 1 _ rfl⟩
/-- the words' texts -/
def tx (l : List WordD) : List (List UInt8) := l.map fun a => a.text.data.toList
def jT (l : List WordD) : ByteArray := ⟨(Lib.join (tx l) [32]).toArray⟩
def wv (a : WordD) : Bool := wvB a.kind a.text
def jOk (l : List WordD) : Bool := decide (l.length ≤ 600) && (l.all wv && decide ((jT l).size ≤ 3000))
def jV (l : List WordD) : Value := if jOk l then .tuple #[.string (jT l), .bool true] else .tuple #[.string ⟨#[]⟩, .bool false]
theorem jV_no {l : List WordD} (h : jOk l = false) : jV l = .tuple #[.string ⟨#[]⟩, .bool false] := by
  unfold jV
  rw [h]
  rfl
theorem jV_yes {l : List WordD} (h : jOk l = true) : jV l = .tuple #[.string (jT l), .bool true] := by
  unfold jV
  rw [if_pos h]
theorem join_snoc (r : List (List UInt8)) (y : List UInt8) : Lib.join (r ++ [y]) [32] = if r = [] then y else Lib.join r [32] ++ ([32] ++ y) := by
  cases r with
  | nil => rw [if_pos rfl, List.nil_append, Lib.join_one]
  | cons x r =>
    rw [if_neg (by simp), List.cons_append, Lib.join_cons, Lib.join_cons]
    unfold Lib.joinTail
    simp
theorem jT_len (l : List WordD) : (jT l).size ≤ l.length + sumBy wordN l := by
  have h : ∀ l : List WordD, (Lib.joinTail [32] (tx l)).length ≤ l.length + sumBy wordN l := by
    intro l
    induction l with
    | nil => exact Nat.le_refl _
    | cons a r ih =>
      simp only [tx, Lib.joinTail, sumBy, List.map_cons, List.flatten_cons, List.length_append, List.sum_cons, List.length_cons, List.length_nil] at ih ⊢
      have : a.text.data.toList.length = wordN a := by simp [wordN]
      omega
  cases l with
  | nil => exact Nat.zero_le _
  | cons a r =>
    have h1 := h r
    show (Lib.join (tx (a :: r)) [32]).toArray.size ≤ _
    rw [show tx (a :: r) = a.text.data.toList :: tx r from rfl, Lib.join_cons]
    have : a.text.data.toList.length = wordN a := by simp [wordN]
    simp only [List.size_toArray, List.length_append, sumBy, List.map_cons, List.sum_cons, List.length_cons] at h1 ⊢
    omega
theorem drop_all2 {α : Type} {l : List α} {p : α → Bool} {k : Nat} {a : α} (h : k < l.length) (ha : l[k] = a) : (l.drop k).all p = (p a && (l.drop (k + 1)).all p) := by
  rw [List.drop_eq_getElem_cons h, ha, List.all_cons]
end Go.Proofs.YthfinoapfbhgcaaDoor

