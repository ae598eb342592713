/-
  The sz.. functions: they answer what is left of a size. Conditions: the arguments read as data.
-/
import Derived.Test.YthfinoapfbhgcaaDoorTypes
import Derived.Lib.Hide
namespace Go.Proofs.YthfinoapfbhgcaaDoor
open Go.RowKit Go.ChangeShapes Go.WideShapes Go.Deep

theorem int_get {w : World} {lo B : Nat} {l : List Int} {A : Option Addr} {n cap : Nat} (h : Sl false (intS false) w lo B l (.slice A n cap)) {i : Nat} (hi : i < l.length) :
    ∃ (b o : Nat) (a : Int), A = some ⟨b, o, none⟩ ∧ lo ≤ b ∧ b < B ∧ Hid (l[i] = a) ∧ I64 a ∧ w.cell? ⟨b, o + i, none⟩ = some (.int .i64 a) := by
  obtain ⟨b, o, cs, rfl, hlb, hb, _, hr, hc⟩ := h.at_ hi
  obtain ⟨rfl, hg⟩ := int_rep hr
  exact ⟨b, o, _, rfl, hlb, hb, rfl, hg, by simpa [intS] using hc 0 _ rfl⟩

theorem str_get {w : World} {lo B : Nat} {l : List ByteArray} {A : Option Addr} {n cap : Nat} (h : Sl false (strS false) w lo B l (.slice A n cap)) {i : Nat} (hi : i < l.length) :
    ∃ (b o : Nat) (a : ByteArray), A = some ⟨b, o, none⟩ ∧ lo ≤ b ∧ b < B ∧ Hid (l[i] = a) ∧ a.size ≤ maxLen ∧ w.cell? ⟨b, o + i, none⟩ = some (.string a) := by
  obtain ⟨b, o, cs, rfl, hlb, hb, _, hr, hc⟩ := h.at_ hi
  obtain ⟨rfl, hg⟩ := str_rep hr
  exact ⟨b, o, _, rfl, hlb, hb, rfl, hg, by simpa [strS] using hc 0 _ rfl⟩

theorem ex_get (d : Nat) {w : World} {lo B : Nat} {l : List Ex} {A : Option Addr} {n cap : Nat} (h : Sl false (exS false (d + 1)) w lo B l (.slice A n cap)) {i : Nat} (hi : i < l.length) :
    ∃ (b o : Nat) (op : Int) (n : Int) (name : ByteArray) (kids : List Ex) (v3 : Value), A = some ⟨b, o, none⟩ ∧ lo ≤ b ∧ b < B ∧ Hid (l[i] = .mk op n name kids) ∧ I64 op ∧ I64 n ∧ name.size ≤ maxLen ∧ Sl false (exS false d) w lo B kids v3 ∧ w.cell? ⟨b, o + i * 4, none⟩ = some (.int .i64 op) ∧ w.cell? ⟨b, o + i * 4 + 1, none⟩ = some (.int .i64 n) ∧ w.cell? ⟨b, o + i * 4 + 2, none⟩ = some (.string name) ∧ w.cell? ⟨b, o + i * 4 + 3, none⟩ = some (v3) := by
  obtain ⟨b, o, cs, rfl, hlb, hb, _, hr, hc⟩ := h.at_ hi
  obtain ⟨e, hl⟩ : ∃ e, l[i] = e := ⟨_, rfl⟩
  rw [hl] at hr ⊢
  obtain ⟨v3, rfl, g0, g1, g2, g3⟩ := ex_open d hr
  rw [exS_size] at hc
  obtain ⟨op, n, name, kids⟩ := e
  exact ⟨b, o, op, n, name, kids, v3, rfl, hlb, hb, rfl, g0, g1, g2, g3, hc 0 _ rfl, hc 1 _ rfl, hc 2 _ rfl, hc 3 _ rfl⟩

theorem exS_pos {m : Bool} {D : Nat} {w : World} {lo B : Nat} {l : List Ex} {v : Value} (h : Sl m (exS m D) w lo B l v) (hl : 0 < l.length) : ∃ d, D = d + 1 := by
  cases D with
  | zero =>
    obtain ⟨A, cap, rfl, _, _, h3⟩ := h
    obtain ⟨_, _, _, _, _, _, hc⟩ := h3 (List.ne_nil_of_length_pos hl)
    obtain ⟨_, hr, _⟩ := hc 0 l[0] (List.getElem?_eq_getElem hl)
    exact hr.elim
  | succ d => exact ⟨d, rfl⟩

end Go.Proofs.YthfinoapfbhgcaaDoor


