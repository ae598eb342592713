/-
  Writes of numbers over numbers and of texts over texts ('soft' writes), and new memory, leave a datum's structure as it was. No condition.
-/
import Derived.Test.YtbikgakoeheahaaDoorMarkT
namespace Go.Proofs.YtbikgakoeheahaaDoor
open Go.RowKit Go.ChangeShapes Go.WideShapes Go.Deep
set_option linter.unusedSimpArgs false
set_option linter.unusedVariables false
/-- a number for a number, a text for a text, or the same -/
def SoftV (v v' : Value) : Prop := v' = v ∨ (∃ n n' : Int, v = .int .i64 n ∧ v' = .int .i64 n') ∨ (∃ s s' : ByteArray, v = .string s ∧ v' = .string s')
theorem SoftV.refl (v : Value) : SoftV v v := Or.inl rfl
theorem SoftV.trans {a b c : Value} (h : SoftV a b) (k : SoftV b c) : SoftV a c := by
  rcases h with rfl | ⟨n, n', rfl, rfl⟩ | ⟨s, s', rfl, rfl⟩
  · exact k
  · rcases k with rfl | ⟨m, m', _, rfl⟩ | ⟨t, t', e, _⟩
    · exact Or.inr (Or.inl ⟨_, _, rfl, rfl⟩)
    · exact Or.inr (Or.inl ⟨_, _, rfl, rfl⟩)
    · cases e
  · rcases k with rfl | ⟨m, m', e, _⟩ | ⟨t, t', _, rfl⟩
    · exact Or.inr (Or.inr ⟨_, _, rfl, rfl⟩)
    · cases e
    · exact Or.inr (Or.inr ⟨_, _, rfl, rfl⟩)
/-- of the old blocks only those from lo on, below B, have been written, softly -/
structure Soft (lo B : Nat) (w w' : World) : Prop where
  os : w'.os = w.os
  tape : w'.tape = w.tape
  output : w'.output = w.output
  size : w.heap.size ≤ w'.heap.size
  out : ∀ b : Nat, b < w.heap.size → (b < lo ∨ B ≤ b) → w'.heap[b]? = w.heap[b]?
  frozen : ∀ a : Addr, a.block < w.heap.size → w'.frozen? a = w.frozen? a
  cell : ∀ (a : Addr) (v : Value), w.cell? a = some v → ∃ v', w'.cell? a = some v' ∧ SoftV v v'
theorem Soft.refl (lo B : Nat) (w : World) : Soft lo B w w := ⟨rfl, rfl, rfl, Nat.le_refl _, fun _ _ _ => rfl, fun _ _ => rfl, fun _ v h => ⟨v, h, SoftV.refl v⟩⟩
theorem Soft.trans {lo B : Nat} {a b c : World} (h : Soft lo B a b) (k : Soft lo B b c) : Soft lo B a c :=
  ⟨k.os.trans h.os, k.tape.trans h.tape, k.output.trans h.output, Nat.le_trans h.size k.size, fun i hl hi => (k.out i (Nat.lt_of_lt_of_le hl h.size) hi).trans (h.out i hl hi), fun x hx => (k.frozen x (Nat.lt_of_lt_of_le hx h.size)).trans (h.frozen x hx), fun x v hv => by
    obtain ⟨v1, h1, s1⟩ := h.cell x v hv
    obtain ⟨v2, h2, s2⟩ := k.cell x v1 h1
    exact ⟨v2, h2, s1.trans s2⟩⟩
theorem Soft.more {lo B lo' B' : Nat} {w w' : World} (h : Soft lo B w w') (h1 : lo' ≤ lo) (h2 : B ≤ B') : Soft lo' B' w w' :=
  ⟨h.os, h.tape, h.output, h.size, fun b hl hb => h.out b hl (by omega), h.frozen, h.cell⟩
theorem Soft.of_below {lo B : Nat} {w w' : World} (h : Below w.heap.size w w') : Soft lo B w w' :=
  ⟨h.os, h.tape, h.output, h.size, fun b hl _ => h.block b hl, fun a ha => h.frozen ha, fun a v hv => ⟨v, (h.cell (World.block_lt_of_cell? w a hv)).trans hv, SoftV.refl v⟩⟩
theorem Soft.setCell {lo B : Nat} {w : World} {p : Addr} {v u : Value} (hp : w.cell? p = some v) (h1 : lo ≤ p.block) (h2 : p.block < B) (hs : SoftV v u) : Soft lo B w (w.setCell p u) :=
  ⟨rfl, rfl, rfl, by simp, fun b _ hb => Below.heap_setCell w p u b (by omega), fun a _ => by simp, fun a x hx => by
    by_cases e : p = a
    · subst e
      rw [hp] at hx
      injection hx with hx
      subst hx
      exact ⟨u, World.cell?_setCell_same _ _ _ hp, hs⟩
    · exact ⟨x, (World.cell?_setCell_other _ _ _ u e).trans hx, SoftV.refl x⟩⟩
theorem Soft.below {lo B : Nat} {w w' : World} (h : Soft lo B w w') {b : Nat} (hb : b ≤ lo) (hw : b ≤ w.heap.size) : Below b w w' := ⟨h.os, h.tape, h.output, h.size, fun k hk => h.out k (by omega) (by omega)⟩
/-- what lies outside is as it was -/
theorem Soft.same {lo B lo' B' : Nat} {w w' : World} (h : Soft lo B w w') (hd : B' ≤ lo ∨ B ≤ lo') (hw : B' ≤ w.heap.size) : ∀ b : Nat, lo' ≤ b → b < B' → w'.heap[b]? = w.heap[b]? := fun b h1 h2 => h.out b (by omega) (by omega)
end Go.Proofs.YtbikgakoeheahaaDoor
