/-
  Writes of numbers over numbers and of texts over texts ('soft' writes) leave a datum's structure as it was. No condition.
-/
import Derived.Test.YtgcjccoglcgcoaaTo
namespace Go.Proofs.Ytgcjccoglcgcoaa
open Go.RowKit Go.ChangeShapes Go.WideShapes Go.Deep

/-- a number for a number, a text for a text, or the same -/
def SoftV (v v' : Value) : Prop := v' = v ∨ (∃ n n' : Int, v = .int .i64 n ∧ v' = .int .i64 n') ∨ (∃ s s' : ByteArray, v = .string s ∧ v' = .string s')
theorem SoftV.refl (v : Value) : SoftV v v := Or.inl rfl
theorem SoftV.trans {a b c : Value} (h : SoftV a b) (k : SoftV b c) : SoftV a c := by
  rcases h with rfl | ⟨n, n', rfl, rfl⟩ | ⟨s, s', rfl, rfl⟩
  · exact k
  · rcases k with rfl | ⟨m, m', _, rfl⟩ | ⟨t, t', e, _⟩
    · exact Or.inr (Or.inl ⟨_, _, rfl, rfl⟩)
    · exact Or.inr (Or.inl ⟨_, _, rfl, rfl⟩)
    · cases e
  · rcases k with rfl | ⟨m, m', e, _⟩ | ⟨t, t', _, rfl⟩
    · exact Or.inr (Or.inr ⟨_, _, rfl, rfl⟩)
    · cases e
    · exact Or.inr (Or.inr ⟨_, _, rfl, rfl⟩)

/-- only cells of the blocks from lo on, below B, have been written, softly -/
structure Soft (lo B : Nat) (w w' : World) : Prop where
  os : w'.os = w.os
  tape : w'.tape = w.tape
  output : w'.output = w.output
  size : w'.heap.size = w.heap.size
  out : ∀ b : Nat, (b < lo ∨ B ≤ b) → w'.heap[b]? = w.heap[b]?
  frozen : ∀ a : Addr, w'.frozen? a = w.frozen? a
  cell : ∀ (a : Addr) (v : Value), w.cell? a = some v → ∃ v', w'.cell? a = some v' ∧ SoftV v v'

theorem Soft.refl (lo B : Nat) (w : World) : Soft lo B w w := ⟨rfl, rfl, rfl, rfl, fun _ _ => rfl, fun _ => rfl, fun _ v h => ⟨v, h, SoftV.refl v⟩⟩
theorem Soft.drew {lo B : Nat} {w w' : World} (h : Soft lo B w w') : Soft lo B w w'.drew := ⟨h.os, h.tape, h.output, h.size, h.out, h.frozen, h.cell⟩
theorem Soft.trans {lo B : Nat} {a b c : World} (h : Soft lo B a b) (k : Soft lo B b c) : Soft lo B a c :=
  ⟨k.os.trans h.os, k.tape.trans h.tape, k.output.trans h.output, k.size.trans h.size, fun i hi => (k.out i hi).trans (h.out i hi), fun x => (k.frozen x).trans (h.frozen x), fun x v hv => by
    obtain ⟨v1, h1, s1⟩ := h.cell x v hv
    obtain ⟨v2, h2, s2⟩ := k.cell x v1 h1
    exact ⟨v2, h2, s1.trans s2⟩⟩
theorem Soft.more {lo B lo' B' : Nat} {w w' : World} (h : Soft lo B w w') (h1 : lo' ≤ lo) (h2 : B ≤ B') : Soft lo' B' w w' :=
  ⟨h.os, h.tape, h.output, h.size, fun b hb => h.out b (by omega), h.frozen, h.cell⟩
theorem Soft.setCell {lo B : Nat} {w : World} {p : Addr} {v u : Value} (hp : w.cell? p = some v) (h1 : lo ≤ p.block) (h2 : p.block < B) (hs : SoftV v u) : Soft lo B w (w.setCell p u) :=
  ⟨rfl, rfl, rfl, by simp, fun b hb => Below.heap_setCell w p u b (by omega), fun a => by simp, fun a x hx => by
    by_cases e : p = a
    · subst e
      rw [hp] at hx
      injection hx with hx
      subst hx
      exact ⟨u, World.cell?_setCell_same _ _ _ hp, hs⟩
    · exact ⟨x, (World.cell?_setCell_other _ _ _ u e).trans hx, SoftV.refl x⟩⟩
theorem Soft.below {lo B : Nat} {w w' : World} (h : Soft lo B w w') {b : Nat} (hb : b ≤ lo) : Below b w w' := ⟨h.os, h.tape, h.output, Nat.le_of_eq h.size.symm, fun k hk => h.out k (by omega)⟩
/-- what lies outside is as it was -/
theorem Soft.same {lo B lo' B' : Nat} {w w' : World} (h : Soft lo B w w') (hd : B' ≤ lo ∨ B ≤ lo') : ∀ b : Nat, lo' ≤ b → b < B' → w'.heap[b]? = w.heap[b]? := fun b h1 h2 => h.out b (by omega)

/-- a shape that soft writes leave -/
def SoftOk {α : Type} (S : Shp α) : Prop := ∀ {w w' : World} {lo0 B0 lo B : Nat} {a : α} {cs cs' : List Value}, Soft lo0 B0 w w' → S.rep w lo B a cs → cs'.length = cs.length → (∀ (j : Nat) (u u' : Value), cs[j]? = some u → cs'[j]? = some u' → SoftV u u') → S.rep w' lo B a cs'

theorem soft_one {c : Value} {cs' : List Value} (hl : cs'.length = [c].length) (h : ∀ (j : Nat) (u u' : Value), [c][j]? = some u → cs'[j]? = some u' → SoftV u u') : ∃ c', cs' = [c'] ∧ SoftV c c' := by
  match cs', hl with
  | [c'], _ => exact ⟨c', rfl, h 0 c c' rfl rfl⟩
theorem softOk_int : SoftOk (intS true) := by
  intro w w' lo0 B0 lo B a cs cs' _ hr hl h
  simp only [intS, if_true] at hr ⊢
  obtain ⟨n, rfl⟩ := hr
  obtain ⟨c', rfl, hc⟩ := soft_one hl h
  rcases hc with rfl | ⟨m, m', _, rfl⟩ | ⟨s, s', e, _⟩
  · exact ⟨n, rfl⟩
  · exact ⟨m', rfl⟩
  · cases e
theorem Sl.soft {α : Type} {S : Shp α} (hS : SoftOk S) {w w' : World} {lo0 B0 lo B : Nat} {l : List α} {v : Value} (h : Sl true S w lo B l v) (hs : Soft lo0 B0 w w') : Sl true S w' lo B l v := by
  obtain ⟨A, cap, rfl, h1, h2, h3⟩ := h
  refine ⟨A, cap, rfl, h1, h2, fun hl => ?_⟩
  obtain ⟨b, o, rfl, hlb, hb, hf, hc⟩ := h3 hl
  refine ⟨b, o, rfl, hlb, hb, fun hm j => (hs.frozen _).trans (hf hm j), fun i a ha => ?_⟩
  obtain ⟨cs, hr, hcs⟩ := hc i a ha
  have hj : ∀ j, j < cs.length → ∃ u', w'.cell? ⟨b, o + i * S.size + j, none⟩ = some u' ∧ SoftV (cs.getD j undef) u' := by
    intro j hj
    have h4 : cs[j]? = some cs[j] := List.getElem?_eq_getElem hj
    obtain ⟨u', h5, h6⟩ := hs.cell _ _ (hcs j _ h4)
    refine ⟨u', h5, ?_⟩
    simp only [List.getD, h4, Option.getD_some]
    exact h6
  obtain ⟨cs', hl', hp⟩ := choose_list hj
  refine ⟨cs', hS hs hr hl' (fun j u u' hu hu' => ?_), fun j u' hu' => (hp j u' hu').1⟩
  have := (hp j u' hu').2
  simp only [List.getD, hu, Option.getD_some] at this
  exact this
theorem softOk_sl {α : Type} {S : Shp α} (hS : SoftOk S) : SoftOk (slS true S) := by
  intro w w' lo0 B0 lo B a cs cs' hs hr hl h
  obtain ⟨v, rfl, hv⟩ := hr
  obtain ⟨c', rfl, hc⟩ := soft_one hl h
  obtain ⟨A, cap, rfl, _, _, _⟩ := id hv
  rcases hc with rfl | ⟨m, m', e, _⟩ | ⟨s, s', e, _⟩
  · exact ⟨_, rfl, hv.soft hS hs⟩
  · cases e
  · cases e

theorem Soft.st {lo B : Nat} {w w' : World} (h : Soft lo B w w') {p : Addr} {n : Int} (hp : w'.cell? p = some (.int .i64 n)) (h1 : lo ≤ p.block) (h2 : p.block < B) (u : Int) : Soft lo B w (w'.setCell p (.int .i64 u)) := h.trans (Soft.setCell hp h1 h2 (Or.inr (Or.inl ⟨_, _, rfl, rfl⟩)))
theorem Soft.int_at {lo B : Nat} {w w' : World} (h : Soft lo B w w') {p : Addr} {n : Int} (hp : w.cell? p = some (.int .i64 n)) : ∃ n', w'.cell? p = some (.int .i64 n') := by
  obtain ⟨v', h1, h2⟩ := h.cell _ _ hp
  rcases h2 with rfl | ⟨m, m', _, rfl⟩ | ⟨s, s', e, _⟩
  · exact ⟨_, h1⟩
  · exact ⟨_, h1⟩
  · cases e
theorem Soft.sl_at {lo B : Nat} {w w' : World} (h : Soft lo B w w') {p : Addr} {A : Option Addr} {n c : Nat} (hp : w.cell? p = some (.slice A n c)) : w'.cell? p = some (.slice A n c) := by
  obtain ⟨v', h1, h2⟩ := h.cell _ _ hp
  rcases h2 with rfl | ⟨m, m', e, _⟩ | ⟨s, s', e, _⟩
  · exact h1
  · cases e
  · cases e
theorem soft_1 {c d : Value} (h : SoftV c d) : ∀ (j : Nat) (u u' : Value), [c][j]? = some u → [d][j]? = some u' → SoftV u u' := by
  intro j u u' h1 h2
  match j, h1, h2 with
  | 0, h1, h2 =>
    have e1 := Option.some.inj h1
    have e2 := Option.some.inj h2
    subst e1 e2
    exact h
theorem int_any {w : World} {lo B : Nat} {n : Int} {cs : List Value} (h : (intS true).rep w lo B n cs) : ∃ n', cs = [.int .i64 n'] := by simpa [intS] using h
theorem sumBy_le {α : Type} (f : α → Nat) (l : List α) (k : Nat) : sumBy f (l.take k) ≤ sumBy f l := by
  induction l generalizing k with
  | nil => simp [sumBy]
  | cons a r ih =>
    cases k with
    | zero => simp [sumBy]
    | succ k =>
      have := ih k
      simp only [sumBy, List.take_succ_cons, List.map_cons, List.sum_cons] at this ⊢
      omega
/-- what a mark.. function answers: the next number -/
def MarkP (k : Int) (n lo B : Nat) (w : World) (e : Ending) (w' : World) : Prop :=
  ∃ r : Int, e = .returned (.int .i64 r) ∧ k ≤ r ∧ r ≤ k + 3 * n ∧ Soft lo B w w'
theorem addr_ne {b o o' : Nat} (h : o ≠ o') : (⟨b, o, none⟩ : Addr) ≠ ⟨b, o', none⟩ := fun e => h (by injection e)
end Go.Proofs.Ytgcjccoglcgcoaa
