/-
  Writes of numbers over numbers and of texts over texts ('soft' writes), and new memory, leave a datum's structure as it was. No condition.
-/
import Derived.Test.YtnamciblapddbaaDoorMarkT
namespace Go.Proofs.YtnamciblapddbaaDoor
open Go.RowKit Go.ChangeShapes Go.WideShapes Go.Deep
set_option linter.unusedSimpArgs false
set_option linter.unusedVariables false
/-- a number for a number, a text for a text, or the same -/
def SoftV (v v' : Value) : Prop := v' = v ∨ (∃ n n' : Int, v = .int .i64 n ∧ v' = .int .i64 n') ∨ (∃ s s' : ByteArray, v = .string s ∧ v' = .string s')
theorem SoftV.refl (v : Value) : SoftV v v := Or.inl rfl
theorem SoftV.trans {a b c : Value} (h : SoftV a b) (k : SoftV b c) : SoftV a c := by
  rcases h with rfl | ⟨n, n', rfl, rfl⟩ | ⟨s, s', rfl, rfl⟩
  · exact k
  · rcases k with rfl | ⟨m, m', _, rfl⟩ | ⟨t, t', e, _⟩
    · exact Or.inr (Or.inl ⟨_, _, rfl, rfl⟩)
    · exact Or.inr (Or.inl ⟨_, _, rfl, rfl⟩)
    · cases e
  · rcases k with rfl | ⟨m, m', e, _⟩ | ⟨t, t', _, rfl⟩
    · exact Or.inr (Or.inr ⟨_, _, rfl, rfl⟩)
    · cases e
    · exact Or.inr (Or.inr ⟨_, _, rfl, rfl⟩)
/-- of the old blocks only those from lo on, below B, have been written, softly -/
structure Soft (lo B : Nat) (w w' : World) : Prop where
  os : w'.os = w.os
  tape : w'.tape = w.tape
  output : w'.output = w.output
  size : w.heap.size ≤ w'.heap.size
  out : ∀ b : Nat, b < w.heap.size → (b < lo ∨ B ≤ b) → w'.heap[b]? = w.heap[b]?
  frozen : ∀ a : Addr, a.block < w.heap.size → w'.frozen? a = w.frozen? a
  cell : ∀ (a : Addr) (v : Value), w.cell? a = some v → ∃ v', w'.cell? a = some v' ∧ SoftV v v'
theorem Soft.refl (lo B : Nat) (w : World) : Soft lo B w w := ⟨rfl, rfl, rfl, Nat.le_refl _, fun _ _ _ => rfl, fun _ _ => rfl, fun _ v h => ⟨v, h, SoftV.refl v⟩⟩
theorem Soft.trans {lo B : Nat} {a b c : World} (h : Soft lo B a b) (k : Soft lo B b c) : Soft lo B a c :=
  ⟨k.os.trans h.os, k.tape.trans h.tape, k.output.trans h.output, Nat.le_trans h.size k.size, fun i hl hi => (k.out i (Nat.lt_of_lt_of_le hl h.size) hi).trans (h.out i hl hi), fun x hx => (k.frozen x (Nat.lt_of_lt_of_le hx h.size)).trans (h.frozen x hx), fun x v hv => by
    obtain ⟨v1, h1, s1⟩ := h.cell x v hv
    obtain ⟨v2, h2, s2⟩ := k.cell x v1 h1
    exact ⟨v2, h2, s1.trans s2⟩⟩
theorem Soft.more {lo B lo' B' : Nat} {w w' : World} (h : Soft lo B w w') (h1 : lo' ≤ lo) (h2 : B ≤ B') : Soft lo' B' w w' :=
  ⟨h.os, h.tape, h.output, h.size, fun b hl hb => h.out b hl (by omega), h.frozen, h.cell⟩
theorem Soft.of_below {lo B : Nat} {w w' : World} (h : Below w.heap.size w w') : Soft lo B w w' :=
  ⟨h.os, h.tape, h.output, h.size, fun b hl _ => h.block b hl, fun a ha => h.frozen ha, fun a v hv => ⟨v, (h.cell (World.block_lt_of_cell? w a hv)).trans hv, SoftV.refl v⟩⟩
theorem Soft.setCell {lo B : Nat} {w : World} {p : Addr} {v u : Value} (hp : w.cell? p = some v) (h1 : lo ≤ p.block) (h2 : p.block < B) (hs : SoftV v u) : Soft lo B w (w.setCell p u) :=
  ⟨rfl, rfl, rfl, by simp, fun b _ hb => Below.heap_setCell w p u b (by omega), fun a _ => by simp, fun a x hx => by
    by_cases e : p = a
    · subst e
      rw [hp] at hx
      injection hx with hx
      subst hx
      exact ⟨u, World.cell?_setCell_same _ _ _ hp, hs⟩
    · exact ⟨x, (World.cell?_setCell_other _ _ _ u e).trans hx, SoftV.refl x⟩⟩
theorem Soft.below {lo B : Nat} {w w' : World} (h : Soft lo B w w') {b : Nat} (hb : b ≤ lo) (hw : b ≤ w.heap.size) : Below b w w' := ⟨h.os, h.tape, h.output, h.size, fun k hk => h.out k (by omega) (by omega)⟩
/-- what lies outside is as it was -/
theorem Soft.same {lo B lo' B' : Nat} {w w' : World} (h : Soft lo B w w') (hd : B' ≤ lo ∨ B ≤ lo') (hw : B' ≤ w.heap.size) : ∀ b : Nat, lo' ≤ b → b < B' → w'.heap[b]? = w.heap[b]? := fun b h1 h2 => h.out b (by omega) (by omega)
theorem Row.soft {w w' : World} {lo B g : Nat} {t : TypeId} {cs : Array Value} (h : Row w g t cs) (hs : Soft lo B w w') (hd : g < lo ∨ B ≤ g) : Row w' g t cs := (hs.out g h.lt hd).trans h
/-- a shape that soft writes leave -/
structure SoftOk {α : Type} (S : Shp α) : Prop where
  pos : 0 < S.size
  soft : ∀ {w w' : World} {lo0 B0 lo B : Nat} {a : α} {cs cs' : List Value}, Soft lo0 B0 w w' → S.rep w lo B a cs → cs'.length = cs.length → (∀ (j : Nat) (u u' : Value), cs[j]? = some u → cs'[j]? = some u' → SoftV u u') → S.rep w' lo B a cs'
theorem soft_one {c : Value} {cs' : List Value} (hl : cs'.length = [c].length) (h : ∀ (j : Nat) (u u' : Value), [c][j]? = some u → cs'[j]? = some u' → SoftV u u') : ∃ c', cs' = [c'] ∧ SoftV c c' := by
  match cs', hl with
  | [c'], _ => exact ⟨c', rfl, h 0 c c' rfl rfl⟩
theorem softOk_int : SoftOk (intS true) := by
  refine ⟨by decide, ?_⟩
  intro w w' lo0 B0 lo B a cs cs' _ hr hl h
  simp only [intS, if_true] at hr ⊢
  obtain ⟨n, rfl⟩ := hr
  obtain ⟨c', rfl, hc⟩ := soft_one hl h
  rcases hc with rfl | ⟨m, m', _, rfl⟩ | ⟨s, s', e, _⟩
  · exact ⟨n, rfl⟩
  · exact ⟨m', rfl⟩
  · cases e
theorem softOk_str : SoftOk (strS true) := by
  refine ⟨by decide, ?_⟩
  intro w w' lo0 B0 lo B a cs cs' _ hr hl h
  simp only [strS, if_true] at hr ⊢
  obtain ⟨n, rfl⟩ := hr
  obtain ⟨c', rfl, hc⟩ := soft_one hl h
  rcases hc with rfl | ⟨m, m', e, _⟩ | ⟨s, s', _, rfl⟩
  · exact ⟨n, rfl⟩
  · cases e
  · exact ⟨s', rfl⟩
theorem Sl.soft {α : Type} {S : Shp α} (hS : SoftOk S) {w w' : World} {lo0 B0 lo B : Nat} {l : List α} {v : Value} (h : Sl true S w lo B l v) (hs : Soft lo0 B0 w w') : Sl true S w' lo B l v := by
  obtain ⟨A, cap, rfl, h1, h2, h3⟩ := h
  refine ⟨A, cap, rfl, h1, h2, fun hl => ?_⟩
  obtain ⟨b, o, rfl, hlb, hb, hf, hc⟩ := h3 hl
  have hbw : b < w.heap.size := by
    obtain ⟨cs, hr, hcs⟩ := hc 0 (l[0]'(List.length_pos_iff.2 hl)) (List.getElem?_eq_getElem _)
    have h4 : cs[0]? = some (cs[0]'(by rw [S.len hr]; exact hS.pos)) := List.getElem?_eq_getElem _
    exact World.block_lt_of_cell? w _ (hcs 0 _ h4)
  refine ⟨b, o, rfl, hlb, hb, fun hm j => (hs.frozen _ hbw).trans (hf hm j), fun i a ha => ?_⟩
  obtain ⟨cs, hr, hcs⟩ := hc i a ha
  have hj : ∀ j, j < cs.length → ∃ u', w'.cell? ⟨b, o + i * S.size + j, none⟩ = some u' ∧ SoftV (cs.getD j undef) u' := by
    intro j hj
    have h4 : cs[j]? = some cs[j] := List.getElem?_eq_getElem hj
    obtain ⟨u', h5, h6⟩ := hs.cell _ _ (hcs j _ h4)
    refine ⟨u', h5, ?_⟩
    simp only [List.getD, h4, Option.getD_some]
    exact h6
  obtain ⟨cs', hl', hp⟩ := choose_list hj
  refine ⟨cs', hS.soft hs hr hl' (fun j u u' hu hu' => ?_), fun j u' hu' => (hp j u' hu').1⟩
  have := (hp j u' hu').2
  simp only [List.getD, hu, Option.getD_some] at this
  exact this
theorem softOk_sl {α : Type} {S : Shp α} (hS : SoftOk S) : SoftOk (slS true S) := by
  refine ⟨Nat.lt_add_one 0, ?_⟩
  intro w w' lo0 B0 lo B a cs cs' hs hr hl h
  obtain ⟨v, rfl, hv⟩ := hr
  obtain ⟨c', rfl, hc⟩ := soft_one hl h
  obtain ⟨A, cap, rfl, _, _, _⟩ := id hv
  rcases hc with rfl | ⟨m, m', e, _⟩ | ⟨s, s', e, _⟩
  · exact ⟨_, rfl, hv.soft hS hs⟩
  · cases e
  · cases e
theorem Soft.st {lo B : Nat} {w w' : World} (h : Soft lo B w w') {p : Addr} {n : Int} (hp : w'.cell? p = some (.int .i64 n)) (h1 : lo ≤ p.block) (h2 : p.block < B) (u : Int) : Soft lo B w (w'.setCell p (.int .i64 u)) := h.trans (Soft.setCell hp h1 h2 (Or.inr (Or.inl ⟨_, _, rfl, rfl⟩)))
theorem Soft.sts {lo B : Nat} {w w' : World} (h : Soft lo B w w') {p : Addr} {s : ByteArray} (hp : w'.cell? p = some (.string s)) (h1 : lo ≤ p.block) (h2 : p.block < B) (u : ByteArray) : Soft lo B w (w'.setCell p (.string u)) := h.trans (Soft.setCell hp h1 h2 (Or.inr (Or.inr ⟨_, _, rfl, rfl⟩)))
theorem soft_1 {c d : Value} (h : SoftV c d) : ∀ (j : Nat) (u u' : Value), [c][j]? = some u → [d][j]? = some u' → SoftV u u' := by
  intro j u u' h1 h2
  match j, h1, h2 with
  | 0, h1, h2 =>
    have e1 := Option.some.inj h1
    have e2 := Option.some.inj h2
    subst e1 e2
    exact h
theorem int_any {w : World} {lo B : Nat} {n : Int} {cs : List Value} (h : (intS true).rep w lo B n cs) : ∃ n', cs = [.int .i64 n'] := by simpa [intS] using h
theorem str_any {w : World} {lo B : Nat} {n : ByteArray} {cs : List Value} (h : (strS true).rep w lo B n cs) : ∃ n', cs = [.string n'] := by simpa [strS] using h
theorem softOk_ex : ∀ d, SoftOk (exS true d) := by
  intro d
  induction d with
  | zero => exact ⟨by rw [exS_size]; omega, fun _ hr _ _ => hr.elim⟩
  | succ d ih =>
    refine ⟨by rw [exS_size]; omega, ?_⟩
    intro w w' lo0 B0 lo B a cs cs' hs hr hl h
    obtain ⟨c0, c1, c2, c3, rfl, h0, h1, h2, h3⟩ := hr
    match cs', hl with
    | [d0, d1, d2, d3], _ =>
      exact ⟨d0, d1, d2, d3, rfl, softOk_int.soft hs h0 rfl (soft_1 (h 0 _ _ rfl rfl)), softOk_int.soft hs h1 rfl (soft_1 (h 1 _ _ rfl rfl)), softOk_str.soft hs h2 rfl (soft_1 (h 2 _ _ rfl rfl)), (softOk_sl ih).soft hs h3 rfl (soft_1 (h 3 _ _ rfl rfl))⟩
theorem ex_getm (d : Nat) {w : World} {lo B : Nat} {l : List Ex} {A : Option Addr} {n cap : Nat} (h : Sl true (exS true (d + 1)) w lo B l (.slice A n cap)) {i : Nat} (hi : i < l.length) :
    ∃ (b o : Nat) (n0 n1 : Int) (s2 : ByteArray) (A3 : Option Addr) (p3 : Nat), A = some ⟨b, o, none⟩ ∧ lo ≤ b ∧ b < B ∧ (∀ j : Nat, w.frozen? ⟨b, j, none⟩ = false) ∧ Sl true (exS true d) w lo B l[i].kids (.slice A3 l[i].kids.length p3) ∧ w.cell? ⟨b, o + i * 4, none⟩ = some (.int .i64 n0) ∧ w.cell? ⟨b, o + i * 4 + 1, none⟩ = some (.int .i64 n1) ∧ w.cell? ⟨b, o + i * 4 + 2, none⟩ = some (.string s2) ∧ w.cell? ⟨b, o + i * 4 + 3, none⟩ = some (.slice A3 l[i].kids.length p3) := by
  obtain ⟨b, o, cs, rfl, hlb, hb, hf, hr, hc⟩ := h.at_ hi
  have hf := hf rfl
  rw [exS_size] at hc
  obtain ⟨c0, c1, c2, c3, rfl, h0, h1, h2, h3⟩ := hr
  obtain ⟨x0, e0⟩ := int_any h0
  injection e0 with e0
  subst e0
  obtain ⟨x1, e1⟩ := int_any h1
  injection e1 with e1
  subst e1
  obtain ⟨x2, e2⟩ := str_any h2
  injection e2 with e2
  subst e2
  obtain ⟨x3, e3, g3⟩ := h3
  injection e3 with e3
  subst e3
  obtain ⟨A3, p3, hx3, _, _⟩ := g3.form
  subst hx3
  exact ⟨b, o, x0, x1, x2, A3, p3, rfl, hlb, hb, hf, g3, hc 0 _ rfl, hc 1 _ rfl, hc 2 _ rfl, hc 3 _ rfl⟩
theorem addr_ne {b o o' : Nat} (h : o ≠ o') : (⟨b, o, none⟩ : Addr) ≠ ⟨b, o', none⟩ := fun e => h (by injection e)
end Go.Proofs.YtnamciblapddbaaDoor
