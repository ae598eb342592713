/-
  Several texts in one: OwnG, Names, Names2, Names3, MarkT, Soft, Tree, Mapped, Clone, Copy, Put, Put2, PutVarC, PlainE.
-/
import Derived.Test.YthfinoapfbhgcaaDoorParts
import Derived.Maps.AppendAt
import Derived.Maps.Range
import Derived.Test.YthfinoapfbhgcaaDoorName
import Derived.Laws.BytesArg
import Derived.Deep.RegionHeld3
import Derived.Deep.AppendLies
import Derived.Laws.Pointers
import Derived.Laws.EntriesVeiled
namespace Go.Proofs.YthfinoapfbhgcaaDoor
open Go.RowKit Go.ChangeShapes Go.WideShapes Go.Deep
set_option linter.unusedSimpArgs false
set_option linter.unusedVariables false
/-- of the old blocks only v's own may have changed; and v' lies there or in new memory -/
structure OwnG (v v' : Value) (w w' : World) : Prop where
  grown : w.grownBy w' v.ownBlock
  at_ : ∀ k, v'.ownBlock = some k → v.ownBlock = some k ∨ w.heap.size ≤ k
theorem OwnG.refl (v : Value) (w : World) : OwnG v v w w := ⟨World.grownBy.refl _ _, fun _ h => Or.inl h⟩
theorem OwnG.trans {v v1 v2 : Value} {a b c : World} (h : OwnG v v1 a b) (k : OwnG v1 v2 b c) : OwnG v v2 a c := by
  refine ⟨h.grown.andThen k.grown (fun j hj => (h.at_ j hj).symm), fun j hj => ?_⟩
  rcases k.at_ j hj with h1 | h1
  · exact h.at_ j h1
  · exact Or.inr (Nat.le_trans h.grown.size h1)
theorem OwnG.of_below {v : Value} {w w' : World} (h : Below w.heap.size w w') : OwnG v v w w' :=
  ⟨⟨h.os, h.tape, h.output, h.size, fun k hk _ => h.block k hk⟩, fun _ h => Or.inl h⟩
theorem OwnG.of_at {v v' : Value} {w w' : World} (h : w.grownBy w' v.ownBlock) (k : v'.ownBlock = v.ownBlock ∨ v'.ownBlock = some w.heap.size) : OwnG v v' w w' := by
  refine ⟨h, fun j hj => ?_⟩
  rcases k with k | k
  · exact Or.inl (k ▸ hj)
  · rw [k] at hj
    injection hj with hj
    exact Or.inr (Nat.le_of_eq hj)
theorem OwnG.size {v v' : Value} {w w' : World} (h : OwnG v v' w w') : w.heap.size ≤ w'.heap.size := h.grown.size
theorem OwnG.row {v v' : Value} {w w' : World} (h : OwnG v v' w w') {g : Nat} {t : TypeId} {cs : Array Value} (R : Row w g t cs) (hne : v.ownBlock ≠ some g) : Row w' g t cs := (h.grown.block g R.lt (fun e => hne e.symm)).trans R
theorem OwnG.below {v v' : Value} {w w' : World} (h : OwnG v v' w w') {B : Nat} (hB : B ≤ w.heap.size) (ho : ∀ k, v.ownBlock = some k → B ≤ k) : Below B w w' :=
  ⟨h.grown.os, h.grown.tape, h.grown.output, h.grown.size, fun k hk => h.grown.block k (by omega) (fun e => by have := ho k e.symm; omega)⟩
theorem own_ge {w : World} {base n size : Nat} {e : TypeId} {v : Value} {xs : List Value} (h : w.ownsRow base e size v n xs) {k : Nat} (hk : v.ownBlock = some k) : base ≤ k := (h.lt k hk).1
theorem own_ne {w : World} {base n size : Nat} {e : TypeId} {v : Value} {xs : List Value} (h : w.ownsRow base e size v n xs) {g : Nat} (hg : g < base) : v.ownBlock ≠ some g := fun hk => by
  have := own_ge h hk
  omega
theorem own_ne' {w : World} {base n size : Nat} {e : TypeId} {v : Value} {xs : List Value} (h : w.ownsRow base e size v n xs) {g : Nat} (hg : w.heap.size ≤ g) : v.ownBlock ≠ some g := fun hk => by
  have := (h.lt g hk).2
  omega
theorem own_below {w w' : World} {base n size B : Nat} {e : TypeId} {v : Value} {xs : List Value} (h : w.ownsRow base e size v n xs) (hb : Below B w w') (hB : w.heap.size ≤ B) : w'.ownsRow base e size v n xs := by
  refine ⟨h.1, ?_⟩
  rcases h.2 with h1 | ⟨g, cap, cur, h1, h2, h3, h4⟩
  · exact Or.inl h1
  · have : g < w.heap.size := (Array.getElem?_eq_some_iff.1 h3).1
    exact Or.inr ⟨g, cap, cur, h1, h2, (hb.block g (by omega)).trans h3, h4⟩
end Go.Proofs.YthfinoapfbhgcaaDoor

namespace Go.Proofs.YthfinoapfbhgcaaDoor
open Go.RowKit Go.ChangeShapes Go.WideShapes Go.Deep
set_option linter.unusedSimpArgs false
set_option linter.unusedVariables false
end Go.Proofs.YthfinoapfbhgcaaDoor

namespace Go.Proofs.YthfinoapfbhgcaaDoor
open Go.RowKit Go.ChangeShapes Go.WideShapes Go.Deep
set_option linter.unusedSimpArgs false
set_option linter.unusedVariables false
/-- of the old blocks only g and v's own may have changed; and v' lies there or in new memory -/
structure OwnB (g : Nat) (v v' : Value) (w w' : World) : Prop where
  os : w'.os = w.os
  tape : w'.tape = w.tape
  output : w'.output = w.output
  size : w.heap.size ≤ w'.heap.size
  block : ∀ k, k < w.heap.size → k ≠ g → v.ownBlock ≠ some k → w'.heap[k]? = w.heap[k]?
  at_ : ∀ k, v'.ownBlock = some k → v.ownBlock = some k ∨ w.heap.size ≤ k
theorem OwnB.refl (g : Nat) (v : Value) (w : World) : OwnB g v v w w := ⟨rfl, rfl, rfl, Nat.le_refl _, fun _ _ _ _ => rfl, fun _ h => Or.inl h⟩
theorem OwnB.of_own {g : Nat} {v v' : Value} {w w' : World} (h : OwnG v v' w w') : OwnB g v v' w w' :=
  ⟨h.grown.os, h.grown.tape, h.grown.output, h.grown.size, fun k hk _ hne => h.grown.block k hk (fun e => hne e.symm), h.at_⟩
theorem OwnB.of_below {g : Nat} {v : Value} {w w' : World} (h : Below w.heap.size w w') : OwnB g v v w w' := OwnB.of_own (OwnG.of_below h)
theorem OwnB.trans {g : Nat} {v v1 v2 : Value} {a b c : World} (h : OwnB g v v1 a b) (k : OwnB g v1 v2 b c) : OwnB g v v2 a c := by
  refine ⟨k.os.trans h.os, k.tape.trans h.tape, k.output.trans h.output, Nat.le_trans h.size k.size, fun i hi hg hv => ?_, fun j hj => ?_⟩
  · refine (k.block i (Nat.lt_of_lt_of_le hi h.size) hg (fun e => ?_)).trans (h.block i hi hg hv)
    rcases h.at_ i e with h1 | h1
    · exact hv h1
    · omega
  · rcases k.at_ j hj with h1 | h1
    · exact h.at_ j h1
    · exact Or.inr (Nat.le_trans h.size h1)
theorem OwnB.set_ {g : Nat} {v v1 : Value} {a b : World} (h : OwnB g v v1 a b) (u : Value) : OwnB g v v1 a (b.setCell ⟨g, 0, none⟩ u) :=
  ⟨h.os, h.tape, h.output, by simpa using h.size, fun i hi hg hv => (Below.heap_setCell _ _ _ i hg).trans (h.block i hi hg hv), h.at_⟩
theorem OwnB.row {g : Nat} {v v' : Value} {w w' : World} (h : OwnB g v v' w w') {b : Nat} {t : TypeId} {cs : Array Value} (R : Row w b t cs) (hg : b ≠ g) (hne : v.ownBlock ≠ some b) : Row w' b t cs := (h.block b R.lt hg hne).trans R
theorem OwnB.below {g : Nat} {v v' : Value} {w w' : World} (h : OwnB g v v' w w') {B : Nat} (hg : B ≤ g) (hB : B ≤ w.heap.size) (ho : ∀ k, v.ownBlock = some k → B ≤ k) : Below B w w' :=
  ⟨h.os, h.tape, h.output, h.size, fun k hk => h.block k (by omega) (by omega) (fun e => by have := ho k e; omega)⟩
theorem own_form {w : World} {base size n : Nat} {e : TypeId} {v : Value} {xs : List Value} (h : w.ownsRow base e size v n xs) (hn : 0 < n) : ∃ g cap, v = .slice (some ⟨g, 0, none⟩) n cap := by
  rcases h.2 with ⟨_, h0⟩ | ⟨g, cap, _, hv, _⟩
  · omega
  · exact ⟨g, cap, hv⟩
end Go.Proofs.YthfinoapfbhgcaaDoor

namespace Go.Proofs.YthfinoapfbhgcaaDoor
open Go.RowKit Go.ChangeShapes Go.WideShapes Go.Deep

set_option linter.unusedVariables false
set_option linter.unusedSimpArgs false
end Go.Proofs.YthfinoapfbhgcaaDoor


namespace Go.Proofs.YthfinoapfbhgcaaDoor
open Go.RowKit Go.ChangeShapes Go.WideShapes Go.Deep
set_option linter.unusedSimpArgs false
set_option linter.unusedVariables false
theorem ba_of {a b : ByteArray} (h : a.data.toList = b.data.toList) : a = b := by
  obtain ⟨x⟩ := a
  obtain ⟨y⟩ := b
  have : x = y := Array.ext' h
  rw [this]
theorem u8_str (w : World) (D : Int) : (convert 22 9 (.slice (some ⟨w.heap.size, 0, none⟩) 1 1)).run Tryd.prog (w.alloc (.cells #[.int .u8 D] 5)) = .ok (.string ⟨#[UInt8.ofNat D.toNat]⟩) (w.alloc (.cells #[.int .u8 D] 5)) := by
  have h := run_convert_bytes_arg (P := Tryd.prog) (w.alloc (.cells #[.int .u8 D] 5)) 22 5 Tryd.underlying22 Tryd.underlying5 w.heap.size 0 1 1 [D] rfl (fun i hi => by
    obtain rfl : i = 0 := by omega
    exact (Row.new w 5 #[.int .u8 D]).cell 0) 9 Tryd.underlying9
  exact h
end Go.Proofs.YthfinoapfbhgcaaDoor


namespace Go.Proofs.YthfinoapfbhgcaaDoor
open Go.RowKit Go.ChangeShapes Go.WideShapes Go.Deep
set_option linter.unusedSimpArgs false
set_option linter.unusedVariables false
/-- a number for a number, a text for a text, or the same -/
def SoftV (v v' : Value) : Prop := v' = v ∨ (∃ n n' : Int, v = .int .i64 n ∧ v' = .int .i64 n') ∨ (∃ s s' : ByteArray, v = .string s ∧ v' = .string s')
theorem SoftV.refl (v : Value) : SoftV v v := Or.inl rfl
theorem SoftV.trans {a b c : Value} (h : SoftV a b) (k : SoftV b c) : SoftV a c := by
  rcases h with rfl | ⟨n, n', rfl, rfl⟩ | ⟨s, s', rfl, rfl⟩
  · exact k
  · rcases k with rfl | ⟨m, m', _, rfl⟩ | ⟨t, t', e, _⟩
    · exact Or.inr (Or.inl ⟨_, _, rfl, rfl⟩)
    · exact Or.inr (Or.inl ⟨_, _, rfl, rfl⟩)
    · cases e
  · rcases k with rfl | ⟨m, m', e, _⟩ | ⟨t, t', _, rfl⟩
    · exact Or.inr (Or.inr ⟨_, _, rfl, rfl⟩)
    · cases e
    · exact Or.inr (Or.inr ⟨_, _, rfl, rfl⟩)
/-- of the old blocks only those from lo on, below B, have been written, softly -/
structure Soft (lo B : Nat) (w w' : World) : Prop where
  os : w'.os = w.os
  tape : w'.tape = w.tape
  output : w'.output = w.output
  size : w.heap.size ≤ w'.heap.size
  out : ∀ b : Nat, b < w.heap.size → (b < lo ∨ B ≤ b) → w'.heap[b]? = w.heap[b]?
  frozen : ∀ a : Addr, a.block < w.heap.size → w'.frozen? a = w.frozen? a
  cell : ∀ (a : Addr) (v : Value), w.cell? a = some v → ∃ v', w'.cell? a = some v' ∧ SoftV v v'
theorem Soft.refl (lo B : Nat) (w : World) : Soft lo B w w := ⟨rfl, rfl, rfl, Nat.le_refl _, fun _ _ _ => rfl, fun _ _ => rfl, fun _ v h => ⟨v, h, SoftV.refl v⟩⟩
theorem Soft.trans {lo B : Nat} {a b c : World} (h : Soft lo B a b) (k : Soft lo B b c) : Soft lo B a c :=
  ⟨k.os.trans h.os, k.tape.trans h.tape, k.output.trans h.output, Nat.le_trans h.size k.size, fun i hl hi => (k.out i (Nat.lt_of_lt_of_le hl h.size) hi).trans (h.out i hl hi), fun x hx => (k.frozen x (Nat.lt_of_lt_of_le hx h.size)).trans (h.frozen x hx), fun x v hv => by
    obtain ⟨v1, h1, s1⟩ := h.cell x v hv
    obtain ⟨v2, h2, s2⟩ := k.cell x v1 h1
    exact ⟨v2, h2, s1.trans s2⟩⟩
theorem Soft.more {lo B lo' B' : Nat} {w w' : World} (h : Soft lo B w w') (h1 : lo' ≤ lo) (h2 : B ≤ B') : Soft lo' B' w w' :=
  ⟨h.os, h.tape, h.output, h.size, fun b hl hb => h.out b hl (by omega), h.frozen, h.cell⟩
theorem Soft.of_below {lo B : Nat} {w w' : World} (h : Below w.heap.size w w') : Soft lo B w w' :=
  ⟨h.os, h.tape, h.output, h.size, fun b hl _ => h.block b hl, fun a ha => h.frozen ha, fun a v hv => ⟨v, (h.cell (World.block_lt_of_cell? w a hv)).trans hv, SoftV.refl v⟩⟩
theorem Soft.setCell {lo B : Nat} {w : World} {p : Addr} {v u : Value} (hp : w.cell? p = some v) (h1 : lo ≤ p.block) (h2 : p.block < B) (hs : SoftV v u) : Soft lo B w (w.setCell p u) :=
  ⟨rfl, rfl, rfl, by simp, fun b _ hb => Below.heap_setCell w p u b (by omega), fun a _ => by simp, fun a x hx => by
    by_cases e : p = a
    · subst e
      rw [hp] at hx
      injection hx with hx
      subst hx
      exact ⟨u, World.cell?_setCell_same _ _ _ hp, hs⟩
    · exact ⟨x, (World.cell?_setCell_other _ _ _ u e).trans hx, SoftV.refl x⟩⟩
theorem Soft.below {lo B : Nat} {w w' : World} (h : Soft lo B w w') {b : Nat} (hb : b ≤ lo) (hw : b ≤ w.heap.size) : Below b w w' := ⟨h.os, h.tape, h.output, h.size, fun k hk => h.out k (by omega) (by omega)⟩
/-- what lies outside is as it was -/
theorem Soft.same {lo B lo' B' : Nat} {w w' : World} (h : Soft lo B w w') (hd : B' ≤ lo ∨ B ≤ lo') (hw : B' ≤ w.heap.size) : ∀ b : Nat, lo' ≤ b → b < B' → w'.heap[b]? = w.heap[b]? := fun b h1 h2 => h.out b (by omega) (by omega)
end Go.Proofs.YthfinoapfbhgcaaDoor

namespace Go.Proofs.YthfinoapfbhgcaaDoor
open Go.RowKit Go.ChangeShapes Go.WideShapes Go.Deep
set_option linter.unusedSimpArgs false
set_option linter.unusedVariables false
/-- a slice that reads as a list; its elements lie apart from one another and from the slice's own cells -/
def SlT {α : Type} (m : Bool) (S : Shp α) (w : World) (lo B : Nat) (l : List α) (v : Value) : Prop :=
  ∃ (A : Option Addr) (cap : Nat), v = .slice A l.length cap ∧ l.length ≤ cap ∧ cap ≤ maxLen ∧
    (l ≠ [] → ∃ (b : Nat) (p q : Nat → Nat), A = some ⟨b, 0, none⟩ ∧ lo ≤ b ∧ b < B ∧ (∀ j : Nat, w.frozen? ⟨b, j, none⟩ = false) ∧
      ∀ (i : Nat) (a : α), l[i]? = some a → lo ≤ p i ∧ q i ≤ B ∧ p i ≤ q i ∧ (b < p i ∨ q i ≤ b) ∧ (∀ j, j < i → q j ≤ p i) ∧ ∃ cs, S.rep w (p i) (q i) a cs ∧ ∀ (j : Nat) (u : Value), cs[j]? = some u → w.cell? ⟨b, i * S.size + j, none⟩ = some u)
theorem SlT.keep {α : Type} {m : Bool} {S : Shp α} {w w' : World} {lo lo' B B' : Nat} {l : List α} {v : Value} (h : SlT m S w lo B l v) (hlo : lo' ≤ lo) (hB : B ≤ B') (hk : ∀ b : Nat, lo ≤ b → b < B → w'.heap[b]? = w.heap[b]?) : SlT m S w' lo' B' l v := by
  obtain ⟨A, cap, rfl, h1, h2, h3⟩ := h
  refine ⟨A, cap, rfl, h1, h2, fun hl => ?_⟩
  obtain ⟨b, p, q, rfl, hlb, hb, hf, hc⟩ := h3 hl
  refine ⟨b, p, q, rfl, by omega, by omega, fun j => (World.frozen?_of_block (a := ⟨b, j, none⟩) (hk b hlb hb)).trans (hf j), fun i a ha => ?_⟩
  obtain ⟨c1, c2, c3, c4, c5, cs, hr, hcs⟩ := hc i a ha
  exact ⟨by omega, by omega, c3, c4, c5, cs, S.keep hr (Nat.le_refl _) (Nat.le_refl _) (fun x hx1 hx2 => hk x (by omega) (by omega)), fun j u hu => (World.cell?_of_block (hk b hlb hb)).trans (hcs j u hu)⟩
theorem SlT.below {α : Type} {m : Bool} {S : Shp α} {w w' : World} {lo B B' : Nat} {l : List α} {v : Value} (h : SlT m S w lo B l v) (hb : Below B' w w') (hB : B ≤ B') : SlT m S w' lo B l v := h.keep (Nat.le_refl _) (Nat.le_refl _) fun b _ hp => hb.block b (by omega)
theorem SlT.more {α : Type} {m : Bool} {S : Shp α} {w : World} {lo lo' B B' : Nat} {l : List α} {v : Value} (h : SlT m S w lo B l v) (hlo : lo' ≤ lo) (hB : B ≤ B') : SlT m S w lo' B' l v := h.keep hlo hB fun _ _ _ => rfl
theorem SlT.form {α : Type} {m : Bool} {S : Shp α} {w : World} {lo B : Nat} {l : List α} {v : Value} (h : SlT m S w lo B l v) :
    ∃ (A : Option Addr) (cap : Nat), v = .slice A l.length cap ∧ l.length ≤ cap ∧ cap ≤ 9223372036854775807 := by
  obtain ⟨A, cap, rfl, h1, h2, _⟩ := h
  exact ⟨A, cap, rfl, h1, by unfold maxLen at h2; omega⟩
/-- what lies apart reads as a list -/
theorem SlT.sl {α : Type} {m : Bool} {S S' : Shp α} {w : World} {lo B : Nat} {l : List α} {v : Value} (h : SlT m S w lo B l v) (hz : S.size = S'.size) (hs : ∀ {lo B : Nat} {a : α} {cs : List Value}, S.rep w lo B a cs → S'.rep w lo B a cs) : Sl m S' w lo B l v := by
  obtain ⟨A, cap, rfl, h1, h2, h3⟩ := h
  refine ⟨A, cap, rfl, h1, h2, fun hl => ?_⟩
  obtain ⟨b, p, q, rfl, hlb, hb, hf, hc⟩ := h3 hl
  refine ⟨b, 0, rfl, hlb, hb, fun _ j => hf j, fun i a ha => ?_⟩
  obtain ⟨c1, c2, c3, c4, c5, cs, hr, hcs⟩ := hc i a ha
  exact ⟨cs, S'.more (hs hr) c1 c2, fun j u hu => by have := hcs j u hu; rw [hz] at this; simpa using this⟩
theorem SlT.nil_ {α : Type} (m : Bool) (S : Shp α) (w : World) (lo B : Nat) : SlT m S w lo B [] (.slice none 0 0) := ⟨none, 0, rfl, by simp, by simp [maxLen], fun h => absurd rfl h⟩
/-- a slice whose elements lie apart, as a cell -/
def slT {α : Type} (m : Bool) (S : Shp α) : Shp (List α) where
  size := 1
  rep := fun w lo B l cs => ∃ v, cs = [v] ∧ SlT m S w lo B l v
  len := fun ⟨_, h, _⟩ => by rw [h]; rfl
  keep := fun ⟨v, h, hs⟩ hlo hB hk => ⟨v, h, hs.keep hlo hB hk⟩
def exTStep (m : Bool) (K : Shp Ex) : Shp Ex where
  size := 4
  rep := fun w lo B a cs => ∃ c0 c1 c2 c3 : Value, cs = [c0, c1, c2, c3] ∧ (intS m).rep w lo B a.op [c0] ∧ (intS m).rep w lo B a.n [c1] ∧ (strS m).rep w lo B a.name [c2] ∧ (slT m K).rep w lo B a.kids [c3]
  len := fun ⟨_, _, _, _, h, _⟩ => by rw [h]; rfl
  keep := fun ⟨c0, c1, c2, c3, h, h0, h1, h2, h3⟩ hlo hB hk => ⟨c0, c1, c2, c3, h, (intS m).keep h0 hlo hB hk, (intS m).keep h1 hlo hB hk, (strS m).keep h2 hlo hB hk, (slT m K).keep h3 hlo hB hk⟩
/-- an expression whose parts lie apart -/
def exT (m : Bool) : Nat → Shp Ex
  | 0 => { size := 4, rep := fun _ _ _ _ _ => False, len := fun h => h.elim, keep := fun h _ _ _ => h }
  | d + 1 => exTStep m (exT m d)
theorem exT_size (m : Bool) (d : Nat) : (exT m d).size = 4 := by cases d <;> rfl
theorem exT_S (m : Bool) : ∀ (d : Nat) {w : World} {lo B : Nat} {a : Ex} {cs : List Value}, (exT m d).rep w lo B a cs → (exS m d).rep w lo B a cs
  | 0, _, _, _, _, _, h => h
  | d + 1, _, _, _, _, _, ⟨c0, c1, c2, c3, h, h0, h1, h2, ⟨v, hv, h3⟩⟩ => ⟨c0, c1, c2, c3, h, h0, h1, h2, ⟨v, hv, h3.sl (by rw [exT_size, exS_size]) (fun h => exT_S m d h)⟩⟩
theorem SlT.exS {m : Bool} {d : Nat} {w : World} {lo B : Nat} {l : List Ex} {v : Value} (h : SlT m (exT m d) w lo B l v) : Sl m (exS m d) w lo B l v := h.sl (by rw [exT_size, exS_size]) (fun h => exT_S m d h)
theorem exT_mk (m : Bool) (d : Nat) {w : World} {lo B : Nat} (op : Int) (n : Int) (name : ByteArray) (kids : List Ex) (v3 : Value) (h0 : I64 op) (h1 : I64 n) (h2 : name.size ≤ maxLen) (h3 : SlT m (exT m d) w lo B kids v3) : (exT m (d + 1)).rep w lo B (.mk op n name kids) [.int .i64 op, .int .i64 n, .string name, v3] := ⟨_, _, _, _, rfl, int_mk m w lo B h0, int_mk m w lo B h1, str_mk m w lo B h2, ⟨_, rfl, h3⟩⟩
theorem exT_open (d : Nat) {w : World} {lo B : Nat} {a : Ex} {cs : List Value} (h : (exT false (d + 1)).rep w lo B a cs) : ∃ v3 : Value, cs = [.int .i64 a.op, .int .i64 a.n, .string a.name, v3] ∧ I64 a.op ∧ I64 a.n ∧ a.name.size ≤ maxLen ∧ SlT false (exT false d) w lo B a.kids v3 := by
  obtain ⟨c0, c1, c2, c3, rfl, h0, h1, h2, h3⟩ := h
  obtain ⟨e0, g0⟩ := int_rep h0
  injection e0 with e0
  subst e0
  obtain ⟨e1, g1⟩ := int_rep h1
  injection e1 with e1
  subst e1
  obtain ⟨e2, g2⟩ := str_rep h2
  injection e2 with e2
  subst e2
  obtain ⟨u3, e3, g3⟩ := h3
  injection e3 with e3
  subst e3
  exact ⟨_, rfl, g0, g1, g2, g3⟩
theorem exT_kids (d : Nat) {m : Bool} {w : World} {lo B : Nat} {a : Ex} {c0 c1 c2 c3 : Value} (h : (exT m (d + 1)).rep w lo B a [c0, c1, c2, c3]) : SlT m (exT m d) w lo B a.kids c3 := by
  obtain ⟨d0, d1, d2, d3, e, h0, h1, h2, h3⟩ := h
  injection e with e0 e
  injection e with e1 e
  injection e with e2 e
  injection e with e3 e
  obtain ⟨v, ev, hv⟩ := h3
  injection ev with ev
  rw [e3, ev]
  exact hv
theorem SlT.mono {α : Type} {m : Bool} {S S' : Shp α} {w : World} {lo B : Nat} {l : List α} {v : Value} (h : SlT m S w lo B l v) (hz : S.size = S'.size) (hs : ∀ {lo B : Nat} {a : α} {cs : List Value}, S.rep w lo B a cs → S'.rep w lo B a cs) : SlT m S' w lo B l v := by
  obtain ⟨A, cap, rfl, h1, h2, h3⟩ := h
  refine ⟨A, cap, rfl, h1, h2, fun hl => ?_⟩
  obtain ⟨b, p, q, rfl, hlb, hb, hf, hc⟩ := h3 hl
  refine ⟨b, p, q, rfl, hlb, hb, hf, fun i a ha => ?_⟩
  obtain ⟨c1, c2, c3, c4, c5, cs, hr, hcs⟩ := hc i a ha
  exact ⟨c1, c2, c3, c4, c5, cs, hs hr, fun j u hu => by rw [← hz]; exact hcs j u hu⟩
theorem exT_succ (m : Bool) : ∀ (d : Nat) {w : World} {lo B : Nat} {a : Ex} {cs : List Value}, (exT m d).rep w lo B a cs → (exT m (d + 1)).rep w lo B a cs
  | 0, _, _, _, _, _, h => h.elim
  | d + 1, _, _, _, _, _, ⟨c0, c1, c2, c3, h, h0, h1, h2, ⟨v, hv, h3⟩⟩ => ⟨c0, c1, c2, c3, h, h0, h1, h2, ⟨v, hv, h3.mono (by rw [exT_size, exT_size]) (fun h => exT_succ m d h)⟩⟩
theorem exT_le (m : Bool) {d d' : Nat} (hd : d ≤ d') {w : World} {lo B : Nat} {a : Ex} {cs : List Value} (h : (exT m d).rep w lo B a cs) : (exT m d').rep w lo B a cs := by
  induction hd with
  | refl => exact h
  | step _ ih => exact exT_succ m _ ih
/-- the elements of what a call owns -/
def PartsT {α : Type} (S : Bool → Shp α) (w : World) (base : Nat) (v : Value) (l : List α) (xs : List Value) (p q : Nat → Nat) : Prop :=
  ∀ (i : Nat) (a : α), l[i]? = some a → base ≤ p i ∧ q i ≤ w.heap.size ∧ p i ≤ q i ∧ (∀ b, v.ownBlock = some b → b < p i ∨ q i ≤ b) ∧ (∀ j, j < i → q j ≤ p i) ∧ ∃ cs, (∀ m, (S m).rep w (p i) (q i) a cs) ∧ ∀ (j : Nat) (u : Value), cs[j]? = some u → xs[i * (S true).size + j]? = some u
/-- a list that a call owns, its elements apart -/
def OwnT {α : Type} (S : Bool → Shp α) (t : TypeId) (w : World) (base : Nat) (v : Value) (l : List α) : Prop :=
  ∃ (xs : List Value) (p q : Nat → Nat), w.ownsRow base t (S true).size v l.length xs ∧ PartsT S w base v l xs p q
theorem OwnT.nil_ {α : Type} (S : Bool → Shp α) (t : TypeId) (w : World) (base : Nat) : OwnT S t w base (.slice none 0 0) [] := ⟨[], fun _ => 0, fun _ => 0, ⟨by simp, Or.inl ⟨rfl, rfl⟩⟩, fun i a h => by simp at h⟩
theorem OwnT.empty {α : Type} (S : Bool → Shp α) (t : TypeId) (w : World) (base : Nat) (hb : base ≤ w.heap.size) : OwnT S t (w.alloc (.cells #[] t)) base (.slice (some ⟨w.heap.size, 0, none⟩) 0 0) [] :=
  ⟨[], fun _ => 0, fun _ => 0, ⟨by simp, Or.inr ⟨_, 0, #[], rfl, hb, Row.new w _ _, by simp, by simp [maxLen], by simp, by simp⟩⟩, fun i a h => by simp at h⟩
theorem PartsT.below {α : Type} {S : Bool → Shp α} {w w' : World} {base : Nat} {v : Value} {l : List α} {xs : List Value} {p q : Nat → Nat} (h : PartsT S w base v l xs p q) (hb : Below w.heap.size w w') : PartsT S w' base v l xs p q := fun i a ha => by
  obtain ⟨c1, c2, c3, c4, c5, cs, hr, hcs⟩ := h i a ha
  exact ⟨c1, Nat.le_trans c2 hb.size, c3, c4, c5, cs, fun m => (S m).keep (hr m) (Nat.le_refl _) (Nat.le_refl _) (fun b _ hx => hb.block b (by omega)), hcs⟩
theorem OwnT.below {α : Type} {S : Bool → Shp α} {t : TypeId} {w w' : World} {base : Nat} {v : Value} {l : List α} (h : OwnT S t w base v l) (hb : Below w.heap.size w w') : OwnT S t w' base v l := by
  obtain ⟨xs, p, q, own, hp⟩ := h
  exact ⟨xs, p, q, own_below own hb (Nat.le_refl _), hp.below hb⟩
/-- one element more -/
theorem PartsT.snoc {α : Type} {S : Bool → Shp α} {t : TypeId} {w1 w4 : World} {base s : Nat} {v v' : Value} {l : List α} {xs : List Value} {p q : Nat → Nat} {a : α} {cs : List Value} {o : Obj}
    (h : PartsT S w1 base v l xs p q) (own : w1.ownsRow base t (S true).size v l.length xs) (hbs : base ≤ s) (hs1 : s ≤ w1.heap.size) (hpq : ∀ (i : Nat) (a : α), l[i]? = some a → q i ≤ s) (hown : ∀ b, v.ownBlock = some b → b < s)
    (hr : ∀ m, (S m).rep w1 s w1.heap.size a cs) (hgrow : (w1.alloc o).grownBy w4 v.ownBlock) (hat : v'.ownBlock = v.ownBlock ∨ v'.ownBlock = some (w1.alloc o).heap.size) :
    PartsT S w4 base v' (l ++ [a]) (xs ++ cs) (fun i => if i < l.length then p i else s) (fun i => if i < l.length then q i else w1.heap.size) := by
  have hz : ((w1.alloc o).heap.size : Nat) = w1.heap.size + 1 := by simp
  have hg := hgrow.size
  rw [hz] at hg hat
  have hkeep : ∀ b, b < w1.heap.size → v.ownBlock ≠ some b → w4.heap[b]? = w1.heap[b]? := fun b hb hne => (hgrow.block b (by omega) (fun e => hne e.symm)).trans (Below.heap_alloc w1 o b hb)
  intro i x hx
  rcases Nat.lt_or_ge i l.length with hi | hi
  · rw [List.getElem?_append_left hi] at hx
    obtain ⟨c1, c2, c3, c4, c5, ds, hd, hds⟩ := h i x hx
    simp only [if_pos hi]
    refine ⟨c1, by omega, c3, fun b hb => ?_, fun j hj => by rw [if_pos (by omega)]; exact c5 j hj, ds, fun m => (S m).keep (hd m) (Nat.le_refl _) (Nat.le_refl _) (fun b h1 h2 => hkeep b (by omega) (fun e => ?_)), fun j u hu => ?_⟩
    · rcases hat with e | e
      · exact c4 b (e ▸ hb)
      · rw [e] at hb
        injection hb with hb
        right
        omega
    · rcases c4 b e with h3 | h3 <;> omega
    · have := hds j u hu
      rw [List.getElem?_append_left (List.getElem?_eq_some_iff.1 this).1]
      exact this
  · obtain rfl : i = l.length := by
      have := (List.getElem?_eq_some_iff.1 hx).1
      simp at this
      omega
    rw [List.getElem?_append_right (Nat.le_refl _)] at hx
    simp at hx
    subst hx
    simp only [if_neg (Nat.lt_irrefl _)]
    refine ⟨hbs, by omega, hs1, fun b hb => ?_, fun j hj => ?_, cs, fun m => (S m).keep (hr m) (Nat.le_refl _) (Nat.le_refl _) (fun b h1 h2 => hkeep b h2 (fun e => ?_)), fun j u hu => ?_⟩
    · rcases hat with e | e
      · left
        exact hown b (e ▸ hb)
      · rw [e] at hb
        injection hb with hb
        right
        omega
    · rw [if_pos hj]
      exact hpq j _ (List.getElem?_eq_getElem hj)
    · have := hown b e
      omega
    · have hl : xs.length = l.length * (S true).size := own.1
      rw [List.getElem?_append_right (by omega), hl]
      simpa using hu
/-- what is owned reads as a list whose elements lie apart -/
theorem OwnT.slT {α : Type} {S : Bool → Shp α} {t : TypeId} {w : World} {base lo : Nat} {v : Value} {l : List α} (h : OwnT S t w base v l) (hz : ∀ m, (S m).size = (S true).size) (hlo : lo ≤ base) (m : Bool) : SlT m (S m) w lo w.heap.size l v := by
  obtain ⟨xs, p, q, own, hp⟩ := h
  rcases own.2 with ⟨rfl, h1⟩ | ⟨g, cap, cur, rfl, h2, h3, h4, h5, h6, h7⟩
  · obtain rfl : l = [] := List.eq_nil_of_length_eq_zero h1
    exact SlT.nil_ _ _ _ _ _
  · have R : Row w g t cur := h3
    refine ⟨_, cap, rfl, h4, h5, fun _ => ⟨g, p, q, rfl, by omega, R.lt, fun j => R.frozen j, fun i a ha => ?_⟩⟩
    obtain ⟨c1, c2, c3, c4, c5, cs, hr, hcs⟩ := hp i a ha
    refine ⟨by omega, c2, c3, c4 g rfl, c5, cs, hr m, fun j u hu => ?_⟩
    rw [R.cell, ← Array.getElem?_toList, hz m]
    have e1 := hcs j u hu
    rw [← h7] at e1
    have hlt := (List.getElem?_eq_some_iff.1 e1).1
    rw [List.getElem?_take_of_lt (by simp at hlt; omega)] at e1
    exact e1
theorem OwnT.own {α : Type} {S : Bool → Shp α} {t : TypeId} {w : World} {base : Nat} {v : Value} {l : List α} (h : OwnT S t w base v l) : ∃ xs, w.ownsRow base t (S true).size v l.length xs := by
  obtain ⟨xs, _, _, own, _⟩ := h
  exact ⟨xs, own⟩
end Go.Proofs.YthfinoapfbhgcaaDoor

namespace Go.Proofs.YthfinoapfbhgcaaDoor
open Go.RowKit Go.ChangeShapes Go.WideShapes Go.Deep
set_option linter.unusedSimpArgs false
set_option linter.unusedVariables false
def ToTE (D : Nat) (a : Ex) (w : World) (e : Ending) (w' : World) : Prop :=
  ∃ v3 : Value, e = .returned (.agg #[.int .i64 a.op, .int .i64 a.n, .string a.name, v3]) ∧ (∀ m, (exT m (D + 1)).rep w' w.heap.size w'.heap.size a [.int .i64 a.op, .int .i64 a.n, .string a.name, v3]) ∧ Below w.heap.size w w'
theorem cells_row_new (w : World) (cs : List Value) (t : TypeId) : ∀ j u, cs[j]? = some u → (w.alloc (.cells cs.toArray t)).cell? ((⟨w.heap.size, 0, none⟩ : Addr).add j) = some u := by
  intro j u hj
  have h := (Row.new w t cs.toArray).cell j
  simp only [List.getElem?_toArray, hj] at h
  have e : (⟨w.heap.size, 0, none⟩ : Addr).add j = ⟨w.heap.size, j, none⟩ := by
    simp [Addr.add]
    intro h0
    exact h0.symm
  rw [e]
  exact h
end Go.Proofs.YthfinoapfbhgcaaDoor

namespace Go.Proofs.YthfinoapfbhgcaaDoor
open Go.RowKit Go.ChangeShapes Go.WideShapes Go.Deep

set_option linter.unusedVariables false
set_option linter.unusedSimpArgs false
end Go.Proofs.YthfinoapfbhgcaaDoor


namespace Go.Proofs.YthfinoapfbhgcaaDoor
open Go.RowKit Go.ChangeShapes Go.WideShapes Go.Deep

set_option linter.unusedVariables false
set_option linter.unusedSimpArgs false
end Go.Proofs.YthfinoapfbhgcaaDoor


namespace Go.Proofs.YthfinoapfbhgcaaDoor
open Go.RowKit Go.ChangeShapes Go.WideShapes Go.Deep

set_option linter.unusedVariables false
set_option linter.unusedSimpArgs false
theorem ToTE.more {D D' : Nat} (h : D ≤ D') {a : Ex} {w : World} {e : Ending} {w' : World} : ToTE D a w e w' → ToTE D' a w e w'
  | ⟨v3, he, hx, hb⟩ => ⟨v3, he, fun m => exT_le m (by omega) (hx m), hb⟩
end Go.Proofs.YthfinoapfbhgcaaDoor


namespace Go.Proofs.YthfinoapfbhgcaaDoor
open Go.RowKit Go.ChangeShapes Go.WideShapes Go.Deep

set_option linter.unusedVariables false
set_option linter.unusedSimpArgs false
end Go.Proofs.YthfinoapfbhgcaaDoor


namespace Go.Proofs.YthfinoapfbhgcaaDoor
open Go.RowKit Go.ChangeShapes Go.WideShapes Go.Deep

set_option linter.unusedVariables false
set_option linter.unusedSimpArgs false
def exZ : Ex := .mk 0 0 ⟨#[]⟩ []
/-- an expression in memory of its own, and a bool -/
def PairP (D : Nat) (x : Ex × Bool) (w : World) (en : Ending) (w' : World) : Prop :=
  ∃ v3 : Value, en = .returned (.tuple #[.agg #[.int .i64 x.1.op, .int .i64 x.1.n, .string x.1.name, v3], .bool x.2]) ∧ (∀ m, (exT m (D + 1)).rep w' w.heap.size w'.heap.size x.1 [.int .i64 x.1.op, .int .i64 x.1.n, .string x.1.name, v3]) ∧ Below w.heap.size w w'
theorem exZ_rep (m : Bool) (D : Nat) (w : World) (lo B : Nat) : (exT m (D + 1)).rep w lo B exZ [.int .i64 0, .int .i64 0, .string ⟨#[]⟩, .slice none 0 0] := exT_mk m D 0 0 ⟨#[]⟩ [] _ ⟨by omega, by omega⟩ ⟨by omega, by omega⟩ (by decide) (SlT.nil_ _ _ _ _ _)
theorem PairP.no {D : Nat} {x : Ex × Bool} {w : World} {en : Ending} {w' : World} (h : x = (exZ, false)) (he : en = .returned (.tuple #[.agg #[.int .i64 0, .int .i64 0, .string ⟨#[]⟩, .slice none 0 0], .bool false])) (hb : Below w.heap.size w w') : PairP D x w en w' := by
  subst h
  exact ⟨_, he, fun m => exZ_rep m D _ _ _, hb⟩
end Go.Proofs.YthfinoapfbhgcaaDoor


namespace Go.Proofs.YthfinoapfbhgcaaDoor
open Go.RowKit Go.ChangeShapes Go.WideShapes Go.Deep
set_option linter.unusedVariables false
set_option linter.unusedSimpArgs false
mutual
/-- the names of the parts with an op, in their order -/
def flE (tag : Int) : Ex → List ByteArray
  | .mk op _ name kids => (if op = tag then [name] else []) ++ flL tag kids
def flL (tag : Int) : List Ex → List ByteArray
  | [] => []
  | e :: r => flE tag e ++ flL tag r
end
theorem flE_mk (tag op n : Int) (name : ByteArray) (kids : List Ex) : flE tag (.mk op n name kids) = (if op = tag then [name] else []) ++ flL tag kids := by rw [flE]
theorem flL_nil (tag : Int) : flL tag [] = [] := by rw [flL]
theorem flL_cons (tag : Int) (e : Ex) (r : List Ex) : flL tag (e :: r) = flE tag e ++ flL tag r := by rw [flL]
end Go.Proofs.YthfinoapfbhgcaaDoor
