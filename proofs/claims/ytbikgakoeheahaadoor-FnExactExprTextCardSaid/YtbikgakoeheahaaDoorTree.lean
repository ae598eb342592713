/-
  Data whose parts lie apart from one another: slices with elements in memory of their own. No condition.
-/
import Derived.Test.YtbikgakoeheahaaDoorOwnG
import Derived.Test.YtbikgakoeheahaaDoorSoft
namespace Go.Proofs.YtbikgakoeheahaaDoor
open Go.RowKit Go.ChangeShapes Go.WideShapes Go.Deep
set_option linter.unusedSimpArgs false
set_option linter.unusedVariables false
/-- a slice that reads as a list; its elements lie apart from one another and from the slice's own cells -/
def SlT {α : Type} (m : Bool) (S : Shp α) (w : World) (lo B : Nat) (l : List α) (v : Value) : Prop :=
  ∃ (A : Option Addr) (cap : Nat), v = .slice A l.length cap ∧ l.length ≤ cap ∧ cap ≤ maxLen ∧
    (l ≠ [] → ∃ (b : Nat) (p q : Nat → Nat), A = some ⟨b, 0, none⟩ ∧ lo ≤ b ∧ b < B ∧ (∀ j : Nat, w.frozen? ⟨b, j, none⟩ = false) ∧
      ∀ (i : Nat) (a : α), l[i]? = some a → lo ≤ p i ∧ q i ≤ B ∧ p i ≤ q i ∧ (b < p i ∨ q i ≤ b) ∧ (∀ j, j < i → q j ≤ p i) ∧ ∃ cs, S.rep w (p i) (q i) a cs ∧ ∀ (j : Nat) (u : Value), cs[j]? = some u → w.cell? ⟨b, i * S.size + j, none⟩ = some u)
theorem SlT.keep {α : Type} {m : Bool} {S : Shp α} {w w' : World} {lo lo' B B' : Nat} {l : List α} {v : Value} (h : SlT m S w lo B l v) (hlo : lo' ≤ lo) (hB : B ≤ B') (hk : ∀ b : Nat, lo ≤ b → b < B → w'.heap[b]? = w.heap[b]?) : SlT m S w' lo' B' l v := by
  obtain ⟨A, cap, rfl, h1, h2, h3⟩ := h
  refine ⟨A, cap, rfl, h1, h2, fun hl => ?_⟩
  obtain ⟨b, p, q, rfl, hlb, hb, hf, hc⟩ := h3 hl
  refine ⟨b, p, q, rfl, by omega, by omega, fun j => (World.frozen?_of_block (a := ⟨b, j, none⟩) (hk b hlb hb)).trans (hf j), fun i a ha => ?_⟩
  obtain ⟨c1, c2, c3, c4, c5, cs, hr, hcs⟩ := hc i a ha
  exact ⟨by omega, by omega, c3, c4, c5, cs, S.keep hr (Nat.le_refl _) (Nat.le_refl _) (fun x hx1 hx2 => hk x (by omega) (by omega)), fun j u hu => (World.cell?_of_block (hk b hlb hb)).trans (hcs j u hu)⟩
theorem SlT.below {α : Type} {m : Bool} {S : Shp α} {w w' : World} {lo B B' : Nat} {l : List α} {v : Value} (h : SlT m S w lo B l v) (hb : Below B' w w') (hB : B ≤ B') : SlT m S w' lo B l v := h.keep (Nat.le_refl _) (Nat.le_refl _) fun b _ hp => hb.block b (by omega)
theorem SlT.more {α : Type} {m : Bool} {S : Shp α} {w : World} {lo lo' B B' : Nat} {l : List α} {v : Value} (h : SlT m S w lo B l v) (hlo : lo' ≤ lo) (hB : B ≤ B') : SlT m S w lo' B' l v := h.keep hlo hB fun _ _ _ => rfl
theorem SlT.form {α : Type} {m : Bool} {S : Shp α} {w : World} {lo B : Nat} {l : List α} {v : Value} (h : SlT m S w lo B l v) :
    ∃ (A : Option Addr) (cap : Nat), v = .slice A l.length cap ∧ l.length ≤ cap ∧ cap ≤ 9223372036854775807 := by
  obtain ⟨A, cap, rfl, h1, h2, _⟩ := h
  exact ⟨A, cap, rfl, h1, by unfold maxLen at h2; omega⟩
/-- what lies apart reads as a list -/
theorem SlT.sl {α : Type} {m : Bool} {S S' : Shp α} {w : World} {lo B : Nat} {l : List α} {v : Value} (h : SlT m S w lo B l v) (hz : S.size = S'.size) (hs : ∀ {lo B : Nat} {a : α} {cs : List Value}, S.rep w lo B a cs → S'.rep w lo B a cs) : Sl m S' w lo B l v := by
  obtain ⟨A, cap, rfl, h1, h2, h3⟩ := h
  refine ⟨A, cap, rfl, h1, h2, fun hl => ?_⟩
  obtain ⟨b, p, q, rfl, hlb, hb, hf, hc⟩ := h3 hl
  refine ⟨b, 0, rfl, hlb, hb, fun _ j => hf j, fun i a ha => ?_⟩
  obtain ⟨c1, c2, c3, c4, c5, cs, hr, hcs⟩ := hc i a ha
  exact ⟨cs, S'.more (hs hr) c1 c2, fun j u hu => by have := hcs j u hu; rw [hz] at this; simpa using this⟩
theorem SlT.nil_ {α : Type} (m : Bool) (S : Shp α) (w : World) (lo B : Nat) : SlT m S w lo B [] (.slice none 0 0) := ⟨none, 0, rfl, by simp, by simp [maxLen], fun h => absurd rfl h⟩
/-- a slice whose elements lie apart, as a cell -/
def slT {α : Type} (m : Bool) (S : Shp α) : Shp (List α) where
  size := 1
  rep := fun w lo B l cs => ∃ v, cs = [v] ∧ SlT m S w lo B l v
  len := fun ⟨_, h, _⟩ => by rw [h]; rfl
  keep := fun ⟨v, h, hs⟩ hlo hB hk => ⟨v, h, hs.keep hlo hB hk⟩
def exTStep (m : Bool) (K : Shp Ex) : Shp Ex where
  size := 4
  rep := fun w lo B a cs => ∃ c0 c1 c2 c3 : Value, cs = [c0, c1, c2, c3] ∧ (intS m).rep w lo B a.op [c0] ∧ (intS m).rep w lo B a.n [c1] ∧ (strS m).rep w lo B a.name [c2] ∧ (slT m K).rep w lo B a.kids [c3]
  len := fun ⟨_, _, _, _, h, _⟩ => by rw [h]; rfl
  keep := fun ⟨c0, c1, c2, c3, h, h0, h1, h2, h3⟩ hlo hB hk => ⟨c0, c1, c2, c3, h, (intS m).keep h0 hlo hB hk, (intS m).keep h1 hlo hB hk, (strS m).keep h2 hlo hB hk, (slT m K).keep h3 hlo hB hk⟩
/-- an expression whose parts lie apart -/
def exT (m : Bool) : Nat → Shp Ex
  | 0 => { size := 4, rep := fun _ _ _ _ _ => False, len := fun h => h.elim, keep := fun h _ _ _ => h }
  | d + 1 => exTStep m (exT m d)
theorem exT_size (m : Bool) (d : Nat) : (exT m d).size = 4 := by cases d <;> rfl
theorem exT_S (m : Bool) : ∀ (d : Nat) {w : World} {lo B : Nat} {a : Ex} {cs : List Value}, (exT m d).rep w lo B a cs → (exS m d).rep w lo B a cs
  | 0, _, _, _, _, _, h => h
  | d + 1, _, _, _, _, _, ⟨c0, c1, c2, c3, h, h0, h1, h2, ⟨v, hv, h3⟩⟩ => ⟨c0, c1, c2, c3, h, h0, h1, h2, ⟨v, hv, h3.sl (by rw [exT_size, exS_size]) (fun h => exT_S m d h)⟩⟩
theorem SlT.exS {m : Bool} {d : Nat} {w : World} {lo B : Nat} {l : List Ex} {v : Value} (h : SlT m (exT m d) w lo B l v) : Sl m (exS m d) w lo B l v := h.sl (by rw [exT_size, exS_size]) (fun h => exT_S m d h)
theorem exT_mk (m : Bool) (d : Nat) {w : World} {lo B : Nat} (op : Int) (n : Int) (name : ByteArray) (kids : List Ex) (v3 : Value) (h0 : I64 op) (h1 : I64 n) (h2 : name.size ≤ maxLen) (h3 : SlT m (exT m d) w lo B kids v3) : (exT m (d + 1)).rep w lo B (.mk op n name kids) [.int .i64 op, .int .i64 n, .string name, v3] := ⟨_, _, _, _, rfl, int_mk m w lo B h0, int_mk m w lo B h1, str_mk m w lo B h2, ⟨_, rfl, h3⟩⟩
theorem SlT.mono {α : Type} {m : Bool} {S S' : Shp α} {w : World} {lo B : Nat} {l : List α} {v : Value} (h : SlT m S w lo B l v) (hz : S.size = S'.size) (hs : ∀ {lo B : Nat} {a : α} {cs : List Value}, S.rep w lo B a cs → S'.rep w lo B a cs) : SlT m S' w lo B l v := by
  obtain ⟨A, cap, rfl, h1, h2, h3⟩ := h
  refine ⟨A, cap, rfl, h1, h2, fun hl => ?_⟩
  obtain ⟨b, p, q, rfl, hlb, hb, hf, hc⟩ := h3 hl
  refine ⟨b, p, q, rfl, hlb, hb, hf, fun i a ha => ?_⟩
  obtain ⟨c1, c2, c3, c4, c5, cs, hr, hcs⟩ := hc i a ha
  exact ⟨c1, c2, c3, c4, c5, cs, hs hr, fun j u hu => by rw [← hz]; exact hcs j u hu⟩
theorem exT_succ (m : Bool) : ∀ (d : Nat) {w : World} {lo B : Nat} {a : Ex} {cs : List Value}, (exT m d).rep w lo B a cs → (exT m (d + 1)).rep w lo B a cs
  | 0, _, _, _, _, _, h => h.elim
  | d + 1, _, _, _, _, _, ⟨c0, c1, c2, c3, h, h0, h1, h2, ⟨v, hv, h3⟩⟩ => ⟨c0, c1, c2, c3, h, h0, h1, h2, ⟨v, hv, h3.mono (by rw [exT_size, exT_size]) (fun h => exT_succ m d h)⟩⟩
theorem exT_le (m : Bool) {d d' : Nat} (hd : d ≤ d') {w : World} {lo B : Nat} {a : Ex} {cs : List Value} (h : (exT m d).rep w lo B a cs) : (exT m d').rep w lo B a cs := by
  induction hd with
  | refl => exact h
  | step _ ih => exact exT_succ m _ ih
/-- the elements of what a call owns -/
def PartsT {α : Type} (S : Bool → Shp α) (w : World) (base : Nat) (v : Value) (l : List α) (xs : List Value) (p q : Nat → Nat) : Prop :=
  ∀ (i : Nat) (a : α), l[i]? = some a → base ≤ p i ∧ q i ≤ w.heap.size ∧ p i ≤ q i ∧ (∀ b, v.ownBlock = some b → b < p i ∨ q i ≤ b) ∧ (∀ j, j < i → q j ≤ p i) ∧ ∃ cs, (∀ m, (S m).rep w (p i) (q i) a cs) ∧ ∀ (j : Nat) (u : Value), cs[j]? = some u → xs[i * (S true).size + j]? = some u
/-- a list that a call owns, its elements apart -/
def OwnT {α : Type} (S : Bool → Shp α) (t : TypeId) (w : World) (base : Nat) (v : Value) (l : List α) : Prop :=
  ∃ (xs : List Value) (p q : Nat → Nat), w.ownsRow base t (S true).size v l.length xs ∧ PartsT S w base v l xs p q
theorem OwnT.nil_ {α : Type} (S : Bool → Shp α) (t : TypeId) (w : World) (base : Nat) : OwnT S t w base (.slice none 0 0) [] := ⟨[], fun _ => 0, fun _ => 0, ⟨by simp, Or.inl ⟨rfl, rfl⟩⟩, fun i a h => by simp at h⟩
theorem PartsT.below {α : Type} {S : Bool → Shp α} {w w' : World} {base : Nat} {v : Value} {l : List α} {xs : List Value} {p q : Nat → Nat} (h : PartsT S w base v l xs p q) (hb : Below w.heap.size w w') : PartsT S w' base v l xs p q := fun i a ha => by
  obtain ⟨c1, c2, c3, c4, c5, cs, hr, hcs⟩ := h i a ha
  exact ⟨c1, Nat.le_trans c2 hb.size, c3, c4, c5, cs, fun m => (S m).keep (hr m) (Nat.le_refl _) (Nat.le_refl _) (fun b _ hx => hb.block b (by omega)), hcs⟩
theorem OwnT.below {α : Type} {S : Bool → Shp α} {t : TypeId} {w w' : World} {base : Nat} {v : Value} {l : List α} (h : OwnT S t w base v l) (hb : Below w.heap.size w w') : OwnT S t w' base v l := by
  obtain ⟨xs, p, q, own, hp⟩ := h
  exact ⟨xs, p, q, own_below own hb (Nat.le_refl _), hp.below hb⟩
/-- what is owned reads as a list whose elements lie apart -/
theorem OwnT.slT {α : Type} {S : Bool → Shp α} {t : TypeId} {w : World} {base lo : Nat} {v : Value} {l : List α} (h : OwnT S t w base v l) (hz : ∀ m, (S m).size = (S true).size) (hlo : lo ≤ base) (m : Bool) : SlT m (S m) w lo w.heap.size l v := by
  obtain ⟨xs, p, q, own, hp⟩ := h
  rcases own.2 with ⟨rfl, h1⟩ | ⟨g, cap, cur, rfl, h2, h3, h4, h5, h6, h7⟩
  · obtain rfl : l = [] := List.eq_nil_of_length_eq_zero h1
    exact SlT.nil_ _ _ _ _ _
  · have R : Row w g t cur := h3
    refine ⟨_, cap, rfl, h4, h5, fun _ => ⟨g, p, q, rfl, by omega, R.lt, fun j => R.frozen j, fun i a ha => ?_⟩⟩
    obtain ⟨c1, c2, c3, c4, c5, cs, hr, hcs⟩ := hp i a ha
    refine ⟨by omega, c2, c3, c4 g rfl, c5, cs, hr m, fun j u hu => ?_⟩
    rw [R.cell, ← Array.getElem?_toList, hz m]
    have e1 := hcs j u hu
    rw [← h7] at e1
    have hlt := (List.getElem?_eq_some_iff.1 e1).1
    rw [List.getElem?_take_of_lt (by simp at hlt; omega)] at e1
    exact e1
theorem OwnT.own {α : Type} {S : Bool → Shp α} {t : TypeId} {w : World} {base : Nat} {v : Value} {l : List α} (h : OwnT S t w base v l) : ∃ xs, w.ownsRow base t (S true).size v l.length xs := by
  obtain ⟨xs, _, _, own, _⟩ := h
  exact ⟨xs, own⟩
end Go.Proofs.YtbikgakoeheahaaDoor
