/-
  Data in memory, for all walks of this seat: shapes of data, slices that read as lists, and how a law's row is closed. No condition.
-/
import Derived.Test.YtgcjccoglcgcoaaRows
import Derived.WalkKit
import Derived.ProofKit
import Derived.WalkSpells
import Derived.LoopTactic
import Derived.Outline
import Derived.OwnWalk
import Derived.Below
import Derived.Deep.Slices
import Derived.Deep.Fields
import Derived.Deep.Draws
import Derived.ChangeSame
namespace Go.Proofs.Ytgcjccoglcgcoaa
open Go.RowKit Go.ChangeShapes Go.WideShapes Go.Deep

/-- How a datum of type α lies in cells: 'rep w lo B a cs': in world w the cells cs are a, and all that they lead to lies in blocks from lo on, below B. -/
structure Shp (α : Type) where
  size : Nat
  rep : World → Nat → Nat → α → List Value → Prop
  len : ∀ {w : World} {lo B : Nat} {a : α} {cs : List Value}, rep w lo B a cs → cs.length = size
  keep : ∀ {w w' : World} {lo lo' B B' : Nat} {a : α} {cs : List Value}, rep w lo B a cs → lo' ≤ lo → B ≤ B' → (∀ b : Nat, lo ≤ b → b < B → w'.heap[b]? = w.heap[b]?) → rep w' lo' B' a cs

/-- A slice value that reads as a list. 'm': its cells may be written (and what stands in the leaves is left open by the leaves' own shapes). -/
def Sl {α : Type} (m : Bool) (S : Shp α) (w : World) (lo B : Nat) (l : List α) (v : Value) : Prop :=
  ∃ (A : Option Addr) (cap : Nat), v = .slice A l.length cap ∧ l.length ≤ cap ∧ cap ≤ maxLen ∧
    (l ≠ [] → ∃ b o, A = some ⟨b, o, none⟩ ∧ lo ≤ b ∧ b < B ∧ (m = true → ∀ j : Nat, w.frozen? ⟨b, j, none⟩ = false) ∧
      ∀ (i : Nat) (a : α), l[i]? = some a → ∃ cs, S.rep w lo B a cs ∧ ∀ (j : Nat) (u : Value), cs[j]? = some u → w.cell? ⟨b, o + i * S.size + j, none⟩ = some u)

theorem Sl.keep {α : Type} {m : Bool} {S : Shp α} {w w' : World} {lo lo' B B' : Nat} {l : List α} {v : Value} (h : Sl m S w lo B l v) (hlo : lo' ≤ lo) (hB : B ≤ B') (hk : ∀ b : Nat, lo ≤ b → b < B → w'.heap[b]? = w.heap[b]?) : Sl m S w' lo' B' l v := by
  obtain ⟨A, cap, rfl, h1, h2, h3⟩ := h
  refine ⟨A, cap, rfl, h1, h2, fun hl => ?_⟩
  obtain ⟨b, o, rfl, hlb, hb, hf, hc⟩ := h3 hl
  refine ⟨b, o, rfl, by omega, by omega, fun hm j => (World.frozen?_of_block (a := ⟨b, j, none⟩) (hk b hlb hb)).trans (hf hm j), fun i a ha => ?_⟩
  obtain ⟨cs, hr, hcs⟩ := hc i a ha
  exact ⟨cs, S.keep hr hlo hB hk, fun j u hu => (World.cell?_of_block (hk b hlb hb)).trans (hcs j u hu)⟩

theorem Sl.below {α : Type} {m : Bool} {S : Shp α} {w w' : World} {lo B B' : Nat} {l : List α} {v : Value} (h : Sl m S w lo B l v) (hb : Below B' w w') (hB : B ≤ B') : Sl m S w' lo B l v := h.keep (Nat.le_refl _) (Nat.le_refl _) fun b _ hp => hb.block b (by omega)
theorem Sl.more {α : Type} {m : Bool} {S : Shp α} {w : World} {lo lo' B B' : Nat} {l : List α} {v : Value} (h : Sl m S w lo B l v) (hlo : lo' ≤ lo) (hB : B ≤ B') : Sl m S w lo' B' l v := h.keep hlo hB fun _ _ _ => rfl
theorem Shp.below {α : Type} (S : Shp α) {w w' : World} {lo B B' : Nat} {a : α} {cs : List Value} (h : S.rep w lo B a cs) (hb : Below B' w w') (hB : B ≤ B') : S.rep w' lo B a cs := S.keep h (Nat.le_refl _) (Nat.le_refl _) fun b _ hp => hb.block b (by omega)
theorem Shp.more {α : Type} (S : Shp α) {w : World} {lo lo' B B' : Nat} {a : α} {cs : List Value} (h : S.rep w lo B a cs) (hlo : lo' ≤ lo) (hB : B ≤ B') : S.rep w lo' B' a cs := S.keep h hlo hB fun _ _ _ => rfl

/-- element i of a slice: its address and its cells -/
theorem Sl.at_ {α : Type} {m : Bool} {S : Shp α} {w : World} {lo B : Nat} {l : List α} {A : Option Addr} {n cap : Nat} (h : Sl m S w lo B l (.slice A n cap)) {i : Nat} (hi : i < l.length) :
    ∃ b o cs, A = some ⟨b, o, none⟩ ∧ lo ≤ b ∧ b < B ∧ (m = true → ∀ j : Nat, w.frozen? ⟨b, j, none⟩ = false) ∧ S.rep w lo B l[i] cs ∧ ∀ (j : Nat) (u : Value), cs[j]? = some u → w.cell? ⟨b, o + i * S.size + j, none⟩ = some u := by
  obtain ⟨A', cap', hv, _, _, h3⟩ := h
  injection hv with e1 e2 e3
  subst e1
  obtain ⟨b, o, rfl, hlb, hb, hf, hc⟩ := h3 (by intro h0; subst h0; simp at hi)
  obtain ⟨cs, hr, hcs⟩ := hc i l[i] (List.getElem?_eq_getElem hi)
  exact ⟨b, o, cs, rfl, hlb, hb, hf, hr, hcs⟩

/-- a slice value's own form: nil, or an address -/
theorem Sl.form {α : Type} {m : Bool} {S : Shp α} {w : World} {lo B : Nat} {l : List α} {v : Value} (h : Sl m S w lo B l v) :
    ∃ (A : Option Addr) (cap : Nat), v = .slice A l.length cap ∧ l.length ≤ cap ∧ cap ≤ 9223372036854775807 := by
  obtain ⟨A, cap, rfl, h1, h2, _⟩ := h
  exact ⟨A, cap, rfl, h1, by unfold maxLen at h2; omega⟩

theorem Sl.nil_ {α : Type} (m : Bool) (S : Shp α) (w : World) (lo B : Nat) : Sl m S w lo B [] (.slice none 0 0) := ⟨none, 0, rfl, by simp, by simp [maxLen], fun h => absurd rfl h⟩

def I64 (n : Int) : Prop := -9223372036854775808 ≤ n ∧ n ≤ 9223372036854775807

/-- an int; 'm': whatever int -/
def intS (m : Bool) : Shp Int where
  size := 1
  rep := fun _ _ _ n cs => if m = true then ∃ n', cs = [.int .i64 n'] else cs = [.int .i64 n] ∧ I64 n
  len := fun h => by
    split at h
    · obtain ⟨_, rfl⟩ := h; rfl
    · rw [h.1]; rfl
  keep := fun h _ _ _ => h
/-- a slice, as a cell -/
def slS {α : Type} (m : Bool) (S : Shp α) : Shp (List α) where
  size := 1
  rep := fun w lo B l cs => ∃ v, cs = [v] ∧ Sl m S w lo B l v
  len := fun ⟨_, h, _⟩ => by rw [h]; rfl
  keep := fun ⟨v, h, hs⟩ hlo hB hk => ⟨v, h, hs.keep hlo hB hk⟩

theorem int_rep {w : World} {lo B : Nat} {n : Int} {cs : List Value} (h : (intS false).rep w lo B n cs) : cs = [.int .i64 n] ∧ I64 n := by simpa [intS] using h
theorem int_mk (m : Bool) (w : World) (lo B : Nat) {n : Int} (h : I64 n) : (intS m).rep w lo B n [.int .i64 n] := by cases m <;> simp [intS, h]
/-- block g is just the cells cs of element type t, none frozen -/
def Row (w : World) (g : Nat) (t : TypeId) (cs : Array Value) : Prop := w.heap[g]? = some (.cells cs t (0, 0))
section
variable {w w' : World} {g : Nat} {t : TypeId} {cs : Array Value}
theorem Row.lt (h : Row w g t cs) : g < w.heap.size := (Array.getElem?_eq_some_iff.1 h).1
theorem Row.cell (h : Row w g t cs) (i : Nat) : w.cell? ⟨g, i, none⟩ = cs[i]? := cell_of_row w g i cs t (0, 0) h
theorem Row.cellAt (h : Row w g t cs) {i : Nat} (hi : i < cs.size) : ∃ u, w.cell? ⟨g, i, none⟩ = some u := ⟨cs[i], by rw [h.cell, Array.getElem?_eq_getElem hi]⟩
theorem Row.frozen (h : Row w g t cs) (i : Nat) : w.frozen? ⟨g, i, none⟩ = false := by
  unfold Row at h
  simp [World.frozen?, h]
theorem Row.set_ (h : Row w g t cs) (i : Nat) (u : Value) : Row (w.setCell ⟨g, i, none⟩ u) g t (cs.setIfInBounds i u) := by
  unfold Row at h ⊢
  simp [World.setCell, Array.getElem?_modify, h]
theorem Row.far (h : Row w g t cs) {p : Addr} (hp : g ≠ p.block) (u : Value) : Row (w.setCell p u) g t cs := (Below.heap_setCell w p u g hp).trans h
theorem Row.below {B : Nat} (h : Row w g t cs) (hb : Below B w w') (hg : g < B) : Row w' g t cs := (hb.block g hg).trans h
theorem Row.drew (h : Row w g t cs) : Row w.drew g t cs := h
theorem Row.alloc (h : Row w g t cs) (o : Obj) : Row (w.alloc o) g t cs := (Below.heap_alloc w o g h.lt).trans h
theorem Row.new (w : World) (t : TypeId) (cs : Array Value) : Row (w.alloc (.cells cs t)) w.heap.size t cs := heap_alloc_new w _
theorem Row.of_own {base size n cap : Nat} {xs : List Value} (h : w.ownsRow base t size (.slice (some ⟨g, 0, none⟩) n cap) n xs) : ∃ cs, Row w g t cs ∧ cs.size = cap * size ∧ base ≤ g ∧ n ≤ cap ∧ cap ≤ maxLen ∧ cs.toList.take (n * size) = xs := by
  rcases h.2 with ⟨h1, _⟩ | ⟨g', cap', cur, h1, h2, h3, h4, h5, h6, h7⟩
  · cases h1
  · injection h1 with h1 _ hc
    injection h1 with h1
    injection h1 with h1
    subst h1 hc
    exact ⟨cur, h3, h6, h2, h4, h5, h7⟩
end

/-- the first k elements of a row of cells are those of l -/
def Elems {α : Type} (S : Shp α) (w : World) (lo B : Nat) (cur : Array Value) (k : Nat) (l : List α) : Prop :=
  ∀ (i : Nat) (a : α), i < k → l[i]? = some a → ∃ cs, S.rep w lo B a cs ∧ ∀ (j : Nat) (u : Value), cs[j]? = some u → cur[i * S.size + j]? = some u

theorem Elems.zero {α : Type} (S : Shp α) (w : World) (lo B : Nat) (cur : Array Value) (l : List α) : Elems S w lo B cur 0 l := fun _ _ h => absurd h (Nat.not_lt_zero _)
theorem Elems.keep {α : Type} {S : Shp α} {w w' : World} {lo lo' B B' : Nat} {cur : Array Value} {k : Nat} {l : List α} (h : Elems S w lo B cur k l) (hlo : lo' ≤ lo) (hB : B ≤ B') (hk : ∀ b : Nat, lo ≤ b → b < B → w'.heap[b]? = w.heap[b]?) : Elems S w' lo' B' cur k l := by
  intro i a hi ha
  obtain ⟨cs, hr, hc⟩ := h i a hi ha
  exact ⟨cs, S.keep hr hlo hB hk, hc⟩
/-- one more -/
theorem Elems.succ {α : Type} {S : Shp α} {w : World} {lo B : Nat} {cur cur' : Array Value} {k : Nat} {l : List α} (h : Elems S w lo B cur k l) {a : α} (ha : l[k]? = some a) {cs : List Value} (hr : S.rep w lo B a cs)
    (hold : ∀ j, j < k * S.size → cur'[j]? = cur[j]?) (hnew : ∀ (j : Nat) (u : Value), cs[j]? = some u → cur'[k * S.size + j]? = some u) : Elems S w lo B cur' (k + 1) l := by
  intro i b hi hb
  rcases Nat.lt_or_ge i k with hlt | hge
  · obtain ⟨cs', hr', hc'⟩ := h i b hlt hb
    refine ⟨cs', hr', fun j u hu => ?_⟩
    have hj : j < S.size := by
      have := (List.getElem?_eq_some_iff.1 hu).1
      rw [S.len hr'] at this
      exact this
    rw [hold _ (by have : (i + 1) * S.size ≤ k * S.size := Nat.mul_le_mul_right _ hlt; rw [Nat.succ_mul] at this; omega)]
    exact hc' j u hu
  · obtain rfl : i = k := by omega
    rw [ha] at hb
    injection hb with hb
    subst hb
    exact ⟨cs, hr, hnew⟩
/-- a row whose elements all stand reads as the list -/
theorem Sl.of_row {α : Type} {m : Bool} {S : Shp α} {w : World} {lo B : Nat} {l : List α} {g cap : Nat} {t : TypeId} {cur : Array Value} (hrow : Row w g t cur) (hlo : lo ≤ g) (hg : g < B) (hc : l.length ≤ cap) (hm : cap ≤ maxLen) (h : Elems S w lo B cur l.length l) : Sl m S w lo B l (.slice (some ⟨g, 0, none⟩) l.length cap) := by
  refine ⟨_, cap, rfl, hc, hm, fun _ => ⟨g, 0, rfl, hlo, hg, fun _ j => hrow.frozen j, fun i a ha => ?_⟩⟩
  obtain ⟨cs, hr, hcs⟩ := h i a (List.getElem?_eq_some_iff.1 ha).1 ha
  exact ⟨cs, hr, fun j u hu => by rw [hrow.cell]; simpa using hcs j u hu⟩

theorem set_same {cur : Array Value} {i : Nat} (h : i < cur.size) (u : Value) : (cur.setIfInBounds i u)[i]? = some u := by simp [h]
theorem set_ne {cur : Array Value} {i j : Nat} (h : i ≠ j) (u : Value) : (cur.setIfInBounds i u)[j]? = cur[j]? := by
  rw [Array.getElem?_setIfInBounds, if_neg h]

/-- what a reading of type t gives -/
def Dec (P : Program) (w : World) (t : TypeId) {α : Type} (S : Shp α) : Prop :=
  ∀ {H : Type} {enc : TypeId × Value → H} {base : Nat} {spare : Nat → Bool} {held : Bool} {fuel : Nat} {cs : List Value} {x : DataW H × List MemPlace},
    DataW.trod enc P w base spare held fuel t cs = some x → ∃ a, S.rep w 0 w.heap.size a cs

theorem wf_I64 {n : Int} (h : (Lit.int .i64 n).wf = true) : I64 n := by
  simp [Lit.wf, IntKind.min, IntKind.max, IntKind.signed, IntKind.bits] at h
  exact ⟨by omega, by omega⟩

theorem dec_int {P : Program} {w : World} {t : TypeId} (ht : P.underlying t = some (.int .i64)) : Dec P w t (intS false) := by
  intro H enc base spare held fuel cs x h
  obtain ⟨n, rfl, _, hw⟩ := DataW.trod_int ht h
  exact ⟨n, int_mk false w 0 _ (wf_I64 hw)⟩
theorem choose_list {α : Type} {n : Nat} {p : Nat → α → Prop} (h : ∀ i, i < n → ∃ a, p i a) : ∃ l : List α, l.length = n ∧ ∀ (i : Nat) (a : α), l[i]? = some a → p i a := by
  induction n with
  | zero => exact ⟨[], rfl, fun i a ha => by simp at ha⟩
  | succ n ih =>
    obtain ⟨l, hl, hp⟩ := ih fun i hi => h i (by omega)
    obtain ⟨a, ha⟩ := h n (by omega)
    refine ⟨l ++ [a], by simp [hl], fun i b hb => ?_⟩
    rcases Nat.lt_or_ge i n with hi | hi
    · rw [List.getElem?_append_left (by omega)] at hb
      exact hp i b hb
    · rw [List.getElem?_append_right (by omega), hl] at hb
      have : i = n := by
        rcases Nat.lt_or_ge n i with h1 | h1
        · rw [List.getElem?_eq_none (by simp; omega)] at hb; cases hb
        · omega
      subst this
      simp at hb
      subst hb
      exact ha

theorem dec_slice_at {P : Program} {w : World} {t e : TypeId} {α : Type} {S : Shp α} (ht : P.underlying t = some (.slice e)) (hz : P.cellsOf e = S.size) (hs : 0 < S.size)
    {H : Type} {enc : TypeId × Value → H} {base : Nat} {spare : Nat → Bool} {held : Bool} {fuel : Nat} {cs : List Value} {x : DataW H × List MemPlace}
    (hd : ∀ (n : Nat) (cs' : List Value) (y : DataW H × List MemPlace), n < fuel → DataW.trod enc P w base spare held n e cs' = some y → ∃ a, S.rep w 0 w.heap.size a cs')
    (h : DataW.trod enc P w base spare held fuel t cs = some x) : ∃ l v, cs = [v] ∧ Sl false S w 0 w.heap.size l v := by
  rcases DataW.trod_slice ht h with ⟨rfl, _⟩ | ⟨a, len, cap, elems, rest, n, hn, rfl, _, hb, hl, hm, hlen, hel, _, _⟩
  · exact ⟨[], _, rfl, Sl.nil_ _ S w _ _⟩
  · have hi : ∀ i, i < len → ∃ d : α, ∃ cs', S.rep w 0 w.heap.size d cs' ∧ w.cells? base (a.add (i * S.size)) S.size = some cs' := by
      intro i hi
      have h1 := hel i hi
      rw [List.getElem?_eq_getElem (by omega)] at h1
      obtain ⟨cs', h2, h3⟩ := Option.bind_eq_some_iff.1 h1
      obtain ⟨d, hd⟩ := hd n cs' _ (by omega) h3
      exact ⟨d, cs', hd, by rw [← hz]; exact h2⟩
    obtain ⟨l, hll, hp⟩ := choose_list hi
    refine ⟨l, _, rfl, some a, cap, by rw [hll], by omega, hm, fun hne => ?_⟩
    have h0 : 0 < l.length := List.length_pos_iff.2 hne
    obtain ⟨cs0, hr0, hc0⟩ := hp 0 l[0] (List.getElem?_eq_getElem h0)
    obtain ⟨_, hcl, hat⟩ := World.cells?_some hc0
    have hx := hat 0 (by omega)
    have hcs0 : cs0[0]? = some (cs0[0]'(by omega)) := List.getElem?_eq_getElem (by omega)
    rw [hcs0] at hx
    simp [Addr.add] at hx
    have hsp : a.spot = none := by
      unfold World.cell? at hx
      split at hx
      · by_cases hs : a.spot.isSome = true
        · rw [if_pos hs] at hx; cases hx
        · simpa using hs
      · cases hx
    obtain ⟨b, o, spot⟩ := a
    simp only at hsp
    subst hsp
    refine ⟨b, o, rfl, Nat.zero_le _, World.block_lt_of_cell? w _ hx, (fun h => by cases h), fun i d hd => ?_⟩
    obtain ⟨cs', hr, hc⟩ := hp i d hd
    refine ⟨cs', hr, fun j u hu => ?_⟩
    obtain ⟨_, hcl', hat'⟩ := World.cells?_some hc
    have hj : j < S.size := by
      have := (List.getElem?_eq_some_iff.1 hu).1
      omega
    have := hat' j hj
    rw [hu] at this
    rw [← this]
    congr 1
    simp only [Addr.add]
    split <;> split <;> simp_all

theorem dec_slice {P : Program} {w : World} {t e : TypeId} {α : Type} {S : Shp α} (ht : P.underlying t = some (.slice e)) (hz : P.cellsOf e = S.size) (hs : 0 < S.size) (hd : Dec P w e S) : Dec P w t (slS false S) := by
  intro H enc base spare held fuel cs x h
  obtain ⟨l, v, rfl, hv⟩ := dec_slice_at ht hz hs (fun n cs' y _ hy => hd hy) h
  exact ⟨l, v, rfl, hv⟩

/-- a struct whose fields have one cell each: its cells, each with its reading -/
theorem trod_fields {P : Program} {w : World} {t : TypeId} {fs : Array Field} (ht : P.underlying t = some (.struct fs)) (hone : oneCellFields P fs = true) (hC : P.cellsOf t = fs.size)
    {H : Type} {enc : TypeId × Value → H} {base : Nat} {spare : Nat → Bool} {held : Bool} {fuel : Nat} {cs : List Value} {x : DataW H × List MemPlace} (h : DataW.trod enc P w base spare held fuel t cs = some x) :
    cs.length = fs.size ∧ ∃ n, fuel = n + 1 ∧ ∀ (i : Nat) (f : Field) (v : Value), fs[i]? = some f → cs[i]? = some v → ∃ y, DataW.trod enc P w base spare held n f.type [v] = some y := by
  obtain ⟨xs, n, hn, _, hcl, hxl, hf⟩ := DataW.trod_struct ht h
  refine ⟨hcl.trans hC, n, hn, fun i f v hi hv => ?_⟩
  obtain ⟨ho, hk⟩ := hone_of hone i f hi
  have h1 := hf i f hi
  rw [ho, hk] at h1
  have hil := (List.getElem?_eq_some_iff.1 hv).1
  have hone' : (cs.drop i).take 1 = [v] := by
    rw [List.drop_eq_getElem_cons hil]
    have h2 := List.getElem?_eq_getElem hil
    rw [hv] at h2
    injection h2 with h2
    show [cs[i]] = [v]
    rw [h2]
  rw [hone'] at h1
  have hix : i < xs.length := by rw [hxl]; exact (Array.getElem?_eq_some_iff.1 hi).1
  exact ⟨xs[i], h1.trans (List.getElem?_eq_getElem hix)⟩

end Go.Proofs.Ytgcjccoglcgcoaa
