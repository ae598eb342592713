/-
  What a call owns and appends to: of the old blocks only that one may have changed. Texts and expressions. No condition.
-/
import Derived.Test.YtnamciblapddbaaDoorParts
import Derived.Maps.AppendAt
import Derived.Maps.Range
namespace Go.Proofs.YtnamciblapddbaaDoor
open Go.RowKit Go.ChangeShapes Go.WideShapes Go.Deep
set_option linter.unusedSimpArgs false
set_option linter.unusedVariables false
theorem Tryd.info_string : (Tryd.prog.info? 9).map (fun i => (i.zero, i.size, i.bytes)) = some (some (.string ⟨#[]⟩), 1, 16) := by kernel_rfl
/-- of the old blocks only v's own may have changed; and v' lies there or in new memory -/
structure OwnG (v v' : Value) (w w' : World) : Prop where
  grown : w.grownBy w' v.ownBlock
  at_ : ∀ k, v'.ownBlock = some k → v.ownBlock = some k ∨ w.heap.size ≤ k
theorem OwnG.refl (v : Value) (w : World) : OwnG v v w w := ⟨World.grownBy.refl _ _, fun _ h => Or.inl h⟩
theorem OwnG.trans {v v1 v2 : Value} {a b c : World} (h : OwnG v v1 a b) (k : OwnG v1 v2 b c) : OwnG v v2 a c := by
  refine ⟨h.grown.andThen k.grown (fun j hj => (h.at_ j hj).symm), fun j hj => ?_⟩
  rcases k.at_ j hj with h1 | h1
  · exact h.at_ j h1
  · exact Or.inr (Nat.le_trans h.grown.size h1)
theorem OwnG.of_below {v : Value} {w w' : World} (h : Below w.heap.size w w') : OwnG v v w w' :=
  ⟨⟨h.os, h.tape, h.output, h.size, fun k hk _ => h.block k hk⟩, fun _ h => Or.inl h⟩
theorem OwnG.of_at {v v' : Value} {w w' : World} (h : w.grownBy w' v.ownBlock) (k : v'.ownBlock = v.ownBlock ∨ v'.ownBlock = some w.heap.size) : OwnG v v' w w' := by
  refine ⟨h, fun j hj => ?_⟩
  rcases k with k | k
  · exact Or.inl (k ▸ hj)
  · rw [k] at hj
    injection hj with hj
    exact Or.inr (Nat.le_of_eq hj)
theorem OwnG.size {v v' : Value} {w w' : World} (h : OwnG v v' w w') : w.heap.size ≤ w'.heap.size := h.grown.size
theorem OwnG.row {v v' : Value} {w w' : World} (h : OwnG v v' w w') {g : Nat} {t : TypeId} {cs : Array Value} (R : Row w g t cs) (hne : v.ownBlock ≠ some g) : Row w' g t cs := (h.grown.block g R.lt (fun e => hne e.symm)).trans R
theorem OwnG.below {v v' : Value} {w w' : World} (h : OwnG v v' w w') {B : Nat} (hB : B ≤ w.heap.size) (ho : ∀ k, v.ownBlock = some k → B ≤ k) : Below B w w' :=
  ⟨h.grown.os, h.grown.tape, h.grown.output, h.grown.size, fun k hk => h.grown.block k (by omega) (fun e => by have := ho k e.symm; omega)⟩
theorem own_ge {w : World} {base n size : Nat} {e : TypeId} {v : Value} {xs : List Value} (h : w.ownsRow base e size v n xs) {k : Nat} (hk : v.ownBlock = some k) : base ≤ k := (h.lt k hk).1
theorem own_ne {w : World} {base n size : Nat} {e : TypeId} {v : Value} {xs : List Value} (h : w.ownsRow base e size v n xs) {g : Nat} (hg : g < base) : v.ownBlock ≠ some g := fun hk => by
  have := own_ge h hk
  omega
theorem own_ne' {w : World} {base n size : Nat} {e : TypeId} {v : Value} {xs : List Value} (h : w.ownsRow base e size v n xs) {g : Nat} (hg : w.heap.size ≤ g) : v.ownBlock ≠ some g := fun hk => by
  have := (h.lt g hk).2
  omega
theorem own_below {w w' : World} {base n size B : Nat} {e : TypeId} {v : Value} {xs : List Value} (h : w.ownsRow base e size v n xs) (hb : Below B w w') (hB : w.heap.size ≤ B) : w'.ownsRow base e size v n xs := by
  refine ⟨h.1, ?_⟩
  rcases h.2 with h1 | ⟨g, cap, cur, h1, h2, h3, h4⟩
  · exact Or.inl h1
  · have : g < w.heap.size := (Array.getElem?_eq_some_iff.1 h3).1
    exact Or.inr ⟨g, cap, cur, h1, h2, (hb.block g (by omega)).trans h3, h4⟩
/-- what was appended reads as the list -/
theorem Sl.of_ownS {w : World} {base lo : Nat} {t : TypeId} {v : Value} {l : List ByteArray} (h : w.ownsRow base t 1 v l.length (l.map Value.string)) (hi : ∀ n ∈ l, n.size ≤ maxLen) (hlo : lo ≤ base) (m : Bool) : Sl m (strS m) w lo w.heap.size l v := by
  rcases h.2 with ⟨rfl, h1⟩ | ⟨g, cap, cur, rfl, h2, h3, h4, h5, h6, h7⟩
  · obtain rfl : l = [] := List.eq_nil_of_length_eq_zero h1
    exact Sl.nil_ _ _ _ _ _
  · refine Sl.of_row (t := t) (cur := cur) h3 (by omega) (Array.getElem?_eq_some_iff.1 h3).1 h4 h5 ?_
    intro i a hil ha
    refine ⟨[.string a], str_mk m _ _ _ (hi a (List.mem_of_getElem? ha)), fun j u hu => ?_⟩
    match j, hu with
    | 0, hu =>
      have hu' := Option.some.inj hu
      subst hu'
      have e1 : (cur.toList.take (l.length * 1))[i]? = some (.string a) := by rw [h7, List.getElem?_map, ha]; rfl
      rw [List.getElem?_take_of_lt (by omega)] at e1
      simpa [strS] using e1
theorem own_nilS (w : World) (base : Nat) (t : TypeId) : w.ownsRow base t 1 (.slice none 0 0) ([] : List ByteArray).length (([] : List ByteArray).map Value.string) := ⟨rfl, Or.inl ⟨rfl, rfl⟩⟩
theorem own_emptyS (w : World) (base : Nat) (t : TypeId) (hb : base ≤ w.heap.size) : (w.alloc (.cells #[] t)).ownsRow base t 1 (.slice (some ⟨w.heap.size, 0, none⟩) 0 0) ([] : List ByteArray).length (([] : List ByteArray).map Value.string) :=
  ⟨rfl, Or.inr ⟨_, 0, #[], rfl, hb, Row.new w _ _, by simp, by simp [maxLen], rfl, rfl⟩⟩
theorem own_snocS {w : World} {base : Nat} {t : TypeId} {v : Value} {l : List ByteArray} {s : ByteArray} (h : w.ownsRow base t 1 v (l.length + 1) (l.map Value.string ++ [.string s])) : w.ownsRow base t 1 v (l ++ [s]).length ((l ++ [s]).map Value.string) := by
  rw [List.length_append, List.map_append]
  exact h
/-- a name is put to a list, once -/
def addN (out : List ByteArray) (s : ByteArray) : List ByteArray := if (out.any fun x => s.toList == x.toList) = true then out else out ++ [s]
def addK (tag op : Int) (out : List ByteArray) (s : ByteArray) : List ByteArray := if op = tag then addN out s else out
/-- the names of the parts with an op, in their order, each once -/
def nmE : Nat → Int → List ByteArray → Ex → List ByteArray
  | 0, _, out, _ => out
  | m + 1, tag, out, .mk op _ name kids => kids.foldl (nmE m tag) (addK tag op out name)
theorem addK_len (tag op : Int) (out : List ByteArray) (s : ByteArray) : (addK tag op out s).length ≤ out.length + 1 := by
  unfold addK addN
  split
  · split <;> simp
  · omega
theorem nmL_len {m : Nat} {tag : Int} (ih : ∀ e out, (nmE m tag out e).length ≤ out.length + partsE e) : ∀ (l : List Ex) (out : List ByteArray), (l.foldl (nmE m tag) out).length ≤ out.length + partsL l := by
  intro l
  induction l with
  | nil => intro out; rw [partsL_nil]; exact Nat.le_refl _
  | cons a r ihl =>
    intro out
    rw [List.foldl_cons, partsL_cons]
    have h1 := ihl (nmE m tag out a)
    have h2 := ih a out
    omega
theorem nmE_len (tag : Int) : ∀ (m : Nat) (e : Ex) (out : List ByteArray), (nmE m tag out e).length ≤ out.length + partsE e := by
  intro m
  induction m with
  | zero => intro e out; simp [nmE]
  | succ m ih =>
    intro e out
    cases e with
    | mk op n name kids =>
      rw [nmE, partsE_mk]
      have h1 := nmL_len ih kids (addK tag op out name)
      have h2 := addK_len tag op out name
      omega
end Go.Proofs.YtnamciblapddbaaDoor
