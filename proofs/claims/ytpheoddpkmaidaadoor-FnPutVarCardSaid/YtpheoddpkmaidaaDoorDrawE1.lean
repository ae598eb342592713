/-
  What the draws answer: expressions. Condition: few numbers have been picked.
-/
import Derived.Test.YtpheoddpkmaidaaDoorDraw1
import Derived.Test.YtpheoddpkmaidaaDoorPlainE
import Derived.Test.YtpheoddpkmaidaaDoorReg2
import Derived.Lib.SlFresh
import Derived.Laws.OwnMore
namespace Go.Proofs.YtpheoddpkmaidaaDoor
open Go.RowKit Go.ChangeShapes Go.WideShapes Go.Deep
set_option linter.unusedSimpArgs false
set_option linter.unusedVariables false
theorem But.setNew {g : Nat} {w w' : World} (h : But g w w') {p : Addr} (hg : g < w.heap.size) (hp : w.heap.size ≤ p.block) (u : Value) : But g w (w'.setCell p u) := ⟨h.1.setCell (by omega) u, fun b h1 h2 => (Below.heap_setCell _ _ _ b (by omega)).trans (h.2 b h1 h2)⟩
theorem But.thenB {g : Nat} {w w1 w2 : World} (h : But g w w1) (k : Below w.heap.size w1 w2) (hg : g < w.heap.size) : But g w w2 := ⟨h.1.trans (k.mono (by omega)), fun b h1 h2 => (k.block b h2).trans (h.2 b h1 h2)⟩
/-- the name zz is never drawn -/
def zz : ByteArray := ⟨#[122, 122]⟩
def NoZ (e : Ex) : Prop := ¬ zz ∈ flE 2 e
theorem flL_mem {s : ByteArray} {tag : Int} : ∀ {l : List Ex}, s ∈ flL tag l → ∃ k ∈ l, s ∈ flE tag k
  | [], h => by rw [flL_nil] at h; cases h
  | e :: r, h => by
    rw [flL_cons, List.mem_append] at h
    rcases h with h | h
    · exact ⟨e, by simp, h⟩
    · obtain ⟨k, hk, hs⟩ := flL_mem h
      exact ⟨k, by simp [hk], hs⟩
theorem NoZ.mk {op n : Int} {name : ByteArray} {kids : List Ex} (h : name ≠ zz) (hk : ∀ k ∈ kids, NoZ k) : NoZ (.mk op n name kids) := by
  intro hz
  rw [flE_mk, List.mem_append] at hz
  rcases hz with hz | hz
  · split at hz
    · simp at hz
      exact h hz.symm
    · cases hz
  · obtain ⟨k, h1, h2⟩ := flL_mem hz
    exact hk k h1 h2
-- what is owned stays where the world is the same
theorem PartsT.keepT {α : Type} {S : Bool → Shp α} {w w' : World} {base : Nat} {v : Value} {l : List α} {xs : List Value} {p q : Nat → Nat} (h : PartsT S w base v l xs p q) (hk : ∀ b, base ≤ b → b < w.heap.size → w'.heap[b]? = w.heap[b]?) (hs : w.heap.size ≤ w'.heap.size) : PartsT S w' base v l xs p q := fun i a ha => by
  obtain ⟨c1, c2, c3, c4, c5, cs, hr, hcs⟩ := h i a ha
  exact ⟨c1, Nat.le_trans c2 hs, c3, c4, c5, cs, fun m => (S m).keep (hr m) (Nat.le_refl _) (Nat.le_refl _) (fun b hx hy => hk b (by omega) (by omega)), hcs⟩
theorem own_keep {w w' : World} {base n size : Nat} {e : TypeId} {v : Value} {xs : List Value} (h : w.ownsRow base e size v n xs) (hk : ∀ b, base ≤ b → b < w.heap.size → w'.heap[b]? = w.heap[b]?) : w'.ownsRow base e size v n xs := by
  refine ⟨h.1, ?_⟩
  rcases h.2 with h1 | ⟨b, cap, cur, h1, h2, h3, h4⟩
  · exact Or.inl h1
  · have : b < w.heap.size := (Array.getElem?_eq_some_iff.1 h3).1
    exact Or.inr ⟨b, cap, cur, h1, h2, (hk b h2 this).trans h3, h4⟩
theorem OwnT.keepT {α : Type} {S : Bool → Shp α} {t : TypeId} {w w' : World} {base : Nat} {v : Value} {l : List α} (h : OwnT S t w base v l) (hk : ∀ b, base ≤ b → b < w.heap.size → w'.heap[b]? = w.heap[b]?) (hs : w.heap.size ≤ w'.heap.size) : OwnT S t w' base v l := by
  obtain ⟨xs, p, q, own, hp⟩ := h
  exact ⟨xs, p, q, own_keep own hk, hp.keepT hk hs⟩
theorem OwnT.but {α : Type} {S : Bool → Shp α} {t : TypeId} {w w' : World} {base g : Nat} {v : Value} {l : List α} (h : OwnT S t w base v l) (hb : But g w w') (hg : g < base) : OwnT S t w' base v l := h.keepT (fun b h1 h2 => hb.2 b (by omega) h2) hb.1.size
theorem OwnT.lower {α : Type} {S : Bool → Shp α} {t : TypeId} {w : World} {base base' : Nat} {v : Value} {l : List α} (h : OwnT S t w base v l) (hb : base' ≤ base) : OwnT S t w base' v l := by
  obtain ⟨xs, p, q, own, hp⟩ := h
  refine ⟨xs, p, q, ⟨own.1, ?_⟩, fun i a ha => ?_⟩
  · rcases own.2 with h1 | ⟨b, cap, cur, h1, h2, h3⟩
    · exact Or.inl h1
    · exact Or.inr ⟨b, cap, cur, h1, Nat.le_trans hb h2, h3⟩
  · obtain ⟨c1, c2⟩ := hp i a ha
    exact ⟨Nat.le_trans hb c1, c2⟩
theorem OwnT.lift {d d' : Nat} (hd : d ≤ d') {t : TypeId} {w : World} {base : Nat} {v : Value} {l : List Ex} (h : OwnT (fun m => exT m d) t w base v l) : OwnT (fun m => exT m d') t w base v l := by
  obtain ⟨xs, p, q, own, hp⟩ := h
  have e : (exT true d).size = (exT true d').size := by rw [exT_size, exT_size]
  rw [e] at own
  refine ⟨xs, p, q, own, fun i a ha => ?_⟩
  obtain ⟨c1, c2, c3, c4, c5, cs, hr, hcs⟩ := hp i a ha
  refine ⟨c1, c2, c3, c4, c5, cs, fun m => exT_le m hd (hr m), fun j u hu => ?_⟩
  have := hcs j u hu
  simp only [exT_size] at this ⊢
  exact this
theorem OwnT.form {d : Nat} {t : TypeId} {w : World} {base : Nat} {v : Value} {l : List Ex} (h : OwnT (fun m => exT m d) t w base v l) : ∃ A c, v = .slice A l.length c ∧ l.length ≤ c ∧ c ≤ 9223372036854775807 :=
  (h.slT (fun m => by rw [exT_size, exT_size]) (Nat.le_refl _) false).form
/-- a row of one -/
theorem own_one {d : Nat} {w : World} {g base p q : Nat} {a : Ex} {c0 c1 c2 c3 : Value} (R : Row w g 25 #[c0, c1, c2, c3]) (hg : base ≤ g) (hp : base ≤ p) (hpq : p ≤ q) (hq : q ≤ w.heap.size) (hd : g < p ∨ q ≤ g) (ha : ∀ m, (exT m d).rep w p q a [c0, c1, c2, c3]) :
    OwnT (fun m => exT m d) 25 w base (.slice (some ⟨g, 0, none⟩) 1 1) [a] := by
  refine ⟨[c0, c1, c2, c3], fun _ => p, fun _ => q, ⟨by simp [exT_size], Or.inr ⟨g, 1, _, rfl, hg, R, by simp, by simp [maxLen], by simp [exT_size], by simp [exT_size]⟩⟩, fun i x hx => ?_⟩
  have hi : i = 0 := by
    have := (List.getElem?_eq_some_iff.1 hx).1
    simp at this
    exact this
  subst hi
  have hx' := Option.some.inj hx
  subst hx'
  refine ⟨hp, hq, hpq, fun b hb => ?_, fun j hj => by omega, _, ha, fun j u hu => by simpa [exT_size] using hu⟩
  have hb' : g = b := by simpa [Value.ownBlock] using hb
  subst hb'
  exact hd
/-- a row of two -/
theorem own_two {d : Nat} {w : World} {g base p q p' q' : Nat} {a b : Ex} {c0 c1 c2 c3 d0 d1 d2 d3 : Value} (R : Row w g 25 #[c0, c1, c2, c3, d0, d1, d2, d3]) (hg : base ≤ g) (hp : base ≤ p) (hpq : p ≤ q) (hq : q ≤ p') (hpq' : p' ≤ q') (hq' : q' ≤ w.heap.size) (hd : g < p ∨ q' ≤ g)
    (ha : ∀ m, (exT m d).rep w p q a [c0, c1, c2, c3]) (hb : ∀ m, (exT m d).rep w p' q' b [d0, d1, d2, d3]) :
    OwnT (fun m => exT m d) 25 w base (.slice (some ⟨g, 0, none⟩) 2 2) [a, b] := by
  refine ⟨[c0, c1, c2, c3, d0, d1, d2, d3], fun i => if i = 0 then p else p', fun i => if i = 0 then q else q', ⟨by simp [exT_size], Or.inr ⟨g, 2, _, rfl, hg, R, by simp, by simp [maxLen], by simp [exT_size], by simp [exT_size]⟩⟩, fun i x hx => ?_⟩
  have hi : i < 2 := by
    have := (List.getElem?_eq_some_iff.1 hx).1
    simpa using this
  have hown : ∀ k, (Value.slice (some ⟨g, 0, none⟩) 2 2).ownBlock = some k → k = g := fun k hk => by simpa [Value.ownBlock] using hk.symm
  match i, hi with
  | 0, _ =>
    have hx' := Option.some.inj hx
    subst hx'
    refine ⟨hp, by simp; omega, by simpa using hpq, fun k hk => ?_, fun j hj => by omega, _, ha, fun j u hu => ?_⟩
    · obtain rfl := hown k hk
      simp
      omega
    · simp only [Nat.zero_mul, Nat.zero_add]
      match j, hu with
      | 0, hu => simpa using hu
      | 1, hu => simpa using hu
      | 2, hu => simpa using hu
      | 3, hu => simpa using hu
  | 1, _ =>
    have hx' := Option.some.inj hx
    subst hx'
    refine ⟨by simp; omega, by simpa using hq', by simpa using hpq', fun k hk => ?_, fun j hj => ?_, _, hb, fun j u hu => ?_⟩
    · obtain rfl := hown k hk
      simp
      omega
    · obtain rfl : j = 0 := by omega
      simpa using hq
    · simp only [exT_size]
      match j, hu with
      | 0, hu => simpa using hu
      | 1, hu => simpa using hu
      | 2, hu => simpa using hu
      | 3, hu => simpa using hu
/-- one more, behind a draw -/
theorem snoc_fin {d : Nat} {w0 w1 w4 : World} {base : Nat} {v v' : Value} {l : List Ex} {xs : List Value} {p q : Nat → Nat} {a : Ex} {cs : List Value} {o : Obj} (own : w0.ownsRow base 25 (exT true d).size v l.length xs) (hp : PartsT (fun m => exT m d) w0 base v l xs p q)
    (hk : ∀ b, base ≤ b → b < w0.heap.size → w1.heap[b]? = w0.heap[b]?) (hs : w0.heap.size ≤ w1.heap.size) (hbase : base ≤ w0.heap.size) (hr : ∀ m, (exT m d).rep w1 w0.heap.size w1.heap.size a cs)
    (own4 : w4.ownsRow base 25 (exT true d).size v' (l.length + 1) (xs ++ cs)) (hgrow : (w1.alloc o).grownBy w4 v.ownBlock) (hat : v'.ownBlock = v.ownBlock ∨ v'.ownBlock = some (w1.alloc o).heap.size) : OwnT (fun m => exT m d) 25 w4 base v' (l ++ [a]) := by
  refine ⟨xs ++ cs, _, _, by rw [List.length_append]; exact own4, PartsT.snoc (s := w0.heap.size) (hp.keepT hk hs) (own_keep own hk) hbase hs (fun i a ha => (hp i a ha).2.1) (fun b hb => (own.lt b hb).2) hr hgrow hat⟩
theorem append_one (w1 : World) (base : Nat) (ty : TypeId) (v : Value) (n : Nat) (xs : List Value) (own : w1.ownsRow base 25 4 v n xs) (op m : Int) (name : ByteArray) (A : Option Addr) (k c : Nat) (hn : n ≤ 1000) (hbase : base ≤ w1.heap.size) :
    ∃ v' w4, (Builtin.append_ #[23, 23] ty #[v, .slice (some ⟨w1.heap.size, 0, none⟩) 1 1]).run Tryd.prog (w1.alloc (.cells #[.int .i64 op, .int .i64 m, .string name, .slice A k c] 25)) = .ok v' w4 ∧ w4.ownsRow base 25 4 v' (n + 1) (xs ++ [.int .i64 op, .int .i64 m, .string name, .slice A k c]) ∧
      (w1.alloc (.cells #[.int .i64 op, .int .i64 m, .string name, .slice A k c] 25)).grownBy w4 v.ownBlock ∧ (v'.ownBlock = v.ownBlock ∨ v'.ownBlock = some (w1.alloc (.cells #[.int .i64 op, .int .i64 m, .string name, .slice A k c] 25)).heap.size) := by
  obtain ⟨i0, hi, hz0, hz1, hz2⟩ := info_parts Tryd.info_Expr
  obtain ⟨v', w', k1, k2, k3, _, k5⟩ := run_append_own_at (P := Tryd.prog) (w1.alloc (.cells #[.int .i64 op, .int .i64 m, .string name, .slice A k c] 25)) base 23 ty 25 i0 (.agg #[.int .i64 0, .int .i64 0, .string ⟨#[]⟩, .slice none 0 0]) 4 56 Tryd.underlying23 hi hz0 hz1 hz2 rfl (by decide) v n xs (own.alloc _) ⟨w1.heap.size, 0, none⟩ 1 1 [.int .i64 op, .int .i64 m, .string name, .slice A k c] rfl
    (cells_row_new w1 [.int .i64 op, .int .i64 m, .string name, .slice A k c] _) (by intro u hu; simp at hu; rcases hu with rfl | rfl | rfl | rfl <;> rfl) (by unfold maxLen; omega) (by omega) (by simp; omega)
  exact ⟨v', w', k1, k2, k3, k5⟩
/-- an expression that was drawn: its Kids are owned -/
def ExV (d lo : Nat) (op n : Int) (name : ByteArray) (kids : List Ex) (v3 : Value) (w : World) : Prop :=
  I64 op ∧ I64 n ∧ name.size ≤ 1001 ∧ name ≠ zz ∧ (∀ k ∈ kids, NoZ k) ∧ kids.length ≤ 3 + d / 9 ∧ OwnT (fun m => exT m d) 25 w lo v3 kids
theorem ExV.but {d lo g : Nat} {op n : Int} {name : ByteArray} {kids : List Ex} {v3 : Value} {w w' : World} (h : ExV d lo op n name kids v3 w) (hb : But g w w') (hg : g < lo) : ExV d lo op n name kids v3 w' := ⟨h.1, h.2.1, h.2.2.1, h.2.2.2.1, h.2.2.2.2.1, h.2.2.2.2.2.1, h.2.2.2.2.2.2.but hb hg⟩
theorem ExV.keepT {d lo : Nat} {op n : Int} {name : ByteArray} {kids : List Ex} {v3 : Value} {w w' : World} (h : ExV d lo op n name kids v3 w) (hk : ∀ b, lo ≤ b → b < w.heap.size → w'.heap[b]? = w.heap[b]?) (hs : w.heap.size ≤ w'.heap.size) : ExV d lo op n name kids v3 w' := ⟨h.1, h.2.1, h.2.2.1, h.2.2.2.1, h.2.2.2.2.1, h.2.2.2.2.2.1, h.2.2.2.2.2.2.keepT hk hs⟩
theorem ExV.lower {d d' lo lo' : Nat} {op n : Int} {name : ByteArray} {kids : List Ex} {v3 : Value} {w : World} (h : ExV d lo op n name kids v3 w) (hd : d ≤ d') (hb : lo' ≤ lo) : ExV d' lo' op n name kids v3 w := ⟨h.1, h.2.1, h.2.2.1, h.2.2.2.1, h.2.2.2.2.1, (by have := h.2.2.2.2.2.1; omega), (h.2.2.2.2.2.2.lower hb).lift hd⟩
theorem ExV.rep {d lo : Nat} {op n : Int} {name : ByteArray} {kids : List Ex} {v3 : Value} {w : World} (h : ExV d lo op n name kids v3 w) : ∀ m, (exT m (d + 1)).rep w lo w.heap.size (.mk op n name kids) [.int .i64 op, .int .i64 n, .string name, v3] := fun m =>
  exT_mk m d op n name kids v3 h.1 h.2.1 (Nat.le_trans h.2.2.1 (by decide)) (h.2.2.2.2.2.2.slT (fun m => by rw [exT_size, exT_size]) (Nat.le_refl _) m)
theorem ExV.noZ {d lo : Nat} {op n : Int} {name : ByteArray} {kids : List Ex} {v3 : Value} {w : World} (h : ExV d lo op n name kids v3 w) : NoZ (.mk op n name kids) := NoZ.mk h.2.2.2.1 h.2.2.2.2.1
/-- what a draw of an expression answers -/
def DrE (g : Nat) (l : List UInt8) (p K d : Nat) (w : World) (e : Ending) (w' : World) : Prop :=
  ∃ p' op n name kids A c, e = .returned (.agg #[.int .i64 op, .int .i64 n, .string name, .slice A kids.length c]) ∧ RdAt w' g l p' ∧ p' ≤ p + K ∧ But g w w' ∧ ExV d w.heap.size op n name kids (.slice A kids.length c) w'
/-- the answer is laid into the cell of the result -/
def set4 (w : World) (b : Nat) (u0 u1 u2 u3 : Value) : World := (((w.setCell ⟨b, 0, none⟩ u0).setCell ⟨b, 1, none⟩ u1).setCell ⟨b, 2, none⟩ u2).setCell ⟨b, 3, none⟩ u3
theorem set4_size (w : World) (b : Nat) (u0 u1 u2 u3 : Value) : (set4 w b u0 u1 u2 u3).heap.size = w.heap.size := by simp [set4, World.setCell]
theorem set4_block (w : World) (b : Nat) (u0 u1 u2 u3 : Value) (x : Nat) (h : x ≠ b) : (set4 w b u0 u1 u2 u3).heap[x]? = w.heap[x]? :=
  (Below.heap_setCell _ _ _ x h).trans ((Below.heap_setCell _ _ _ x h).trans ((Below.heap_setCell _ _ _ x h).trans (Below.heap_setCell _ _ _ x h)))
theorem set4_below (w : World) (b : Nat) (u0 u1 u2 u3 : Value) {B : Nat} (h : B ≤ b) : Below B w (set4 w b u0 u1 u2 u3) := ((((Below.refl _ _).setCell (p := ⟨b, 0, none⟩) h _).setCell (p := ⟨b, 1, none⟩) h _).setCell (p := ⟨b, 2, none⟩) h _).setCell (p := ⟨b, 3, none⟩) h _
theorem DrE.fin {g : Nat} {l : List UInt8} {p K d p' lo : Nat} {w wX : World} {op n : Int} {name : ByteArray} {kids : List Ex} {A : Option Addr} {c : Nat} (hg : g < w.heap.size) (hR : RdAt wX g l p') (hp : p' ≤ p + K) (hB : But g w wX) (hE : ExV d lo op n name kids (.slice A kids.length c) wX) (hlo : w.heap.size < lo) :
    DrE g l p K d w (.returned (.agg #[.int .i64 op, .int .i64 n, .string name, .slice A kids.length c])) (set4 wX w.heap.size (.int .i64 op) (.int .i64 n) (.string name) (.slice A kids.length c)) := by
  have hb := set4_below wX w.heap.size (.int .i64 op) (.int .i64 n) (.string name) (.slice A kids.length c) (Nat.le_refl _)
  refine ⟨p', op, n, name, kids, A, c, rfl, hR.below hb hg, hp, hB.thenB hb hg, (hE.keepT (fun b h1 h2 => set4_block _ _ _ _ _ _ b (by omega)) (Nat.le_of_eq (set4_size _ _ _ _ _ _).symm)).lower (Nat.le_refl _) (Nat.le_of_lt hlo)⟩
end Go.Proofs.YtpheoddpkmaidaaDoor
