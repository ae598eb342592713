/-
  Several texts in one: DrawE1, DrawE2, DrawE3, DrawE4, DrawE5, DrawE6.
-/
import Derived.Test.YthfinoapfbhgcaaDoorDraw1
import Derived.Test.YthfinoapfbhgcaaDoorPreT
import Derived.Test.YthfinoapfbhgcaaDoorSet4
import Derived.Test.YthfinoapfbhgcaaDoorReg2
import Derived.Lib.SlFresh
import Derived.Laws.OwnMore
namespace Go.Proofs.YthfinoapfbhgcaaDoor
open Go.RowKit Go.ChangeShapes Go.WideShapes Go.Deep
set_option linter.unusedSimpArgs false
set_option linter.unusedVariables false
theorem ButR.setNew {g : Nat} {w w' : World} (h : ButR g w w') {p : Addr} (hg : g < w.heap.size) (hp : w.heap.size ≤ p.block) (u : Value) : ButR g w (w'.setCell p u) := ⟨h.1.setCell (by omega) u, fun b h1 h2 => (Below.heap_setCell _ _ _ b (by omega)).trans (h.2 b h1 h2)⟩
theorem ButR.thenB {g : Nat} {w w1 w2 : World} (h : ButR g w w1) (k : Below w.heap.size w1 w2) (hg : g < w.heap.size) : ButR g w w2 := ⟨h.1.trans (k.mono (by omega)), fun b h1 h2 => (k.block b h2).trans (h.2 b h1 h2)⟩
/-- the name zz is never drawn -/
def zz : ByteArray := ⟨#[122, 122]⟩
mutual
/-- no part has many Kids -/
def fewE : Ex → Bool
  | .mk _ _ _ kids => decide (kids.length ≤ 14) && fewL kids
def fewL : List Ex → Bool
  | [] => true
  | e :: r => fewE e && fewL r
end
theorem fewL_all (l : List Ex) : fewL l = l.all fewE := by
  induction l with
  | nil => rfl
  | cons e r ih => rw [fewL, ih, List.all_cons]
def NoZ (e : Ex) : Prop := ¬ zz ∈ flE 2 e ∧ fewE e = true
theorem flL_mem {s : ByteArray} {tag : Int} : ∀ {l : List Ex}, s ∈ flL tag l → ∃ k ∈ l, s ∈ flE tag k
  | [], h => by rw [flL_nil] at h; cases h
  | e :: r, h => by
    rw [flL_cons, List.mem_append] at h
    rcases h with h | h
    · exact ⟨e, by simp, h⟩
    · obtain ⟨k, hk, hs⟩ := flL_mem h
      exact ⟨k, by simp [hk], hs⟩
theorem NoZ.mk {op n : Int} {name : ByteArray} {kids : List Ex} (h : name ≠ zz) (hl : kids.length ≤ 14) (hk : ∀ k ∈ kids, NoZ k) : NoZ (.mk op n name kids) := by
  refine ⟨fun hz => ?_, by rw [fewE, fewL_all, decide_eq_true hl, Bool.true_and, List.all_eq_true]; exact fun k h => (hk k h).2⟩
  rw [flE_mk, List.mem_append] at hz
  rcases hz with hz | hz
  · split at hz
    · simp at hz
      exact h hz.symm
    · cases hz
  · obtain ⟨k, h1, h2⟩ := flL_mem hz
    exact (hk k h1).1 h2
-- what is owned stays where the world is the same
theorem PartsT.keepT {α : Type} {S : Bool → Shp α} {w w' : World} {base : Nat} {v : Value} {l : List α} {xs : List Value} {p q : Nat → Nat} (h : PartsT S w base v l xs p q) (hk : ∀ b, base ≤ b → b < w.heap.size → w'.heap[b]? = w.heap[b]?) (hs : w.heap.size ≤ w'.heap.size) : PartsT S w' base v l xs p q := fun i a ha => by
  obtain ⟨c1, c2, c3, c4, c5, cs, hr, hcs⟩ := h i a ha
  exact ⟨c1, Nat.le_trans c2 hs, c3, c4, c5, cs, fun m => (S m).keep (hr m) (Nat.le_refl _) (Nat.le_refl _) (fun b hx hy => hk b (by omega) (by omega)), hcs⟩
theorem own_keep {w w' : World} {base n size : Nat} {e : TypeId} {v : Value} {xs : List Value} (h : w.ownsRow base e size v n xs) (hk : ∀ b, base ≤ b → b < w.heap.size → w'.heap[b]? = w.heap[b]?) : w'.ownsRow base e size v n xs := by
  refine ⟨h.1, ?_⟩
  rcases h.2 with h1 | ⟨b, cap, cur, h1, h2, h3, h4⟩
  · exact Or.inl h1
  · have : b < w.heap.size := (Array.getElem?_eq_some_iff.1 h3).1
    exact Or.inr ⟨b, cap, cur, h1, h2, (hk b h2 this).trans h3, h4⟩
theorem OwnT.keepT {α : Type} {S : Bool → Shp α} {t : TypeId} {w w' : World} {base : Nat} {v : Value} {l : List α} (h : OwnT S t w base v l) (hk : ∀ b, base ≤ b → b < w.heap.size → w'.heap[b]? = w.heap[b]?) (hs : w.heap.size ≤ w'.heap.size) : OwnT S t w' base v l := by
  obtain ⟨xs, p, q, own, hp⟩ := h
  exact ⟨xs, p, q, own_keep own hk, hp.keepT hk hs⟩
theorem OwnT.but {α : Type} {S : Bool → Shp α} {t : TypeId} {w w' : World} {base g : Nat} {v : Value} {l : List α} (h : OwnT S t w base v l) (hb : ButR g w w') (hg : g < base) : OwnT S t w' base v l := h.keepT (fun b h1 h2 => hb.2 b (by omega) h2) hb.1.size
theorem OwnT.lower {α : Type} {S : Bool → Shp α} {t : TypeId} {w : World} {base base' : Nat} {v : Value} {l : List α} (h : OwnT S t w base v l) (hb : base' ≤ base) : OwnT S t w base' v l := by
  obtain ⟨xs, p, q, own, hp⟩ := h
  refine ⟨xs, p, q, ⟨own.1, ?_⟩, fun i a ha => ?_⟩
  · rcases own.2 with h1 | ⟨b, cap, cur, h1, h2, h3⟩
    · exact Or.inl h1
    · exact Or.inr ⟨b, cap, cur, h1, Nat.le_trans hb h2, h3⟩
  · obtain ⟨c1, c2⟩ := hp i a ha
    exact ⟨Nat.le_trans hb c1, c2⟩
theorem OwnT.lift {d d' : Nat} (hd : d ≤ d') {t : TypeId} {w : World} {base : Nat} {v : Value} {l : List Ex} (h : OwnT (fun m => exT m d) t w base v l) : OwnT (fun m => exT m d') t w base v l := by
  obtain ⟨xs, p, q, own, hp⟩ := h
  have e : (exT true d).size = (exT true d').size := by rw [exT_size, exT_size]
  rw [e] at own
  refine ⟨xs, p, q, own, fun i a ha => ?_⟩
  obtain ⟨c1, c2, c3, c4, c5, cs, hr, hcs⟩ := hp i a ha
  refine ⟨c1, c2, c3, c4, c5, cs, fun m => exT_le m hd (hr m), fun j u hu => ?_⟩
  have := hcs j u hu
  simp only [exT_size] at this ⊢
  exact this
theorem OwnT.form {d : Nat} {t : TypeId} {w : World} {base : Nat} {v : Value} {l : List Ex} (h : OwnT (fun m => exT m d) t w base v l) : ∃ A c, v = .slice A l.length c ∧ l.length ≤ c ∧ c ≤ 9223372036854775807 :=
  (h.slT (fun m => by rw [exT_size, exT_size]) (Nat.le_refl _) false).form
/-- a row of one -/
theorem own_one {d : Nat} {w : World} {g base p q : Nat} {a : Ex} {c0 c1 c2 c3 : Value} (R : Row w g 25 #[c0, c1, c2, c3]) (hg : base ≤ g) (hp : base ≤ p) (hpq : p ≤ q) (hq : q ≤ w.heap.size) (hd : g < p ∨ q ≤ g) (ha : ∀ m, (exT m d).rep w p q a [c0, c1, c2, c3]) :
    OwnT (fun m => exT m d) 25 w base (.slice (some ⟨g, 0, none⟩) 1 1) [a] := by
  refine ⟨[c0, c1, c2, c3], fun _ => p, fun _ => q, ⟨by simp [exT_size], Or.inr ⟨g, 1, _, rfl, hg, R, by simp, by simp [maxLen], by simp [exT_size], by simp [exT_size]⟩⟩, fun i x hx => ?_⟩
  have hi : i = 0 := by
    have := (List.getElem?_eq_some_iff.1 hx).1
    simp at this
    exact this
  subst hi
  have hx' := Option.some.inj hx
  subst hx'
  refine ⟨hp, hq, hpq, fun b hb => ?_, fun j hj => by omega, _, ha, fun j u hu => by simpa [exT_size] using hu⟩
  have hb' : g = b := by simpa [Value.ownBlock] using hb
  subst hb'
  exact hd
/-- a row of two -/
theorem own_two {d : Nat} {w : World} {g base p q p' q' : Nat} {a b : Ex} {c0 c1 c2 c3 d0 d1 d2 d3 : Value} (R : Row w g 25 #[c0, c1, c2, c3, d0, d1, d2, d3]) (hg : base ≤ g) (hp : base ≤ p) (hpq : p ≤ q) (hq : q ≤ p') (hpq' : p' ≤ q') (hq' : q' ≤ w.heap.size) (hd : g < p ∨ q' ≤ g)
    (ha : ∀ m, (exT m d).rep w p q a [c0, c1, c2, c3]) (hb : ∀ m, (exT m d).rep w p' q' b [d0, d1, d2, d3]) :
    OwnT (fun m => exT m d) 25 w base (.slice (some ⟨g, 0, none⟩) 2 2) [a, b] := by
  refine ⟨[c0, c1, c2, c3, d0, d1, d2, d3], fun i => if i = 0 then p else p', fun i => if i = 0 then q else q', ⟨by simp [exT_size], Or.inr ⟨g, 2, _, rfl, hg, R, by simp, by simp [maxLen], by simp [exT_size], by simp [exT_size]⟩⟩, fun i x hx => ?_⟩
  have hi : i < 2 := by
    have := (List.getElem?_eq_some_iff.1 hx).1
    simpa using this
  have hown : ∀ k, (Value.slice (some ⟨g, 0, none⟩) 2 2).ownBlock = some k → k = g := fun k hk => by simpa [Value.ownBlock] using hk.symm
  match i, hi with
  | 0, _ =>
    have hx' := Option.some.inj hx
    subst hx'
    refine ⟨hp, by simp; omega, by simpa using hpq, fun k hk => ?_, fun j hj => by omega, _, ha, fun j u hu => ?_⟩
    · obtain rfl := hown k hk
      simp
      omega
    · simp only [Nat.zero_mul, Nat.zero_add]
      match j, hu with
      | 0, hu => simpa using hu
      | 1, hu => simpa using hu
      | 2, hu => simpa using hu
      | 3, hu => simpa using hu
  | 1, _ =>
    have hx' := Option.some.inj hx
    subst hx'
    refine ⟨by simp; omega, by simpa using hq', by simpa using hpq', fun k hk => ?_, fun j hj => ?_, _, hb, fun j u hu => ?_⟩
    · obtain rfl := hown k hk
      simp
      omega
    · obtain rfl : j = 0 := by omega
      simpa using hq
    · simp only [exT_size]
      match j, hu with
      | 0, hu => simpa using hu
      | 1, hu => simpa using hu
      | 2, hu => simpa using hu
      | 3, hu => simpa using hu
/-- one more, behind a draw -/
theorem snoc_fin {d : Nat} {w0 w1 w4 : World} {base : Nat} {v v' : Value} {l : List Ex} {xs : List Value} {p q : Nat → Nat} {a : Ex} {cs : List Value} {o : Obj} (own : w0.ownsRow base 25 (exT true d).size v l.length xs) (hp : PartsT (fun m => exT m d) w0 base v l xs p q)
    (hk : ∀ b, base ≤ b → b < w0.heap.size → w1.heap[b]? = w0.heap[b]?) (hs : w0.heap.size ≤ w1.heap.size) (hbase : base ≤ w0.heap.size) (hr : ∀ m, (exT m d).rep w1 w0.heap.size w1.heap.size a cs)
    (own4 : w4.ownsRow base 25 (exT true d).size v' (l.length + 1) (xs ++ cs)) (hgrow : (w1.alloc o).grownBy w4 v.ownBlock) (hat : v'.ownBlock = v.ownBlock ∨ v'.ownBlock = some (w1.alloc o).heap.size) : OwnT (fun m => exT m d) 25 w4 base v' (l ++ [a]) := by
  refine ⟨xs ++ cs, _, _, by rw [List.length_append]; exact own4, PartsT.snoc (s := w0.heap.size) (hp.keepT hk hs) (own_keep own hk) hbase hs (fun i a ha => (hp i a ha).2.1) (fun b hb => (own.lt b hb).2) hr hgrow hat⟩
theorem append_one (w1 : World) (base : Nat) (ty : TypeId) (v : Value) (n : Nat) (xs : List Value) (own : w1.ownsRow base 25 4 v n xs) (op m : Int) (name : ByteArray) (A : Option Addr) (k c : Nat) (hn : n ≤ 1000) (hbase : base ≤ w1.heap.size) :
    ∃ v' w4, (Builtin.append_ #[23, 23] ty #[v, .slice (some ⟨w1.heap.size, 0, none⟩) 1 1]).run Tryd.prog (w1.alloc (.cells #[.int .i64 op, .int .i64 m, .string name, .slice A k c] 25)) = .ok v' w4 ∧ w4.ownsRow base 25 4 v' (n + 1) (xs ++ [.int .i64 op, .int .i64 m, .string name, .slice A k c]) ∧
      (w1.alloc (.cells #[.int .i64 op, .int .i64 m, .string name, .slice A k c] 25)).grownBy w4 v.ownBlock ∧ (v'.ownBlock = v.ownBlock ∨ v'.ownBlock = some (w1.alloc (.cells #[.int .i64 op, .int .i64 m, .string name, .slice A k c] 25)).heap.size) := by
  obtain ⟨i0, hi, hz0, hz1, hz2⟩ := info_parts Tryd.info_Expr
  obtain ⟨v', w', k1, k2, k3, _, k5⟩ := run_append_own_at (P := Tryd.prog) (w1.alloc (.cells #[.int .i64 op, .int .i64 m, .string name, .slice A k c] 25)) base 23 ty 25 i0 (.agg #[.int .i64 0, .int .i64 0, .string ⟨#[]⟩, .slice none 0 0]) 4 56 Tryd.underlying23 hi hz0 hz1 hz2 rfl (by decide) v n xs (own.alloc _) ⟨w1.heap.size, 0, none⟩ 1 1 [.int .i64 op, .int .i64 m, .string name, .slice A k c] rfl
    (cells_row_new w1 [.int .i64 op, .int .i64 m, .string name, .slice A k c] _) (by intro u hu; simp at hu; rcases hu with rfl | rfl | rfl | rfl <;> rfl) (by unfold maxLen; omega) (by omega) (by simp; omega)
  exact ⟨v', w', k1, k2, k3, k5⟩
/-- an expression that was drawn: its Kids are owned -/
def ExV (d lo : Nat) (op n : Int) (name : ByteArray) (kids : List Ex) (v3 : Value) (w : World) : Prop :=
  I64 op ∧ I64 n ∧ name.size ≤ 1001 ∧ name ≠ zz ∧ (∀ k ∈ kids, NoZ k) ∧ kids.length ≤ 3 + d / 9 ∧ OwnT (fun m => exT m d) 25 w lo v3 kids
theorem ExV.but {d lo g : Nat} {op n : Int} {name : ByteArray} {kids : List Ex} {v3 : Value} {w w' : World} (h : ExV d lo op n name kids v3 w) (hb : ButR g w w') (hg : g < lo) : ExV d lo op n name kids v3 w' := ⟨h.1, h.2.1, h.2.2.1, h.2.2.2.1, h.2.2.2.2.1, h.2.2.2.2.2.1, h.2.2.2.2.2.2.but hb hg⟩
theorem ExV.keepT {d lo : Nat} {op n : Int} {name : ByteArray} {kids : List Ex} {v3 : Value} {w w' : World} (h : ExV d lo op n name kids v3 w) (hk : ∀ b, lo ≤ b → b < w.heap.size → w'.heap[b]? = w.heap[b]?) (hs : w.heap.size ≤ w'.heap.size) : ExV d lo op n name kids v3 w' := ⟨h.1, h.2.1, h.2.2.1, h.2.2.2.1, h.2.2.2.2.1, h.2.2.2.2.2.1, h.2.2.2.2.2.2.keepT hk hs⟩
theorem ExV.lower {d d' lo lo' : Nat} {op n : Int} {name : ByteArray} {kids : List Ex} {v3 : Value} {w : World} (h : ExV d lo op n name kids v3 w) (hd : d ≤ d') (hb : lo' ≤ lo) : ExV d' lo' op n name kids v3 w := ⟨h.1, h.2.1, h.2.2.1, h.2.2.2.1, h.2.2.2.2.1, (by have := h.2.2.2.2.2.1; omega), (h.2.2.2.2.2.2.lower hb).lift hd⟩
theorem ExV.rep {d lo : Nat} {op n : Int} {name : ByteArray} {kids : List Ex} {v3 : Value} {w : World} (h : ExV d lo op n name kids v3 w) : ∀ m, (exT m (d + 1)).rep w lo w.heap.size (.mk op n name kids) [.int .i64 op, .int .i64 n, .string name, v3] := fun m =>
  exT_mk m d op n name kids v3 h.1 h.2.1 (Nat.le_trans h.2.2.1 (by decide)) (h.2.2.2.2.2.2.slT (fun m => by rw [exT_size, exT_size]) (Nat.le_refl _) m)
theorem ExV.noZ {d lo : Nat} {op n : Int} {name : ByteArray} {kids : List Ex} {v3 : Value} {w : World} (h : ExV d lo op n name kids v3 w) (hd : d ≤ 100 := by omega) : NoZ (.mk op n name kids) := NoZ.mk h.2.2.2.1 (by have := h.2.2.2.2.2.1; omega) h.2.2.2.2.1
/-- what a draw of an expression answers -/
def DrE (g : Nat) (l : List UInt8) (p K d : Nat) (w : World) (e : Ending) (w' : World) : Prop :=
  ∃ p' op n name kids A c, e = .returned (.agg #[.int .i64 op, .int .i64 n, .string name, .slice A kids.length c]) ∧ RdAt w' g l p' ∧ p' ≤ p + K ∧ ButR g w w' ∧ ExV d w.heap.size op n name kids (.slice A kids.length c) w'
theorem DrE.fin {g : Nat} {l : List UInt8} {p K d p' lo : Nat} {w wX : World} {op n : Int} {name : ByteArray} {kids : List Ex} {A : Option Addr} {c : Nat} (hg : g < w.heap.size) (hR : RdAt wX g l p') (hp : p' ≤ p + K) (hB : ButR g w wX) (hE : ExV d lo op n name kids (.slice A kids.length c) wX) (hlo : w.heap.size < lo) :
    DrE g l p K d w (.returned (.agg #[.int .i64 op, .int .i64 n, .string name, .slice A kids.length c])) (set4 wX w.heap.size (.int .i64 op) (.int .i64 n) (.string name) (.slice A kids.length c)) := by
  have hb := set4_below wX w.heap.size (.int .i64 op) (.int .i64 n) (.string name) (.slice A kids.length c) (Nat.le_refl _)
  refine ⟨p', op, n, name, kids, A, c, rfl, hR.below hb hg, hp, hB.thenB hb hg, (hE.keepT (fun b h1 h2 => set4_block _ _ _ _ _ _ b (by omega)) (Nat.le_of_eq (set4_size _ _ _ _ _ _).symm)).lower (Nat.le_refl _) (Nat.le_of_lt hlo)⟩
end Go.Proofs.YthfinoapfbhgcaaDoor

namespace Go.Proofs.YthfinoapfbhgcaaDoor
open Go.RowKit Go.ChangeShapes Go.WideShapes Go.Deep
set_option linter.unusedSimpArgs false
set_option linter.unusedVariables false
/-- a name that may be drawn -/
def NmOk (s : ByteArray) : Prop := s.size ≤ 1001 ∧ s ≠ zz
theorem nm_all {ls : List ByteArray} (h : (ls.all fun s => decide (s.size ≤ 1001) && decide (s ≠ zz)) = true) : ∀ s ∈ ls, NmOk s := by
  intro s hs
  have := List.all_eq_true.1 h s hs
  rw [Bool.and_eq_true] at this
  exact ⟨of_decide_eq_true this.1, of_decide_eq_true this.2⟩
theorem nm_ml {ls : List ByteArray} (h : ∀ s ∈ ls, NmOk s) : ∀ s ∈ ls, s.size ≤ maxLen := fun s hs => Nat.le_trans (h s hs).1 (by decide)
def numsD : List Int := [0, 1, 2, 3, 5, 7, 15, 16, 100, 255]
theorem leaf_ev {n : Int} (hn : I64 n) (op : Int) (ho : I64 op) (s : ByteArray) (hs : NmOk s) (d lo : Nat) (w : World) : ExV d lo op n s [] (.slice none 0 0) w := ⟨ho, hn, hs.1, hs.2, (fun k hk => by cases hk), (by simp), OwnT.nil_ _ _ _ _⟩
theorem ok_empty : NmOk ⟨#[]⟩ := ⟨by decide, by decide⟩
set_option maxRecDepth 100000 in
set_option maxHeartbeats 4000000 in
theorem leaf_ok (ls : List ByteArray) (hls : ∀ s ∈ ls, NmOk s) (hlen : ls.length ≤ 10) (v1 : Value) (lo B : Nat) (l : List UInt8) (g p : Nat) (w : World) (h : RdAt w g l p) (hp : p ≤ 900000) (hv : Sl false (strS false) w lo B ls v1) (hlo : g < lo) (hB : B ≤ w.heap.size) (d : Nat) :
    Calls Tryd.prog 21 #[.pointer (some ⟨g, 0, none⟩), v1] w (DrE g l p 2 d w) := by
  have hgw := h.lt
  obtain ⟨A, cap, rfl, hlc, hcm⟩ := hv.form
  have hbA : Below w.heap.size w (w.alloc (.cells #[.int .i64 0, .int .i64 0, .string ⟨#[]⟩, .slice none 0 0] 25)) := (Below.refl _ _).alloc (Nat.le_refl _) _
  have R0 : Row (w.alloc (.cells #[.int .i64 0, .int .i64 0, .string ⟨#[]⟩, .slice none 0 0] 25)) w.heap.size 25 #[.int .i64 0, .int .i64 0, .string ⟨#[]⟩, .slice none 0 0] := Row.new w _ _
  have hB0 : ButR g w (w.alloc (.cells #[.int .i64 0, .int .i64 0, .string ⟨#[]⟩, .slice none 0 0] 25)) := (ButR.refl w).alloc hgw _
  have h0 := h.below hbA hgw
  have hv0 := hv.below hbA hB
  have hB0s : B ≤ (w.alloc (.cells #[.int .i64 0, .int .i64 0, .string ⟨#[]⟩, .slice none 0 0] 25)).heap.size := Nat.le_trans hB hbA.size
  have fin : ∀ (wX : World) (op n : Int) (s : ByteArray) (p' : Nat), RdAt wX g l p' → p' ≤ p + 2 → ButR g w wX → I64 op → I64 n → NmOk s → DrE g l p 2 d w (.returned (.agg #[.int .i64 op, .int .i64 n, .string s, .slice none 0 0])) (set4 wX w.heap.size (.int .i64 op) (.int .i64 n) (.string s) (.slice none 0 0)) := by
    intro wX op n s p' hR hp' hB' ho hn hs
    exact DrE.fin (kids := []) hgw hR hp' hB' (leaf_ev hn op ho s hs d (w.heap.size + 1) wX) (Nat.lt_succ_self _)
  replace fin := Lib.hid fin
  by_cases h00 : ls.length = 0
  · have q0 : ((ls.length : Int) == 0) = true := by rw [h00]; rfl
    have L2 := lit_int (w.alloc (.cells #[.int .i64 0, .int .i64 0, .string ⟨#[]⟩, .slice none 0 0] 25)) numsD (i64_of (by decide)) (by decide)
    have hb2 := (Below.refl _ (w.alloc (.cells #[.int .i64 0, .int .i64 0, .string ⟨#[]⟩, .slice none 0 0] 25))).alloc (Nat.le_refl _) (.cells (numsD.map (Value.int .i64)).toArray 3)
    have hg1 := h0.lt
    have R1 := R0.alloc (.cells (numsD.map (Value.int .i64)).toArray 3)
    have hB1 := hB0.alloc hgw (.cells (numsD.map (Value.int .i64)).toArray 3)
    have hs1 : (w.alloc (.cells #[.int .i64 0, .int .i64 0, .string ⟨#[]⟩, .slice none 0 0] 25)).heap.size = w.heap.size + 1 := by simp
    rw [hs1] at L2
    clear h00
    go_enter Tryd.func21, Tryd.ntmps21
    go_wp2_with fail
    refine (num_ok numsD (by decide) (by decide) I64 (i64_of (by decide)) _ _ _ l g p _ (h0.below hb2 hg1) (by omega) L2 (by omega) (Nat.le_refl _)).mono ?_
    rintro e w2 ⟨v, p2, rfl, h2, hp2, hb2, x, hx, rfl⟩
    have R2 := hb2.row R1 hgw
    have s0 : w2.cell? ⟨w.heap.size, 0, none⟩ = some (.int .i64 0) := R2.cell 0
    have s1 : w2.cell? ⟨w.heap.size, 1, none⟩ = some (.int .i64 0) := R2.cell 1
    have s2 : w2.cell? ⟨w.heap.size, 2, none⟩ = some (.string ⟨#[]⟩) := R2.cell 2
    have s3 : w2.cell? ⟨w.heap.size, 3, none⟩ = some (.slice none 0 0) := R2.cell 3
    have f0 : w2.frozen? ⟨w.heap.size, 0, none⟩ = false := R2.frozen 0
    have f1 : w2.frozen? ⟨w.heap.size, 1, none⟩ = false := R2.frozen 1
    have f2 : w2.frozen? ⟨w.heap.size, 2, none⟩ = false := R2.frozen 2
    have f3 : w2.frozen? ⟨w.heap.size, 3, none⟩ = false := R2.frozen 3
    have F := Lib.hid (fin.out w2 1 x ⟨#[]⟩ p2 h2 (by omega) (hB1.trans hb2) ⟨by omega, by omega⟩ hx ok_empty)
    go_wp2_with fail
    refine bodyPost_ret (v := .agg #[.int .i64 1, .int .i64 x, .string ⟨#[]⟩, .slice none 0 0]) (by simp [results, Tryd.results21, go_sem, s0, s1, s2, s3]) rfl F.out
  have q0 : ((ls.length : Int) == 0) = false := beq_eq_false_iff_ne.2 (by omega)
  go_enter Tryd.func21, Tryd.ntmps21
  go_wp2_with fail
  refine (pick_ok 3 (by omega) (by omega) l g p _ h0 (by omega)).mono ?_
  rintro e w2 ⟨v, p2, rfl, h2, hp2, hb2, k, hk, rfl⟩
  have R2 := hb2.row R0 hgw
  have hB2 := hB0.trans hb2
  have hg2 := h2.lt
  clear hB0 R0
  by_cases k0 : k = 0
  · subst k0
    have L2 := lit_int w2 numsD (i64_of (by decide)) (by decide)
    go_wp2_with fail
    refine (num_ok numsD (by decide) (by decide) I64 (i64_of (by decide)) _ _ _ l g p2 _ (h2.below ((Below.refl _ _).alloc (Nat.le_refl _) _) hg2) (by omega) L2 hg2 (Nat.le_refl _)).mono ?_
    rintro e w3 ⟨v, p3, rfl, h3, hp3, hb3, x, hx, rfl⟩
    have R3 := hb3.row (R2.alloc _) hgw
    have s0 : w3.cell? ⟨w.heap.size, 0, none⟩ = some (.int .i64 0) := R3.cell 0
    have s1 : w3.cell? ⟨w.heap.size, 1, none⟩ = some (.int .i64 0) := R3.cell 1
    have s2 : w3.cell? ⟨w.heap.size, 2, none⟩ = some (.string ⟨#[]⟩) := R3.cell 2
    have s3 : w3.cell? ⟨w.heap.size, 3, none⟩ = some (.slice none 0 0) := R3.cell 3
    have f0 : w3.frozen? ⟨w.heap.size, 0, none⟩ = false := R3.frozen 0
    have f1 : w3.frozen? ⟨w.heap.size, 1, none⟩ = false := R3.frozen 1
    have f2 : w3.frozen? ⟨w.heap.size, 2, none⟩ = false := R3.frozen 2
    have f3 : w3.frozen? ⟨w.heap.size, 3, none⟩ = false := R3.frozen 3
    have F := Lib.hid (fin.out w3 1 x ⟨#[]⟩ p3 h3 (by omega) ((hB2.alloc hgw _).trans hb3) ⟨by omega, by omega⟩ hx ok_empty)
    go_wp2_with fail
    refine bodyPost_ret (v := .agg #[.int .i64 1, .int .i64 x, .string ⟨#[]⟩, .slice none 0 0]) (by simp [results, Tryd.results21, go_sem, s0, s1, s2, s3]) rfl F.out
  · have q1 : ((k : Int) == 0) = false := by simpa using k0
    go_wp2_with fail
    refine (of_ok ls (by omega) (by omega) NmOk hls _ lo B l g p2 _ h2 (by omega) (hb2.sl hv0 hlo hB0s) hlo (Nat.le_trans hB0s hb2.1.size)).mono ?_
    rintro e w3 ⟨v, p3, rfl, h3, hp3, hb3, s, hs, rfl⟩
    have R3 := hb3.row R2 hgw
    have s0 : w3.cell? ⟨w.heap.size, 0, none⟩ = some (.int .i64 0) := R3.cell 0
    have s1 : w3.cell? ⟨w.heap.size, 1, none⟩ = some (.int .i64 0) := R3.cell 1
    have s2 : w3.cell? ⟨w.heap.size, 2, none⟩ = some (.string ⟨#[]⟩) := R3.cell 2
    have s3 : w3.cell? ⟨w.heap.size, 3, none⟩ = some (.slice none 0 0) := R3.cell 3
    have f0 : w3.frozen? ⟨w.heap.size, 0, none⟩ = false := R3.frozen 0
    have f1 : w3.frozen? ⟨w.heap.size, 1, none⟩ = false := R3.frozen 1
    have f2 : w3.frozen? ⟨w.heap.size, 2, none⟩ = false := R3.frozen 2
    have f3 : w3.frozen? ⟨w.heap.size, 3, none⟩ = false := R3.frozen 3
    have F := Lib.hid (fin.out w3 2 0 s p3 h3 (by omega) (hB2.trans hb3) ⟨by omega, by omega⟩ ⟨by omega, by omega⟩ hs)
    go_wp2_with fail
    refine bodyPost_ret (v := .agg #[.int .i64 2, .int .i64 0, .string s, .slice none 0 0]) (by simp [results, Tryd.results21, go_sem, s0, s1, s2, s3]) rfl F.out
end Go.Proofs.YthfinoapfbhgcaaDoor

namespace Go.Proofs.YthfinoapfbhgcaaDoor
open Go.RowKit Go.ChangeShapes Go.WideShapes Go.Deep
set_option linter.unusedSimpArgs false
set_option linter.unusedVariables false
/-- how many numbers an expression takes -/
def kE : Nat → Nat
  | 0 => 4
  | d + 1 => 2 * kE d + 4
theorem kE_pos : ∀ d : Nat, 4 ≤ kE d
  | 0 => Nat.le_refl _
  | d + 1 => by rw [kE]; omega
def ExprAt (d : Nat) : Prop := ∀ (x : Int) (_ : x = (d : Int)) (ls : List ByteArray) (_ : ∀ s ∈ ls, NmOk s) (_ : ls.length ≤ 10) (v1 : Value) (lo B : Nat) (l : List UInt8) (g p : Nat) (w : World) (_ : RdAt w g l p) (_ : p + kE d ≤ 900000) (_ : Sl false (strS false) w lo B ls v1) (_ : g < lo) (_ : B ≤ w.heap.size),
  Calls Tryd.prog 31 #[.pointer (some ⟨g, 0, none⟩), v1, .int .i64 x] w (DrE g l p (kE d) d w)
set_option maxRecDepth 100000 in
set_option maxHeartbeats 8000000 in
theorem expr_step (d : Nat) (hd : d ≤ 100) (ih : ∀ d', d = d' + 1 → ExprAt d') : ExprAt d := by
  intro x hx ls hls hlen v1 lo B l g p w h hp hv hlo hB
  have hgw := h.lt
  have hbA : Below w.heap.size w (w.alloc (.cells #[.int .i64 0, .int .i64 0, .string ⟨#[]⟩, .slice none 0 0] 25)) := (Below.refl _ _).alloc (Nat.le_refl _) _
  have R0 : Row (w.alloc (.cells #[.int .i64 0, .int .i64 0, .string ⟨#[]⟩, .slice none 0 0] 25)) w.heap.size 25 #[.int .i64 0, .int .i64 0, .string ⟨#[]⟩, .slice none 0 0] := Row.new w _ _
  have hB0 : ButR g w (w.alloc (.cells #[.int .i64 0, .int .i64 0, .string ⟨#[]⟩, .slice none 0 0] 25)) := (ButR.refl w).alloc hgw _
  have h0 := h.below hbA hgw
  have hlt0 : w.heap.size < (w.alloc (.cells #[.int .i64 0, .int .i64 0, .string ⟨#[]⟩, .slice none 0 0] 25)).heap.size := by simp
  have hK := kE_pos d
  obtain ⟨A, cap, rfl, hlc, hcm⟩ := hv.form
  have hv0 := hv.below hbA hB
  have hB0s : B ≤ (w.alloc (.cells #[.int .i64 0, .int .i64 0, .string ⟨#[]⟩, .slice none 0 0] 25)).heap.size := Nat.le_trans hB hbA.size
  by_cases hd2 : d < 2
  · have hx2 : x < 2 := by omega
    clear ih
    go_enter Tryd.func31, Tryd.ntmps31
    go_wp2_with fail
    refine (leaf_ok ls hls hlen _ lo B l g p _ h0 (by omega) hv0 hlo hB0s d).mono ?_
    rintro e w2 ⟨p2, op, n, name, kids, A3, c3, rfl, h2, hp2, hb2, hE⟩
    have R2 := hb2.row R0 hgw
    have s0 : w2.cell? ⟨w.heap.size, 0, none⟩ = some (.int .i64 0) := R2.cell 0
    have s1 : w2.cell? ⟨w.heap.size, 1, none⟩ = some (.int .i64 0) := R2.cell 1
    have s2 : w2.cell? ⟨w.heap.size, 2, none⟩ = some (.string ⟨#[]⟩) := R2.cell 2
    have s3 : w2.cell? ⟨w.heap.size, 3, none⟩ = some (.slice none 0 0) := R2.cell 3
    have sf0 : w2.frozen? ⟨w.heap.size, 0, none⟩ = false := R2.frozen 0
    have sf1 : w2.frozen? ⟨w.heap.size, 1, none⟩ = false := R2.frozen 1
    have sf2 : w2.frozen? ⟨w.heap.size, 2, none⟩ = false := R2.frozen 2
    have sf3 : w2.frozen? ⟨w.heap.size, 3, none⟩ = false := R2.frozen 3
    have F := Lib.hid (DrE.fin (p := p) (K := kE d) hgw h2 (by omega) (hB0.trans hb2) hE hlt0)
    go_wp2_with fail
    refine bodyPost_ret (v := .agg #[.int .i64 op, .int .i64 n, .string name, .slice A3 kids.length c3]) (by simp [results, Tryd.results31, go_sem, s0, s1, s2, s3]) rfl F.out
  obtain ⟨d', rfl⟩ : ∃ d', d = d' + 1 := ⟨d - 1, by omega⟩
  have IH := Lib.hid (ih d' rfl)
  clear ih
  have hk1 : kE (d' + 1) = 2 * kE d' + 4 := rfl
  have hK1 := kE_pos d'
  have hx2 : decide (x < 2) = false := by simp; omega
  have hxI : x ≤ 1000 := by omega
  have hxJ : 0 ≤ x := by omega
  go_enter Tryd.func31, Tryd.ntmps31
  go_wp2_with fail
  refine (pick_ok 4 (by omega) (by omega) l g p _ h0 (by omega)).mono ?_
  rintro e w2 ⟨v, p2, rfl, h2, hp2, hb2, k, hk, rfl⟩
  have R2 := hb2.row R0 hgw
  have hB2 := hB0.trans hb2
  have hv2 := hb2.sl hv0 hlo hB0s
  have hs2 : B ≤ w2.heap.size := Nat.le_trans hB0s hb2.1.size
  have hlt2 : w.heap.size < w2.heap.size := Nat.lt_of_lt_of_le hlt0 hb2.1.size
  clear hB0 R0 hv0 hb2 hv
  by_cases k0 : k = 0
  · subst k0
    go_wp2_with fail
    refine (leaf_ok ls hls hlen _ lo B l g p2 _ h2 (by omega) hv2 hlo hs2 (d' + 1)).mono ?_
    rintro e w3 ⟨p3, op, n, name, kids, A3, c3, rfl, h3, hp3, hb3, hE⟩
    have R3 := hb3.row R2 hgw
    have s0 : w3.cell? ⟨w.heap.size, 0, none⟩ = some (.int .i64 0) := R3.cell 0
    have s1 : w3.cell? ⟨w.heap.size, 1, none⟩ = some (.int .i64 0) := R3.cell 1
    have s2 : w3.cell? ⟨w.heap.size, 2, none⟩ = some (.string ⟨#[]⟩) := R3.cell 2
    have s3 : w3.cell? ⟨w.heap.size, 3, none⟩ = some (.slice none 0 0) := R3.cell 3
    have sf0 : w3.frozen? ⟨w.heap.size, 0, none⟩ = false := R3.frozen 0
    have sf1 : w3.frozen? ⟨w.heap.size, 1, none⟩ = false := R3.frozen 1
    have sf2 : w3.frozen? ⟨w.heap.size, 2, none⟩ = false := R3.frozen 2
    have sf3 : w3.frozen? ⟨w.heap.size, 3, none⟩ = false := R3.frozen 3
    have F := Lib.hid (DrE.fin (p := p) (K := kE (d' + 1)) hgw h3 (by omega) (hB2.trans hb3) hE hlt2)
    go_wp2_with fail
    refine bodyPost_ret (v := .agg #[.int .i64 op, .int .i64 n, .string name, .slice A3 kids.length c3]) (by simp [results, Tryd.results31, go_sem, s0, s1, s2, s3]) rfl F.out
  have q0 : ((k : Int) == 0) = false := by simpa using k0
  go_wp2_with fail
  refine (pick_ok 7 (by omega) (by omega) l g p2 _ h2 (by omega)).mono ?_
  rintro e w3 ⟨v, p3, rfl, h3, hp3, hb3, k7, hk7, rfl⟩
  have R3 := hb3.row R2 hgw
  have hB3 := hB2.trans hb3
  have hv3 := hb3.sl hv2 hlo hs2
  have hs3 : B ≤ w3.heap.size := Nat.le_trans hs2 hb3.1.size
  have hlt3 : w.heap.size < w3.heap.size := Nat.lt_of_lt_of_le hlt2 hb3.1.size
  have hg3 := h3.lt
  clear hB2 R2 hv2 hb3
  by_cases k1 : k7 = 0
  · subst k1
    have L4 := lit_int w3 [11, 12, 11] (i64_of (by decide)) (by decide)
    have hb4 := (Below.refl _ w3).alloc (Nat.le_refl _) (.cells ([11, 12, 11].map (Value.int .i64)).toArray 3)
    have R4 := R3.alloc (.cells ([11, 12, 11].map (Value.int .i64)).toArray 3)
    have hv4 := hv3.below hb4 hs3
    have hB4 := hB3.alloc hgw (.cells ([11, 12, 11].map (Value.int .i64)).toArray 3)
    have hs4 := Nat.le_trans hs3 hb4.size
    have hlt4 := Nat.lt_of_lt_of_le hlt3 hb4.size
    go_wp2_with fail
    refine (num_ok [11, 12, 11] (by decide) (by decide) I64 (i64_of (by decide)) _ _ _ l g p3 _ (h3.below hb4 hg3) (by omega) L4 hg3 (Nat.le_refl _)).mono ?_
    rintro e w5 ⟨v, p5, rfl, h5, hp5, hb5, y, hy, rfl⟩
    have R5 := hb5.row R4 hgw
    have hB5 := hB4.trans hb5
    have hv5 := hb5.sl hv4 hlo hs4
    have hs5 : B ≤ w5.heap.size := Nat.le_trans hs4 hb5.1.size
    have hlt5 : w.heap.size < w5.heap.size := Nat.lt_of_lt_of_le hlt4 hb5.1.size
    clear L4 R4 hv4 hB4 hb5
    go_wp2_with fail
    refine (IH.out _ rfl ls hls hlen _ lo B l g p5 _ h5 (by omega) hv5 hlo hs5).mono ?_
    rintro e w6 ⟨p6, op, n, name, kids, A3, c3, rfl, h6, hp6, hb6, hE⟩
    have R6 := hb6.row R5 hgw
    have hB6 := hB5.trans hb6
    have hg6 := h6.lt
    have hsz6 := hb6.1.size
    have hb7 := (Below.refl _ w6).alloc (Nat.le_refl _) (.cells #[.int .i64 op, .int .i64 n, .string name, .slice A3 kids.length c3] 25)
    have R7 := R6.alloc (.cells #[.int .i64 op, .int .i64 n, .string name, .slice A3 kids.length c3] 25)
    have RN : Row (w6.alloc (.cells #[.int .i64 op, .int .i64 n, .string name, .slice A3 kids.length c3] 25)) w6.heap.size 25 #[.int .i64 op, .int .i64 n, .string name, .slice A3 kids.length c3] := Row.new _ _ _
    have own : OwnT (fun m => exT m (d' + 1)) 25 (w6.alloc (.cells #[.int .i64 op, .int .i64 n, .string name, .slice A3 kids.length c3] 25)) w5.heap.size (.slice (some ⟨w6.heap.size, 0, none⟩) 1 1) [.mk op n name kids] :=
      own_one (p := w5.heap.size) (q := w6.heap.size) RN hsz6 (Nat.le_refl _) hsz6 hb7.size (Or.inr (Nat.le_refl _)) (fun m => (exT m (d' + 1)).below (hE.rep m) hb7 (Nat.le_refl _))
    have hEN : ExV (d' + 1) w5.heap.size y 0 ⟨#[]⟩ [.mk op n name kids] (.slice (some ⟨w6.heap.size, 0, none⟩) 1 1) (w6.alloc (.cells #[.int .i64 op, .int .i64 n, .string name, .slice A3 kids.length c3] 25)) :=
      ⟨hy, ⟨by omega, by omega⟩, ok_empty.1, ok_empty.2, (fun k hk => by obtain rfl := List.mem_singleton.1 hk; exact hE.noZ), (by simp only [List.length_cons, List.length_nil]; omega), own⟩
    have F := Lib.hid (DrE.fin (p := p) (K := kE (d' + 1)) (kids := [.mk op n name kids]) hgw (h6.below hb7 hg6) (by omega) (hB6.alloc hgw _) hEN hlt5)
    have s0 : (w6.alloc (.cells #[.int .i64 op, .int .i64 n, .string name, .slice A3 kids.length c3] 25)).cell? ⟨w.heap.size, 0, none⟩ = some (.int .i64 0) := R7.cell 0
    have s1 : (w6.alloc (.cells #[.int .i64 op, .int .i64 n, .string name, .slice A3 kids.length c3] 25)).cell? ⟨w.heap.size, 1, none⟩ = some (.int .i64 0) := R7.cell 1
    have s2 : (w6.alloc (.cells #[.int .i64 op, .int .i64 n, .string name, .slice A3 kids.length c3] 25)).cell? ⟨w.heap.size, 2, none⟩ = some (.string ⟨#[]⟩) := R7.cell 2
    have s3 : (w6.alloc (.cells #[.int .i64 op, .int .i64 n, .string name, .slice A3 kids.length c3] 25)).cell? ⟨w.heap.size, 3, none⟩ = some (.slice none 0 0) := R7.cell 3
    have sf0 : (w6.alloc (.cells #[.int .i64 op, .int .i64 n, .string name, .slice A3 kids.length c3] 25)).frozen? ⟨w.heap.size, 0, none⟩ = false := R7.frozen 0
    have sf1 : (w6.alloc (.cells #[.int .i64 op, .int .i64 n, .string name, .slice A3 kids.length c3] 25)).frozen? ⟨w.heap.size, 1, none⟩ = false := R7.frozen 1
    have sf2 : (w6.alloc (.cells #[.int .i64 op, .int .i64 n, .string name, .slice A3 kids.length c3] 25)).frozen? ⟨w.heap.size, 2, none⟩ = false := R7.frozen 2
    have sf3 : (w6.alloc (.cells #[.int .i64 op, .int .i64 n, .string name, .slice A3 kids.length c3] 25)).frozen? ⟨w.heap.size, 3, none⟩ = false := R7.frozen 3
    clear own hEN hE hB6 hB5 hb6 hb7 RN
    go_wp2_with fail
    refine bodyPost_ret (v := .agg #[.int .i64 y, .int .i64 0, .string ⟨#[]⟩, .slice (some ⟨w6.heap.size, 0, none⟩) 1 1]) (by simp [results, Tryd.results31, go_sem, s0, s1, s2, s3]) rfl F.out
  have q1 : ((k7 : Int) == 0) = false := by simpa using k1
  have L4 := lit_int w3 [3, 3, 4, 5, 6, 7, 8, 9, 10] (i64_of (by decide)) (by decide)
  have hb4 := (Below.refl _ w3).alloc (Nat.le_refl _) (.cells ([3, 3, 4, 5, 6, 7, 8, 9, 10].map (Value.int .i64)).toArray 3)
  have R4 := R3.alloc (.cells ([3, 3, 4, 5, 6, 7, 8, 9, 10].map (Value.int .i64)).toArray 3)
  have hv4 := hv3.below hb4 hs3
  have hB4 := hB3.alloc hgw (.cells ([3, 3, 4, 5, 6, 7, 8, 9, 10].map (Value.int .i64)).toArray 3)
  have hs4 := Nat.le_trans hs3 hb4.size
  have hlt4 := Nat.lt_of_lt_of_le hlt3 hb4.size
  go_wp2_with fail
  refine (num_ok [3, 3, 4, 5, 6, 7, 8, 9, 10] (by decide) (by decide) I64 (i64_of (by decide)) _ _ _ l g p3 _ (h3.below hb4 hg3) (by omega) L4 hg3 (Nat.le_refl _)).mono ?_
  rintro e w5 ⟨v, p5, rfl, h5, hp5, hb5, y, hy, rfl⟩
  have R5 := hb5.row R4 hgw
  have hB5 := hB4.trans hb5
  have hv5 := hb5.sl hv4 hlo hs4
  have hs5 : B ≤ w5.heap.size := Nat.le_trans hs4 hb5.1.size
  have hlt5 : w.heap.size < w5.heap.size := Nat.lt_of_lt_of_le hlt4 hb5.1.size
  have hg5 := h5.lt
  clear L4 R4 hv4 hB4 hb5
  go_wp2_with fail
  refine (IH.out _ rfl ls hls hlen _ lo B l g p5 _ h5 (by omega) hv5 hlo hs5).mono ?_
  rintro e w6 ⟨p6, op, n, name, kids, A3, c3, rfl, h6, hp6, hb6, hE⟩
  have R6 := hb6.row R5 hgw
  have hB6 := hB5.trans hb6
  have hg6 := h6.lt
  have hv6 := hb6.sl hv5 hlo hs5
  have hs6 : B ≤ w6.heap.size := Nat.le_trans hs5 hb6.1.size
  have hsz6 := hb6.1.size
  go_wp2_with fail
  refine (IH.out _ rfl ls hls hlen _ lo B l g p6 _ h6 (by omega) hv6 hlo hs6).mono ?_
  rintro e w7 ⟨p7, op', n', name', kids', A4, c4, rfl, h7, hp7, hb7, hE'⟩
  have R7 := hb7.row R6 hgw
  have hB7 := hB6.trans hb7
  have hg7 := h7.lt
  have hsz7 := hb7.1.size
  have hb8 := (Below.refl _ w7).alloc (Nat.le_refl _) (.cells #[.int .i64 op, .int .i64 n, .string name, .slice A3 kids.length c3, .int .i64 op', .int .i64 n', .string name', .slice A4 kids'.length c4] 25)
  have R8 := R7.alloc (.cells #[.int .i64 op, .int .i64 n, .string name, .slice A3 kids.length c3, .int .i64 op', .int .i64 n', .string name', .slice A4 kids'.length c4] 25)
  have RN : Row (w7.alloc (.cells #[.int .i64 op, .int .i64 n, .string name, .slice A3 kids.length c3, .int .i64 op', .int .i64 n', .string name', .slice A4 kids'.length c4] 25)) w7.heap.size 25 #[.int .i64 op, .int .i64 n, .string name, .slice A3 kids.length c3, .int .i64 op', .int .i64 n', .string name', .slice A4 kids'.length c4] := Row.new _ _ _
  have own : OwnT (fun m => exT m (d' + 1)) 25 (w7.alloc (.cells #[.int .i64 op, .int .i64 n, .string name, .slice A3 kids.length c3, .int .i64 op', .int .i64 n', .string name', .slice A4 kids'.length c4] 25)) w5.heap.size (.slice (some ⟨w7.heap.size, 0, none⟩) 2 2) [.mk op n name kids, .mk op' n' name' kids'] :=
    own_two (p := w5.heap.size) (q := w6.heap.size) (p' := w6.heap.size) (q' := w7.heap.size) RN (Nat.le_trans hsz6 hsz7) (Nat.le_refl _) hsz6 (Nat.le_refl _) hsz7 hb8.size (Or.inr (Nat.le_refl _))
      (fun m => (exT m (d' + 1)).below ((exT m (d' + 1)).keep (hE.rep m) (Nat.le_refl _) (Nat.le_refl _) (fun b h1 h2 => hb7.2 b (by omega) h2)) hb8 hsz7) (fun m => (exT m (d' + 1)).below (hE'.rep m) hb8 (Nat.le_refl _))
  have hEN : ExV (d' + 1) w5.heap.size y 0 ⟨#[]⟩ [.mk op n name kids, .mk op' n' name' kids'] (.slice (some ⟨w7.heap.size, 0, none⟩) 2 2) (w7.alloc (.cells #[.int .i64 op, .int .i64 n, .string name, .slice A3 kids.length c3, .int .i64 op', .int .i64 n', .string name', .slice A4 kids'.length c4] 25)) :=
    ⟨hy, ⟨by omega, by omega⟩, ok_empty.1, ok_empty.2, (fun k hk => by
      rcases List.mem_cons.1 hk with rfl | hk
      · exact hE.noZ
      · obtain rfl := List.mem_singleton.1 hk; exact hE'.noZ), (by simp only [List.length_cons, List.length_nil]; omega), own⟩
  have F := Lib.hid (DrE.fin (p := p) (K := kE (d' + 1)) (kids := [.mk op n name kids, .mk op' n' name' kids']) hgw (h7.below hb8 hg7) (by omega) (hB7.alloc hgw _) hEN hlt5)
  have s0 : (w7.alloc (.cells #[.int .i64 op, .int .i64 n, .string name, .slice A3 kids.length c3, .int .i64 op', .int .i64 n', .string name', .slice A4 kids'.length c4] 25)).cell? ⟨w.heap.size, 0, none⟩ = some (.int .i64 0) := R8.cell 0
  have s1 : (w7.alloc (.cells #[.int .i64 op, .int .i64 n, .string name, .slice A3 kids.length c3, .int .i64 op', .int .i64 n', .string name', .slice A4 kids'.length c4] 25)).cell? ⟨w.heap.size, 1, none⟩ = some (.int .i64 0) := R8.cell 1
  have s2 : (w7.alloc (.cells #[.int .i64 op, .int .i64 n, .string name, .slice A3 kids.length c3, .int .i64 op', .int .i64 n', .string name', .slice A4 kids'.length c4] 25)).cell? ⟨w.heap.size, 2, none⟩ = some (.string ⟨#[]⟩) := R8.cell 2
  have s3 : (w7.alloc (.cells #[.int .i64 op, .int .i64 n, .string name, .slice A3 kids.length c3, .int .i64 op', .int .i64 n', .string name', .slice A4 kids'.length c4] 25)).cell? ⟨w.heap.size, 3, none⟩ = some (.slice none 0 0) := R8.cell 3
  have sf0 : (w7.alloc (.cells #[.int .i64 op, .int .i64 n, .string name, .slice A3 kids.length c3, .int .i64 op', .int .i64 n', .string name', .slice A4 kids'.length c4] 25)).frozen? ⟨w.heap.size, 0, none⟩ = false := R8.frozen 0
  have sf1 : (w7.alloc (.cells #[.int .i64 op, .int .i64 n, .string name, .slice A3 kids.length c3, .int .i64 op', .int .i64 n', .string name', .slice A4 kids'.length c4] 25)).frozen? ⟨w.heap.size, 1, none⟩ = false := R8.frozen 1
  have sf2 : (w7.alloc (.cells #[.int .i64 op, .int .i64 n, .string name, .slice A3 kids.length c3, .int .i64 op', .int .i64 n', .string name', .slice A4 kids'.length c4] 25)).frozen? ⟨w.heap.size, 2, none⟩ = false := R8.frozen 2
  have sf3 : (w7.alloc (.cells #[.int .i64 op, .int .i64 n, .string name, .slice A3 kids.length c3, .int .i64 op', .int .i64 n', .string name', .slice A4 kids'.length c4] 25)).frozen? ⟨w.heap.size, 3, none⟩ = false := R8.frozen 3
  clear own hEN hE hE' hB6 hB5 hB7 hb6 hb7 hb8 RN
  go_wp2_with fail
  refine bodyPost_ret (v := .agg #[.int .i64 y, .int .i64 0, .string ⟨#[]⟩, .slice (some ⟨w7.heap.size, 0, none⟩) 2 2]) (by simp [results, Tryd.results31, go_sem, s0, s1, s2, s3]) rfl F.out
theorem expr_ok : ∀ d : Nat, d ≤ 100 → ExprAt d
  | 0 => fun hd => expr_step 0 hd (fun d' h => by omega)
  | d + 1 => fun hd => expr_step (d + 1) hd (fun d' h => by obtain rfl : d' = d := (by omega); exact expr_ok d' (by omega))
end Go.Proofs.YthfinoapfbhgcaaDoor

namespace Go.Proofs.YthfinoapfbhgcaaDoor
open Go.RowKit Go.ChangeShapes Go.WideShapes Go.Deep
set_option linter.unusedSimpArgs false
set_option linter.unusedVariables false
/-- how many numbers it takes -/
def kA (d : Nat) : Nat := kE d + 90
set_option maxRecDepth 100000 in
set_option maxHeartbeats 16000000 in
theorem any_ok (d : Nat) (hd : d ≤ 7) (x : Int) (hx : x = (d : Int)) (l : List UInt8) (g p : Nat) (w : World) (h : RdAt w g l p) (hp : p + kA d ≤ 900000) :
    Calls Tryd.prog 17 #[.pointer (some ⟨g, 0, none⟩), .int .i64 x] w (DrE g l p (kA d) 8 w) := by
  subst hx
  have hkA : kA d = kE d + 90 := rfl
  have hgw := h.lt
  have hbA : Below w.heap.size w (w.alloc (.cells #[.int .i64 0, .int .i64 0, .string ⟨#[]⟩, .slice none 0 0] 25)) := (Below.refl _ _).alloc (Nat.le_refl _) _
  have R0 : Row (w.alloc (.cells #[.int .i64 0, .int .i64 0, .string ⟨#[]⟩, .slice none 0 0] 25)) w.heap.size 25 #[.int .i64 0, .int .i64 0, .string ⟨#[]⟩, .slice none 0 0] := Row.new w _ _
  have hB0 : ButR g w (w.alloc (.cells #[.int .i64 0, .int .i64 0, .string ⟨#[]⟩, .slice none 0 0] 25)) := (ButR.refl w).alloc hgw _
  have h0 := h.below hbA hgw
  have hlt0 : w.heap.size < (w.alloc (.cells #[.int .i64 0, .int .i64 0, .string ⟨#[]⟩, .slice none 0 0] 25)).heap.size := by simp
  have hs1 : (w.alloc (.cells #[.int .i64 0, .int .i64 0, .string ⟨#[]⟩, .slice none 0 0] 25)).heap.size = w.heap.size + 1 := by simp
  have L1 := lit_str (w.alloc (.cells #[.int .i64 0, .int .i64 0, .string ⟨#[]⟩, .slice none 0 0] 25)) [⟨#[97]⟩, ⟨#[98]⟩, ⟨#[120]⟩, ⟨#[103, 111]⟩] (nm_ml (nm_all (by decide +kernel))) (by decide)
  rw [hs1] at L1
  have st1 := (Below.refl _ (w.alloc (.cells #[.int .i64 0, .int .i64 0, .string ⟨#[]⟩, .slice none 0 0] 25))).alloc (Nat.le_refl _) (.cells (([⟨#[97]⟩, ⟨#[98]⟩, ⟨#[120]⟩, ⟨#[103, 111]⟩] : List ByteArray).map Value.string).toArray 9)
  have hsz1 : w.heap.size + 1 + 1 = ((w.alloc (.cells #[.int .i64 0, .int .i64 0, .string ⟨#[]⟩, .slice none 0 0] 25)).alloc (.cells (([⟨#[97]⟩, ⟨#[98]⟩, ⟨#[120]⟩, ⟨#[103, 111]⟩] : List ByteArray).map Value.string).toArray 9)).heap.size := by simp
  have hBs1 := hB0.alloc hgw (.cells (([⟨#[97]⟩, ⟨#[98]⟩, ⟨#[120]⟩, ⟨#[103, 111]⟩] : List ByteArray).map Value.string).toArray 9)
  have Rs1 := R0.alloc (.cells (([⟨#[97]⟩, ⟨#[98]⟩, ⟨#[120]⟩, ⟨#[103, 111]⟩] : List ByteArray).map Value.string).toArray 9)
  have hs1' := h0.lt
  go_enter Tryd.func17, Tryd.ntmps17
  go_wp2_with fail
  refine (expr_ok d (by omega) _ rfl [⟨#[97]⟩, ⟨#[98]⟩, ⟨#[120]⟩, ⟨#[103, 111]⟩] (nm_all (by decide +kernel)) (by decide) _ _ _ l g p _ (h0.below st1 hs1') (by omega) L1 (by omega) (Nat.le_refl _)).mono ?_
  rintro e w2 ⟨p2, op, n, name, kids, A3, c3, rfl, h2, hp2, hb2, hE0⟩
  have hE : ExV d (w.heap.size + 1) op n name kids (.slice A3 kids.length c3) w2 := hE0.lower (Nat.le_refl _) (by rw [← hsz1]; omega)
  have R2 := hb2.row Rs1 hgw
  have hB2 := hBs1.trans hb2
  have hg2 := h2.lt
  have hsz2 : w.heap.size + 1 + 1 ≤ w2.heap.size := hsz1 ▸ hb2.1.size
  have hlo2 : g < w.heap.size + 1 := by omega
  have st3 := (Below.refl _ w2).alloc (Nat.le_refl _) (.cells #[.int .i64 op, .int .i64 n, .string name, .slice A3 kids.length c3] 25)
  have B3 : Row (w2.alloc (.cells #[.int .i64 op, .int .i64 n, .string name, .slice A3 kids.length c3] 25)) w2.heap.size 25 #[.int .i64 op, .int .i64 n, .string name, .slice A3 kids.length c3] := Row.new _ _ _
  have h3 := h2.below st3 hg2
  clear hb2 hE0 L1 Rs1 hBs1 st1 R0 hB0
  go_wp2_with fail
  refine (pick_ok 3 (by omega) (by omega) l g p2 _ h3 (by omega)).mono ?_
  rintro e w4 ⟨v, p4, rfl, h4, hp4, hb4, k, hk, rfl⟩
  have R4 := hb4.row (R2.alloc (.cells #[.int .i64 op, .int .i64 n, .string name, .slice A3 kids.length c3] 25)) hgw
  have B4 := hb4.row B3 hg2
  have hB24 : ButR g w2 w4 := ((ButR.refl w2).alloc hg2 _).trans hb4
  have hB4 := hB2.trans hB24
  have hsz4 := B4.lt
  clear R2 B3 hb4 st3 h3
  by_cases k0 : k = 0
  case neg =>
    have q0 : (0 : Int) < (k : Int) := by omega
    have s0 : w4.cell? ⟨w.heap.size, 0, none⟩ = some (.int .i64 0) := R4.cell 0
    have s1 : w4.cell? ⟨w.heap.size, 1, none⟩ = some (.int .i64 0) := R4.cell 1
    have s2 : w4.cell? ⟨w.heap.size, 2, none⟩ = some (.string ⟨#[]⟩) := R4.cell 2
    have s3 : w4.cell? ⟨w.heap.size, 3, none⟩ = some (.slice none 0 0) := R4.cell 3
    have sf0 : w4.frozen? ⟨w.heap.size, 0, none⟩ = false := R4.frozen 0
    have sf1 : w4.frozen? ⟨w.heap.size, 1, none⟩ = false := R4.frozen 1
    have sf2 : w4.frozen? ⟨w.heap.size, 2, none⟩ = false := R4.frozen 2
    have sf3 : w4.frozen? ⟨w.heap.size, 3, none⟩ = false := R4.frozen 3
    have y0 : w4.cell? ⟨w2.heap.size, 0, none⟩ = some (.int .i64 op) := B4.cell 0
    have y1 : w4.cell? ⟨w2.heap.size, 1, none⟩ = some (.int .i64 n) := B4.cell 1
    have y2 : w4.cell? ⟨w2.heap.size, 2, none⟩ = some (.string name) := B4.cell 2
    have y3 : w4.cell? ⟨w2.heap.size, 3, none⟩ = some (.slice A3 kids.length c3) := B4.cell 3
    have yf0 : w4.frozen? ⟨w2.heap.size, 0, none⟩ = false := B4.frozen 0
    have yf1 : w4.frozen? ⟨w2.heap.size, 1, none⟩ = false := B4.frozen 1
    have yf2 : w4.frozen? ⟨w2.heap.size, 2, none⟩ = false := B4.frozen 2
    have yf3 : w4.frozen? ⟨w2.heap.size, 3, none⟩ = false := B4.frozen 3
    have F := Lib.hid (DrE.fin (p := p) (K := kA d) hgw h4 (by omega) hB4 ((hE.but hB24 hlo2).lower (show d ≤ 8 by omega) (Nat.le_refl _)) (Nat.lt_succ_self _))
    go_wp2_with fail
    refine bodyPost_ret (v := .agg #[.int .i64 op, .int .i64 n, .string name, .slice A3 kids.length c3]) (by simp [results, Tryd.results17, go_sem, s0, s1, s2, s3]) rfl F.out
  subst k0
  have L5 := lit_str w4 [⟨#[102]⟩, ⟨#[103]⟩, ⟨#[97]⟩] (nm_ml (nm_all (by decide +kernel))) (by decide)
  have st5 := (Below.refl _ w4).alloc (Nat.le_refl _) (.cells (([⟨#[102]⟩, ⟨#[103]⟩, ⟨#[97]⟩] : List ByteArray).map Value.string).toArray 9)
  have hg4 := h4.lt
  go_wp2_with fail
  refine (of_ok [⟨#[102]⟩, ⟨#[103]⟩, ⟨#[97]⟩] (by decide) (by decide) NmOk (nm_all (by decide +kernel)) _ _ _ l g p4 _ (h4.below st5 hg4) (by omega) L5 hg4 (Nat.le_refl _)).mono ?_
  rintro e w5 ⟨v, p5, rfl, h5, hp5, hb5, s, hs, rfl⟩
  have R5 := hb5.row (R4.alloc (.cells (([⟨#[102]⟩, ⟨#[103]⟩, ⟨#[97]⟩] : List ByteArray).map Value.string).toArray 9)) hgw
  have B5 := hb5.row (B4.alloc (.cells (([⟨#[102]⟩, ⟨#[103]⟩, ⟨#[97]⟩] : List ByteArray).map Value.string).toArray 9)) hg2
  have hB25 : ButR g w2 w5 := (hB24.alloc hg2 _).trans hb5
  have hB5 := hB2.trans hB25
  have hg5 := h5.lt
  have hsz5 := B5.lt
  have st6 := (Below.refl _ w5).alloc (Nat.le_refl _) (.cells #[.int .i64 13, .int .i64 0, .string s, .slice none 0 0] 25)
  have C6 : Row (w5.alloc (.cells #[.int .i64 13, .int .i64 0, .string s, .slice none 0 0] 25)) w5.heap.size 25 #[.int .i64 13, .int .i64 0, .string s, .slice none 0 0] := Row.new _ _ _
  clear R4 B4 hB24 hB4 hb5 st5 L5 h4 hsz4
  go_wp2_with fail
  refine (pick_ok 4 (by omega) (by omega) l g p5 _ (h5.below st6 hg5) (by omega)).mono ?_
  rintro e w7 ⟨v, p7, rfl, h7, hp7, hb7, k7, hk7, rfl⟩
  have R7 := hb7.row (R5.alloc (.cells #[.int .i64 13, .int .i64 0, .string s, .slice none 0 0] 25)) hgw
  have B7 := hb7.row (B5.alloc (.cells #[.int .i64 13, .int .i64 0, .string s, .slice none 0 0] 25)) hg2
  have C7 := hb7.row C6 hg5
  have hB27 : ButR g w2 w7 := (hB25.alloc hg2 _).trans hb7
  have hB7 := hB2.trans hB27
  clear R5 B5 C6 hB25 hB5 hb7 st6 h5
  go_wp2_with fail
  go_loopw [7] (fun t wr => ∃ (j p' : Nat) (ks : List Ex) (vk : Value), t = .int .i64 (j : Int) ∧ j ≤ 3 ∧ ks.length + j ≤ 3 ∧ p' + j * 28 ≤ p + kE d + 87 ∧ RdAt wr g l p' ∧ ButR g w wr ∧ ButR g w2 wr ∧ Row wr w.heap.size 25 #[.int .i64 0, .int .i64 0, .string ⟨#[]⟩, .slice none 0 0] ∧ Row wr w2.heap.size 25 #[.int .i64 op, .int .i64 n, .string name, .slice A3 kids.length c3] ∧ Row wr w5.heap.size 25 #[.int .i64 13, .int .i64 0, .string s, vk] ∧ OwnT (fun m => exT m 3) 25 wr (w5.heap.size + 1) vk ks ∧ Hid (∀ k ∈ ks, NoZ k)) (fun t _ => (intOf t).toNat)
  case atStart => exact ⟨k7, p7, [], .slice none 0 0, rfl, by omega, by simp; omega, by omega, h7, hB7, hB27, R7, B7, C7, OwnT.nil_ _ _ _ _, (fun k hk => by cases hk)⟩
  case round =>
    obtain ⟨j, p', ks, vk, rfl, hj, hkj, hpj, hR, hB, hB2w, R, Bx, C, own, HZ⟩ := hrel
    obtain ⟨A6, c6, rfl, hlc6, hcm6⟩ := own.form
    have hgr := hR.lt
    have C5 := C.lt
    by_cases hj0 : 0 < j
    · have hj1 : (0 : Int) < (j : Int) := by omega
      have hB2 := hB2w
      clear hB2w hE h7 hB7 hB27 R7 B7 C7
      go_wp2_with fail
      refine wp_region_held_drew (S := fun w' => True) (by kernel_rfl) ?_ (fun hHeld => ?_)
      · trivial
      generalize hwd : wr.drew = wd at hHeld ⊢
      have hRd : RdAt wd g l p' := by rw [← hwd]; exact hR.below ((Below.refl g.succ wr).drew) (Nat.lt_succ_self _)
      have hgd := hRd.lt
      have hBd : ButR g w wd := by rw [← hwd]; exact ⟨hB.1.drew, hB.2⟩
      have hB2d : ButR g w2 wd := by rw [← hwd]; exact ⟨hB2.1.drew, hB2.2⟩
      have Rd : Row wd w.heap.size 25 #[.int .i64 0, .int .i64 0, .string ⟨#[]⟩, .slice none 0 0] := by rw [← hwd]; exact R.drew
      have Bd : Row wd w2.heap.size 25 #[.int .i64 op, .int .i64 n, .string name, .slice A3 kids.length c3] := by rw [← hwd]; exact Bx.drew
      have Cd : Row wd w5.heap.size 25 #[.int .i64 13, .int .i64 0, .string s, .slice A6 ks.length c6] := by rw [← hwd]; exact C.drew
      have ownd : OwnT (fun m => exT m 3) 25 wd (w5.heap.size + 1) (.slice A6 ks.length c6) ks := by rw [← hwd]; exact own.keepT (fun _ _ _ => rfl) (Nat.le_refl _)
      have kd : wd.cell? ⟨w5.heap.size, 3, none⟩ = some (.slice A6 ks.length c6) := Cd.cell 3
      have hg5d : w5.heap.size < wd.heap.size := Cd.lt
      obtain ⟨xs, pp, qq, own0, hp0⟩ := ownd
      clear hwd own C Bx R hB hB2 hR
      refine reg_take (i := 0) (v := ?v1) rfl (by kernel_rfl) (by kernel_rfl) (by kernel_rfl) (fun _ _ _ h => h) (Or.inl ⟨by kernel_rfl, ?h1⟩) trivial ?r1
      case h1 => (intro w hSw; (try dsimp only at hSw); go_simp; try with_reducible rfl)
      try simp only [Act.put, List.setIfInBounds_toArray, List.set_cons_zero, List.set_cons_succ]
      refine reg_take (i := 2) (v := ?v2) rfl (by kernel_rfl) (by kernel_rfl) (by kernel_rfl) (fun _ _ _ h => h) (Or.inl ⟨by kernel_rfl, ?h2⟩) trivial ?r2
      case h2 => (intro w hSw; (try dsimp only at hSw); go_simp; try with_reducible rfl)
      try simp only [Act.put, List.setIfInBounds_toArray, List.set_cons_zero, List.set_cons_succ]
      refine reg_call2 (i := 1) (j := 3) (by kernel_rfl) rfl rfl (fun K hK => ?_) (fun K hK => ?_)
      · go_simp
        refine hK.out _ _ trivial (fun hHeld => ?_)
        clear hK K
        try simp only [Act.put, List.setIfInBounds_toArray, List.set_cons_zero, List.set_cons_succ]
        refine reg_call (i := 3) (by kernel_rfl) rfl (fun K hK => ?_)
        go_simp
        have L8 := lit_str wd [⟨#[97]⟩, ⟨#[98]⟩] (nm_ml (nm_all (by decide +kernel))) (by decide)
        have st8 := (Below.refl _ wd).alloc (Nat.le_refl _) (.cells (([⟨#[97]⟩, ⟨#[98]⟩] : List ByteArray).map Value.string).toArray 9)
        have CA := Cd.alloc (.cells (([⟨#[97]⟩, ⟨#[98]⟩] : List ByteArray).map Value.string).toArray 9)
        have kA : (wd.alloc (.cells (([⟨#[97]⟩, ⟨#[98]⟩] : List ByteArray).map Value.string).toArray 9)).cell? ⟨w5.heap.size, 3, none⟩ = some (.slice A6 ks.length c6) := CA.cell 3
        refine hK.out _ _ trivial (fun hHeld => ?_)
        clear hK K
        try simp only [Act.put, List.setIfInBounds_toArray, List.set_cons_zero, List.set_cons_succ]
        refine reg_call (i := 4) (by kernel_rfl) rfl (fun K hK => ?_)
        go_simp
        refine (expr_ok 2 (by omega) 2 rfl [⟨#[97]⟩, ⟨#[98]⟩] (nm_all (by decide +kernel)) (by decide) _ _ _ l g p' _ (hRd.below st8 hgd) (by have : kE 2 = 28 := rfl; omega) L8 hgd (Nat.le_refl _)).mono ?_
        rintro e w8 ⟨p8, op', n', name', kids', A7, c7, rfl, h8, hp8, hb8, hE8⟩
        have hd8 : ButR g wd w8 := ((ButR.refl wd).alloc hgd _).trans hb8
        have C8 := hd8.row Cd hg5
        have hE8' : ExV 2 wd.heap.size op' n' name' kids' (.slice A7 kids'.length c7) w8 := hE8.lower (Nat.le_refl _) st8.size
        have own8 := own_keep own0 (fun b h1 h2 => hd8.2 b (by omega) h2)
        have sz8 := hd8.1.size
        have k8 : w8.cell? ⟨w5.heap.size, 3, none⟩ = some (.slice A6 ks.length c6) := C8.cell 3
        refine hK.out _ _ trivial (fun hHeld => ?_)
        clear hK K
        try simp only [Act.put, List.setIfInBounds_toArray, List.set_cons_zero, List.set_cons_succ]
        refine reg_call (i := 5) (by kernel_rfl) rfl (fun K hK => ?_)
        go_simp
        have CR := C8.alloc (.cells #[.int .i64 op', .int .i64 n', .string name', .slice A7 kids'.length c7] 25)
        have kR : (w8.alloc (.cells #[.int .i64 op', .int .i64 n', .string name', .slice A7 kids'.length c7] 25)).cell? ⟨w5.heap.size, 3, none⟩ = some (.slice A6 ks.length c6) := CR.cell 3
        refine hK.out _ _ trivial (fun hHeld => ?_)
        clear hK K
        try simp only [Act.put, List.setIfInBounds_toArray, List.set_cons_zero, List.set_cons_succ]
        refine reg_call (i := 6) (by kernel_rfl) rfl (fun K hK => ?_)
        obtain ⟨v9, w9, r9, own9, g9, hat9⟩ := append_one w8 (w5.heap.size + 1) 23 (.slice A6 ks.length c6) ks.length xs own8 op' n' name' A7 kids'.length c7 (by omega) (by omega)
        rw [if_pos (show Region.wanted _ _ = true by kernel_rfl)]
        refine Lib.wp_append_run_sl _ _ _ 23 rfl _ _ rfl rfl r9 ?_
        clear r9
        obtain ⟨gv9, cv9, rfl⟩ := own_form own9 (Nat.succ_pos _)
        have hgr9 : Below (w5.heap.size + 1) w8 w9 := ((Below.refl _ _).alloc (by omega) _).grown g9 (by simp; omega) (fun r hr => own_ge own8 hr)
        have C9 : Row w9 w5.heap.size 25 #[.int .i64 13, .int .i64 0, .string s, .slice A6 ks.length c6] := C8.below hgr9 (Nat.lt_succ_self _)
        have k9 : w9.cell? ⟨w5.heap.size, 3, none⟩ = some (.slice A6 ks.length c6) := C9.cell 3
        have f9 : w9.frozen? ⟨w5.heap.size, 3, none⟩ = false := C9.frozen 3
        refine hK.out _ _ trivial (fun hHeld => ?_)
        clear hK K
        try simp only [Act.put, List.setIfInBounds_toArray, List.set_cons_zero, List.set_cons_succ]
        refine reg_take (i := 7) (v := ?v3) rfl (by kernel_rfl) (by kernel_rfl) (by kernel_rfl) (fun _ _ _ h => h) (Or.inl ⟨by kernel_rfl, ?h3⟩) trivial ?r3
        case h3 => (intro w hSw; (try dsimp only at hSw); go_simp; try with_reducible rfl)
        try simp only [Act.put, List.setIfInBounds_toArray, List.set_cons_zero, List.set_cons_succ]
        refine reg_call (i := 8) (by kernel_rfl) rfl (fun K hK => ?_)
        go_simp
        refine hK.out _ _ trivial (fun hHeld => ?_)
        clear hK K
        try simp only [Act.put, List.setIfInBounds_toArray, List.set_cons_zero, List.set_cons_succ]
        refine wpAnyH_done (by kernel_rfl) ?_ _
        have own9' := snoc_fin (d := 3) own0 hp0 (fun b h1 h2 => hd8.2 b (by omega) h2) sz8 (by omega) (fun m => hE8'.rep m) own9 g9 hat9
        have nz9 : Hid (∀ k ∈ ks ++ [Ex.mk op' n' name' kids'], NoZ k) := by
          intro k hk
          rcases List.mem_append.1 hk with hk | hk
          · exact HZ.out k hk
          · obtain rfl := List.mem_singleton.1 hk; exact hE8'.noZ
        have hw9 : Below (w5.heap.size + 1) wd w9 ∨ True := Or.inr trivial
        have hBw : ButR g w (w9.setCell ⟨w5.heap.size, 3, none⟩ (.slice (some ⟨gv9, 0, none⟩) (ks.length + 1) cv9)) := ((hBd.trans hd8).thenB (hgr9.mono (by omega)) hgw).setNew hgw (by show w.heap.size ≤ w5.heap.size; omega) _
        have hB2' : ButR g w2 (w9.setCell ⟨w5.heap.size, 3, none⟩ (.slice (some ⟨gv9, 0, none⟩) (ks.length + 1) cv9)) := ((hB2d.trans hd8).thenB (hgr9.mono (by omega)) hg2).setNew hg2 (by show w2.heap.size ≤ w5.heap.size; omega) _
        have R9 : Row (w9.setCell ⟨w5.heap.size, 3, none⟩ (.slice (some ⟨gv9, 0, none⟩) (ks.length + 1) cv9)) w.heap.size 25 #[.int .i64 0, .int .i64 0, .string ⟨#[]⟩, .slice none 0 0] := ((hd8.row Rd hgw).below hgr9 (by omega)).far (by show w.heap.size ≠ w5.heap.size; omega) _
        have B9 : Row (w9.setCell ⟨w5.heap.size, 3, none⟩ (.slice (some ⟨gv9, 0, none⟩) (ks.length + 1) cv9)) w2.heap.size 25 #[.int .i64 op, .int .i64 n, .string name, .slice A3 kids.length c3] := ((hd8.row Bd hg2).below hgr9 (by omega)).far (by show w2.heap.size ≠ w5.heap.size; omega) _
        have C10 := C9.set_ 3 (.slice (some ⟨gv9, 0, none⟩) (ks.length + 1) cv9)
        have D9 : RdAt (w9.setCell ⟨w5.heap.size, 3, none⟩ (.slice (some ⟨gv9, 0, none⟩) (ks.length + 1) cv9)) g l p8 := (h8.below hgr9 (by omega)).below ((Below.refl w5.heap.size _).setCell (p := ⟨w5.heap.size, 3, none⟩) (Nat.le_refl _) _) (by omega)
        have own10 : OwnT (fun m => exT m 3) 25 (w9.setCell ⟨w5.heap.size, 3, none⟩ (.slice (some ⟨gv9, 0, none⟩) (ks.length + 1) cv9)) (w5.heap.size + 1) (.slice (some ⟨gv9, 0, none⟩) (ks.length + 1) cv9) (ks ++ [Ex.mk op' n' name' kids']) := own9'.keepT (fun b h1 h2 => Below.heap_setCell _ _ _ b (by show b ≠ w5.heap.size; omega)) (by simp [World.setCell])
        clear own9' own9 g9 hat9 hgr9 C9 k9 f9
        go_wp2_with fail
        go_roundw
        case rel => exact ⟨j - 1, p8, ks ++ [Ex.mk op' n' name' kids'], .slice (some ⟨gv9, 0, none⟩) (ks.length + 1) cv9, by go_num, by omega, by simp; omega, by have : kE 2 = 28 := rfl; omega, D9, hBw, hB2', R9, B9, C10, own10, nz9⟩
        case measure => simp [intOf]; omega
      · go_simp
        have L8 := lit_str wd [⟨#[97]⟩, ⟨#[98]⟩] (nm_ml (nm_all (by decide +kernel))) (by decide)
        have st8 := (Below.refl _ wd).alloc (Nat.le_refl _) (.cells (([⟨#[97]⟩, ⟨#[98]⟩] : List ByteArray).map Value.string).toArray 9)
        have CA := Cd.alloc (.cells (([⟨#[97]⟩, ⟨#[98]⟩] : List ByteArray).map Value.string).toArray 9)
        have kA : (wd.alloc (.cells (([⟨#[97]⟩, ⟨#[98]⟩] : List ByteArray).map Value.string).toArray 9)).cell? ⟨w5.heap.size, 3, none⟩ = some (.slice A6 ks.length c6) := CA.cell 3
        refine hK.out _ _ trivial (fun hHeld => ?_)
        clear hK K
        try simp only [Act.put, List.setIfInBounds_toArray, List.set_cons_zero, List.set_cons_succ]
        refine reg_call2 (i := 1) (j := 4) (by kernel_rfl) rfl rfl (fun K hK => ?_) (fun K hK => ?_)
        · go_simp
          refine hK.out _ _ trivial (fun hHeld => ?_)
          clear hK K
          try simp only [Act.put, List.setIfInBounds_toArray, List.set_cons_zero, List.set_cons_succ]
          refine reg_call (i := 4) (by kernel_rfl) rfl (fun K hK => ?_)
          go_simp
          refine (expr_ok 2 (by omega) 2 rfl [⟨#[97]⟩, ⟨#[98]⟩] (nm_all (by decide +kernel)) (by decide) _ _ _ l g p' _ (hRd.below st8 hgd) (by have : kE 2 = 28 := rfl; omega) L8 hgd (Nat.le_refl _)).mono ?_
          rintro e w8 ⟨p8, op', n', name', kids', A7, c7, rfl, h8, hp8, hb8, hE8⟩
          have hd8 : ButR g wd w8 := ((ButR.refl wd).alloc hgd _).trans hb8
          have C8 := hd8.row Cd hg5
          have hE8' : ExV 2 wd.heap.size op' n' name' kids' (.slice A7 kids'.length c7) w8 := hE8.lower (Nat.le_refl _) st8.size
          have own8 := own_keep own0 (fun b h1 h2 => hd8.2 b (by omega) h2)
          have sz8 := hd8.1.size
          have k8 : w8.cell? ⟨w5.heap.size, 3, none⟩ = some (.slice A6 ks.length c6) := C8.cell 3
          refine hK.out _ _ trivial (fun hHeld => ?_)
          clear hK K
          try simp only [Act.put, List.setIfInBounds_toArray, List.set_cons_zero, List.set_cons_succ]
          refine reg_call (i := 5) (by kernel_rfl) rfl (fun K hK => ?_)
          go_simp
          have CR := C8.alloc (.cells #[.int .i64 op', .int .i64 n', .string name', .slice A7 kids'.length c7] 25)
          have kR : (w8.alloc (.cells #[.int .i64 op', .int .i64 n', .string name', .slice A7 kids'.length c7] 25)).cell? ⟨w5.heap.size, 3, none⟩ = some (.slice A6 ks.length c6) := CR.cell 3
          refine hK.out _ _ trivial (fun hHeld => ?_)
          clear hK K
          try simp only [Act.put, List.setIfInBounds_toArray, List.set_cons_zero, List.set_cons_succ]
          refine reg_call (i := 6) (by kernel_rfl) rfl (fun K hK => ?_)
          obtain ⟨v9, w9, r9, own9, g9, hat9⟩ := append_one w8 (w5.heap.size + 1) 23 (.slice A6 ks.length c6) ks.length xs own8 op' n' name' A7 kids'.length c7 (by omega) (by omega)
          rw [if_pos (show Region.wanted _ _ = true by kernel_rfl)]
          refine Lib.wp_append_run_sl _ _ _ 23 rfl _ _ rfl rfl r9 ?_
          clear r9
          obtain ⟨gv9, cv9, rfl⟩ := own_form own9 (Nat.succ_pos _)
          have hgr9 : Below (w5.heap.size + 1) w8 w9 := ((Below.refl _ _).alloc (by omega) _).grown g9 (by simp; omega) (fun r hr => own_ge own8 hr)
          have C9 : Row w9 w5.heap.size 25 #[.int .i64 13, .int .i64 0, .string s, .slice A6 ks.length c6] := C8.below hgr9 (Nat.lt_succ_self _)
          have k9 : w9.cell? ⟨w5.heap.size, 3, none⟩ = some (.slice A6 ks.length c6) := C9.cell 3
          have f9 : w9.frozen? ⟨w5.heap.size, 3, none⟩ = false := C9.frozen 3
          refine hK.out _ _ trivial (fun hHeld => ?_)
          clear hK K
          try simp only [Act.put, List.setIfInBounds_toArray, List.set_cons_zero, List.set_cons_succ]
          refine reg_take (i := 7) (v := ?v4) rfl (by kernel_rfl) (by kernel_rfl) (by kernel_rfl) (fun _ _ _ h => h) (Or.inl ⟨by kernel_rfl, ?h4⟩) trivial ?r4
          case h4 => (intro w hSw; (try dsimp only at hSw); go_simp; try with_reducible rfl)
          try simp only [Act.put, List.setIfInBounds_toArray, List.set_cons_zero, List.set_cons_succ]
          refine reg_call (i := 8) (by kernel_rfl) rfl (fun K hK => ?_)
          go_simp
          refine hK.out _ _ trivial (fun hHeld => ?_)
          clear hK K
          try simp only [Act.put, List.setIfInBounds_toArray, List.set_cons_zero, List.set_cons_succ]
          refine wpAnyH_done (by kernel_rfl) ?_ _
          have own9' := snoc_fin (d := 3) own0 hp0 (fun b h1 h2 => hd8.2 b (by omega) h2) sz8 (by omega) (fun m => hE8'.rep m) own9 g9 hat9
          have nz9 : Hid (∀ k ∈ ks ++ [Ex.mk op' n' name' kids'], NoZ k) := by
            intro k hk
            rcases List.mem_append.1 hk with hk | hk
            · exact HZ.out k hk
            · obtain rfl := List.mem_singleton.1 hk; exact hE8'.noZ
          have hw9 : Below (w5.heap.size + 1) wd w9 ∨ True := Or.inr trivial
          have hBw : ButR g w (w9.setCell ⟨w5.heap.size, 3, none⟩ (.slice (some ⟨gv9, 0, none⟩) (ks.length + 1) cv9)) := ((hBd.trans hd8).thenB (hgr9.mono (by omega)) hgw).setNew hgw (by show w.heap.size ≤ w5.heap.size; omega) _
          have hB2' : ButR g w2 (w9.setCell ⟨w5.heap.size, 3, none⟩ (.slice (some ⟨gv9, 0, none⟩) (ks.length + 1) cv9)) := ((hB2d.trans hd8).thenB (hgr9.mono (by omega)) hg2).setNew hg2 (by show w2.heap.size ≤ w5.heap.size; omega) _
          have R9 : Row (w9.setCell ⟨w5.heap.size, 3, none⟩ (.slice (some ⟨gv9, 0, none⟩) (ks.length + 1) cv9)) w.heap.size 25 #[.int .i64 0, .int .i64 0, .string ⟨#[]⟩, .slice none 0 0] := ((hd8.row Rd hgw).below hgr9 (by omega)).far (by show w.heap.size ≠ w5.heap.size; omega) _
          have B9 : Row (w9.setCell ⟨w5.heap.size, 3, none⟩ (.slice (some ⟨gv9, 0, none⟩) (ks.length + 1) cv9)) w2.heap.size 25 #[.int .i64 op, .int .i64 n, .string name, .slice A3 kids.length c3] := ((hd8.row Bd hg2).below hgr9 (by omega)).far (by show w2.heap.size ≠ w5.heap.size; omega) _
          have C10 := C9.set_ 3 (.slice (some ⟨gv9, 0, none⟩) (ks.length + 1) cv9)
          have D9 : RdAt (w9.setCell ⟨w5.heap.size, 3, none⟩ (.slice (some ⟨gv9, 0, none⟩) (ks.length + 1) cv9)) g l p8 := (h8.below hgr9 (by omega)).below ((Below.refl w5.heap.size _).setCell (p := ⟨w5.heap.size, 3, none⟩) (Nat.le_refl _) _) (by omega)
          have own10 : OwnT (fun m => exT m 3) 25 (w9.setCell ⟨w5.heap.size, 3, none⟩ (.slice (some ⟨gv9, 0, none⟩) (ks.length + 1) cv9)) (w5.heap.size + 1) (.slice (some ⟨gv9, 0, none⟩) (ks.length + 1) cv9) (ks ++ [Ex.mk op' n' name' kids']) := own9'.keepT (fun b h1 h2 => Below.heap_setCell _ _ _ b (by show b ≠ w5.heap.size; omega)) (by simp [World.setCell])
          clear own9' own9 g9 hat9 hgr9 C9 k9 f9
          go_wp2_with fail
          go_roundw
          case rel => exact ⟨j - 1, p8, ks ++ [Ex.mk op' n' name' kids'], .slice (some ⟨gv9, 0, none⟩) (ks.length + 1) cv9, by go_num, by omega, by simp; omega, by have : kE 2 = 28 := rfl; omega, D9, hBw, hB2', R9, B9, C10, own10, nz9⟩
          case measure => simp [intOf]; omega
        · go_simp
          refine (expr_ok 2 (by omega) 2 rfl [⟨#[97]⟩, ⟨#[98]⟩] (nm_all (by decide +kernel)) (by decide) _ _ _ l g p' _ (hRd.below st8 hgd) (by have : kE 2 = 28 := rfl; omega) L8 hgd (Nat.le_refl _)).mono ?_
          rintro e w8 ⟨p8, op', n', name', kids', A7, c7, rfl, h8, hp8, hb8, hE8⟩
          have hd8 : ButR g wd w8 := ((ButR.refl wd).alloc hgd _).trans hb8
          have C8 := hd8.row Cd hg5
          have hE8' : ExV 2 wd.heap.size op' n' name' kids' (.slice A7 kids'.length c7) w8 := hE8.lower (Nat.le_refl _) st8.size
          have own8 := own_keep own0 (fun b h1 h2 => hd8.2 b (by omega) h2)
          have sz8 := hd8.1.size
          have k8 : w8.cell? ⟨w5.heap.size, 3, none⟩ = some (.slice A6 ks.length c6) := C8.cell 3
          refine hK.out _ _ trivial (fun hHeld => ?_)
          clear hK K
          try simp only [Act.put, List.setIfInBounds_toArray, List.set_cons_zero, List.set_cons_succ]
          refine reg_call2 (i := 1) (j := 5) (by kernel_rfl) rfl rfl (fun K hK => ?_) (fun K hK => ?_)
          · go_simp
            refine hK.out _ _ trivial (fun hHeld => ?_)
            clear hK K
            try simp only [Act.put, List.setIfInBounds_toArray, List.set_cons_zero, List.set_cons_succ]
            refine reg_call (i := 5) (by kernel_rfl) rfl (fun K hK => ?_)
            go_simp
            have CR := C8.alloc (.cells #[.int .i64 op', .int .i64 n', .string name', .slice A7 kids'.length c7] 25)
            have kR : (w8.alloc (.cells #[.int .i64 op', .int .i64 n', .string name', .slice A7 kids'.length c7] 25)).cell? ⟨w5.heap.size, 3, none⟩ = some (.slice A6 ks.length c6) := CR.cell 3
            refine hK.out _ _ trivial (fun hHeld => ?_)
            clear hK K
            try simp only [Act.put, List.setIfInBounds_toArray, List.set_cons_zero, List.set_cons_succ]
            refine reg_call (i := 6) (by kernel_rfl) rfl (fun K hK => ?_)
            obtain ⟨v9, w9, r9, own9, g9, hat9⟩ := append_one w8 (w5.heap.size + 1) 23 (.slice A6 ks.length c6) ks.length xs own8 op' n' name' A7 kids'.length c7 (by omega) (by omega)
            rw [if_pos (show Region.wanted _ _ = true by kernel_rfl)]
            refine Lib.wp_append_run_sl _ _ _ 23 rfl _ _ rfl rfl r9 ?_
            clear r9
            obtain ⟨gv9, cv9, rfl⟩ := own_form own9 (Nat.succ_pos _)
            have hgr9 : Below (w5.heap.size + 1) w8 w9 := ((Below.refl _ _).alloc (by omega) _).grown g9 (by simp; omega) (fun r hr => own_ge own8 hr)
            have C9 : Row w9 w5.heap.size 25 #[.int .i64 13, .int .i64 0, .string s, .slice A6 ks.length c6] := C8.below hgr9 (Nat.lt_succ_self _)
            have k9 : w9.cell? ⟨w5.heap.size, 3, none⟩ = some (.slice A6 ks.length c6) := C9.cell 3
            have f9 : w9.frozen? ⟨w5.heap.size, 3, none⟩ = false := C9.frozen 3
            refine hK.out _ _ trivial (fun hHeld => ?_)
            clear hK K
            try simp only [Act.put, List.setIfInBounds_toArray, List.set_cons_zero, List.set_cons_succ]
            refine reg_take (i := 7) (v := ?v5) rfl (by kernel_rfl) (by kernel_rfl) (by kernel_rfl) (fun _ _ _ h => h) (Or.inl ⟨by kernel_rfl, ?h5⟩) trivial ?r5
            case h5 => (intro w hSw; (try dsimp only at hSw); go_simp; try with_reducible rfl)
            try simp only [Act.put, List.setIfInBounds_toArray, List.set_cons_zero, List.set_cons_succ]
            refine reg_call (i := 8) (by kernel_rfl) rfl (fun K hK => ?_)
            go_simp
            refine hK.out _ _ trivial (fun hHeld => ?_)
            clear hK K
            try simp only [Act.put, List.setIfInBounds_toArray, List.set_cons_zero, List.set_cons_succ]
            refine wpAnyH_done (by kernel_rfl) ?_ _
            have own9' := snoc_fin (d := 3) own0 hp0 (fun b h1 h2 => hd8.2 b (by omega) h2) sz8 (by omega) (fun m => hE8'.rep m) own9 g9 hat9
            have nz9 : Hid (∀ k ∈ ks ++ [Ex.mk op' n' name' kids'], NoZ k) := by
              intro k hk
              rcases List.mem_append.1 hk with hk | hk
              · exact HZ.out k hk
              · obtain rfl := List.mem_singleton.1 hk; exact hE8'.noZ
            have hw9 : Below (w5.heap.size + 1) wd w9 ∨ True := Or.inr trivial
            have hBw : ButR g w (w9.setCell ⟨w5.heap.size, 3, none⟩ (.slice (some ⟨gv9, 0, none⟩) (ks.length + 1) cv9)) := ((hBd.trans hd8).thenB (hgr9.mono (by omega)) hgw).setNew hgw (by show w.heap.size ≤ w5.heap.size; omega) _
            have hB2' : ButR g w2 (w9.setCell ⟨w5.heap.size, 3, none⟩ (.slice (some ⟨gv9, 0, none⟩) (ks.length + 1) cv9)) := ((hB2d.trans hd8).thenB (hgr9.mono (by omega)) hg2).setNew hg2 (by show w2.heap.size ≤ w5.heap.size; omega) _
            have R9 : Row (w9.setCell ⟨w5.heap.size, 3, none⟩ (.slice (some ⟨gv9, 0, none⟩) (ks.length + 1) cv9)) w.heap.size 25 #[.int .i64 0, .int .i64 0, .string ⟨#[]⟩, .slice none 0 0] := ((hd8.row Rd hgw).below hgr9 (by omega)).far (by show w.heap.size ≠ w5.heap.size; omega) _
            have B9 : Row (w9.setCell ⟨w5.heap.size, 3, none⟩ (.slice (some ⟨gv9, 0, none⟩) (ks.length + 1) cv9)) w2.heap.size 25 #[.int .i64 op, .int .i64 n, .string name, .slice A3 kids.length c3] := ((hd8.row Bd hg2).below hgr9 (by omega)).far (by show w2.heap.size ≠ w5.heap.size; omega) _
            have C10 := C9.set_ 3 (.slice (some ⟨gv9, 0, none⟩) (ks.length + 1) cv9)
            have D9 : RdAt (w9.setCell ⟨w5.heap.size, 3, none⟩ (.slice (some ⟨gv9, 0, none⟩) (ks.length + 1) cv9)) g l p8 := (h8.below hgr9 (by omega)).below ((Below.refl w5.heap.size _).setCell (p := ⟨w5.heap.size, 3, none⟩) (Nat.le_refl _) _) (by omega)
            have own10 : OwnT (fun m => exT m 3) 25 (w9.setCell ⟨w5.heap.size, 3, none⟩ (.slice (some ⟨gv9, 0, none⟩) (ks.length + 1) cv9)) (w5.heap.size + 1) (.slice (some ⟨gv9, 0, none⟩) (ks.length + 1) cv9) (ks ++ [Ex.mk op' n' name' kids']) := own9'.keepT (fun b h1 h2 => Below.heap_setCell _ _ _ b (by show b ≠ w5.heap.size; omega)) (by simp [World.setCell])
            clear own9' own9 g9 hat9 hgr9 C9 k9 f9
            go_wp2_with fail
            go_roundw
            case rel => exact ⟨j - 1, p8, ks ++ [Ex.mk op' n' name' kids'], .slice (some ⟨gv9, 0, none⟩) (ks.length + 1) cv9, by go_num, by omega, by simp; omega, by have : kE 2 = 28 := rfl; omega, D9, hBw, hB2', R9, B9, C10, own10, nz9⟩
            case measure => simp [intOf]; omega
          · go_simp
            have CR := C8.alloc (.cells #[.int .i64 op', .int .i64 n', .string name', .slice A7 kids'.length c7] 25)
            have kR : (w8.alloc (.cells #[.int .i64 op', .int .i64 n', .string name', .slice A7 kids'.length c7] 25)).cell? ⟨w5.heap.size, 3, none⟩ = some (.slice A6 ks.length c6) := CR.cell 3
            refine hK.out _ _ trivial (fun hHeld => ?_)
            clear hK K
            try simp only [Act.put, List.setIfInBounds_toArray, List.set_cons_zero, List.set_cons_succ]
            refine reg_call (i := 1) (by kernel_rfl) rfl (fun K hK => ?_)
            go_simp
            refine hK.out _ _ trivial (fun hHeld => ?_)
            clear hK K
            try simp only [Act.put, List.setIfInBounds_toArray, List.set_cons_zero, List.set_cons_succ]
            refine reg_call (i := 6) (by kernel_rfl) rfl (fun K hK => ?_)
            obtain ⟨v9, w9, r9, own9, g9, hat9⟩ := append_one w8 (w5.heap.size + 1) 23 (.slice A6 ks.length c6) ks.length xs own8 op' n' name' A7 kids'.length c7 (by omega) (by omega)
            rw [if_pos (show Region.wanted _ _ = true by kernel_rfl)]
            refine Lib.wp_append_run_sl _ _ _ 23 rfl _ _ rfl rfl r9 ?_
            clear r9
            obtain ⟨gv9, cv9, rfl⟩ := own_form own9 (Nat.succ_pos _)
            have hgr9 : Below (w5.heap.size + 1) w8 w9 := ((Below.refl _ _).alloc (by omega) _).grown g9 (by simp; omega) (fun r hr => own_ge own8 hr)
            have C9 : Row w9 w5.heap.size 25 #[.int .i64 13, .int .i64 0, .string s, .slice A6 ks.length c6] := C8.below hgr9 (Nat.lt_succ_self _)
            have k9 : w9.cell? ⟨w5.heap.size, 3, none⟩ = some (.slice A6 ks.length c6) := C9.cell 3
            have f9 : w9.frozen? ⟨w5.heap.size, 3, none⟩ = false := C9.frozen 3
            refine hK.out _ _ trivial (fun hHeld => ?_)
            clear hK K
            try simp only [Act.put, List.setIfInBounds_toArray, List.set_cons_zero, List.set_cons_succ]
            refine reg_take (i := 7) (v := ?v6) rfl (by kernel_rfl) (by kernel_rfl) (by kernel_rfl) (fun _ _ _ h => h) (Or.inl ⟨by kernel_rfl, ?h6⟩) trivial ?r6
            case h6 => (intro w hSw; (try dsimp only at hSw); go_simp; try with_reducible rfl)
            try simp only [Act.put, List.setIfInBounds_toArray, List.set_cons_zero, List.set_cons_succ]
            refine reg_call (i := 8) (by kernel_rfl) rfl (fun K hK => ?_)
            go_simp
            refine hK.out _ _ trivial (fun hHeld => ?_)
            clear hK K
            try simp only [Act.put, List.setIfInBounds_toArray, List.set_cons_zero, List.set_cons_succ]
            refine wpAnyH_done (by kernel_rfl) ?_ _
            have own9' := snoc_fin (d := 3) own0 hp0 (fun b h1 h2 => hd8.2 b (by omega) h2) sz8 (by omega) (fun m => hE8'.rep m) own9 g9 hat9
            have nz9 : Hid (∀ k ∈ ks ++ [Ex.mk op' n' name' kids'], NoZ k) := by
              intro k hk
              rcases List.mem_append.1 hk with hk | hk
              · exact HZ.out k hk
              · obtain rfl := List.mem_singleton.1 hk; exact hE8'.noZ
            have hw9 : Below (w5.heap.size + 1) wd w9 ∨ True := Or.inr trivial
            have hBw : ButR g w (w9.setCell ⟨w5.heap.size, 3, none⟩ (.slice (some ⟨gv9, 0, none⟩) (ks.length + 1) cv9)) := ((hBd.trans hd8).thenB (hgr9.mono (by omega)) hgw).setNew hgw (by show w.heap.size ≤ w5.heap.size; omega) _
            have hB2' : ButR g w2 (w9.setCell ⟨w5.heap.size, 3, none⟩ (.slice (some ⟨gv9, 0, none⟩) (ks.length + 1) cv9)) := ((hB2d.trans hd8).thenB (hgr9.mono (by omega)) hg2).setNew hg2 (by show w2.heap.size ≤ w5.heap.size; omega) _
            have R9 : Row (w9.setCell ⟨w5.heap.size, 3, none⟩ (.slice (some ⟨gv9, 0, none⟩) (ks.length + 1) cv9)) w.heap.size 25 #[.int .i64 0, .int .i64 0, .string ⟨#[]⟩, .slice none 0 0] := ((hd8.row Rd hgw).below hgr9 (by omega)).far (by show w.heap.size ≠ w5.heap.size; omega) _
            have B9 : Row (w9.setCell ⟨w5.heap.size, 3, none⟩ (.slice (some ⟨gv9, 0, none⟩) (ks.length + 1) cv9)) w2.heap.size 25 #[.int .i64 op, .int .i64 n, .string name, .slice A3 kids.length c3] := ((hd8.row Bd hg2).below hgr9 (by omega)).far (by show w2.heap.size ≠ w5.heap.size; omega) _
            have C10 := C9.set_ 3 (.slice (some ⟨gv9, 0, none⟩) (ks.length + 1) cv9)
            have D9 : RdAt (w9.setCell ⟨w5.heap.size, 3, none⟩ (.slice (some ⟨gv9, 0, none⟩) (ks.length + 1) cv9)) g l p8 := (h8.below hgr9 (by omega)).below ((Below.refl w5.heap.size _).setCell (p := ⟨w5.heap.size, 3, none⟩) (Nat.le_refl _) _) (by omega)
            have own10 : OwnT (fun m => exT m 3) 25 (w9.setCell ⟨w5.heap.size, 3, none⟩ (.slice (some ⟨gv9, 0, none⟩) (ks.length + 1) cv9)) (w5.heap.size + 1) (.slice (some ⟨gv9, 0, none⟩) (ks.length + 1) cv9) (ks ++ [Ex.mk op' n' name' kids']) := own9'.keepT (fun b h1 h2 => Below.heap_setCell _ _ _ b (by show b ≠ w5.heap.size; omega)) (by simp [World.setCell])
            clear own9' own9 g9 hat9 hgr9 C9 k9 f9
            go_wp2_with fail
            go_roundw
            case rel => exact ⟨j - 1, p8, ks ++ [Ex.mk op' n' name' kids'], .slice (some ⟨gv9, 0, none⟩) (ks.length + 1) cv9, by go_num, by omega, by simp; omega, by have : kE 2 = 28 := rfl; omega, D9, hBw, hB2', R9, B9, C10, own10, nz9⟩
            case measure => simp [intOf]; omega
    · obtain rfl : j = 0 := by omega
      go_wp2_with fail
      refine (pick_ok 2 (by omega) (by omega) l g p' _ hR (by omega)).mono ?_
      rintro e w9 ⟨v, p9, rfl, h9, hp9, hb9, k9, hk9, rfl⟩
      have R9 := hb9.row R hgw
      have B9 := hb9.row Bx hg2
      have C9 := hb9.row C hg5
      have hB9 := hB.trans hb9
      have hB29 := hB2w.trans hb9
      have own9 := own.but hb9 (by omega)
      have hg9 := h9.lt
      have hsz9 := C9.lt
      have hEC : ExV 3 (w5.heap.size + 1) 13 0 s ks (.slice A6 ks.length c6) w9 := ⟨⟨by omega, by omega⟩, ⟨by omega, by omega⟩, hs.1, hs.2, HZ.out, by omega, own9⟩
      have y0 : w9.cell? ⟨w2.heap.size, 0, none⟩ = some (.int .i64 op) := B9.cell 0
      have y1 : w9.cell? ⟨w2.heap.size, 1, none⟩ = some (.int .i64 n) := B9.cell 1
      have y2 : w9.cell? ⟨w2.heap.size, 2, none⟩ = some (.string name) := B9.cell 2
      have y3 : w9.cell? ⟨w2.heap.size, 3, none⟩ = some (.slice A3 kids.length c3) := B9.cell 3
      have yf0 : w9.frozen? ⟨w2.heap.size, 0, none⟩ = false := B9.frozen 0
      have yf1 : w9.frozen? ⟨w2.heap.size, 1, none⟩ = false := B9.frozen 1
      have yf2 : w9.frozen? ⟨w2.heap.size, 2, none⟩ = false := B9.frozen 2
      have yf3 : w9.frozen? ⟨w2.heap.size, 3, none⟩ = false := B9.frozen 3
      have x0 : w9.cell? ⟨w5.heap.size, 0, none⟩ = some (.int .i64 13) := C9.cell 0
      have x1 : w9.cell? ⟨w5.heap.size, 1, none⟩ = some (.int .i64 0) := C9.cell 1
      have x2 : w9.cell? ⟨w5.heap.size, 2, none⟩ = some (.string s) := C9.cell 2
      have x3 : w9.cell? ⟨w5.heap.size, 3, none⟩ = some (.slice A6 ks.length c6) := C9.cell 3
      have xf0 : w9.frozen? ⟨w5.heap.size, 0, none⟩ = false := C9.frozen 0
      have xf1 : w9.frozen? ⟨w5.heap.size, 1, none⟩ = false := C9.frozen 1
      have xf2 : w9.frozen? ⟨w5.heap.size, 2, none⟩ = false := C9.frozen 2
      have xf3 : w9.frozen? ⟨w5.heap.size, 3, none⟩ = false := C9.frozen 3
      by_cases kz : k9 = 0
      · subst kz
        have s0 : w9.cell? ⟨w.heap.size, 0, none⟩ = some (.int .i64 0) := R9.cell 0
        have s1 : w9.cell? ⟨w.heap.size, 1, none⟩ = some (.int .i64 0) := R9.cell 1
        have s2 : w9.cell? ⟨w.heap.size, 2, none⟩ = some (.string ⟨#[]⟩) := R9.cell 2
        have s3 : w9.cell? ⟨w.heap.size, 3, none⟩ = some (.slice none 0 0) := R9.cell 3
        have sf0 : w9.frozen? ⟨w.heap.size, 0, none⟩ = false := R9.frozen 0
        have sf1 : w9.frozen? ⟨w.heap.size, 1, none⟩ = false := R9.frozen 1
        have sf2 : w9.frozen? ⟨w.heap.size, 2, none⟩ = false := R9.frozen 2
        have sf3 : w9.frozen? ⟨w.heap.size, 3, none⟩ = false := R9.frozen 3
        have F := Lib.hid (DrE.fin (p := p) (K := kA d) hgw h9 (by omega) hB9 (hEC.lower (show 3 ≤ 8 by omega) (Nat.le_refl _)) (by omega))
        clear own own9 hEC
        go_wp2_with fail
        refine bodyPost_ret (v := .agg #[.int .i64 13, .int .i64 0, .string s, .slice A6 ks.length c6]) (by simp [results, Tryd.results17, go_sem, s0, s1, s2, s3]) rfl F.out
      · have qz : ((k9 : Int) == 0) = false := by simpa using kz
        have st10 := (Below.refl _ w9).alloc (Nat.le_refl _) (.cells #[.int .i64 op, .int .i64 n, .string name, .slice A3 kids.length c3, .int .i64 13, .int .i64 0, .string s, .slice A6 ks.length c6] 25)
        have R10 := R9.alloc (.cells #[.int .i64 op, .int .i64 n, .string name, .slice A3 kids.length c3, .int .i64 13, .int .i64 0, .string s, .slice A6 ks.length c6] 25)
        have RN : Row (w9.alloc (.cells #[.int .i64 op, .int .i64 n, .string name, .slice A3 kids.length c3, .int .i64 13, .int .i64 0, .string s, .slice A6 ks.length c6] 25)) w9.heap.size 25 #[.int .i64 op, .int .i64 n, .string name, .slice A3 kids.length c3, .int .i64 13, .int .i64 0, .string s, .slice A6 ks.length c6] := Row.new _ _ _
        have own10 : OwnT (fun m => exT m 8) 25 (w9.alloc (.cells #[.int .i64 op, .int .i64 n, .string name, .slice A3 kids.length c3, .int .i64 13, .int .i64 0, .string s, .slice A6 ks.length c6] 25)) (w.heap.size + 1) (.slice (some ⟨w9.heap.size, 0, none⟩) 2 2) [.mk op n name kids, .mk 13 0 s ks] :=
          own_two (p := w.heap.size + 1) (q := w2.heap.size) (p' := w5.heap.size + 1) (q' := w9.heap.size) RN (by omega) (Nat.le_refl _) (by omega) (by omega) (by omega) st10.size (Or.inr (Nat.le_refl _))
            (fun m => exT_le m (show d + 1 ≤ 8 by omega) ((exT m (d + 1)).below ((exT m (d + 1)).keep (hE.rep m) (Nat.le_refl _) (Nat.le_refl _) (fun b h1 h2 => hB29.2 b (by omega) h2)) st10 (by omega))) (fun m => exT_le m (show 4 ≤ 8 by omega) ((exT m 4).below (hEC.rep m) st10 (Nat.le_refl _)))
        have hEN : ExV 8 (w.heap.size + 1) 3 0 ⟨#[]⟩ [.mk op n name kids, .mk 13 0 s ks] (.slice (some ⟨w9.heap.size, 0, none⟩) 2 2) (w9.alloc (.cells #[.int .i64 op, .int .i64 n, .string name, .slice A3 kids.length c3, .int .i64 13, .int .i64 0, .string s, .slice A6 ks.length c6] 25)) :=
          ⟨⟨by omega, by omega⟩, ⟨by omega, by omega⟩, ok_empty.1, ok_empty.2, (fun k hk => by
            rcases List.mem_cons.1 hk with rfl | hk
            · exact hE.noZ
            · obtain rfl := List.mem_singleton.1 hk; exact hEC.noZ), by simp, own10⟩
        have F := Lib.hid (DrE.fin (p := p) (K := kA d) (kids := [.mk op n name kids, .mk 13 0 s ks]) hgw (h9.below st10 hg9) (by omega) (hB9.alloc hgw _) hEN (Nat.lt_succ_self _))
        have s0 : (w9.alloc (.cells #[.int .i64 op, .int .i64 n, .string name, .slice A3 kids.length c3, .int .i64 13, .int .i64 0, .string s, .slice A6 ks.length c6] 25)).cell? ⟨w.heap.size, 0, none⟩ = some (.int .i64 0) := R10.cell 0
        have s1 : (w9.alloc (.cells #[.int .i64 op, .int .i64 n, .string name, .slice A3 kids.length c3, .int .i64 13, .int .i64 0, .string s, .slice A6 ks.length c6] 25)).cell? ⟨w.heap.size, 1, none⟩ = some (.int .i64 0) := R10.cell 1
        have s2 : (w9.alloc (.cells #[.int .i64 op, .int .i64 n, .string name, .slice A3 kids.length c3, .int .i64 13, .int .i64 0, .string s, .slice A6 ks.length c6] 25)).cell? ⟨w.heap.size, 2, none⟩ = some (.string ⟨#[]⟩) := R10.cell 2
        have s3 : (w9.alloc (.cells #[.int .i64 op, .int .i64 n, .string name, .slice A3 kids.length c3, .int .i64 13, .int .i64 0, .string s, .slice A6 ks.length c6] 25)).cell? ⟨w.heap.size, 3, none⟩ = some (.slice none 0 0) := R10.cell 3
        have sf0 : (w9.alloc (.cells #[.int .i64 op, .int .i64 n, .string name, .slice A3 kids.length c3, .int .i64 13, .int .i64 0, .string s, .slice A6 ks.length c6] 25)).frozen? ⟨w.heap.size, 0, none⟩ = false := R10.frozen 0
        have sf1 : (w9.alloc (.cells #[.int .i64 op, .int .i64 n, .string name, .slice A3 kids.length c3, .int .i64 13, .int .i64 0, .string s, .slice A6 ks.length c6] 25)).frozen? ⟨w.heap.size, 1, none⟩ = false := R10.frozen 1
        have sf2 : (w9.alloc (.cells #[.int .i64 op, .int .i64 n, .string name, .slice A3 kids.length c3, .int .i64 13, .int .i64 0, .string s, .slice A6 ks.length c6] 25)).frozen? ⟨w.heap.size, 2, none⟩ = false := R10.frozen 2
        have sf3 : (w9.alloc (.cells #[.int .i64 op, .int .i64 n, .string name, .slice A3 kids.length c3, .int .i64 13, .int .i64 0, .string s, .slice A6 ks.length c6] 25)).frozen? ⟨w.heap.size, 3, none⟩ = false := R10.frozen 3
        clear own own9 own10 hEN hEC RN st10
        go_wp2_with fail
        refine bodyPost_ret (v := .agg #[.int .i64 3, .int .i64 0, .string ⟨#[]⟩, .slice (some ⟨w9.heap.size, 0, none⟩) 2 2]) (by simp [results, Tryd.results17, go_sem, s0, s1, s2, s3]) rfl F.out
end Go.Proofs.YthfinoapfbhgcaaDoor

namespace Go.Proofs.YthfinoapfbhgcaaDoor
open Go.RowKit Go.ChangeShapes Go.WideShapes Go.Deep
set_option linter.unusedSimpArgs false
set_option linter.unusedVariables false
/-- one more, behind a draw; then the box is written -/
theorem snoc_box {d : Nat} {w0 w1 w4 w5 : World} {base b : Nat} {v v' : Value} {l : List Ex} {xs : List Value} {p q : Nat → Nat} {a : Ex} {cs : List Value} {o : Obj} (own : w0.ownsRow base 25 (exT true d).size v l.length xs) (hp : PartsT (fun m => exT m d) w0 base v l xs p q)
    (hk : ∀ b, base ≤ b → b < w0.heap.size → w1.heap[b]? = w0.heap[b]?) (hs : w0.heap.size ≤ w1.heap.size) (hbase : base ≤ w0.heap.size) (hr : ∀ m, (exT m d).rep w1 w0.heap.size w1.heap.size a cs)
    (own4 : w4.ownsRow base 25 (exT true d).size v' (l.length + 1) (xs ++ cs)) (hgrow : (w1.alloc o).grownBy w4 v.ownBlock) (hat : v'.ownBlock = v.ownBlock ∨ v'.ownBlock = some (w1.alloc o).heap.size)
    (hb : b < w0.heap.size) (hq : ∀ (i : Nat) (a : Ex), l[i]? = some a → q i ≤ b) (hv : v.ownBlock ≠ some b) (h5 : ∀ x, x ≠ b → w5.heap[x]? = w4.heap[x]?) (hs5 : w4.heap.size ≤ w5.heap.size) : OwnT (fun m => exT m d) 25 w5 base v' (l ++ [a]) := by
  have hz : ((w1.alloc o).heap.size : Nat) = w1.heap.size + 1 := by simp
  have hsn := PartsT.snoc (s := w0.heap.size) (hp.keepT hk hs) (own_keep own hk) hbase hs (fun i a ha => (hp i a ha).2.1) (fun b hb => (own.lt b hb).2) hr hgrow hat
  refine ⟨xs ++ cs, (fun i => if i < l.length then p i else w0.heap.size), (fun i => if i < l.length then q i else w1.heap.size), ?_, fun i x hx => ?_⟩
  rotate_left
  · obtain ⟨c1, c2, c3, c4, c5, ds, hd, hds⟩ := hsn i x hx
    refine ⟨c1, Nat.le_trans c2 hs5, c3, c4, c5, ds, fun m => (exT m d).keep (hd m) (Nat.le_refl _) (Nat.le_refl _) (fun y h1 h2 => h5 y ?_), hds⟩
    rintro rfl
    by_cases hi : i < l.length
    · simp only [if_pos hi] at h2
      have := hq i _ (List.getElem?_eq_getElem hi)
      omega
    · simp only [if_neg hi] at h1
      omega
  · rw [List.length_append]
    refine ⟨own4.1, ?_⟩
    rcases own4.2 with h1 | ⟨g, cap, cur, h1, h2, h3, h4⟩
    · exact Or.inl h1
    · refine Or.inr ⟨g, cap, cur, h1, h2, (h5 g ?_).trans h3, h4⟩
      rintro rfl
      have e : v'.ownBlock = some g := by rw [h1]; rfl
      rcases hat with h | h
      · exact hv (h ▸ e)
      · rw [h] at e
        have := Option.some.inj e
        omega
set_option maxRecDepth 100000 in
set_option maxHeartbeats 16000000 in
theorem bent_ok (l : List UInt8) (g p : Nat) (w : World) (h : RdAt w g l p) (hp : p ≤ 800000) :
    Calls Tryd.prog 19 #[.pointer (some ⟨g, 0, none⟩)] w (DrE g l p 2000 9 w) := by
  have hk4 : kA 4 = 214 := rfl
  have hk7 : kA 7 = 1110 := rfl
  have hgw := h.lt
  have hbA : Below w.heap.size w (w.alloc (.cells #[.int .i64 0, .int .i64 0, .string ⟨#[]⟩, .slice none 0 0] 25)) := (Below.refl _ _).alloc (Nat.le_refl _) _
  have R0 : Row (w.alloc (.cells #[.int .i64 0, .int .i64 0, .string ⟨#[]⟩, .slice none 0 0] 25)) w.heap.size 25 #[.int .i64 0, .int .i64 0, .string ⟨#[]⟩, .slice none 0 0] := Row.new w _ _
  have hB0 : ButR g w (w.alloc (.cells #[.int .i64 0, .int .i64 0, .string ⟨#[]⟩, .slice none 0 0] 25)) := (ButR.refl w).alloc hgw _
  have h0 := h.below hbA hgw
  have hlt0 : w.heap.size < (w.alloc (.cells #[.int .i64 0, .int .i64 0, .string ⟨#[]⟩, .slice none 0 0] 25)).heap.size := by simp
  have hs1 : (w.alloc (.cells #[.int .i64 0, .int .i64 0, .string ⟨#[]⟩, .slice none 0 0] 25)).heap.size = w.heap.size + 1 := by simp
  go_enter Tryd.func19, Tryd.ntmps19
  go_wp2_with fail
  refine (any_ok 4 (by omega) 4 rfl l g p _ h0 (by omega)).mono ?_
  rintro e w2 ⟨p2, op, n, name, kids, A3, c3, rfl, h2, hp2, hb2, hE0⟩
  have hE2 : ExV 8 (w.heap.size + 1) op n name kids (.slice A3 kids.length c3) w2 := hE0.lower (Nat.le_refl _) (Nat.le_of_eq hs1.symm)
  have R2 := hb2.row R0 hgw
  have hB2 := hB0.trans hb2
  have hg2 := h2.lt
  have hsz2 : w.heap.size + 1 ≤ w2.heap.size := hs1 ▸ hb2.1.size
  have hlo2 : g < w.heap.size + 1 := by omega
  have st3 := (Below.refl _ w2).alloc (Nat.le_refl _) (.cells #[.int .i64 op, .int .i64 n, .string name, .slice A3 kids.length c3] 25)
  have B3 : Row (w2.alloc (.cells #[.int .i64 op, .int .i64 n, .string name, .slice A3 kids.length c3] 25)) w2.heap.size 25 #[.int .i64 op, .int .i64 n, .string name, .slice A3 kids.length c3] := Row.new _ _ _
  have h3 := h2.below st3 hg2
  clear hb2 hE0 R0 hB0
  go_wp2_with fail
  refine (pick_ok 20 (by omega) (by omega) l g p2 _ h3 (by omega)).mono ?_
  rintro e w4 ⟨v, p4, rfl, h4, hp4, hb4, k, hk, rfl⟩
  have R4 := hb4.row (R2.alloc (.cells #[.int .i64 op, .int .i64 n, .string name, .slice A3 kids.length c3] 25)) hgw
  have B4 := hb4.row B3 hg2
  have hB24 : ButR g w2 w4 := ((ButR.refl w2).alloc hg2 _).trans hb4
  have hB4 := hB2.trans hB24
  have hsz4 := B4.lt
  have hE4 := hE2.but hB24 hlo2
  clear R2 B3 hb4 st3 h3
  have z0 : w4.cell? ⟨w2.heap.size, 0, none⟩ = some (.int .i64 op) := B4.cell 0
  have z1 : w4.cell? ⟨w2.heap.size, 1, none⟩ = some (.int .i64 n) := B4.cell 1
  have z2 : w4.cell? ⟨w2.heap.size, 2, none⟩ = some (.string name) := B4.cell 2
  have z3 : w4.cell? ⟨w2.heap.size, 3, none⟩ = some (.slice A3 kids.length c3) := B4.cell 3
  have zf0 : w4.frozen? ⟨w2.heap.size, 0, none⟩ = false := B4.frozen 0
  have zf1 : w4.frozen? ⟨w2.heap.size, 1, none⟩ = false := B4.frozen 1
  have zf2 : w4.frozen? ⟨w2.heap.size, 2, none⟩ = false := B4.frozen 2
  have zf3 : w4.frozen? ⟨w2.heap.size, 3, none⟩ = false := B4.frozen 3
  by_cases k0 : k = 0
  · subst k0
    have L5 := lit_int w4 [-1, 256, 3] (i64_of (by decide)) (by decide)
    have st5 := (Below.refl _ w4).alloc (Nat.le_refl _) (.cells ([-1, 256, 3].map (Value.int .i64)).toArray 3)
    have hg4 := h4.lt
    go_wp2_with fail
    refine (num_ok [-1, 256, 3] (by decide) (by decide) I64 (i64_of (by decide)) _ _ _ l g p4 _ (h4.below st5 hg4) (by omega) L5 hg4 (Nat.le_refl _)).mono ?_
    rintro e w5 ⟨v, p5, rfl, h5, hp5, hb5, y, hy, rfl⟩
    have R5 := hb5.row (R4.alloc (.cells ([-1, 256, 3].map (Value.int .i64)).toArray 3)) hgw
    have B5 := hb5.row (B4.alloc (.cells ([-1, 256, 3].map (Value.int .i64)).toArray 3)) hg2
    have hB5 := (hB4.alloc hgw (.cells ([-1, 256, 3].map (Value.int .i64)).toArray 3)).trans hb5
    have hE5 := (hE4.keepT (fun b h1 h2 => Below.heap_alloc w4 (.cells ([-1, 256, 3].map (Value.int .i64)).toArray 3) b h2) st5.size).but hb5 hlo2
    have hsz5 := B5.lt
    have hgs := hg2
    have y0 : w5.cell? ⟨w2.heap.size, 0, none⟩ = some (.int .i64 op) := B5.cell 0
    have y1 : w5.cell? ⟨w2.heap.size, 1, none⟩ = some (.int .i64 n) := B5.cell 1
    have y2 : w5.cell? ⟨w2.heap.size, 2, none⟩ = some (.string name) := B5.cell 2
    have y3 : w5.cell? ⟨w2.heap.size, 3, none⟩ = some (.slice A3 kids.length c3) := B5.cell 3
    have yf0 : w5.frozen? ⟨w2.heap.size, 0, none⟩ = false := B5.frozen 0
    have yf1 : w5.frozen? ⟨w2.heap.size, 1, none⟩ = false := B5.frozen 1
    have yf2 : w5.frozen? ⟨w2.heap.size, 2, none⟩ = false := B5.frozen 2
    have yf3 : w5.frozen? ⟨w2.heap.size, 3, none⟩ = false := B5.frozen 3
    have R6 : Row (w5.setCell ⟨w2.heap.size, 1, none⟩ (.int .i64 y)) w.heap.size 25 #[.int .i64 0, .int .i64 0, .string ⟨#[]⟩, .slice none 0 0] := R5.far (by show w.heap.size ≠ w2.heap.size; omega) _
    have B6 := B5.set_ 1 (.int .i64 y)
    have s0 : (w5.setCell ⟨w2.heap.size, 1, none⟩ (.int .i64 y)).cell? ⟨w.heap.size, 0, none⟩ = some (.int .i64 0) := R6.cell 0
    have s1 : (w5.setCell ⟨w2.heap.size, 1, none⟩ (.int .i64 y)).cell? ⟨w.heap.size, 1, none⟩ = some (.int .i64 0) := R6.cell 1
    have s2 : (w5.setCell ⟨w2.heap.size, 1, none⟩ (.int .i64 y)).cell? ⟨w.heap.size, 2, none⟩ = some (.string ⟨#[]⟩) := R6.cell 2
    have s3 : (w5.setCell ⟨w2.heap.size, 1, none⟩ (.int .i64 y)).cell? ⟨w.heap.size, 3, none⟩ = some (.slice none 0 0) := R6.cell 3
    have sf0 : (w5.setCell ⟨w2.heap.size, 1, none⟩ (.int .i64 y)).frozen? ⟨w.heap.size, 0, none⟩ = false := R6.frozen 0
    have sf1 : (w5.setCell ⟨w2.heap.size, 1, none⟩ (.int .i64 y)).frozen? ⟨w.heap.size, 1, none⟩ = false := R6.frozen 1
    have sf2 : (w5.setCell ⟨w2.heap.size, 1, none⟩ (.int .i64 y)).frozen? ⟨w.heap.size, 2, none⟩ = false := R6.frozen 2
    have sf3 : (w5.setCell ⟨w2.heap.size, 1, none⟩ (.int .i64 y)).frozen? ⟨w.heap.size, 3, none⟩ = false := R6.frozen 3
    have x0 : (w5.setCell ⟨w2.heap.size, 1, none⟩ (.int .i64 y)).cell? ⟨w2.heap.size, 0, none⟩ = some (.int .i64 op) := B6.cell 0
    have x1 : (w5.setCell ⟨w2.heap.size, 1, none⟩ (.int .i64 y)).cell? ⟨w2.heap.size, 1, none⟩ = some (.int .i64 y) := B6.cell 1
    have x2 : (w5.setCell ⟨w2.heap.size, 1, none⟩ (.int .i64 y)).cell? ⟨w2.heap.size, 2, none⟩ = some (.string name) := B6.cell 2
    have x3 : (w5.setCell ⟨w2.heap.size, 1, none⟩ (.int .i64 y)).cell? ⟨w2.heap.size, 3, none⟩ = some (.slice A3 kids.length c3) := B6.cell 3
    have xf0 : (w5.setCell ⟨w2.heap.size, 1, none⟩ (.int .i64 y)).frozen? ⟨w2.heap.size, 0, none⟩ = false := B6.frozen 0
    have xf1 : (w5.setCell ⟨w2.heap.size, 1, none⟩ (.int .i64 y)).frozen? ⟨w2.heap.size, 1, none⟩ = false := B6.frozen 1
    have xf2 : (w5.setCell ⟨w2.heap.size, 1, none⟩ (.int .i64 y)).frozen? ⟨w2.heap.size, 2, none⟩ = false := B6.frozen 2
    have xf3 : (w5.setCell ⟨w2.heap.size, 1, none⟩ (.int .i64 y)).frozen? ⟨w2.heap.size, 3, none⟩ = false := B6.frozen 3
    have hE6 : ExV 8 (w.heap.size + 1) op n name kids (.slice A3 kids.length c3) (w5.setCell ⟨w2.heap.size, 1, none⟩ (.int .i64 y)) := hE2.keepT (fun b h1 h2 => (Below.heap_setCell _ _ _ b (by show b ≠ w2.heap.size; omega)).trans ((hB24.alloc hg2 (.cells ([-1, 256, 3].map (Value.int .i64)).toArray 3)).trans hb5 |>.2 b (by omega) h2)) (by simp only [World.setCell, Array.size_modify]; omega)
    have h6 : RdAt (w5.setCell ⟨w2.heap.size, 1, none⟩ (.int .i64 y)) g l p5 := h5.below ((Below.refl w2.heap.size _).setCell (p := ⟨w2.heap.size, 1, none⟩) (Nat.le_refl _) _) hg2
    have hB6 : ButR g w (w5.setCell ⟨w2.heap.size, 1, none⟩ (.int .i64 y)) := hB5.setNew hgw (by show w.heap.size ≤ w2.heap.size; omega) _
    have hE7 : ExV 8 (w.heap.size + 1) op y name kids (.slice A3 kids.length c3) (w5.setCell ⟨w2.heap.size, 1, none⟩ (.int .i64 y)) := ⟨hE6.1, hy, hE6.2.2.1, hE6.2.2.2.1, hE6.2.2.2.2⟩
    have F := Lib.hid (DrE.fin (p := p) (K := 2000) hgw h6 (by omega) hB6 (hE7.lower (show 8 ≤ 9 by omega) (Nat.le_refl _)) (Nat.lt_succ_self _))
    clear hE4 hE5 hE6 hE7 hE2 hB6 hB5 hb5 hB4 hB24 st5 L5
    go_wp2_with fail
    refine bodyPost_ret (v := .agg #[.int .i64 op, .int .i64 y, .string name, .slice A3 kids.length c3]) (by simp [results, Tryd.results19, go_sem, s0, s1, s2, s3]) rfl F.out
  have q0 : ((k : Int) == 0) = false := by simp; omega
  by_cases k1 : k = 1
  · subst k1
    have L5 := lit_str w4 [⟨#[]⟩, ⟨#[100, 111]⟩, ⟨#[65]⟩, ⟨#[97, 98, 99, 100, 101]⟩, ⟨#[113]⟩] (nm_ml (nm_all (by decide +kernel))) (by decide)
    have st5 := (Below.refl _ w4).alloc (Nat.le_refl _) (.cells (([⟨#[]⟩, ⟨#[100, 111]⟩, ⟨#[65]⟩, ⟨#[97, 98, 99, 100, 101]⟩, ⟨#[113]⟩] : List ByteArray).map Value.string).toArray 9)
    have hg4 := h4.lt
    go_wp2_with fail
    refine (of_ok [⟨#[]⟩, ⟨#[100, 111]⟩, ⟨#[65]⟩, ⟨#[97, 98, 99, 100, 101]⟩, ⟨#[113]⟩] (by decide) (by decide) NmOk (nm_all (by decide +kernel)) _ _ _ l g p4 _ (h4.below st5 hg4) (by omega) L5 hg4 (Nat.le_refl _)).mono ?_
    rintro e w5 ⟨v, p5, rfl, h5, hp5, hb5, y, hy, rfl⟩
    have R5 := hb5.row (R4.alloc (.cells (([⟨#[]⟩, ⟨#[100, 111]⟩, ⟨#[65]⟩, ⟨#[97, 98, 99, 100, 101]⟩, ⟨#[113]⟩] : List ByteArray).map Value.string).toArray 9)) hgw
    have B5 := hb5.row (B4.alloc (.cells (([⟨#[]⟩, ⟨#[100, 111]⟩, ⟨#[65]⟩, ⟨#[97, 98, 99, 100, 101]⟩, ⟨#[113]⟩] : List ByteArray).map Value.string).toArray 9)) hg2
    have hB5 := (hB4.alloc hgw (.cells (([⟨#[]⟩, ⟨#[100, 111]⟩, ⟨#[65]⟩, ⟨#[97, 98, 99, 100, 101]⟩, ⟨#[113]⟩] : List ByteArray).map Value.string).toArray 9)).trans hb5
    have hE5 := (hE4.keepT (fun b h1 h2 => Below.heap_alloc w4 (.cells (([⟨#[]⟩, ⟨#[100, 111]⟩, ⟨#[65]⟩, ⟨#[97, 98, 99, 100, 101]⟩, ⟨#[113]⟩] : List ByteArray).map Value.string).toArray 9) b h2) st5.size).but hb5 hlo2
    have hsz5 := B5.lt
    have hgs := hg2
    have y0 : w5.cell? ⟨w2.heap.size, 0, none⟩ = some (.int .i64 op) := B5.cell 0
    have y1 : w5.cell? ⟨w2.heap.size, 1, none⟩ = some (.int .i64 n) := B5.cell 1
    have y2 : w5.cell? ⟨w2.heap.size, 2, none⟩ = some (.string name) := B5.cell 2
    have y3 : w5.cell? ⟨w2.heap.size, 3, none⟩ = some (.slice A3 kids.length c3) := B5.cell 3
    have yf0 : w5.frozen? ⟨w2.heap.size, 0, none⟩ = false := B5.frozen 0
    have yf1 : w5.frozen? ⟨w2.heap.size, 1, none⟩ = false := B5.frozen 1
    have yf2 : w5.frozen? ⟨w2.heap.size, 2, none⟩ = false := B5.frozen 2
    have yf3 : w5.frozen? ⟨w2.heap.size, 3, none⟩ = false := B5.frozen 3
    have R6 : Row (w5.setCell ⟨w2.heap.size, 2, none⟩ (.string y)) w.heap.size 25 #[.int .i64 0, .int .i64 0, .string ⟨#[]⟩, .slice none 0 0] := R5.far (by show w.heap.size ≠ w2.heap.size; omega) _
    have B6 := B5.set_ 2 (.string y)
    have s0 : (w5.setCell ⟨w2.heap.size, 2, none⟩ (.string y)).cell? ⟨w.heap.size, 0, none⟩ = some (.int .i64 0) := R6.cell 0
    have s1 : (w5.setCell ⟨w2.heap.size, 2, none⟩ (.string y)).cell? ⟨w.heap.size, 1, none⟩ = some (.int .i64 0) := R6.cell 1
    have s2 : (w5.setCell ⟨w2.heap.size, 2, none⟩ (.string y)).cell? ⟨w.heap.size, 2, none⟩ = some (.string ⟨#[]⟩) := R6.cell 2
    have s3 : (w5.setCell ⟨w2.heap.size, 2, none⟩ (.string y)).cell? ⟨w.heap.size, 3, none⟩ = some (.slice none 0 0) := R6.cell 3
    have sf0 : (w5.setCell ⟨w2.heap.size, 2, none⟩ (.string y)).frozen? ⟨w.heap.size, 0, none⟩ = false := R6.frozen 0
    have sf1 : (w5.setCell ⟨w2.heap.size, 2, none⟩ (.string y)).frozen? ⟨w.heap.size, 1, none⟩ = false := R6.frozen 1
    have sf2 : (w5.setCell ⟨w2.heap.size, 2, none⟩ (.string y)).frozen? ⟨w.heap.size, 2, none⟩ = false := R6.frozen 2
    have sf3 : (w5.setCell ⟨w2.heap.size, 2, none⟩ (.string y)).frozen? ⟨w.heap.size, 3, none⟩ = false := R6.frozen 3
    have x0 : (w5.setCell ⟨w2.heap.size, 2, none⟩ (.string y)).cell? ⟨w2.heap.size, 0, none⟩ = some (.int .i64 op) := B6.cell 0
    have x1 : (w5.setCell ⟨w2.heap.size, 2, none⟩ (.string y)).cell? ⟨w2.heap.size, 1, none⟩ = some (.int .i64 n) := B6.cell 1
    have x2 : (w5.setCell ⟨w2.heap.size, 2, none⟩ (.string y)).cell? ⟨w2.heap.size, 2, none⟩ = some (.string y) := B6.cell 2
    have x3 : (w5.setCell ⟨w2.heap.size, 2, none⟩ (.string y)).cell? ⟨w2.heap.size, 3, none⟩ = some (.slice A3 kids.length c3) := B6.cell 3
    have xf0 : (w5.setCell ⟨w2.heap.size, 2, none⟩ (.string y)).frozen? ⟨w2.heap.size, 0, none⟩ = false := B6.frozen 0
    have xf1 : (w5.setCell ⟨w2.heap.size, 2, none⟩ (.string y)).frozen? ⟨w2.heap.size, 1, none⟩ = false := B6.frozen 1
    have xf2 : (w5.setCell ⟨w2.heap.size, 2, none⟩ (.string y)).frozen? ⟨w2.heap.size, 2, none⟩ = false := B6.frozen 2
    have xf3 : (w5.setCell ⟨w2.heap.size, 2, none⟩ (.string y)).frozen? ⟨w2.heap.size, 3, none⟩ = false := B6.frozen 3
    have hE6 : ExV 8 (w.heap.size + 1) op n name kids (.slice A3 kids.length c3) (w5.setCell ⟨w2.heap.size, 2, none⟩ (.string y)) := hE2.keepT (fun b h1 h2 => (Below.heap_setCell _ _ _ b (by show b ≠ w2.heap.size; omega)).trans ((hB24.alloc hg2 (.cells (([⟨#[]⟩, ⟨#[100, 111]⟩, ⟨#[65]⟩, ⟨#[97, 98, 99, 100, 101]⟩, ⟨#[113]⟩] : List ByteArray).map Value.string).toArray 9)).trans hb5 |>.2 b (by omega) h2)) (by simp only [World.setCell, Array.size_modify]; omega)
    have h6 : RdAt (w5.setCell ⟨w2.heap.size, 2, none⟩ (.string y)) g l p5 := h5.below ((Below.refl w2.heap.size _).setCell (p := ⟨w2.heap.size, 2, none⟩) (Nat.le_refl _) _) hg2
    have hB6 : ButR g w (w5.setCell ⟨w2.heap.size, 2, none⟩ (.string y)) := hB5.setNew hgw (by show w.heap.size ≤ w2.heap.size; omega) _
    have hE7 : ExV 8 (w.heap.size + 1) op n y kids (.slice A3 kids.length c3) (w5.setCell ⟨w2.heap.size, 2, none⟩ (.string y)) := ⟨hE6.1, hE6.2.1, hy.1, hy.2, hE6.2.2.2.2⟩
    have F := Lib.hid (DrE.fin (p := p) (K := 2000) hgw h6 (by omega) hB6 (hE7.lower (show 8 ≤ 9 by omega) (Nat.le_refl _)) (Nat.lt_succ_self _))
    clear hE4 hE5 hE6 hE7 hE2 hB6 hB5 hb5 hB4 hB24 st5 L5
    go_wp2_with fail
    refine bodyPost_ret (v := .agg #[.int .i64 op, .int .i64 n, .string y, .slice A3 kids.length c3]) (by simp [results, Tryd.results19, go_sem, s0, s1, s2, s3]) rfl F.out
  have q1 : ((k : Int) == 1) = false := by simp; omega
  by_cases k2 : k = 2
  · subst k2
    have L5 := lit_int w4 [0, 14, -1, 5, 11] (i64_of (by decide)) (by decide)
    have st5 := (Below.refl _ w4).alloc (Nat.le_refl _) (.cells ([0, 14, -1, 5, 11].map (Value.int .i64)).toArray 3)
    have hg4 := h4.lt
    go_wp2_with fail
    refine (num_ok [0, 14, -1, 5, 11] (by decide) (by decide) I64 (i64_of (by decide)) _ _ _ l g p4 _ (h4.below st5 hg4) (by omega) L5 hg4 (Nat.le_refl _)).mono ?_
    rintro e w5 ⟨v, p5, rfl, h5, hp5, hb5, y, hy, rfl⟩
    have R5 := hb5.row (R4.alloc (.cells ([0, 14, -1, 5, 11].map (Value.int .i64)).toArray 3)) hgw
    have B5 := hb5.row (B4.alloc (.cells ([0, 14, -1, 5, 11].map (Value.int .i64)).toArray 3)) hg2
    have hB5 := (hB4.alloc hgw (.cells ([0, 14, -1, 5, 11].map (Value.int .i64)).toArray 3)).trans hb5
    have hE5 := (hE4.keepT (fun b h1 h2 => Below.heap_alloc w4 (.cells ([0, 14, -1, 5, 11].map (Value.int .i64)).toArray 3) b h2) st5.size).but hb5 hlo2
    have hsz5 := B5.lt
    have hgs := hg2
    have y0 : w5.cell? ⟨w2.heap.size, 0, none⟩ = some (.int .i64 op) := B5.cell 0
    have y1 : w5.cell? ⟨w2.heap.size, 1, none⟩ = some (.int .i64 n) := B5.cell 1
    have y2 : w5.cell? ⟨w2.heap.size, 2, none⟩ = some (.string name) := B5.cell 2
    have y3 : w5.cell? ⟨w2.heap.size, 3, none⟩ = some (.slice A3 kids.length c3) := B5.cell 3
    have yf0 : w5.frozen? ⟨w2.heap.size, 0, none⟩ = false := B5.frozen 0
    have yf1 : w5.frozen? ⟨w2.heap.size, 1, none⟩ = false := B5.frozen 1
    have yf2 : w5.frozen? ⟨w2.heap.size, 2, none⟩ = false := B5.frozen 2
    have yf3 : w5.frozen? ⟨w2.heap.size, 3, none⟩ = false := B5.frozen 3
    have R6 : Row (w5.setCell ⟨w2.heap.size, 0, none⟩ (.int .i64 y)) w.heap.size 25 #[.int .i64 0, .int .i64 0, .string ⟨#[]⟩, .slice none 0 0] := R5.far (by show w.heap.size ≠ w2.heap.size; omega) _
    have B6 := B5.set_ 0 (.int .i64 y)
    have s0 : (w5.setCell ⟨w2.heap.size, 0, none⟩ (.int .i64 y)).cell? ⟨w.heap.size, 0, none⟩ = some (.int .i64 0) := R6.cell 0
    have s1 : (w5.setCell ⟨w2.heap.size, 0, none⟩ (.int .i64 y)).cell? ⟨w.heap.size, 1, none⟩ = some (.int .i64 0) := R6.cell 1
    have s2 : (w5.setCell ⟨w2.heap.size, 0, none⟩ (.int .i64 y)).cell? ⟨w.heap.size, 2, none⟩ = some (.string ⟨#[]⟩) := R6.cell 2
    have s3 : (w5.setCell ⟨w2.heap.size, 0, none⟩ (.int .i64 y)).cell? ⟨w.heap.size, 3, none⟩ = some (.slice none 0 0) := R6.cell 3
    have sf0 : (w5.setCell ⟨w2.heap.size, 0, none⟩ (.int .i64 y)).frozen? ⟨w.heap.size, 0, none⟩ = false := R6.frozen 0
    have sf1 : (w5.setCell ⟨w2.heap.size, 0, none⟩ (.int .i64 y)).frozen? ⟨w.heap.size, 1, none⟩ = false := R6.frozen 1
    have sf2 : (w5.setCell ⟨w2.heap.size, 0, none⟩ (.int .i64 y)).frozen? ⟨w.heap.size, 2, none⟩ = false := R6.frozen 2
    have sf3 : (w5.setCell ⟨w2.heap.size, 0, none⟩ (.int .i64 y)).frozen? ⟨w.heap.size, 3, none⟩ = false := R6.frozen 3
    have x0 : (w5.setCell ⟨w2.heap.size, 0, none⟩ (.int .i64 y)).cell? ⟨w2.heap.size, 0, none⟩ = some (.int .i64 y) := B6.cell 0
    have x1 : (w5.setCell ⟨w2.heap.size, 0, none⟩ (.int .i64 y)).cell? ⟨w2.heap.size, 1, none⟩ = some (.int .i64 n) := B6.cell 1
    have x2 : (w5.setCell ⟨w2.heap.size, 0, none⟩ (.int .i64 y)).cell? ⟨w2.heap.size, 2, none⟩ = some (.string name) := B6.cell 2
    have x3 : (w5.setCell ⟨w2.heap.size, 0, none⟩ (.int .i64 y)).cell? ⟨w2.heap.size, 3, none⟩ = some (.slice A3 kids.length c3) := B6.cell 3
    have xf0 : (w5.setCell ⟨w2.heap.size, 0, none⟩ (.int .i64 y)).frozen? ⟨w2.heap.size, 0, none⟩ = false := B6.frozen 0
    have xf1 : (w5.setCell ⟨w2.heap.size, 0, none⟩ (.int .i64 y)).frozen? ⟨w2.heap.size, 1, none⟩ = false := B6.frozen 1
    have xf2 : (w5.setCell ⟨w2.heap.size, 0, none⟩ (.int .i64 y)).frozen? ⟨w2.heap.size, 2, none⟩ = false := B6.frozen 2
    have xf3 : (w5.setCell ⟨w2.heap.size, 0, none⟩ (.int .i64 y)).frozen? ⟨w2.heap.size, 3, none⟩ = false := B6.frozen 3
    have hE6 : ExV 8 (w.heap.size + 1) op n name kids (.slice A3 kids.length c3) (w5.setCell ⟨w2.heap.size, 0, none⟩ (.int .i64 y)) := hE2.keepT (fun b h1 h2 => (Below.heap_setCell _ _ _ b (by show b ≠ w2.heap.size; omega)).trans ((hB24.alloc hg2 (.cells ([0, 14, -1, 5, 11].map (Value.int .i64)).toArray 3)).trans hb5 |>.2 b (by omega) h2)) (by simp only [World.setCell, Array.size_modify]; omega)
    have h6 : RdAt (w5.setCell ⟨w2.heap.size, 0, none⟩ (.int .i64 y)) g l p5 := h5.below ((Below.refl w2.heap.size _).setCell (p := ⟨w2.heap.size, 0, none⟩) (Nat.le_refl _) _) hg2
    have hB6 : ButR g w (w5.setCell ⟨w2.heap.size, 0, none⟩ (.int .i64 y)) := hB5.setNew hgw (by show w.heap.size ≤ w2.heap.size; omega) _
    have hE7 : ExV 8 (w.heap.size + 1) y n name kids (.slice A3 kids.length c3) (w5.setCell ⟨w2.heap.size, 0, none⟩ (.int .i64 y)) := ⟨hy, hE6.2.1, hE6.2.2.1, hE6.2.2.2.1, hE6.2.2.2.2⟩
    have F := Lib.hid (DrE.fin (p := p) (K := 2000) hgw h6 (by omega) hB6 (hE7.lower (show 8 ≤ 9 by omega) (Nat.le_refl _)) (Nat.lt_succ_self _))
    clear hE4 hE5 hE6 hE7 hE2 hB6 hB5 hb5 hB4 hB24 st5 L5
    go_wp2_with fail
    refine bodyPost_ret (v := .agg #[.int .i64 y, .int .i64 n, .string name, .slice A3 kids.length c3]) (by simp [results, Tryd.results19, go_sem, s0, s1, s2, s3]) rfl F.out
  have q2 : ((k : Int) == 2) = false := by simp; omega
  by_cases k3 : k = 3
  · subst k3
    go_wp2_with fail
    refine wp_region_held_drew (S := fun w' => True) (by kernel_rfl) ?_ (fun hHeld => ?_)
    · trivial
    generalize hwd : w4.drew = wd at hHeld ⊢
    have hRd : RdAt wd g l p4 := by rw [← hwd]; exact h4.below ((Below.refl g.succ w4).drew) (Nat.lt_succ_self _)
    have hgd := hRd.lt
    have hBd : ButR g w wd := by rw [← hwd]; exact ⟨hB4.1.drew, hB4.2⟩
    have hB2d : ButR g w2 wd := by rw [← hwd]; exact ⟨hB24.1.drew, hB24.2⟩
    have Rd : Row wd w.heap.size 25 #[.int .i64 0, .int .i64 0, .string ⟨#[]⟩, .slice none 0 0] := by rw [← hwd]; exact R4.drew
    have Bd : Row wd w2.heap.size 25 #[.int .i64 op, .int .i64 n, .string name, .slice A3 kids.length c3] := by rw [← hwd]; exact B4.drew
    have kd : wd.cell? ⟨w2.heap.size, 3, none⟩ = some (.slice A3 kids.length c3) := Bd.cell 3
    have hg2d : w2.heap.size < wd.heap.size := Bd.lt
    have hkl := hE2.2.2.2.2.2.1
    obtain ⟨xs, pp, qq, own0, hp0⟩ := hE2.2.2.2.2.2.2
    have hob : (Value.slice A3 kids.length c3).ownBlock ≠ some w2.heap.size := fun e => Nat.lt_irrefl _ (own0.lt _ e).2
    have ownd := own_keep (w' := wd) own0 (fun b h1 h2 => hB2d.2 b (by omega) h2)
    have hpd := hp0.keepT (w' := wd) (fun b h1 h2 => hB2d.2 b (by omega) h2) hB2d.1.size
    clear hwd R4 B4 hB4 hB24 hE4
    refine reg_take (i := 0) (v := ?v1) rfl (by kernel_rfl) (by kernel_rfl) (by kernel_rfl) (fun _ _ _ h => h) (Or.inl ⟨by kernel_rfl, ?h1⟩) trivial ?r1
    case h1 => (intro w hSw; (try dsimp only at hSw); go_simp; try with_reducible rfl)
    try simp only [Act.put, List.setIfInBounds_toArray, List.set_cons_zero, List.set_cons_succ]
    refine reg_take (i := 2) (v := ?v2) rfl (by kernel_rfl) (by kernel_rfl) (by kernel_rfl) (fun _ _ _ h => h) (Or.inl ⟨by kernel_rfl, ?h2⟩) trivial ?r2
    case h2 => (intro w hSw; (try dsimp only at hSw); go_simp; try with_reducible rfl)
    try simp only [Act.put, List.setIfInBounds_toArray, List.set_cons_zero, List.set_cons_succ]
    refine reg_call2 (i := 1) (j := 3) (by kernel_rfl) rfl rfl (fun K hK => ?_) (fun K hK => ?_)
    · go_simp
      refine hK.out _ _ trivial (fun hHeld => ?_)
      clear hK K
      try simp only [Act.put, List.setIfInBounds_toArray, List.set_cons_zero, List.set_cons_succ]
      refine reg_call (i := 3) (by kernel_rfl) rfl (fun K hK => ?_)
      go_simp
      refine (leaf_ok [] (fun s hs => by cases hs) (by decide) _ (g + 1) 0 l g p4 _ hRd (by omega) (Sl.nil_ _ _ _ _ _) (Nat.lt_succ_self _) (Nat.zero_le _) 7).mono ?_
      rintro e w8 ⟨p8, op', n', name', kids', A7, c7, rfl, h8, hp8, hb8, hE8⟩
      have B8 := hb8.row Bd hg2
      have own8 := own_keep ownd (fun b h1 h2 => hb8.2 b (by omega) h2)
      have sz8 := hb8.1.size
      have k8 : w8.cell? ⟨w2.heap.size, 3, none⟩ = some (.slice A3 kids.length c3) := B8.cell 3
      refine hK.out _ _ trivial (fun hHeld => ?_)
      clear hK K
      try simp only [Act.put, List.setIfInBounds_toArray, List.set_cons_zero, List.set_cons_succ]
      refine reg_call (i := 4) (by kernel_rfl) rfl (fun K hK => ?_)
      go_simp
      have BR := B8.alloc (.cells #[.int .i64 op', .int .i64 n', .string name', .slice A7 kids'.length c7] 25)
      have kR : (w8.alloc (.cells #[.int .i64 op', .int .i64 n', .string name', .slice A7 kids'.length c7] 25)).cell? ⟨w2.heap.size, 3, none⟩ = some (.slice A3 kids.length c3) := BR.cell 3
      refine hK.out _ _ trivial (fun hHeld => ?_)
      clear hK K
      try simp only [Act.put, List.setIfInBounds_toArray, List.set_cons_zero, List.set_cons_succ]
      refine reg_call (i := 5) (by kernel_rfl) rfl (fun K hK => ?_)
      obtain ⟨v9, w9, r9, own9, g9, hat9⟩ := append_one w8 (w.heap.size + 1) 23 (.slice A3 kids.length c3) kids.length xs own8 op' n' name' A7 kids'.length c7 (by omega) (by omega)
      rw [if_pos (show Region.wanted _ _ = true by kernel_rfl)]
      refine Lib.wp_append_run_sl _ _ _ 23 rfl _ _ rfl rfl r9 ?_
      clear r9
      obtain ⟨gv9, cv9, rfl⟩ := own_form own9 (Nat.succ_pos _)
      have hgr9 : Below (w.heap.size + 1) w8 w9 := ((Below.refl _ _).alloc (by omega) _).grown g9 (by simp; omega) (fun r hr => own_ge own8 hr)
      have B9 : Row w9 w2.heap.size 25 #[.int .i64 op, .int .i64 n, .string name, .slice A3 kids.length c3] := (g9.block w2.heap.size (by simp; omega) (fun e => hob e.symm)).trans (B8.alloc _)
      have k9 : w9.cell? ⟨w2.heap.size, 3, none⟩ = some (.slice A3 kids.length c3) := B9.cell 3
      have f9 : w9.frozen? ⟨w2.heap.size, 3, none⟩ = false := B9.frozen 3
      refine hK.out _ _ trivial (fun hHeld => ?_)
      clear hK K
      try simp only [Act.put, List.setIfInBounds_toArray, List.set_cons_zero, List.set_cons_succ]
      refine reg_take (i := 6) (v := ?v3) rfl (by kernel_rfl) (by kernel_rfl) (by kernel_rfl) (fun _ _ _ h => h) (Or.inl ⟨by kernel_rfl, ?h3⟩) trivial ?r3
      case h3 => (intro w hSw; (try dsimp only at hSw); go_simp; try with_reducible rfl)
      try simp only [Act.put, List.setIfInBounds_toArray, List.set_cons_zero, List.set_cons_succ]
      refine reg_call (i := 7) (by kernel_rfl) rfl (fun K hK => ?_)
      go_simp
      refine hK.out _ _ trivial (fun hHeld => ?_)
      clear hK K
      try simp only [Act.put, List.setIfInBounds_toArray, List.set_cons_zero, List.set_cons_succ]
      refine wpAnyH_done (by kernel_rfl) ?_ _
      have nz9 : ∀ k ∈ (kids ++ [Ex.mk op' n' name' kids']), NoZ k := by
        intro k hk
        rcases List.mem_append.1 hk with hk | hk
        · exact hE2.2.2.2.2.1 k hk
        · obtain rfl := List.mem_singleton.1 hk; exact hE8.noZ
      have hBw : ButR g w (w9.setCell ⟨w2.heap.size, 3, none⟩ (.slice (some ⟨gv9, 0, none⟩) (kids.length + 1) cv9)) := ((hBd.trans hb8).thenB (hgr9.mono (by omega)) hgw).setNew hgw (by show w.heap.size ≤ w2.heap.size; omega) _
      have R9 : Row (w9.setCell ⟨w2.heap.size, 3, none⟩ (.slice (some ⟨gv9, 0, none⟩) (kids.length + 1) cv9)) w.heap.size 25 #[.int .i64 0, .int .i64 0, .string ⟨#[]⟩, .slice none 0 0] := ((hb8.row Rd hgw).below hgr9 (by omega)).far (by show w.heap.size ≠ w2.heap.size; omega) _
      have B10 := B9.set_ 3 (.slice (some ⟨gv9, 0, none⟩) (kids.length + 1) cv9)
      have D9 : RdAt (w9.setCell ⟨w2.heap.size, 3, none⟩ (.slice (some ⟨gv9, 0, none⟩) (kids.length + 1) cv9)) g l p8 := (h8.below hgr9 (by omega)).below ((Below.refl w2.heap.size _).setCell (p := ⟨w2.heap.size, 3, none⟩) (Nat.le_refl _) _) (by omega)
      have own10 : OwnT (fun m => exT m 8) 25 (w9.setCell ⟨w2.heap.size, 3, none⟩ (.slice (some ⟨gv9, 0, none⟩) (kids.length + 1) cv9)) (w.heap.size + 1) (.slice (some ⟨gv9, 0, none⟩) (kids.length + 1) cv9) (kids ++ [Ex.mk op' n' name' kids']) := snoc_box (b := w2.heap.size) ownd hpd (fun b h1 h2 => hb8.2 b (by omega) h2) sz8 (by omega) (fun m => hE8.rep m) own9 g9 hat9 (by omega) (fun i a ha => (hp0 i a ha).2.1) hob (fun x hx => Below.heap_setCell _ _ _ x hx) (by simp [World.setCell])
      have hE9 : ExV 9 (w.heap.size + 1) op n name (kids ++ [Ex.mk op' n' name' kids']) (.slice (some ⟨gv9, 0, none⟩) (kids.length + 1) cv9) (w9.setCell ⟨w2.heap.size, 3, none⟩ (.slice (some ⟨gv9, 0, none⟩) (kids.length + 1) cv9)) := ⟨hE2.1, hE2.2.1, hE2.2.2.1, hE2.2.2.2.1, nz9, by rw [List.length_append]; simp only [List.length_singleton]; omega, own10.lift (show 8 ≤ 9 by omega)⟩
      have el : (kids ++ [Ex.mk op' n' name' kids']).length = kids.length + 1 := by simp
      have F := DrE.fin (p := p) (K := 2000) (A := some ⟨gv9, 0, none⟩) (c := cv9) (kids := (kids ++ [Ex.mk op' n' name' kids'])) hgw D9 (by omega) hBw (by rw [el]; exact hE9) (Nat.lt_succ_self _)
      rw [el] at F
      replace F := Lib.hid F
      have s0 : (w9.setCell ⟨w2.heap.size, 3, none⟩ (.slice (some ⟨gv9, 0, none⟩) (kids.length + 1) cv9)).cell? ⟨w.heap.size, 0, none⟩ = some (.int .i64 0) := R9.cell 0
      have s1 : (w9.setCell ⟨w2.heap.size, 3, none⟩ (.slice (some ⟨gv9, 0, none⟩) (kids.length + 1) cv9)).cell? ⟨w.heap.size, 1, none⟩ = some (.int .i64 0) := R9.cell 1
      have s2 : (w9.setCell ⟨w2.heap.size, 3, none⟩ (.slice (some ⟨gv9, 0, none⟩) (kids.length + 1) cv9)).cell? ⟨w.heap.size, 2, none⟩ = some (.string ⟨#[]⟩) := R9.cell 2
      have s3 : (w9.setCell ⟨w2.heap.size, 3, none⟩ (.slice (some ⟨gv9, 0, none⟩) (kids.length + 1) cv9)).cell? ⟨w.heap.size, 3, none⟩ = some (.slice none 0 0) := R9.cell 3
      have sf0 : (w9.setCell ⟨w2.heap.size, 3, none⟩ (.slice (some ⟨gv9, 0, none⟩) (kids.length + 1) cv9)).frozen? ⟨w.heap.size, 0, none⟩ = false := R9.frozen 0
      have sf1 : (w9.setCell ⟨w2.heap.size, 3, none⟩ (.slice (some ⟨gv9, 0, none⟩) (kids.length + 1) cv9)).frozen? ⟨w.heap.size, 1, none⟩ = false := R9.frozen 1
      have sf2 : (w9.setCell ⟨w2.heap.size, 3, none⟩ (.slice (some ⟨gv9, 0, none⟩) (kids.length + 1) cv9)).frozen? ⟨w.heap.size, 2, none⟩ = false := R9.frozen 2
      have sf3 : (w9.setCell ⟨w2.heap.size, 3, none⟩ (.slice (some ⟨gv9, 0, none⟩) (kids.length + 1) cv9)).frozen? ⟨w.heap.size, 3, none⟩ = false := R9.frozen 3
      have x0 : (w9.setCell ⟨w2.heap.size, 3, none⟩ (.slice (some ⟨gv9, 0, none⟩) (kids.length + 1) cv9)).cell? ⟨w2.heap.size, 0, none⟩ = some (.int .i64 op) := B10.cell 0
      have x1 : (w9.setCell ⟨w2.heap.size, 3, none⟩ (.slice (some ⟨gv9, 0, none⟩) (kids.length + 1) cv9)).cell? ⟨w2.heap.size, 1, none⟩ = some (.int .i64 n) := B10.cell 1
      have x2 : (w9.setCell ⟨w2.heap.size, 3, none⟩ (.slice (some ⟨gv9, 0, none⟩) (kids.length + 1) cv9)).cell? ⟨w2.heap.size, 2, none⟩ = some (.string name) := B10.cell 2
      have x3 : (w9.setCell ⟨w2.heap.size, 3, none⟩ (.slice (some ⟨gv9, 0, none⟩) (kids.length + 1) cv9)).cell? ⟨w2.heap.size, 3, none⟩ = some (.slice (some ⟨gv9, 0, none⟩) (kids.length + 1) cv9) := B10.cell 3
      have xf0 : (w9.setCell ⟨w2.heap.size, 3, none⟩ (.slice (some ⟨gv9, 0, none⟩) (kids.length + 1) cv9)).frozen? ⟨w2.heap.size, 0, none⟩ = false := B10.frozen 0
      have xf1 : (w9.setCell ⟨w2.heap.size, 3, none⟩ (.slice (some ⟨gv9, 0, none⟩) (kids.length + 1) cv9)).frozen? ⟨w2.heap.size, 1, none⟩ = false := B10.frozen 1
      have xf2 : (w9.setCell ⟨w2.heap.size, 3, none⟩ (.slice (some ⟨gv9, 0, none⟩) (kids.length + 1) cv9)).frozen? ⟨w2.heap.size, 2, none⟩ = false := B10.frozen 2
      have xf3 : (w9.setCell ⟨w2.heap.size, 3, none⟩ (.slice (some ⟨gv9, 0, none⟩) (kids.length + 1) cv9)).frozen? ⟨w2.heap.size, 3, none⟩ = false := B10.frozen 3
      clear own9 g9 hat9 hgr9 B9 k9 f9 own10 hE9 nz9 hBw own8 k8 kR BR
      go_wp2_with fail
      refine bodyPost_ret (v := .agg #[.int .i64 op, .int .i64 n, .string name, .slice (some ⟨gv9, 0, none⟩) (kids.length + 1) cv9]) (by simp [results, Tryd.results19, go_sem, s0, s1, s2, s3]) rfl F.out
    · go_simp
      refine (leaf_ok [] (fun s hs => by cases hs) (by decide) _ (g + 1) 0 l g p4 _ hRd (by omega) (Sl.nil_ _ _ _ _ _) (Nat.lt_succ_self _) (Nat.zero_le _) 7).mono ?_
      rintro e w8 ⟨p8, op', n', name', kids', A7, c7, rfl, h8, hp8, hb8, hE8⟩
      have B8 := hb8.row Bd hg2
      have own8 := own_keep ownd (fun b h1 h2 => hb8.2 b (by omega) h2)
      have sz8 := hb8.1.size
      have k8 : w8.cell? ⟨w2.heap.size, 3, none⟩ = some (.slice A3 kids.length c3) := B8.cell 3
      refine hK.out _ _ trivial (fun hHeld => ?_)
      clear hK K
      try simp only [Act.put, List.setIfInBounds_toArray, List.set_cons_zero, List.set_cons_succ]
      refine reg_call2 (i := 1) (j := 4) (by kernel_rfl) rfl rfl (fun K hK => ?_) (fun K hK => ?_)
      · go_simp
        refine hK.out _ _ trivial (fun hHeld => ?_)
        clear hK K
        try simp only [Act.put, List.setIfInBounds_toArray, List.set_cons_zero, List.set_cons_succ]
        refine reg_call (i := 4) (by kernel_rfl) rfl (fun K hK => ?_)
        go_simp
        have BR := B8.alloc (.cells #[.int .i64 op', .int .i64 n', .string name', .slice A7 kids'.length c7] 25)
        have kR : (w8.alloc (.cells #[.int .i64 op', .int .i64 n', .string name', .slice A7 kids'.length c7] 25)).cell? ⟨w2.heap.size, 3, none⟩ = some (.slice A3 kids.length c3) := BR.cell 3
        refine hK.out _ _ trivial (fun hHeld => ?_)
        clear hK K
        try simp only [Act.put, List.setIfInBounds_toArray, List.set_cons_zero, List.set_cons_succ]
        refine reg_call (i := 5) (by kernel_rfl) rfl (fun K hK => ?_)
        obtain ⟨v9, w9, r9, own9, g9, hat9⟩ := append_one w8 (w.heap.size + 1) 23 (.slice A3 kids.length c3) kids.length xs own8 op' n' name' A7 kids'.length c7 (by omega) (by omega)
        rw [if_pos (show Region.wanted _ _ = true by kernel_rfl)]
        refine Lib.wp_append_run_sl _ _ _ 23 rfl _ _ rfl rfl r9 ?_
        clear r9
        obtain ⟨gv9, cv9, rfl⟩ := own_form own9 (Nat.succ_pos _)
        have hgr9 : Below (w.heap.size + 1) w8 w9 := ((Below.refl _ _).alloc (by omega) _).grown g9 (by simp; omega) (fun r hr => own_ge own8 hr)
        have B9 : Row w9 w2.heap.size 25 #[.int .i64 op, .int .i64 n, .string name, .slice A3 kids.length c3] := (g9.block w2.heap.size (by simp; omega) (fun e => hob e.symm)).trans (B8.alloc _)
        have k9 : w9.cell? ⟨w2.heap.size, 3, none⟩ = some (.slice A3 kids.length c3) := B9.cell 3
        have f9 : w9.frozen? ⟨w2.heap.size, 3, none⟩ = false := B9.frozen 3
        refine hK.out _ _ trivial (fun hHeld => ?_)
        clear hK K
        try simp only [Act.put, List.setIfInBounds_toArray, List.set_cons_zero, List.set_cons_succ]
        refine reg_take (i := 6) (v := ?v4) rfl (by kernel_rfl) (by kernel_rfl) (by kernel_rfl) (fun _ _ _ h => h) (Or.inl ⟨by kernel_rfl, ?h4⟩) trivial ?r4
        case h4 => (intro w hSw; (try dsimp only at hSw); go_simp; try with_reducible rfl)
        try simp only [Act.put, List.setIfInBounds_toArray, List.set_cons_zero, List.set_cons_succ]
        refine reg_call (i := 7) (by kernel_rfl) rfl (fun K hK => ?_)
        go_simp
        refine hK.out _ _ trivial (fun hHeld => ?_)
        clear hK K
        try simp only [Act.put, List.setIfInBounds_toArray, List.set_cons_zero, List.set_cons_succ]
        refine wpAnyH_done (by kernel_rfl) ?_ _
        have nz9 : ∀ k ∈ (kids ++ [Ex.mk op' n' name' kids']), NoZ k := by
          intro k hk
          rcases List.mem_append.1 hk with hk | hk
          · exact hE2.2.2.2.2.1 k hk
          · obtain rfl := List.mem_singleton.1 hk; exact hE8.noZ
        have hBw : ButR g w (w9.setCell ⟨w2.heap.size, 3, none⟩ (.slice (some ⟨gv9, 0, none⟩) (kids.length + 1) cv9)) := ((hBd.trans hb8).thenB (hgr9.mono (by omega)) hgw).setNew hgw (by show w.heap.size ≤ w2.heap.size; omega) _
        have R9 : Row (w9.setCell ⟨w2.heap.size, 3, none⟩ (.slice (some ⟨gv9, 0, none⟩) (kids.length + 1) cv9)) w.heap.size 25 #[.int .i64 0, .int .i64 0, .string ⟨#[]⟩, .slice none 0 0] := ((hb8.row Rd hgw).below hgr9 (by omega)).far (by show w.heap.size ≠ w2.heap.size; omega) _
        have B10 := B9.set_ 3 (.slice (some ⟨gv9, 0, none⟩) (kids.length + 1) cv9)
        have D9 : RdAt (w9.setCell ⟨w2.heap.size, 3, none⟩ (.slice (some ⟨gv9, 0, none⟩) (kids.length + 1) cv9)) g l p8 := (h8.below hgr9 (by omega)).below ((Below.refl w2.heap.size _).setCell (p := ⟨w2.heap.size, 3, none⟩) (Nat.le_refl _) _) (by omega)
        have own10 : OwnT (fun m => exT m 8) 25 (w9.setCell ⟨w2.heap.size, 3, none⟩ (.slice (some ⟨gv9, 0, none⟩) (kids.length + 1) cv9)) (w.heap.size + 1) (.slice (some ⟨gv9, 0, none⟩) (kids.length + 1) cv9) (kids ++ [Ex.mk op' n' name' kids']) := snoc_box (b := w2.heap.size) ownd hpd (fun b h1 h2 => hb8.2 b (by omega) h2) sz8 (by omega) (fun m => hE8.rep m) own9 g9 hat9 (by omega) (fun i a ha => (hp0 i a ha).2.1) hob (fun x hx => Below.heap_setCell _ _ _ x hx) (by simp [World.setCell])
        have hE9 : ExV 9 (w.heap.size + 1) op n name (kids ++ [Ex.mk op' n' name' kids']) (.slice (some ⟨gv9, 0, none⟩) (kids.length + 1) cv9) (w9.setCell ⟨w2.heap.size, 3, none⟩ (.slice (some ⟨gv9, 0, none⟩) (kids.length + 1) cv9)) := ⟨hE2.1, hE2.2.1, hE2.2.2.1, hE2.2.2.2.1, nz9, by rw [List.length_append]; simp only [List.length_singleton]; omega, own10.lift (show 8 ≤ 9 by omega)⟩
        have el : (kids ++ [Ex.mk op' n' name' kids']).length = kids.length + 1 := by simp
        have F := DrE.fin (p := p) (K := 2000) (A := some ⟨gv9, 0, none⟩) (c := cv9) (kids := (kids ++ [Ex.mk op' n' name' kids'])) hgw D9 (by omega) hBw (by rw [el]; exact hE9) (Nat.lt_succ_self _)
        rw [el] at F
        replace F := Lib.hid F
        have s0 : (w9.setCell ⟨w2.heap.size, 3, none⟩ (.slice (some ⟨gv9, 0, none⟩) (kids.length + 1) cv9)).cell? ⟨w.heap.size, 0, none⟩ = some (.int .i64 0) := R9.cell 0
        have s1 : (w9.setCell ⟨w2.heap.size, 3, none⟩ (.slice (some ⟨gv9, 0, none⟩) (kids.length + 1) cv9)).cell? ⟨w.heap.size, 1, none⟩ = some (.int .i64 0) := R9.cell 1
        have s2 : (w9.setCell ⟨w2.heap.size, 3, none⟩ (.slice (some ⟨gv9, 0, none⟩) (kids.length + 1) cv9)).cell? ⟨w.heap.size, 2, none⟩ = some (.string ⟨#[]⟩) := R9.cell 2
        have s3 : (w9.setCell ⟨w2.heap.size, 3, none⟩ (.slice (some ⟨gv9, 0, none⟩) (kids.length + 1) cv9)).cell? ⟨w.heap.size, 3, none⟩ = some (.slice none 0 0) := R9.cell 3
        have sf0 : (w9.setCell ⟨w2.heap.size, 3, none⟩ (.slice (some ⟨gv9, 0, none⟩) (kids.length + 1) cv9)).frozen? ⟨w.heap.size, 0, none⟩ = false := R9.frozen 0
        have sf1 : (w9.setCell ⟨w2.heap.size, 3, none⟩ (.slice (some ⟨gv9, 0, none⟩) (kids.length + 1) cv9)).frozen? ⟨w.heap.size, 1, none⟩ = false := R9.frozen 1
        have sf2 : (w9.setCell ⟨w2.heap.size, 3, none⟩ (.slice (some ⟨gv9, 0, none⟩) (kids.length + 1) cv9)).frozen? ⟨w.heap.size, 2, none⟩ = false := R9.frozen 2
        have sf3 : (w9.setCell ⟨w2.heap.size, 3, none⟩ (.slice (some ⟨gv9, 0, none⟩) (kids.length + 1) cv9)).frozen? ⟨w.heap.size, 3, none⟩ = false := R9.frozen 3
        have x0 : (w9.setCell ⟨w2.heap.size, 3, none⟩ (.slice (some ⟨gv9, 0, none⟩) (kids.length + 1) cv9)).cell? ⟨w2.heap.size, 0, none⟩ = some (.int .i64 op) := B10.cell 0
        have x1 : (w9.setCell ⟨w2.heap.size, 3, none⟩ (.slice (some ⟨gv9, 0, none⟩) (kids.length + 1) cv9)).cell? ⟨w2.heap.size, 1, none⟩ = some (.int .i64 n) := B10.cell 1
        have x2 : (w9.setCell ⟨w2.heap.size, 3, none⟩ (.slice (some ⟨gv9, 0, none⟩) (kids.length + 1) cv9)).cell? ⟨w2.heap.size, 2, none⟩ = some (.string name) := B10.cell 2
        have x3 : (w9.setCell ⟨w2.heap.size, 3, none⟩ (.slice (some ⟨gv9, 0, none⟩) (kids.length + 1) cv9)).cell? ⟨w2.heap.size, 3, none⟩ = some (.slice (some ⟨gv9, 0, none⟩) (kids.length + 1) cv9) := B10.cell 3
        have xf0 : (w9.setCell ⟨w2.heap.size, 3, none⟩ (.slice (some ⟨gv9, 0, none⟩) (kids.length + 1) cv9)).frozen? ⟨w2.heap.size, 0, none⟩ = false := B10.frozen 0
        have xf1 : (w9.setCell ⟨w2.heap.size, 3, none⟩ (.slice (some ⟨gv9, 0, none⟩) (kids.length + 1) cv9)).frozen? ⟨w2.heap.size, 1, none⟩ = false := B10.frozen 1
        have xf2 : (w9.setCell ⟨w2.heap.size, 3, none⟩ (.slice (some ⟨gv9, 0, none⟩) (kids.length + 1) cv9)).frozen? ⟨w2.heap.size, 2, none⟩ = false := B10.frozen 2
        have xf3 : (w9.setCell ⟨w2.heap.size, 3, none⟩ (.slice (some ⟨gv9, 0, none⟩) (kids.length + 1) cv9)).frozen? ⟨w2.heap.size, 3, none⟩ = false := B10.frozen 3
        clear own9 g9 hat9 hgr9 B9 k9 f9 own10 hE9 nz9 hBw own8 k8 kR BR
        go_wp2_with fail
        refine bodyPost_ret (v := .agg #[.int .i64 op, .int .i64 n, .string name, .slice (some ⟨gv9, 0, none⟩) (kids.length + 1) cv9]) (by simp [results, Tryd.results19, go_sem, s0, s1, s2, s3]) rfl F.out
      · go_simp
        have BR := B8.alloc (.cells #[.int .i64 op', .int .i64 n', .string name', .slice A7 kids'.length c7] 25)
        have kR : (w8.alloc (.cells #[.int .i64 op', .int .i64 n', .string name', .slice A7 kids'.length c7] 25)).cell? ⟨w2.heap.size, 3, none⟩ = some (.slice A3 kids.length c3) := BR.cell 3
        refine hK.out _ _ trivial (fun hHeld => ?_)
        clear hK K
        try simp only [Act.put, List.setIfInBounds_toArray, List.set_cons_zero, List.set_cons_succ]
        refine reg_call (i := 1) (by kernel_rfl) rfl (fun K hK => ?_)
        go_simp
        refine hK.out _ _ trivial (fun hHeld => ?_)
        clear hK K
        try simp only [Act.put, List.setIfInBounds_toArray, List.set_cons_zero, List.set_cons_succ]
        refine reg_call (i := 5) (by kernel_rfl) rfl (fun K hK => ?_)
        obtain ⟨v9, w9, r9, own9, g9, hat9⟩ := append_one w8 (w.heap.size + 1) 23 (.slice A3 kids.length c3) kids.length xs own8 op' n' name' A7 kids'.length c7 (by omega) (by omega)
        rw [if_pos (show Region.wanted _ _ = true by kernel_rfl)]
        refine Lib.wp_append_run_sl _ _ _ 23 rfl _ _ rfl rfl r9 ?_
        clear r9
        obtain ⟨gv9, cv9, rfl⟩ := own_form own9 (Nat.succ_pos _)
        have hgr9 : Below (w.heap.size + 1) w8 w9 := ((Below.refl _ _).alloc (by omega) _).grown g9 (by simp; omega) (fun r hr => own_ge own8 hr)
        have B9 : Row w9 w2.heap.size 25 #[.int .i64 op, .int .i64 n, .string name, .slice A3 kids.length c3] := (g9.block w2.heap.size (by simp; omega) (fun e => hob e.symm)).trans (B8.alloc _)
        have k9 : w9.cell? ⟨w2.heap.size, 3, none⟩ = some (.slice A3 kids.length c3) := B9.cell 3
        have f9 : w9.frozen? ⟨w2.heap.size, 3, none⟩ = false := B9.frozen 3
        refine hK.out _ _ trivial (fun hHeld => ?_)
        clear hK K
        try simp only [Act.put, List.setIfInBounds_toArray, List.set_cons_zero, List.set_cons_succ]
        refine reg_take (i := 6) (v := ?v5) rfl (by kernel_rfl) (by kernel_rfl) (by kernel_rfl) (fun _ _ _ h => h) (Or.inl ⟨by kernel_rfl, ?h5⟩) trivial ?r5
        case h5 => (intro w hSw; (try dsimp only at hSw); go_simp; try with_reducible rfl)
        try simp only [Act.put, List.setIfInBounds_toArray, List.set_cons_zero, List.set_cons_succ]
        refine reg_call (i := 7) (by kernel_rfl) rfl (fun K hK => ?_)
        go_simp
        refine hK.out _ _ trivial (fun hHeld => ?_)
        clear hK K
        try simp only [Act.put, List.setIfInBounds_toArray, List.set_cons_zero, List.set_cons_succ]
        refine wpAnyH_done (by kernel_rfl) ?_ _
        have nz9 : ∀ k ∈ (kids ++ [Ex.mk op' n' name' kids']), NoZ k := by
          intro k hk
          rcases List.mem_append.1 hk with hk | hk
          · exact hE2.2.2.2.2.1 k hk
          · obtain rfl := List.mem_singleton.1 hk; exact hE8.noZ
        have hBw : ButR g w (w9.setCell ⟨w2.heap.size, 3, none⟩ (.slice (some ⟨gv9, 0, none⟩) (kids.length + 1) cv9)) := ((hBd.trans hb8).thenB (hgr9.mono (by omega)) hgw).setNew hgw (by show w.heap.size ≤ w2.heap.size; omega) _
        have R9 : Row (w9.setCell ⟨w2.heap.size, 3, none⟩ (.slice (some ⟨gv9, 0, none⟩) (kids.length + 1) cv9)) w.heap.size 25 #[.int .i64 0, .int .i64 0, .string ⟨#[]⟩, .slice none 0 0] := ((hb8.row Rd hgw).below hgr9 (by omega)).far (by show w.heap.size ≠ w2.heap.size; omega) _
        have B10 := B9.set_ 3 (.slice (some ⟨gv9, 0, none⟩) (kids.length + 1) cv9)
        have D9 : RdAt (w9.setCell ⟨w2.heap.size, 3, none⟩ (.slice (some ⟨gv9, 0, none⟩) (kids.length + 1) cv9)) g l p8 := (h8.below hgr9 (by omega)).below ((Below.refl w2.heap.size _).setCell (p := ⟨w2.heap.size, 3, none⟩) (Nat.le_refl _) _) (by omega)
        have own10 : OwnT (fun m => exT m 8) 25 (w9.setCell ⟨w2.heap.size, 3, none⟩ (.slice (some ⟨gv9, 0, none⟩) (kids.length + 1) cv9)) (w.heap.size + 1) (.slice (some ⟨gv9, 0, none⟩) (kids.length + 1) cv9) (kids ++ [Ex.mk op' n' name' kids']) := snoc_box (b := w2.heap.size) ownd hpd (fun b h1 h2 => hb8.2 b (by omega) h2) sz8 (by omega) (fun m => hE8.rep m) own9 g9 hat9 (by omega) (fun i a ha => (hp0 i a ha).2.1) hob (fun x hx => Below.heap_setCell _ _ _ x hx) (by simp [World.setCell])
        have hE9 : ExV 9 (w.heap.size + 1) op n name (kids ++ [Ex.mk op' n' name' kids']) (.slice (some ⟨gv9, 0, none⟩) (kids.length + 1) cv9) (w9.setCell ⟨w2.heap.size, 3, none⟩ (.slice (some ⟨gv9, 0, none⟩) (kids.length + 1) cv9)) := ⟨hE2.1, hE2.2.1, hE2.2.2.1, hE2.2.2.2.1, nz9, by rw [List.length_append]; simp only [List.length_singleton]; omega, own10.lift (show 8 ≤ 9 by omega)⟩
        have el : (kids ++ [Ex.mk op' n' name' kids']).length = kids.length + 1 := by simp
        have F := DrE.fin (p := p) (K := 2000) (A := some ⟨gv9, 0, none⟩) (c := cv9) (kids := (kids ++ [Ex.mk op' n' name' kids'])) hgw D9 (by omega) hBw (by rw [el]; exact hE9) (Nat.lt_succ_self _)
        rw [el] at F
        replace F := Lib.hid F
        have s0 : (w9.setCell ⟨w2.heap.size, 3, none⟩ (.slice (some ⟨gv9, 0, none⟩) (kids.length + 1) cv9)).cell? ⟨w.heap.size, 0, none⟩ = some (.int .i64 0) := R9.cell 0
        have s1 : (w9.setCell ⟨w2.heap.size, 3, none⟩ (.slice (some ⟨gv9, 0, none⟩) (kids.length + 1) cv9)).cell? ⟨w.heap.size, 1, none⟩ = some (.int .i64 0) := R9.cell 1
        have s2 : (w9.setCell ⟨w2.heap.size, 3, none⟩ (.slice (some ⟨gv9, 0, none⟩) (kids.length + 1) cv9)).cell? ⟨w.heap.size, 2, none⟩ = some (.string ⟨#[]⟩) := R9.cell 2
        have s3 : (w9.setCell ⟨w2.heap.size, 3, none⟩ (.slice (some ⟨gv9, 0, none⟩) (kids.length + 1) cv9)).cell? ⟨w.heap.size, 3, none⟩ = some (.slice none 0 0) := R9.cell 3
        have sf0 : (w9.setCell ⟨w2.heap.size, 3, none⟩ (.slice (some ⟨gv9, 0, none⟩) (kids.length + 1) cv9)).frozen? ⟨w.heap.size, 0, none⟩ = false := R9.frozen 0
        have sf1 : (w9.setCell ⟨w2.heap.size, 3, none⟩ (.slice (some ⟨gv9, 0, none⟩) (kids.length + 1) cv9)).frozen? ⟨w.heap.size, 1, none⟩ = false := R9.frozen 1
        have sf2 : (w9.setCell ⟨w2.heap.size, 3, none⟩ (.slice (some ⟨gv9, 0, none⟩) (kids.length + 1) cv9)).frozen? ⟨w.heap.size, 2, none⟩ = false := R9.frozen 2
        have sf3 : (w9.setCell ⟨w2.heap.size, 3, none⟩ (.slice (some ⟨gv9, 0, none⟩) (kids.length + 1) cv9)).frozen? ⟨w.heap.size, 3, none⟩ = false := R9.frozen 3
        have x0 : (w9.setCell ⟨w2.heap.size, 3, none⟩ (.slice (some ⟨gv9, 0, none⟩) (kids.length + 1) cv9)).cell? ⟨w2.heap.size, 0, none⟩ = some (.int .i64 op) := B10.cell 0
        have x1 : (w9.setCell ⟨w2.heap.size, 3, none⟩ (.slice (some ⟨gv9, 0, none⟩) (kids.length + 1) cv9)).cell? ⟨w2.heap.size, 1, none⟩ = some (.int .i64 n) := B10.cell 1
        have x2 : (w9.setCell ⟨w2.heap.size, 3, none⟩ (.slice (some ⟨gv9, 0, none⟩) (kids.length + 1) cv9)).cell? ⟨w2.heap.size, 2, none⟩ = some (.string name) := B10.cell 2
        have x3 : (w9.setCell ⟨w2.heap.size, 3, none⟩ (.slice (some ⟨gv9, 0, none⟩) (kids.length + 1) cv9)).cell? ⟨w2.heap.size, 3, none⟩ = some (.slice (some ⟨gv9, 0, none⟩) (kids.length + 1) cv9) := B10.cell 3
        have xf0 : (w9.setCell ⟨w2.heap.size, 3, none⟩ (.slice (some ⟨gv9, 0, none⟩) (kids.length + 1) cv9)).frozen? ⟨w2.heap.size, 0, none⟩ = false := B10.frozen 0
        have xf1 : (w9.setCell ⟨w2.heap.size, 3, none⟩ (.slice (some ⟨gv9, 0, none⟩) (kids.length + 1) cv9)).frozen? ⟨w2.heap.size, 1, none⟩ = false := B10.frozen 1
        have xf2 : (w9.setCell ⟨w2.heap.size, 3, none⟩ (.slice (some ⟨gv9, 0, none⟩) (kids.length + 1) cv9)).frozen? ⟨w2.heap.size, 2, none⟩ = false := B10.frozen 2
        have xf3 : (w9.setCell ⟨w2.heap.size, 3, none⟩ (.slice (some ⟨gv9, 0, none⟩) (kids.length + 1) cv9)).frozen? ⟨w2.heap.size, 3, none⟩ = false := B10.frozen 3
        clear own9 g9 hat9 hgr9 B9 k9 f9 own10 hE9 nz9 hBw own8 k8 kR BR
        go_wp2_with fail
        refine bodyPost_ret (v := .agg #[.int .i64 op, .int .i64 n, .string name, .slice (some ⟨gv9, 0, none⟩) (kids.length + 1) cv9]) (by simp [results, Tryd.results19, go_sem, s0, s1, s2, s3]) rfl F.out
  have q3 : ((k : Int) == 3) = false := by simp; omega
  by_cases k4 : k = 4
  · subst k4
    go_wp2_with fail
    refine (any_ok 7 (by omega) 7 rfl l g p4 _ h4 (by omega)).mono ?_
    rintro e w5 ⟨p5, op', n', name', kids', A7, c7, rfl, h5, hp5, hb5, hE5⟩
    have R5 := hb5.row R4 hgw
    have B5 := hb5.row B4 hg2
    have hB5 := hB4.trans hb5
    have sz5 := hb5.1.size
    have y0 : w5.cell? ⟨w2.heap.size, 0, none⟩ = some (.int .i64 op) := B5.cell 0
    have y1 : w5.cell? ⟨w2.heap.size, 1, none⟩ = some (.int .i64 n) := B5.cell 1
    have y2 : w5.cell? ⟨w2.heap.size, 2, none⟩ = some (.string name) := B5.cell 2
    have y3 : w5.cell? ⟨w2.heap.size, 3, none⟩ = some (.slice A3 kids.length c3) := B5.cell 3
    have yf0 : w5.frozen? ⟨w2.heap.size, 0, none⟩ = false := B5.frozen 0
    have yf1 : w5.frozen? ⟨w2.heap.size, 1, none⟩ = false := B5.frozen 1
    have yf2 : w5.frozen? ⟨w2.heap.size, 2, none⟩ = false := B5.frozen 2
    have yf3 : w5.frozen? ⟨w2.heap.size, 3, none⟩ = false := B5.frozen 3
    have R6 : Row ((((w5.setCell ⟨w2.heap.size, 0, none⟩ (.int .i64 op')).setCell ⟨w2.heap.size, 1, none⟩ (.int .i64 n')).setCell ⟨w2.heap.size, 2, none⟩ (.string name')).setCell ⟨w2.heap.size, 3, none⟩ (.slice A7 kids'.length c7)) w.heap.size 25 #[.int .i64 0, .int .i64 0, .string ⟨#[]⟩, .slice none 0 0] := (((R5.far (by show w.heap.size ≠ w2.heap.size; omega) _).far (by show w.heap.size ≠ w2.heap.size; omega) _).far (by show w.heap.size ≠ w2.heap.size; omega) _).far (by show w.heap.size ≠ w2.heap.size; omega) _
    have B6 : Row ((((w5.setCell ⟨w2.heap.size, 0, none⟩ (.int .i64 op')).setCell ⟨w2.heap.size, 1, none⟩ (.int .i64 n')).setCell ⟨w2.heap.size, 2, none⟩ (.string name')).setCell ⟨w2.heap.size, 3, none⟩ (.slice A7 kids'.length c7)) w2.heap.size 25 #[.int .i64 op', .int .i64 n', .string name', .slice A7 kids'.length c7] := (((B5.set_ 0 _).set_ 1 _).set_ 2 _).set_ 3 _
    have s0 : ((((w5.setCell ⟨w2.heap.size, 0, none⟩ (.int .i64 op')).setCell ⟨w2.heap.size, 1, none⟩ (.int .i64 n')).setCell ⟨w2.heap.size, 2, none⟩ (.string name')).setCell ⟨w2.heap.size, 3, none⟩ (.slice A7 kids'.length c7)).cell? ⟨w.heap.size, 0, none⟩ = some (.int .i64 0) := R6.cell 0
    have s1 : ((((w5.setCell ⟨w2.heap.size, 0, none⟩ (.int .i64 op')).setCell ⟨w2.heap.size, 1, none⟩ (.int .i64 n')).setCell ⟨w2.heap.size, 2, none⟩ (.string name')).setCell ⟨w2.heap.size, 3, none⟩ (.slice A7 kids'.length c7)).cell? ⟨w.heap.size, 1, none⟩ = some (.int .i64 0) := R6.cell 1
    have s2 : ((((w5.setCell ⟨w2.heap.size, 0, none⟩ (.int .i64 op')).setCell ⟨w2.heap.size, 1, none⟩ (.int .i64 n')).setCell ⟨w2.heap.size, 2, none⟩ (.string name')).setCell ⟨w2.heap.size, 3, none⟩ (.slice A7 kids'.length c7)).cell? ⟨w.heap.size, 2, none⟩ = some (.string ⟨#[]⟩) := R6.cell 2
    have s3 : ((((w5.setCell ⟨w2.heap.size, 0, none⟩ (.int .i64 op')).setCell ⟨w2.heap.size, 1, none⟩ (.int .i64 n')).setCell ⟨w2.heap.size, 2, none⟩ (.string name')).setCell ⟨w2.heap.size, 3, none⟩ (.slice A7 kids'.length c7)).cell? ⟨w.heap.size, 3, none⟩ = some (.slice none 0 0) := R6.cell 3
    have sf0 : ((((w5.setCell ⟨w2.heap.size, 0, none⟩ (.int .i64 op')).setCell ⟨w2.heap.size, 1, none⟩ (.int .i64 n')).setCell ⟨w2.heap.size, 2, none⟩ (.string name')).setCell ⟨w2.heap.size, 3, none⟩ (.slice A7 kids'.length c7)).frozen? ⟨w.heap.size, 0, none⟩ = false := R6.frozen 0
    have sf1 : ((((w5.setCell ⟨w2.heap.size, 0, none⟩ (.int .i64 op')).setCell ⟨w2.heap.size, 1, none⟩ (.int .i64 n')).setCell ⟨w2.heap.size, 2, none⟩ (.string name')).setCell ⟨w2.heap.size, 3, none⟩ (.slice A7 kids'.length c7)).frozen? ⟨w.heap.size, 1, none⟩ = false := R6.frozen 1
    have sf2 : ((((w5.setCell ⟨w2.heap.size, 0, none⟩ (.int .i64 op')).setCell ⟨w2.heap.size, 1, none⟩ (.int .i64 n')).setCell ⟨w2.heap.size, 2, none⟩ (.string name')).setCell ⟨w2.heap.size, 3, none⟩ (.slice A7 kids'.length c7)).frozen? ⟨w.heap.size, 2, none⟩ = false := R6.frozen 2
    have sf3 : ((((w5.setCell ⟨w2.heap.size, 0, none⟩ (.int .i64 op')).setCell ⟨w2.heap.size, 1, none⟩ (.int .i64 n')).setCell ⟨w2.heap.size, 2, none⟩ (.string name')).setCell ⟨w2.heap.size, 3, none⟩ (.slice A7 kids'.length c7)).frozen? ⟨w.heap.size, 3, none⟩ = false := R6.frozen 3
    have x0 : ((((w5.setCell ⟨w2.heap.size, 0, none⟩ (.int .i64 op')).setCell ⟨w2.heap.size, 1, none⟩ (.int .i64 n')).setCell ⟨w2.heap.size, 2, none⟩ (.string name')).setCell ⟨w2.heap.size, 3, none⟩ (.slice A7 kids'.length c7)).cell? ⟨w2.heap.size, 0, none⟩ = some (.int .i64 op') := B6.cell 0
    have x1 : ((((w5.setCell ⟨w2.heap.size, 0, none⟩ (.int .i64 op')).setCell ⟨w2.heap.size, 1, none⟩ (.int .i64 n')).setCell ⟨w2.heap.size, 2, none⟩ (.string name')).setCell ⟨w2.heap.size, 3, none⟩ (.slice A7 kids'.length c7)).cell? ⟨w2.heap.size, 1, none⟩ = some (.int .i64 n') := B6.cell 1
    have x2 : ((((w5.setCell ⟨w2.heap.size, 0, none⟩ (.int .i64 op')).setCell ⟨w2.heap.size, 1, none⟩ (.int .i64 n')).setCell ⟨w2.heap.size, 2, none⟩ (.string name')).setCell ⟨w2.heap.size, 3, none⟩ (.slice A7 kids'.length c7)).cell? ⟨w2.heap.size, 2, none⟩ = some (.string name') := B6.cell 2
    have x3 : ((((w5.setCell ⟨w2.heap.size, 0, none⟩ (.int .i64 op')).setCell ⟨w2.heap.size, 1, none⟩ (.int .i64 n')).setCell ⟨w2.heap.size, 2, none⟩ (.string name')).setCell ⟨w2.heap.size, 3, none⟩ (.slice A7 kids'.length c7)).cell? ⟨w2.heap.size, 3, none⟩ = some (.slice A7 kids'.length c7) := B6.cell 3
    have xf0 : ((((w5.setCell ⟨w2.heap.size, 0, none⟩ (.int .i64 op')).setCell ⟨w2.heap.size, 1, none⟩ (.int .i64 n')).setCell ⟨w2.heap.size, 2, none⟩ (.string name')).setCell ⟨w2.heap.size, 3, none⟩ (.slice A7 kids'.length c7)).frozen? ⟨w2.heap.size, 0, none⟩ = false := B6.frozen 0
    have xf1 : ((((w5.setCell ⟨w2.heap.size, 0, none⟩ (.int .i64 op')).setCell ⟨w2.heap.size, 1, none⟩ (.int .i64 n')).setCell ⟨w2.heap.size, 2, none⟩ (.string name')).setCell ⟨w2.heap.size, 3, none⟩ (.slice A7 kids'.length c7)).frozen? ⟨w2.heap.size, 1, none⟩ = false := B6.frozen 1
    have xf2 : ((((w5.setCell ⟨w2.heap.size, 0, none⟩ (.int .i64 op')).setCell ⟨w2.heap.size, 1, none⟩ (.int .i64 n')).setCell ⟨w2.heap.size, 2, none⟩ (.string name')).setCell ⟨w2.heap.size, 3, none⟩ (.slice A7 kids'.length c7)).frozen? ⟨w2.heap.size, 2, none⟩ = false := B6.frozen 2
    have xf3 : ((((w5.setCell ⟨w2.heap.size, 0, none⟩ (.int .i64 op')).setCell ⟨w2.heap.size, 1, none⟩ (.int .i64 n')).setCell ⟨w2.heap.size, 2, none⟩ (.string name')).setCell ⟨w2.heap.size, 3, none⟩ (.slice A7 kids'.length c7)).frozen? ⟨w2.heap.size, 3, none⟩ = false := B6.frozen 3
    have hE6 : ExV 8 w4.heap.size op' n' name' kids' (.slice A7 kids'.length c7) ((((w5.setCell ⟨w2.heap.size, 0, none⟩ (.int .i64 op')).setCell ⟨w2.heap.size, 1, none⟩ (.int .i64 n')).setCell ⟨w2.heap.size, 2, none⟩ (.string name')).setCell ⟨w2.heap.size, 3, none⟩ (.slice A7 kids'.length c7)) := hE5.keepT (fun b h1 h2 => set4_block w5 w2.heap.size _ _ _ _ b (by omega)) (Nat.le_of_eq (set4_size w5 w2.heap.size _ _ _ _).symm)
    have h6 : RdAt ((((w5.setCell ⟨w2.heap.size, 0, none⟩ (.int .i64 op')).setCell ⟨w2.heap.size, 1, none⟩ (.int .i64 n')).setCell ⟨w2.heap.size, 2, none⟩ (.string name')).setCell ⟨w2.heap.size, 3, none⟩ (.slice A7 kids'.length c7)) g l p5 := h5.below (set4_below w5 w2.heap.size _ _ _ _ (Nat.le_refl _)) hg2
    have hB6 : ButR g w ((((w5.setCell ⟨w2.heap.size, 0, none⟩ (.int .i64 op')).setCell ⟨w2.heap.size, 1, none⟩ (.int .i64 n')).setCell ⟨w2.heap.size, 2, none⟩ (.string name')).setCell ⟨w2.heap.size, 3, none⟩ (.slice A7 kids'.length c7)) := hB5.thenB (set4_below w5 w2.heap.size _ _ _ _ (by omega)) hgw
    have F := Lib.hid (DrE.fin (p := p) (K := 2000) hgw h6 (by omega) hB6 (hE6.lower (show 8 ≤ 9 by omega) (Nat.le_refl _)) (by omega))
    clear hE4 hE5 hE6 hE2 hB6 hB5 hb5 hB4 hB24
    go_wp2_with fail
    refine bodyPost_ret (v := .agg #[.int .i64 op', .int .i64 n', .string name', .slice A7 kids'.length c7]) (by simp [results, Tryd.results19, go_sem, s0, s1, s2, s3]) rfl F.out
  have q4 : ((k : Int) == 4) = false := by simp; omega
  have s0 : w4.cell? ⟨w.heap.size, 0, none⟩ = some (.int .i64 0) := R4.cell 0
  have s1 : w4.cell? ⟨w.heap.size, 1, none⟩ = some (.int .i64 0) := R4.cell 1
  have s2 : w4.cell? ⟨w.heap.size, 2, none⟩ = some (.string ⟨#[]⟩) := R4.cell 2
  have s3 : w4.cell? ⟨w.heap.size, 3, none⟩ = some (.slice none 0 0) := R4.cell 3
  have sf0 : w4.frozen? ⟨w.heap.size, 0, none⟩ = false := R4.frozen 0
  have sf1 : w4.frozen? ⟨w.heap.size, 1, none⟩ = false := R4.frozen 1
  have sf2 : w4.frozen? ⟨w.heap.size, 2, none⟩ = false := R4.frozen 2
  have sf3 : w4.frozen? ⟨w.heap.size, 3, none⟩ = false := R4.frozen 3
  have F := Lib.hid (DrE.fin (p := p) (K := 2000) hgw h4 (by omega) hB4 (hE4.lower (show 8 ≤ 9 by omega) (Nat.le_refl _)) (Nat.lt_succ_self _))
  clear hE4 hE2
  go_wp2_with fail
  refine bodyPost_ret (v := .agg #[.int .i64 op, .int .i64 n, .string name, .slice A3 kids.length c3]) (by simp [results, Tryd.results19, go_sem, s0, s1, s2, s3]) rfl F.out
end Go.Proofs.YthfinoapfbhgcaaDoor

namespace Go.Proofs.YthfinoapfbhgcaaDoor
open Go.RowKit Go.ChangeShapes Go.WideShapes Go.Deep
set_option linter.unusedSimpArgs false
set_option linter.unusedVariables false
theorem ExV.sl {d lo : Nat} {op n : Int} {name : ByteArray} {kids : List Ex} {v3 : Value} {w : World} (h : ExV d lo op n name kids v3 w) : Sl false (exS false d) w lo w.heap.size kids v3 := (h.2.2.2.2.2.2.slT (fun m => by rw [exT_size, exT_size]) (Nat.le_refl _) false).exS
end Go.Proofs.YthfinoapfbhgcaaDoor

