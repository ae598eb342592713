/-
  Words: what they read as; words appended to a row that a call owns. No condition.
-/
import Derived.Test.YthfinoapfbhgcaaDoorText3
namespace Go.Proofs.YthfinoapfbhgcaaDoor
open Go.RowKit Go.ChangeShapes Go.WideShapes Go.Deep
set_option linter.unusedVariables false
set_option linter.unusedSimpArgs false
/-- a word -/
structure WordD where
  kind : Int
  text : ByteArray
def wordS (m : Bool) : Shp WordD where
  size := 2
  rep := fun w lo B a cs => ∃ c0 c1 : Value, cs = [c0, c1] ∧ (intS m).rep w lo B a.kind [c0] ∧ (strS m).rep w lo B a.text [c1]
  len := fun ⟨_, _, h, _⟩ => by rw [h]; rfl
  keep := fun ⟨c0, c1, h, h0, h1⟩ hlo hB hk => ⟨c0, c1, h, (intS m).keep h0 hlo hB hk, (strS m).keep h1 hlo hB hk⟩
def wordN (a : WordD) : Nat := a.text.size
theorem word_mk (m : Bool) {w : World} {lo B : Nat} (kind : Int) (text : ByteArray) (h0 : I64 kind) (h1 : text.size ≤ maxLen) : (wordS m).rep w lo B ⟨kind, text⟩ [.int .i64 kind, .string text] := ⟨_, _, rfl, int_mk m w lo B h0, str_mk m w lo B h1⟩
theorem word_open {w : World} {lo B : Nat} {a : WordD} {cs : List Value} (h : (wordS false).rep w lo B a cs) : cs = [.int .i64 a.kind, .string a.text] ∧ I64 a.kind ∧ a.text.size ≤ maxLen := by
  obtain ⟨c0, c1, rfl, h0, h1⟩ := h
  obtain ⟨e0, g0⟩ := int_rep h0
  injection e0 with e0
  subst e0
  obtain ⟨e1, g1⟩ := str_rep h1
  injection e1 with e1
  subst e1
  exact ⟨rfl, g0, g1⟩
def wcells (l : List WordD) : List Value := l.flatMap fun a => [.int .i64 a.kind, .string a.text]
theorem wcells_app (l r : List WordD) : wcells (l ++ r) = wcells l ++ wcells r := by simp [wcells]
theorem wcells_get : ∀ (l : List WordD) (i : Nat) (a : WordD), l[i]? = some a → (wcells l)[i * 2]? = some (.int .i64 a.kind) ∧ (wcells l)[i * 2 + 1]? = some (.string a.text)
  | [], i, a, h => by cases h
  | b :: r, 0, a, h => by
    obtain rfl := Option.some.inj h
    exact ⟨rfl, rfl⟩
  | b :: r, i + 1, a, h => by
    obtain ⟨h1, h2⟩ := wcells_get r i a h
    refine ⟨?_, ?_⟩
    · rw [show (i + 1) * 2 = i * 2 + 1 + 1 by omega]
      exact h1
    · rw [show (i + 1) * 2 + 1 = i * 2 + 1 + 1 + 1 by omega]
      exact h2
theorem wcells_len (l : List WordD) : (wcells l).length = l.length * 2 := by
  induction l with
  | nil => rfl
  | cons a r ih => simp only [wcells, List.flatMap_cons, List.length_append, List.length_cons, List.length_nil] at ih ⊢; omega
theorem wcells_one : ∀ (l : List WordD), ∀ u ∈ wcells l, u.oneCell' = true
  | [], u, h => by cases h
  | a :: r, u, h => by
    simp only [wcells, List.flatMap_cons, List.cons_append, List.nil_append, List.mem_cons] at h
    rcases h with rfl | rfl | h
    · rfl
    · rfl
    · exact wcells_one r u h
theorem Sl.of_ownW {w : World} {base lo : Nat} {t : TypeId} {v : Value} {l : List WordD} (h : w.ownsRow base t 2 v l.length (wcells l)) (hi : ∀ a ∈ l, I64 a.kind ∧ a.text.size ≤ maxLen) (hlo : lo ≤ base) (m : Bool) : Sl m (wordS m) w lo w.heap.size l v := by
  rcases h.2 with ⟨rfl, h1⟩ | ⟨g, cap, cur, rfl, h2, h3, h4, h5, h6, h7⟩
  · obtain rfl : l = [] := List.eq_nil_of_length_eq_zero h1
    exact Sl.nil_ _ _ _ _ _
  · refine Sl.of_row (t := t) (cur := cur) h3 (by omega) (Array.getElem?_eq_some_iff.1 h3).1 h4 h5 ?_
    intro i a hil ha
    obtain ⟨e1, e2⟩ := wcells_get l i a ha
    have ha' := hi a (List.mem_of_getElem? ha)
    rw [← h7] at e1 e2
    rw [List.getElem?_take_of_lt (by omega)] at e1 e2
    refine ⟨[.int .i64 a.kind, .string a.text], word_mk m a.kind a.text ha'.1 ha'.2, fun j u hu => ?_⟩
    match j, hu with
    | 0, hu =>
      have hu' := Option.some.inj hu
      subst hu'
      simpa [wordS] using e1
    | 1, hu =>
      have hu' := Option.some.inj hu
      subst hu'
      simpa [wordS] using e2
theorem Tryd.info_Word : (Tryd.prog.info? 59).map (fun i => (i.zero, i.size, i.bytes)) = some (some (.agg #[.int .i64 0, .string ⟨#[]⟩]), 2, 24) := by kernel_rfl
/-- the row that a call owns holds the words -/
def OwnW (w : World) (base : Nat) (v : Value) (l : List WordD) : Prop := w.ownsRow base 59 2 v l.length (wcells l)
theorem run_words (w : World) (base : Nat) (ty : TypeId) (v : Value) (l ws : List WordD) (cs : List Value) (hcs : cs = wcells ws) (n : Nat) (hn : n = ws.length) (own : OwnW w base v l) (h1 : l.length + ws.length ≤ 100000) (hbase : base ≤ w.heap.size) :
    ∃ v' w', (Builtin.append_ #[47, 47] ty #[v, .slice (some ⟨w.heap.size, 0, none⟩) n n]).run Tryd.prog (w.alloc (.cells cs.toArray 59)) = .ok v' w' ∧ OwnW w' base v' (l ++ ws) ∧ OwnG v v' w w' := by
  subst hcs hn
  obtain ⟨i0, hi, hz0, hz1, hz2⟩ := info_parts Tryd.info_Word
  obtain ⟨v', w', k1, k2, k3, _, k5⟩ := run_append_own_at (P := Tryd.prog) (w.alloc (.cells (wcells ws).toArray 59)) base 47 ty 59 i0 (.agg #[.int .i64 0, .string ⟨#[]⟩]) 2 24 Tryd.underlying47 hi hz0 hz1 hz2 rfl (by decide) v l.length (wcells l) (own.alloc _) ⟨w.heap.size, 0, none⟩ ws.length ws.length (wcells ws) (wcells_len ws)
    (cells_row_new w (wcells ws) _) (wcells_one ws) (by unfold maxLen; omega) (by omega) (by simp; omega)
  refine ⟨v', w', k1, ?_, ?_⟩
  · show w'.ownsRow base 59 2 v' (l ++ ws).length (wcells (l ++ ws))
    rw [List.length_append, wcells_app]
    exact k2
  · exact (OwnG.of_below ((Below.refl _ w).alloc (Nat.le_refl _) (.cells (wcells ws).toArray 59))).trans (OwnG.of_at k3 k5)
theorem app_words {ops : Array Oper} {rest : List Oper} {o : Oper} {a : Act} {Q : Exit → Act → World → Prop} (hgd : o.guard = none) (s x : Operand) (ho : o.op = .call { callee := .builtin .append, args := #[s, x], argTypes := #[47, 47] })
    (w : World) (base : Nat) (v : Value) (l ws : List WordD) (cs : List Value) (hcs : cs = wcells ws) (n : Nat) (hn : n = ws.length) (own : OwnW w base v l) (h1 : l.length + ws.length ≤ 100000) (hbase : base ≤ w.heap.size) (hs : a.eval s = v) (hx : a.eval x = .slice (some ⟨w.heap.size, 0, none⟩) n n)
    (h : ∀ v' w', OwnW w' base v' (l ++ ws) → OwnG v v' w w' → wpList Tryd.prog ops Q rest (a.put o.dst v') w') : wpList Tryd.prog ops Q (o :: rest) a (w.alloc (.cells cs.toArray 59)) := by
  refine wpList_plain hgd fun K hK => ?_
  obtain ⟨v', w', hr, h2, h3⟩ := run_words w base o.type v l ws cs hcs n hn own h1 hbase
  unfold Oper.wp execOp
  simp only [ho, resolve, invoke, builtin, Sem.run_bind, Sem.run_pure, Result.andThen_ok, List.map_toArray, List.map_cons, List.map_nil, hs, hx, hr]
  exact hK _ _ (h v' w' h2 h3)
theorem OwnW.form {w : World} {base : Nat} {v : Value} {l : List WordD} (h : OwnW w base v l) : ∃ A c, v = .slice A l.length c := by
  rcases h.2 with ⟨h1, h2⟩ | ⟨g, cap, cur, h1, _⟩
  · exact ⟨none, 0, by rw [h1, h2]⟩
  · exact ⟨_, _, h1⟩
/-- cells that a world has -/
def HasC (w : World) (l : List (Addr × Value)) : Prop := ∀ x ∈ l, w.cell? x.1 = some x.2
theorem HasC.own {v v' : Value} {w w' : World} {l : List (Addr × Value)} (h : HasC w l) (hb : OwnG v v' w w') (hl : ∀ x ∈ l, x.1.block < w.heap.size ∧ v.ownBlock ≠ some x.1.block) : HasC w' l := fun x hx => by
  obtain ⟨h1, h2⟩ := hl x hx
  have h3 := h x hx
  unfold World.cell? at h3 ⊢
  rw [hb.grown.block _ h1 (fun e => h2 e.symm)]
  exact h3
theorem HasC.six {w : World} {L : List (Addr × Value)} {a0 a1 a2 a3 a4 a5 : Addr × Value} (h : HasC w L) (hL : L = [a0, a1, a2, a3, a4, a5]) : w.cell? a0.1 = some a0.2 ∧ w.cell? a1.1 = some a1.2 ∧ w.cell? a2.1 = some a2.2 ∧ w.cell? a3.1 = some a3.2 ∧ w.cell? a4.1 = some a4.2 ∧ w.cell? a5.1 = some a5.2 := by
  subst hL
  exact ⟨h _ (by simp), h _ (by simp), h _ (by simp), h _ (by simp), h _ (by simp), h _ (by simp)⟩
theorem hasC_nil {w : World} : HasC w [] := fun _ h => by simp at h
theorem hasC_cons {w : World} {a : Addr} {v : Value} {l : List (Addr × Value)} (h : w.cell? a = some v) (hl : HasC w l) : HasC w ((a, v) :: l) := fun x hx => by
  rcases List.mem_cons.1 hx with rfl | hx
  · exact h
  · exact hl x hx
end Go.Proofs.YthfinoapfbhgcaaDoor
