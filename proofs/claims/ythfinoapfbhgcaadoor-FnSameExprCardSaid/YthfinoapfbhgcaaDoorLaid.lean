/-
  What the row's list of variables gives the walks: the table of key words and the table of signs lie as the program's text lays them. Condition: the row's own.
-/
import Derived.Test.YthfinoapfbhgcaaDoorParts
import Derived.Test.YthfinoapfbhgcaaDoorCards
import Derived.Maps.Keyed
import Derived.LaidMore
import Derived.OpenShut
import Derived.MakeChecks
namespace Go.Proofs.YthfinoapfbhgcaaDoor
open Go.RowKit Go.ChangeShapes Go.WideShapes Go.Deep Go.WideElems

set_option linter.unusedVariables false
set_option linter.unusedSimpArgs false
set_option maxRecDepth 100000
theorem gSign : Tryd.prog.globalNamed "loop.example/wholeway/impl.opSign" = some 0 := by kernel_rfl
theorem gKeys : Tryd.prog.globalNamed "loop.example/wholeway/impl.keys" = some 1 := by kernel_rfl
theorem tSign : (Tryd.prog.globals[0]?).map (·.type) = some 65 := by kernel_rfl
theorem tKeys : (Tryd.prog.globals[1]?).map (·.type) = some 74 := by kernel_rfl
theorem cellsStr : Tryd.prog.cellsOf 9 = 1 := by kernel_rfl
theorem cellsInt : Tryd.prog.cellsOf 3 = 1 := by kernel_rfl
theorem cellsSign : Tryd.prog.cellsOf 64 = 2 := by kernel_rfl

/-- an entry of the table of signs -/
theorem elem_sign {H : Type} {enc : TypeId × Value → H} {W : World} {base : Nat} {sp : Nat → Bool} {held : Bool} {n : Nat} {v : Value} {z : DataW H × List MemPlace} (h : elemAt enc Tryd.prog W base sp held n 64 v = some z) :
    ∃ (s : ByteArray) (l : Int), v = .agg #[.string s, .int .i64 l] ∧ z.1 = .agg [.lit (.string s.data.toList), .lit (.int .i64 l)] := by
  unfold elemAt at h
  split at h
  · rename_i hf
    obtain ⟨y0, y1, m, rfl, hl, g0, g1⟩ := trod_struct2 Tryd.underlying64 h
    obtain ⟨s, e0, rfl, _⟩ := DataW.trod_string Tryd.underlying9 g0
    obtain ⟨l, e1, rfl, _⟩ := DataW.trod_int Tryd.underlying3 g1
    cases v <;> simp [Value.formed, Tryd.underlying64] at hf
    rename_i cs
    obtain ⟨cl⟩ := cs
    rw [cellsSign] at hl
    simp [Value.cells] at hl e0 e1
    match cl, hl with
    | [x0, x1], _ =>
      simp [cellsStr, cellsInt] at e0 e1
      subst e0 e1
      exact ⟨s, l, rfl, rfl⟩
  · cases h
theorem ba_ext {a b : ByteArray} (h : a.data.toList = b.data.toList) : a = b := by
  obtain ⟨x⟩ := a
  obtain ⟨y⟩ := b
  have : x = y := Array.ext' h
  rw [this]
theorem keys_datum : (Rows.laid_loop_example_wholeway_impl_keys : DataW Unit) = .agg (keysL.map fun k => .lit (.string k.data.toList)) := rfl
theorem sgn_lev_out {op : Int} (h : op < 3 ∨ 10 < op) : sgn op = ⟨#[]⟩ ∧ lev op = 0 := by
  refine ⟨?_, lev_out h⟩
  unfold sgn
  rw [if_neg (by omega), if_neg (by omega), if_neg (by omega), if_neg (by omega), if_neg (by omega), if_neg (by omega), if_neg (by omega), if_neg (by omega)]
/-- the table of signs, entry by entry -/
theorem sign_datum (op : Int) (z : DataW Unit) : (Rows.laid_loop_example_wholeway_impl_opSign : DataW Unit).atKey (.int .i64 op) z = if 3 ≤ op ∧ op ≤ 10 then .agg [.lit (.string (sgn op).data.toList), .lit (.int .i64 (lev op))] else z := by
  by_cases h : 3 ≤ op ∧ op ≤ 10
  · rw [if_pos h]
    obtain ⟨h1, h2⟩ := h
    have : op = 3 ∨ op = 4 ∨ op = 5 ∨ op = 6 ∨ op = 7 ∨ op = 8 ∨ op = 9 ∨ op = 10 := by omega
    rcases this with rfl | rfl | rfl | rfl | rfl | rfl | rfl | rfl <;> rfl
  · rw [if_neg h]
    unfold Rows.laid_loop_example_wholeway_impl_opSign DataW.atKey
    have hn : ∀ m : Int, 3 ≤ m → m ≤ 10 → (Lit.int .i64 m).sameKey (.int .i64 op) = false := fun m h1 h2 => by
      have hne : m ≠ op := fun e => h (by omega)
      simp [Lit.sameKey, hne]
    simp only [List.find?_cons, hn 3 (by omega) (by omega), hn 4 (by omega) (by omega), hn 5 (by omega) (by omega), hn 6 (by omega) (by omega), hn 7 (by omega) (by omega), hn 8 (by omega) (by omega), hn 9 (by omega) (by omega), hn 10 (by omega) (by omega), List.find?_nil]
/-- WHAT THE ROW's LIST GIVES -/
theorem tabs_of {W : World} (h : laidMetH Tryd.prog [("loop.example/wholeway/impl.keys", Rows.laid_loop_example_wholeway_impl_keys), ("loop.example/wholeway/impl.opSign", Rows.laid_loop_example_wholeway_impl_opSign)] W) : Tabs W := by
  rw [MakeChecks.laidMetH_plain _ _ _ (by kernel_rfl)] at h
  obtain ⟨ps, ⟨g0, t0, cs0, f0, p0, q0, hg0, ht0, hv0, hd0, ⟨g1, t1, cs1, f1, p1, q1, hg1, ht1, hv1, hd1, _, _⟩, _⟩, _, _⟩ := h
  obtain rfl := Option.some.inj (gKeys.symm.trans hg0)
  obtain rfl := Option.some.inj (gSign.symm.trans hg1)
  obtain rfl := Option.some.inj (tKeys.symm.trans ht0)
  obtain rfl := Option.some.inj (tSign.symm.trans ht1)
  have hsz : ∀ (b i : Nat) (v : Value), W.cell? ⟨b, i, none⟩ = some v → b < W.heap.size := fun b i v hc => by
    unfold World.cell? at hc
    cases hb : W.heap[b]? with
    | none => rw [hb] at hc; cases hc
    | some o => exact (Array.getElem?_eq_some_iff.1 hb).1
  have hk : ∀ (i : Nat) (k : ByteArray), keysL[i]? = some k → W.cell? ⟨1, i, none⟩ = some (.string k) := fun i k hik => by
    obtain ⟨xs, m1, rfl, hx1, hlen, hn9, hel⟩ := DataW.trod_array Tryd.underlying74 hd0
    rw [keys_datum] at hx1
    simp only [Prod.mk.injEq, DataW.agg.injEq] at hx1
    have hi : i < 9 := (List.getElem?_eq_some_iff.1 hik).1
    have h0 := hel i hi
    have hx : (xs.map (·.1))[i]? = some (.lit (.string k.data.toList)) := by
      rw [← hx1.1, List.getElem?_map, hik]
      rfl
    rw [List.getElem?_map] at hx
    cases hxi : xs[i]? with
    | none => rw [hxi] at hx; cases hx
    | some x0 =>
      rw [hxi] at hx h0
      obtain ⟨s, e1, rfl, _⟩ := DataW.trod_string Tryd.underlying9 h0
      have hs : s.data.toList = k.data.toList := by simpa using hx
      have hsk : s = k := ba_ext hs
      subst hsk
      have hc := World.var?_cell hg0 hv0 i
      rw [hc, ← Array.getElem?_toList]
      rw [cellsStr, Nat.mul_one] at e1
      have h3 := congrArg (·[0]?) e1
      rw [List.getElem?_take_of_lt (by omega), List.getElem?_drop] at h3
      simpa using h3
  have hk0 := hk 0 _ rfl
  refine ⟨⟨hsz _ _ _ hk0, hk⟩, ?_⟩
  rcases open_map Tryd.underlying65 hd1 with ⟨_, hx⟩ | ⟨bm, es, clock, m, rfl, hcs, hb, _, F, hx⟩
  · unfold Rows.laid_loop_example_wholeway_impl_opSign at hx
    simp at hx
  simp only [Prod.mk.injEq] at hx
  have hcell : W.cell? ⟨0, 0, none⟩ = some (.map (some bm)) := by
    have := World.var?_cell hg1 hv1 0
    rw [Array.eq_one_of_toList hcs] at this
    simpa using this
  refine ⟨bm, (Array.getElem?_eq_some_iff.1 hb).1, hsz _ _ _ hcell, hcell, fun w' op ho he => ?_⟩
  have zero : (zeroValue 64).run Tryd.prog w' = .ok (.agg #[.string ⟨#[]⟩, .int .i64 0]) w' := by kernel_rfl
  have hwf : (Lit.int .i64 op).wf = true := by
    unfold I64 at ho
    simp [Lit.wf, IntKind.min, IntKind.max, IntKind.signed, IntKind.bits]
    omega
  rcases Maps.fit_look (w := w') false (Maps.int_keyed Tryd.underlying3) Tryd.underlying65 zero (he.trans hb) F (Maps.keyOf_int_mk Tryd.underlying3 hwf) with ⟨hrun, _, hat⟩ | ⟨e0, y, _, _, hrun, hRv, hat, _⟩
  · have h1 := hat .nil
    rw [← hx.1, sign_datum] at h1
    by_cases hr : 3 ≤ op ∧ op ≤ 10
    · rw [if_pos hr] at h1; cases h1
    · obtain ⟨e1, e2⟩ := sgn_lev_out (show op < 3 ∨ 10 < op by omega)
      rw [e1, e2]
      simpa using hrun
  · obtain ⟨s, l, hv, hz⟩ := elem_sign hRv
    have h1 := hat .nil
    rw [← hx.1, sign_datum, hz] at h1
    by_cases hr : 3 ≤ op ∧ op ≤ 10
    · rw [if_pos hr] at h1
      simp only [DataW.agg.injEq, List.cons.injEq, DataW.lit.injEq, Lit.string.injEq, Lit.int.injEq, true_and, and_true] at h1
      have hs : s = sgn op := ba_ext h1.1.symm
      rw [hv, hs, ← h1.2] at hrun
      simpa using hrun
    · rw [if_neg hr] at h1; cases h1
end Go.Proofs.YthfinoapfbhgcaaDoor
