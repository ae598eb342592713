/-
  What the row's list of variables gives the walks: the table of numbers to try lies as the program's text lays it. Condition: the row's own.
-/
import Derived.Test.YtlhnojpkomcpmaaDoorNf
import Derived.Test.YtlhnojpkomcpmaaDoorCards
import Derived.LaidMore
import Derived.OpenShut
import Derived.MakeChecks
namespace Go.Proofs.YtlhnojpkomcpmaaDoor
open Go.RowKit Go.ChangeShapes Go.WideShapes Go.Deep Go.WideElems
set_option linter.unusedVariables false
set_option linter.unusedSimpArgs false
set_option maxRecDepth 100000
theorem gTries : Tryd.prog.globalNamed "loop.example/wholeway/impl.tries" = some 0 := by kernel_rfl
theorem tTries : (Tryd.prog.globals[0]?).map (·.type) = some 64 := by kernel_rfl
theorem cellsInt : Tryd.prog.cellsOf 3 = 1 := by kernel_rfl
theorem cellsThree : Tryd.prog.cellsOf 63 = 3 := by kernel_rfl
theorem tries_datum : (Rows.laid_loop_example_wholeway_impl_tries : DataW Unit) = .agg ([0, 1, 2].map fun q => .agg ((triesL q).map fun k => .lit (.int .i64 k))) := rfl
/-- WHAT THE ROW's LIST GIVES -/
theorem tabs_of {W : World} (h : laidMetH Tryd.prog [("loop.example/wholeway/impl.tries", Rows.laid_loop_example_wholeway_impl_tries)] W) : Tabs W := by
  rw [MakeChecks.laidMetH_plain _ _ _ (by kernel_rfl)] at h
  obtain ⟨ps, ⟨g0, t0, cs0, f0, p0, q0, hg0, ht0, hv0, hd0, _, _⟩, _, _⟩ := h
  obtain rfl := Option.some.inj (gTries.symm.trans hg0)
  obtain rfl := Option.some.inj (tTries.symm.trans ht0)
  have hsz : ∀ (b i : Nat) (v : Value), W.cell? ⟨b, i, none⟩ = some v → b < W.heap.size := fun b i v hc => by
    unfold World.cell? at hc
    cases hb : W.heap[b]? with
    | none => rw [hb] at hc; cases hc
    | some o => exact (Array.getElem?_eq_some_iff.1 hb).1
  have hk : ∀ (i j : Nat) (k : Int), i < 3 → (triesL i)[j]? = some k → W.cell? ⟨0, i * 3 + j, none⟩ = some (.int .i64 k) := fun i j k hi hjk => by
    obtain ⟨xs, m1, rfl, hx1, hlen, hn9, hel⟩ := DataW.trod_array Tryd.underlying64 hd0
    rw [tries_datum] at hx1
    simp only [Prod.mk.injEq, DataW.agg.injEq] at hx1
    have h0 := hel i hi
    have hx : (xs.map (·.1))[i]? = some (.agg ((triesL i).map fun k => .lit (.int .i64 k))) := by
      rw [← hx1.1, List.getElem?_map]
      obtain rfl | rfl | rfl : i = 0 ∨ i = 1 ∨ i = 2 := by omega
      all_goals rfl
    rw [List.getElem?_map] at hx
    cases hxi : xs[i]? with
    | none => rw [hxi] at hx; cases hx
    | some x0 =>
      rw [hxi] at hx h0
      obtain ⟨ys, m2, rfl, hy1, hylen, hy9, hyel⟩ := DataW.trod_array Tryd.underlying63 h0
      have hj3 : j < 3 := by
        have := (List.getElem?_eq_some_iff.1 hjk).1
        rw [triesL_len] at this
        exact this
      have h5 := hyel j hj3
      rw [hy1] at hx
      have hy : (ys.map (·.1))[j]? = some (.lit (.int .i64 k)) := by
        have hx2 : DataW.agg (ys.map (·.1)) = (DataW.agg ((triesL i).map fun k => .lit (.int .i64 k)) : DataW Unit) := Option.some.inj hx
        injection hx2 with hx2
        rw [hx2, List.getElem?_map, hjk]
        rfl
      rw [List.getElem?_map] at hy
      cases hyj : ys[j]? with
      | none => rw [hyj] at hy; cases hy
      | some y0 =>
        rw [hyj] at hy h5
        obtain ⟨m, e1, rfl, _⟩ := DataW.trod_int Tryd.underlying3 h5
        have hmk : m = k := by simpa using hy
        subst hmk
        have hc := World.var?_cell hg0 hv0 (i * 3 + j)
        rw [hc, ← Array.getElem?_toList]
        rw [cellsInt, cellsThree, Nat.mul_one] at e1
        have h3 := congrArg (·[0]?) e1
        rw [List.getElem?_take_of_lt (by omega), List.getElem?_drop, List.getElem?_take_of_lt (by omega), List.getElem?_drop] at h3
        simpa using h3
  have hk0 := hk 0 0 _ (by omega) rfl
  refine ⟨hsz _ _ _ hk0, fun j hj => ?_⟩
  have hd : j = j / 3 * 3 + j % 3 := by omega
  have h1 := hk (j / 3) (j % 3) (([0, 0, 0, 1, 2, 3, 255, 16, 7] : List Int).getD j 0) (by omega) (by
    have : j = 0 ∨ j = 1 ∨ j = 2 ∨ j = 3 ∨ j = 4 ∨ j = 5 ∨ j = 6 ∨ j = 7 ∨ j = 8 := by omega
    rcases this with rfl | rfl | rfl | rfl | rfl | rfl | rfl | rfl | rfl <;> rfl)
  rw [← hd] at h1
  exact h1
end Go.Proofs.YtlhnojpkomcpmaaDoor
