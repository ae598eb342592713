/-
  What the row's list of variables gives the walks: the table of key words lies as the program's text lays them. Condition: the row's own.
-/
import Derived.Test.YtiaioiijdlmilaaDoorName
import Derived.Test.YtiaioiijdlmilaaDoorCards
import Derived.LaidMore
import Derived.OpenShut
import Derived.MakeChecks
namespace Go.Proofs.YtiaioiijdlmilaaDoor
open Go.RowKit Go.ChangeShapes Go.WideShapes Go.Deep Go.WideElems

set_option linter.unusedVariables false
set_option linter.unusedSimpArgs false
set_option maxRecDepth 100000
theorem gKeys : Tryd.prog.globalNamed "loop.example/wholeway/impl.keys" = some 0 := by kernel_rfl
theorem tKeys : (Tryd.prog.globals[0]?).map (·.type) = some 53 := by kernel_rfl
theorem cellsStr : Tryd.prog.cellsOf 9 = 1 := by kernel_rfl
theorem cellsKeys : Tryd.prog.cellsOf 53 = 9 := by kernel_rfl
theorem ba_ext {a b : ByteArray} (h : a.data.toList = b.data.toList) : a = b := by
  obtain ⟨x⟩ := a
  obtain ⟨y⟩ := b
  have : x = y := Array.ext' h
  rw [this]
theorem keys_datum : (Rows.laid_loop_example_wholeway_impl_keys : DataW Unit) = .agg (keysL.map fun k => .lit (.string k.data.toList)) := rfl
/-- WHAT THE ROW's LIST GIVES -/
theorem tabs_of {W : World} (h : laidMetH Tryd.prog [("loop.example/wholeway/impl.keys", Rows.laid_loop_example_wholeway_impl_keys)] W) : KeysAt W := by
  rw [MakeChecks.laidMetH_plain _ _ _ (by kernel_rfl)] at h
  obtain ⟨ps, ⟨g0, t0, cs0, f0, p0, q0, hg0, ht0, hv0, hd0, _, _⟩, _, _⟩ := h
  obtain rfl := Option.some.inj (gKeys.symm.trans hg0)
  obtain rfl := Option.some.inj (tKeys.symm.trans ht0)
  have hsz : ∀ (b i : Nat) (v : Value), W.cell? ⟨b, i, none⟩ = some v → b < W.heap.size := fun b i v hc => by
    unfold World.cell? at hc
    cases hb : W.heap[b]? with
    | none => rw [hb] at hc; cases hc
    | some o => exact (Array.getElem?_eq_some_iff.1 hb).1
  have hk : ∀ (i : Nat) (k : ByteArray), keysL[i]? = some k → W.cell? ⟨0, i, none⟩ = some (.string k) := fun i k hik => by
    obtain ⟨xs, m1, rfl, hx1, hlen, hn9, hel⟩ := DataW.trod_array Tryd.underlying53 hd0
    rw [keys_datum] at hx1
    simp only [Prod.mk.injEq, DataW.agg.injEq] at hx1
    have hi : i < 9 := (List.getElem?_eq_some_iff.1 hik).1
    have h0 := hel i hi
    have hx : (xs.map (·.1))[i]? = some (.lit (.string k.data.toList)) := by
      rw [← hx1.1, List.getElem?_map, hik]
      rfl
    rw [List.getElem?_map] at hx
    cases hxi : xs[i]? with
    | none => rw [hxi] at hx; cases hx
    | some x0 =>
      rw [hxi] at hx h0
      obtain ⟨s, e1, rfl, _⟩ := DataW.trod_string Tryd.underlying9 h0
      have hs : s.data.toList = k.data.toList := by simpa using hx
      have hsk : s = k := ba_ext hs
      subst hsk
      have hc := World.var?_cell hg0 hv0 i
      rw [hc, ← Array.getElem?_toList]
      rw [cellsStr, Nat.mul_one] at e1
      have h3 := congrArg (·[0]?) e1
      rw [List.getElem?_take_of_lt (by omega), List.getElem?_drop] at h3
      simpa using h3
  have hk0 := hk 0 _ rfl
  exact ⟨hsz _ _ _ hk0, hk⟩
end Go.Proofs.YtiaioiijdlmilaaDoor
