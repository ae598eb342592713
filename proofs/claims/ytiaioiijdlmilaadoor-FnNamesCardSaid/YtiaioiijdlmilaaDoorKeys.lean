/-
  The key words, by the program. Condition: the table of key words lies as the program's text lays it.
-/
import Derived.Test.YtiaioiijdlmilaaDoorName2
import Derived.Test.YtiaioiijdlmilaaDoorShelf
namespace Go.Proofs.YtiaioiijdlmilaaDoor
open Go.RowKit Go.ChangeShapes Go.WideShapes Go.Deep
set_option linter.unusedSimpArgs false
set_option linter.unusedVariables false
/-- what was appended reads as the list -/
theorem Sl.of_ownS {w : World} {base lo : Nat} {t : TypeId} {v : Value} {l : List ByteArray} (h : w.ownsRow base t 1 v l.length (l.map Value.string)) (hi : ∀ n ∈ l, n.size ≤ maxLen) (hlo : lo ≤ base) (m : Bool) : Sl m (strS m) w lo w.heap.size l v := by
  rcases h.2 with ⟨rfl, h1⟩ | ⟨g, cap, cur, rfl, h2, h3, h4, h5, h6, h7⟩
  · obtain rfl : l = [] := List.eq_nil_of_length_eq_zero h1
    exact Sl.nil_ _ _ _ _ _
  · refine Sl.of_row (t := t) (cur := cur) h3 (by omega) (Array.getElem?_eq_some_iff.1 h3).1 h4 h5 ?_
    intro i a hil ha
    refine ⟨[.string a], str_mk m _ _ _ (hi a (List.mem_of_getElem? ha)), fun j u hu => ?_⟩
    match j, hu with
    | 0, hu =>
      have hu' := Option.some.inj hu
      subst hu'
      have e1 : (cur.toList.take (l.length * 1))[i]? = some (.string a) := by rw [h7, List.getElem?_map, ha]; rfl
      rw [List.getElem?_take_of_lt (by omega)] at e1
      simpa [strS] using e1
theorem impl_KeyWords (w : World) (hk : KeysAt w) : Calls Tryd.prog 17 #[] w (ToSP (fun m => strS m) keysL w) := by
  have hc : ∀ j, j < keysL.length → w.cell? ⟨0, 0 + j, none⟩ = some (.string (keysL.getD j ByteArray.empty)) := fun j hj => by
    rw [Nat.zero_add]
    exact hk.2 j _ (by simp [List.getD, List.getElem?_eq_getElem hj])
  have H := Lib.hid (Tryd.slices_Clone_string 0 0 9 9 keysL w (by decide) (by decide) hc)
  have hsz : ∀ n ∈ keysL, n.size ≤ maxLen := by decide
  replace hsz := Lib.hid hsz
  clear hc
  go_enter Tryd.func17, Tryd.ntmps17
  go_wp2_with fail
  refine H.out.mono ?_
  rintro e w1 ⟨v, rfl, own, _, b1⟩
  have own' : w1.ownsRow w.heap.size 9 1 v keysL.length (keysL.map Value.string) := own
  go_wp2_with fail
  go_ret
  exact ⟨_, rfl, fun m => Sl.of_ownS own' hsz.out (Nat.le_refl _) m, b1⟩
end Go.Proofs.YtiaioiijdlmilaaDoor
