/-
  What a slice that comes in reads as. No condition.
-/
import Derived.Test.YtafembiemaflfaaDec
namespace Go.Proofs.Ytafembiemaflfaa
open Go.RowKit Go.ChangeShapes Go.WideShapes Go.Deep
set_option linter.unusedVariables false
theorem dec_slice_at {P : Program} {w : World} {t e : TypeId} {α : Type} {S : Shp α} (ht : P.underlying t = some (.slice e)) (hz : P.cellsOf e = S.size) (hs : 0 < S.size)
    {H : Type} {enc : TypeId × Value → H} {base : Nat} {spare : Nat → Bool} {held : Bool} {fuel : Nat} {cs : List Value} {x : DataW H × List MemPlace}
    (hd : ∀ (n : Nat) (cs' : List Value) (y : DataW H × List MemPlace), n < fuel → DataW.trod enc P w base spare held n e cs' = some y → ∃ a, S.rep w 0 w.heap.size a cs')
    (h : DataW.trod enc P w base spare held fuel t cs = some x) : ∃ l v, cs = [v] ∧ Sl false S w 0 w.heap.size l v := by
  rcases DataW.trod_slice ht h with ⟨rfl, _⟩ | ⟨a, len, cap, elems, rest, n, hn, rfl, _, hb, hl, hm, hlen, hel, _, _⟩
  · exact ⟨[], _, rfl, Sl.nil_ _ S w _ _⟩
  · have hi : ∀ i, i < len → ∃ d : α, ∃ cs', S.rep w 0 w.heap.size d cs' ∧ w.cells? base (a.add (i * S.size)) S.size = some cs' := by
      intro i hi
      have h1 := hel i hi
      rw [List.getElem?_eq_getElem (by omega)] at h1
      obtain ⟨cs', h2, h3⟩ := Option.bind_eq_some_iff.1 h1
      obtain ⟨d, hd⟩ := hd n cs' _ (by omega) h3
      exact ⟨d, cs', hd, by rw [← hz]; exact h2⟩
    obtain ⟨l, hll, hp⟩ := choose_list hi
    refine ⟨l, _, rfl, some a, cap, by rw [hll], by omega, hm, fun hne => ?_⟩
    have h0 : 0 < l.length := List.length_pos_iff.2 hne
    obtain ⟨cs0, hr0, hc0⟩ := hp 0 l[0] (List.getElem?_eq_getElem h0)
    obtain ⟨_, hcl, hat⟩ := World.cells?_some hc0
    have hx := hat 0 (by omega)
    have hcs0 : cs0[0]? = some (cs0[0]'(by omega)) := List.getElem?_eq_getElem (by omega)
    rw [hcs0] at hx
    simp [Addr.add] at hx
    have hsp : a.spot = none := by
      unfold World.cell? at hx
      split at hx
      · by_cases hs : a.spot.isSome = true
        · rw [if_pos hs] at hx; cases hx
        · simpa using hs
      · cases hx
    obtain ⟨b, o, spot⟩ := a
    simp only at hsp
    subst hsp
    refine ⟨b, o, rfl, Nat.zero_le _, World.block_lt_of_cell? w _ hx, (fun h => by cases h), fun i d hd => ?_⟩
    obtain ⟨cs', hr, hc⟩ := hp i d hd
    refine ⟨cs', hr, fun j u hu => ?_⟩
    obtain ⟨_, hcl', hat'⟩ := World.cells?_some hc
    have hj : j < S.size := by
      have := (List.getElem?_eq_some_iff.1 hu).1
      omega
    have := hat' j hj
    rw [hu] at this
    rw [← this]
    congr 1
    simp only [Addr.add]
    split <;> split <;> simp_all

theorem dec_slice {P : Program} {w : World} {t e : TypeId} {α : Type} {S : Shp α} (ht : P.underlying t = some (.slice e)) (hz : P.cellsOf e = S.size) (hs : 0 < S.size) (hd : Dec P w e S) : Dec P w t (slS false S) := by
  intro H enc base spare held fuel cs x h
  obtain ⟨l, v, rfl, hv⟩ := dec_slice_at ht hz hs (fun n cs' y _ hy => hd hy) h
  exact ⟨l, v, rfl, hv⟩
end Go.Proofs.Ytafembiemaflfaa
