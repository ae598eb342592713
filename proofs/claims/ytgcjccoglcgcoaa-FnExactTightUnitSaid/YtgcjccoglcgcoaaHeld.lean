/-
  A list of numbers in memory of its own is marked, number by number, and asked for its marks. Conditions: it may be written.
-/
import Derived.Test.YtgcjccoglcgcoaaMark
import Derived.Test.YtgcjccoglcgcoaaEq
namespace Go.Proofs.Ytgcjccoglcgcoaa
open Go.RowKit Go.ChangeShapes Go.WideShapes Go.Deep

theorem Row.soft {w w' : World} {lo B g : Nat} {t : TypeId} {cs : Array Value} (h : Row w g t cs) (hs : Soft lo B w w') (hd : g < lo ∨ B ≤ g) : Row w' g t cs := (hs.out g hd).trans h
theorem Soft.of_alloc {lo B : Nat} {w w' : World} {o : Obj} (h : Soft lo B (w.alloc o) w') : w.heap.size ≤ w'.heap.size := by
  have := h.size
  simp at this
  omega
/-- it answers a value, and what was there is as it was -/
def RetV (v : Value) (w : World) (e : Ending) (w' : World) : Prop := e = .returned v ∧ Below w.heap.size w w'
theorem RetV.mk {v u : Value} {w : World} {e : Ending} {w' : World} (h : u = v) (he : e = .returned u) (hb : Below w.heap.size w w') : RetV v w e w' := ⟨by rw [← h]; exact he, hb⟩

/-- the marks from k on -/
def marksL (k : Int) (n : Nat) : List Int := (List.range n).map fun (i : Nat) => k + (i : Int)
theorem marksL_length (k : Int) (n : Nat) : (marksL k n).length = n := by simp [marksL]
theorem marksL_get {k : Int} {n i : Nat} (h : i < (marksL k n).length) : (marksL k n)[i] = k + i := by simp [marksL]

set_option maxRecDepth 100000 in
theorem markx_IntS (l : List Int) (v : Value) (k : Int) (w : World) (lo B : Nat) (k0 : 0 ≤ k) (hk : k + (l.length : Int) ≤ 1073741824) (hv : Sl true (intS true) w lo B l v) :
    Calls Try.prog 76 #[v, .int .i64 k] w (fun e w' => e = .returned (.int .i64 (k + (l.length : Int))) ∧ Sl false (intS false) w' lo B (marksL k l.length) v ∧ Soft lo B w w') := by
  obtain ⟨A, cap, rfl, hlc, hcm, h3⟩ := hv
  have hv : Sl true (intS true) w lo B l (.slice A l.length cap) := ⟨A, cap, rfl, hlc, hcm, h3⟩
  obtain ⟨b, o, hA⟩ : ∃ b o : Nat, l ≠ [] → A = some ⟨b, o, none⟩ ∧ lo ≤ b ∧ b < B := by
    by_cases hl : l = []
    · exact ⟨0, 0, fun h => absurd hl h⟩
    · obtain ⟨b, o, h1, h2, h3, _⟩ := h3 hl
      exact ⟨b, o, fun _ => ⟨h1, h2, h3⟩⟩
  clear h3
  have hcm' : cap ≤ 9223372036854775807 := by unfold maxLen at hcm; omega
  go_enter Try.func76, Try.ntmps76
  go_wp2_with fail
  go_loopw [1, 5] (fun t i wr => ∃ j : Nat, j ≤ l.length ∧ i = .int .i64 j ∧ t = .int .i64 (k + j) ∧ Soft lo B w wr ∧ Hid (∀ i' : Nat, i' < j → wr.cell? ⟨b, o + i', none⟩ = some (.int .i64 (k + i')))) (fun _ i _ => l.length - (intOf i).toNat)
  case atStart => exact ⟨0, by omega, rfl, by simp, Soft.refl _ _ _, fun i' h => absurd h (Nat.not_lt_zero _)⟩
  case round =>
    obtain ⟨j, hj, rfl, rfl, hs, HD⟩ := hrel
    by_cases hjl : j < l.length
    · obtain ⟨b', o', cs, hA', hlb, hbB, hf, hr, hc⟩ := (hv.soft softOk_int hs).at_ hjl
      obtain ⟨hA1, hlb1, hbB1⟩ := hA (List.ne_nil_of_length_pos (by omega))
      rw [hA1] at hA'
      injection hA' with hA'
      injection hA' with e1 e2
      subst e1 e2 hA1
      obtain ⟨n0, rfl⟩ := int_any hr
      have c0 : wr.cell? ⟨b, o + j, none⟩ = some (.int .i64 n0) := by simpa [intS] using hc 0 _ rfl
      have f0 : wr.frozen? ⟨b, o + j, none⟩ = false := hf rfl _
      clear hc hf hr
      go_wp2_with fail
      go_roundw
      case rel =>
        refine ⟨j + 1, by omega, by go_num, by go_num, hs.st c0 hlb1 hbB1 _, fun i' hi => ?_⟩
        rcases Nat.lt_or_ge i' j with h | h
        · exact (World.cell?_setCell_other _ _ _ _ (addr_ne (by omega))).trans (HD.out i' h)
        · obtain rfl : i' = j := by omega
          exact World.cell?_setCell_same _ _ _ c0
      case measure => simp [intOf]; omega
    · obtain rfl : j = l.length := by omega
      go_wp2_with fail
      go_ret
      refine ⟨rfl, ⟨A, cap, by rw [marksL_length], by rw [marksL_length]; exact hlc, hcm, fun hne => ?_⟩, hs⟩
      obtain ⟨h1, h2, h3⟩ := hA (fun h => hne (by rw [h]; rfl))
      refine ⟨b, o, h1, h2, h3, (fun h => by cases h), fun i a ha => ⟨[.int .i64 a], ?_, fun j' u hu => ?_⟩⟩
      · have hil := (List.getElem?_eq_some_iff.1 ha).1
        have hia := (List.getElem?_eq_some_iff.1 ha).2
        rw [marksL_get hil] at hia
        rw [marksL_length] at hil
        exact int_mk false _ _ _ ⟨by omega, by omega⟩
      · have hil := (List.getElem?_eq_some_iff.1 ha).1
        have hia := (List.getElem?_eq_some_iff.1 ha).2
        rw [marksL_get hil] at hia
        rw [marksL_length] at hil
        match j', hu with
        | 0, hu =>
          have hu' := Option.some.inj hu
          subst hu' hia
          simpa [intS] using HD.out i hil

set_option maxRecDepth 100000 in
theorem held_IntS (k : Int) (n : Nat) (v : Value) (w : World) (lo B : Nat) (hB : B ≤ w.heap.size) (k0 : 0 ≤ k) (hk : k + (n : Int) ≤ 1073741824) (hv : Sl false (intS false) w lo B (marksL k n) v) :
    Calls Try.prog 79 #[v, .int .i64 k] w (RetV (.int .i64 (k + n)) w) := by
  obtain ⟨A, cap, hf, hlc, hcm⟩ := hv.form
  rw [marksL_length] at hf hlc
  subst hf
  go_enter Try.func79, Try.ntmps79
  go_wp2_with fail
  go_loopw [1, 5] (fun t i wr => ∃ j : Nat, j ≤ n ∧ i = .int .i64 j ∧ t = .int .i64 (k + j) ∧ Below w.heap.size w wr) (fun _ i _ => n - (intOf i).toNat)
  case atStart => exact ⟨0, by omega, rfl, by simp, Below.refl _ _⟩
  case round =>
    obtain ⟨j, hj, rfl, rfl, hb⟩ := hrel
    by_cases hjl : j < n
    · obtain ⟨b, o, a, rfl, _, _, HL, _, c0⟩ := int_get (hv.below hb hB) (show j < (marksL k n).length by rw [marksL_length]; exact hjl)
      obtain rfl : a = k + j := HL.out.symm.trans (marksL_get _)
      go_wp2_with fail
      go_roundw
      case rel => exact ⟨j + 1, by omega, by go_num, by go_num, hb⟩
      case measure => simp [intOf]; omega
    · obtain rfl : j = n := by omega
      go_wp2_with fail
      go_ret
      exact ⟨rfl, hb⟩
end Go.Proofs.Ytgcjccoglcgcoaa
