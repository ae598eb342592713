/-
  What the drawn laws of expressions share: lists of names compared; a number is put; a list of names is appended. Conditions: the arguments read as data.
-/
import Derived.Test.YtpheoddpkmaidaaDoorLaws
import Derived.Test.YtpheoddpkmaidaaDoorDrawE6
import Derived.Lib.SlFresh
import Derived.Laws.OwnMore
namespace Go.Proofs.YtpheoddpkmaidaaDoor
open Go.RowKit Go.ChangeShapes Go.WideShapes Go.Deep
set_option linter.unusedVariables false
set_option linter.unusedSimpArgs false
theorem str_ne1 (a : ByteArray) : (a.toList != a.toList) = false := by simp
set_option maxRecDepth 100000 in
set_option maxHeartbeats 4000000 in
theorem names_ok (l : List ByteArray) (v u : Value) (w : World) (lo B lo' B' : Nat) (hB : B ≤ w.heap.size) (hC : B' ≤ w.heap.size) (hv : Sl false (strS false) w lo B l v) (hu : Sl false (strS false) w lo' B' l u) :
    Calls Tryd.prog 22 #[v, u] w (Yes w) := by
  obtain ⟨A, cap, rfl, hlc, hcm⟩ := hv.form
  obtain ⟨A2, cap2, rfl, hlc2, hcm2⟩ := hu.form
  go_enter Tryd.func22, Tryd.ntmps22
  go_wp2_with fail
  go_loopw [11] (fun i wr => ∃ k : Nat, k ≤ l.length ∧ i = .int .i64 k ∧ Below w.heap.size w wr) (fun i _ => l.length - (intOf i).toNat)
  case atStart => exact ⟨0, by omega, rfl, Below.refl _ _⟩
  case round =>
    obtain ⟨k, hk, rfl, hb⟩ := hrel
    have hsz := hb.size
    by_cases hkl : k < l.length
    · obtain ⟨b, o, a, rfl, _, _, HL, _, c0⟩ := str_get (hv.below hb hB) hkl
      obtain ⟨b2, o2, a2, rfl, _, _, HL2, _, d0⟩ := str_get (hu.below hb hC) hkl
      obtain rfl : a2 = a := HL2.out.symm.trans HL.out
      have hki : (0 : Int) ≤ (k : Int) := by omega
      have hkn : (k : Int) < (l.length : Int) := by omega
      have hq := str_ne1 a2
      go_wp2_with fail
      go_quiet (fail)
      go_wp2_with fail
      go_roundw
      case rel => exact ⟨k + 1, by omega, by go_num, below_drewN hb _⟩
      case measure => simp [intOf]; omega
    · go_wp2_with fail
      go_ret
      exact ⟨rfl, hb⟩
/-- an expression answered, and true -/
def PutP (y : Ex) (w : World) (en : Ending) (w' : World) : Prop :=
  ∃ op n name kids A c, en = .returned (.tuple #[.agg #[.int .i64 op, .int .i64 n, .string name, .slice A kids.length c], .bool true]) ∧ y = .mk op n name kids ∧ I64 op ∧ I64 n ∧ name.size ≤ maxLen ∧ Sl false (exS false 12) w' w.heap.size w'.heap.size kids (.slice A kids.length c) ∧ Below w.heap.size w w'
theorem PairP.put {y : Ex} {x : Ex × Bool} (hx : x = (y, true)) {w : World} {en : Ending} {w' : World} (h : PairP 12 x w en w') : PutP y w en w' := by
  subst hx
  obtain ⟨v3, he, hr, hb⟩ := h
  obtain ⟨op, n, name, kids⟩ := y
  obtain ⟨A, c, hw, _, _⟩ := (exT_kids 12 (hr false)).form
  change v3 = Value.slice A kids.length c at hw
  subst hw
  obtain ⟨_, -, j0, j1, j2, j3⟩ := exT_open 12 (hr false)
  exact ⟨op, n, name, kids, A, c, he, rfl, j0, j1, j2, (exT_kids 12 (hr false)).exS, hb⟩
theorem impl_putNum (N : Int) (h0 : 0 ≤ N) (h1 : N ≤ 255) (nm : ByteArray) (d : Nat) (op n : Int) (name : ByteArray) (kids : List Ex) (v3 : Value) (w : World) (lo B : Nat) (hB : B ≤ w.heap.size) (ho : I64 op) (hn64 : I64 n) (hnm : name.size ≤ maxLen) (h3 : Sl false (exS false d) w lo B kids v3) (ht : Tabs w) (hv : valE (.mk op n name kids) = true) :
    Calls Tryd.prog 26 #[.agg #[.int .i64 op, .int .i64 n, .string name, v3], .string nm, .agg #[.int .i64 1, .int .i64 N, .string ⟨#[]⟩, .slice none 0 0]] w (PutP (putE 6 nm (.mk 1 N ⟨#[]⟩ []) (.mk op n name kids)) w) :=
  (impl_PutVar d op n name kids v3 nm 0 1 N ⟨#[]⟩ [] (.slice none 0 0) w lo B 0 0 hB (Nat.zero_le _) ho hn64 hnm h3 ⟨by omega, by omega⟩ ⟨by omega, by omega⟩ (by decide) (Sl.nil_ _ _ _ _ _) ht).mono fun e w' h => h.put (putV_leaf (num_form h0 h1) (num_parts N) hv)
theorem append_strs (w : World) (base : Nat) (ty : TypeId) (v : Value) (l0 : List ByteArray) (hown : w.ownsRow base 9 1 v l0.length (l0.map Value.string)) (l : List ByteArray) (vs : Value) (lo B : Nat) (hv : Sl false (strS false) w lo B l vs) (h1 : l0.length + l.length ≤ 1000000) (hbase : base ≤ w.heap.size) :
    ∃ v' w', (Builtin.append_ #[34, 34] ty #[v, vs]).run Tryd.prog w = .ok v' w' ∧ w'.ownsRow base 9 1 v' (l0 ++ l).length ((l0 ++ l).map Value.string) ∧ w.grownBy w' v.ownBlock := by
  obtain ⟨i0, hi, hz0, hz1, hz2⟩ := info_parts Tryd.info_string
  obtain ⟨A, cap, rfl, hlc, hcm, h3⟩ := hv
  rw [List.length_append, List.map_append]
  have go : ∀ (b o : Nat), (∀ j u, (l.map Value.string)[j]? = some u → w.cell? ((⟨b, o, none⟩ : Addr).add j) = some u) →
      ∃ v' w', (Builtin.append_ #[34, 34] ty #[v, .slice (some ⟨b, o, none⟩) l.length cap]).run Tryd.prog w = .ok v' w' ∧ w'.ownsRow base 9 1 v' (l0.length + l.length) (l0.map Value.string ++ l.map Value.string) ∧ w.grownBy w' v.ownBlock := by
    intro b o hn
    obtain ⟨v', w', k1, k2, k3, _, _⟩ := run_append_own_at (P := Tryd.prog) w base 34 ty 9 i0 (.string ⟨#[]⟩) 1 16 Tryd.underlying34 hi hz0 hz1 hz2 rfl (by decide) v l0.length (l0.map Value.string) hown ⟨b, o, none⟩ l.length cap (l.map Value.string) (by simp) hn (by
      intro u hu
      obtain ⟨a, _, rfl⟩ := List.mem_map.1 hu
      rfl) (by unfold maxLen; omega) (by omega) hbase
    exact ⟨v', w', k1, k2, k3⟩
  by_cases hl : l = []
  · subst hl
    cases A with
    | none =>
      refine ⟨v, w, ?_, by simpa using hown, ⟨rfl, rfl, rfl, Nat.le_refl _, fun _ _ _ => rfl⟩⟩
      rcases hown.2 with ⟨rfl, h0⟩ | ⟨g, cap', cur, rfl, _, _, hnc, _⟩
      · simp [Builtin.append_, run_underlying Tryd.underlying34, sizeOf, typeInfo, hi, Builtin.lenOf, Builtin.firstCells]
      · simp [Builtin.append_, run_underlying Tryd.underlying34, sizeOf, typeInfo, hi, Builtin.lenOf, Builtin.firstCells, hnc, storeCells]
    | some p =>
      obtain ⟨v', w', k1, k2, k3, _, _⟩ := run_append_own_at (P := Tryd.prog) w base 34 ty 9 i0 (.string ⟨#[]⟩) 1 16 Tryd.underlying34 hi hz0 hz1 hz2 rfl (by decide) v l0.length (l0.map Value.string) hown p 0 cap [] rfl (fun j u h => by simp at h) (fun u h => by cases h) (by unfold maxLen; omega) (by omega) hbase
      exact ⟨v', w', k1, by simpa using k2, k3⟩
  · obtain ⟨b, o, rfl, _, _, _, hc⟩ := h3 hl
    refine go b o fun j u hj => ?_
    rw [List.getElem?_map] at hj
    cases ha : l[j]? with
    | none => rw [ha] at hj; cases hj
    | some a =>
      rw [ha] at hj
      have hj' := Option.some.inj hj
      subst hj'
      obtain ⟨cs, hr, hcs⟩ := hc j a ha
      obtain ⟨rfl, _⟩ := str_rep hr
      have e : (⟨b, o, none⟩ : Addr).add j = ⟨b, o + j, none⟩ := by
        simp only [Addr.add]
        split <;> simp_all
      rw [e]
      simpa [strS] using hcs 0 _ rfl
/-- the length of a list of names that are not many -/
theorem nmV_short (tag : Int) (e : Ex) : (nmV tag e).length ≤ 30 := nmV_len tag e
end Go.Proofs.YtpheoddpkmaidaaDoor
