/-
  DoIns, by the program and by the reference; and the law FnExactDoIns: it returns true for all arguments. No condition.
-/
import Derived.Test.YtaokcnjjlbdnoaaDec
import Derived.Test.YtaokcnjjlbdnoaaEq
import Derived.Test.YtaokcnjjlbdnoaaFacts
namespace Go.Proofs.Ytaokcnjjlbdnoaa
open Go.RowKit Go.ChangeShapes Go.WideShapes Go.Deep

/-- what an instruction makes of two values, and how it ends -/
def doIns (op a b : Int) : Int × Int :=
  if 0 ≤ a ∧ a ≤ 255 ∧ 0 ≤ b ∧ b ≤ 255 ∧ 1 ≤ op ∧ op ≤ 10 then
    if op = 1 ∨ op = 2 then (a, 0)
    else if op = 3 then ((a + b) % 256, 0)
    else if op = 4 then ((a - b + 256) % 256, 0)
    else if op = 5 then (a * b % 256, 0)
    else if op = 6 then (if b = 0 then (0, 1) else (a / b, 0))
    else if op = 7 then (if b = 0 then (0, 1) else (a % b, 0))
    else if op = 8 then (if a < b then (1, 0) else (0, 0))
    else if op = 9 then (if a = b then (1, 0) else (0, 0))
    else (if a = 0 then (1, 0) else (0, 0))
  else (-1, -1)
def DoR (op a b : Int) (w : World) (e : Ending) (w' : World) : Prop := e = .returned (.tuple #[.int .i64 (doIns op a b).1, .int .i64 (doIns op a b).2]) ∧ Below w.heap.size w w'

set_option maxRecDepth 100000 in
set_option maxHeartbeats 1000000 in
theorem impl_DoIns (op a b : Int) (w : World) :
    Calls Try.prog 36 #[.int .i64 op, .int .i64 a, .int .i64 b] w (DoR op a b w) := by
  by_cases a0 : 0 ≤ a
  · have t_a0 := trivial
    by_cases a1 : a ≤ 255
    · have t_a1 := trivial
      by_cases b0 : 0 ≤ b
      · have t_b0 := trivial
        by_cases b1 : b ≤ 255
        · have t_b1 := trivial
          by_cases o0 : 1 ≤ op
          · have t_o0 := trivial
            by_cases o1 : op ≤ 10
            · have t_o1 := trivial
              have H : op = 1 ∨ op = 2 ∨ op = 3 ∨ op = 4 ∨ op = 5 ∨ op = 6 ∨ op = 7 ∨ op = 8 ∨ op = 9 ∨ op = 10 := by omega
              clear o0 o1
              rcases H with rfl | rfl | rfl | rfl | rfl | rfl | rfl | rfl | rfl | rfl
              · have E : Hid (doIns 1 a b = (a, 0)) := by simp [Hid, doIns, *]
                go_enter Try.func36, Try.ntmps36
                go_wp2
                all_goals
                  go_ret2
                  exact ⟨by rw [E.out]; rfl, Below.refl _ _⟩
              · have E : Hid (doIns 2 a b = (a, 0)) := by simp [Hid, doIns, *]
                go_enter Try.func36, Try.ntmps36
                go_wp2
                all_goals
                  go_ret2
                  exact ⟨by rw [E.out]; rfl, Below.refl _ _⟩
              · have E : Hid (doIns 3 a b = ((a + b) % 256, 0)) := by simp [Hid, doIns, *]
                go_enter Try.func36, Try.ntmps36
                go_wp2
                all_goals
                  go_ret2
                  exact ⟨by rw [E.out]; rfl, Below.refl _ _⟩
              · have E : Hid (doIns 4 a b = ((a - b + 256) % 256, 0)) := by simp [Hid, doIns, *]
                go_enter Try.func36, Try.ntmps36
                go_wp2
                all_goals
                  go_ret2
                  exact ⟨(by rw [E.out]; exact congrArg (fun x => Ending.returned (.tuple #[.int .i64 x, .int .i64 0])) (show (a - b) % 256 = (a - b + 256) % 256 by omega)), Below.refl _ _⟩
              · have p0 : 0 ≤ a * b := Int.mul_nonneg a0 b0
                have p1 : a * b ≤ 255 * 255 := Int.mul_le_mul a1 b1 b0 (by omega)
                have E : Hid (doIns 5 a b = (a * b % 256, 0)) := by simp [Hid, doIns, *]
                go_enter Try.func36, Try.ntmps36
                go_wp2
                all_goals
                  go_ret2
                  exact ⟨by rw [E.out]; rfl, Below.refl _ _⟩
              · by_cases z : b = 0
                · subst z
                  have E : Hid (doIns 6 a 0 = (0, 1)) := by simp [Hid, doIns, *]
                  go_enter Try.func36, Try.ntmps36
                  go_wp2
                  all_goals
                    go_ret2
                    exact ⟨by rw [E.out]; rfl, Below.refl _ _⟩
                · have zz : 0 < b := by omega
                  have E : Hid (doIns 6 a b = (a / b, 0)) := by simp [Hid, doIns, *]
                  have z1 : (b == 0) = false := by simpa using z
                  clear z
                  go_enter Try.func36, Try.ntmps36
                  go_wp2
                  all_goals
                    go_ret2
                    exact ⟨by rw [E.out]; rfl, Below.refl _ _⟩
              · by_cases z : b = 0
                · subst z
                  have E : Hid (doIns 7 a 0 = (0, 1)) := by simp [Hid, doIns, *]
                  go_enter Try.func36, Try.ntmps36
                  go_wp2
                  all_goals
                    go_ret2
                    exact ⟨by rw [E.out]; rfl, Below.refl _ _⟩
                · have zz : 0 < b := by omega
                  have E : Hid (doIns 7 a b = (a % b, 0)) := by simp [Hid, doIns, *]
                  have z1 : (b == 0) = false := by simpa using z
                  clear z
                  go_enter Try.func36, Try.ntmps36
                  go_wp2
                  all_goals
                    go_ret2
                    exact ⟨by rw [E.out]; rfl, Below.refl _ _⟩
              · by_cases z : a < b
                · have E : Hid (doIns 8 a b = (1, 0)) := by simp [Hid, doIns, *]
                  go_enter Try.func36, Try.ntmps36
                  go_wp2
                  all_goals
                    go_ret2
                    exact ⟨by rw [E.out]; rfl, Below.refl _ _⟩
                · have E : Hid (doIns 8 a b = (0, 0)) := by simp [Hid, doIns, *]
                  go_enter Try.func36, Try.ntmps36
                  go_wp2
                  all_goals
                    go_ret2
                    exact ⟨by rw [E.out]; rfl, Below.refl _ _⟩
              · by_cases z : a = b
                · subst z
                  have E : Hid (doIns 9 a a = (1, 0)) := by simp [Hid, doIns, *]
                  go_enter Try.func36, Try.ntmps36
                  go_wp2
                  all_goals
                    go_ret2
                    exact ⟨by rw [E.out]; rfl, Below.refl _ _⟩
                · have E : Hid (doIns 9 a b = (0, 0)) := by simp [Hid, doIns, *]
                  have z1 : (a == b) = false := by simpa using z
                  clear z
                  go_enter Try.func36, Try.ntmps36
                  go_wp2
                  all_goals
                    go_ret2
                    exact ⟨by rw [E.out]; rfl, Below.refl _ _⟩
              · by_cases z : a = 0
                · subst z
                  have E : Hid (doIns 10 0 b = (1, 0)) := by simp [Hid, doIns, *]
                  go_enter Try.func36, Try.ntmps36
                  go_wp2
                  all_goals
                    go_ret2
                    exact ⟨by rw [E.out]; rfl, Below.refl _ _⟩
                · have E : Hid (doIns 10 a b = (0, 0)) := by simp [Hid, doIns, *]
                  have z1 : (a == 0) = false := by simpa using z
                  clear z
                  go_enter Try.func36, Try.ntmps36
                  go_wp2
                  all_goals
                    go_ret2
                    exact ⟨by rw [E.out]; rfl, Below.refl _ _⟩
            · have E : Hid (doIns op a b = (-1, -1)) := by show _ = _; unfold doIns; rw [if_neg (by omega)]
              go_enter Try.func36, Try.ntmps36
              go_wp2
              all_goals
                go_ret2
                exact ⟨by rw [E.out]; rfl, Below.refl _ _⟩
          · have E : Hid (doIns op a b = (-1, -1)) := by show _ = _; unfold doIns; rw [if_neg (by omega)]
            go_enter Try.func36, Try.ntmps36
            go_wp2
            all_goals
              go_ret2
              exact ⟨by rw [E.out]; rfl, Below.refl _ _⟩
        · have E : Hid (doIns op a b = (-1, -1)) := by show _ = _; unfold doIns; rw [if_neg (by omega)]
          go_enter Try.func36, Try.ntmps36
          go_wp2
          all_goals
            go_ret2
            exact ⟨by rw [E.out]; rfl, Below.refl _ _⟩
      · have E : Hid (doIns op a b = (-1, -1)) := by show _ = _; unfold doIns; rw [if_neg (by omega)]
        go_enter Try.func36, Try.ntmps36
        go_wp2
        all_goals
          go_ret2
          exact ⟨by rw [E.out]; rfl, Below.refl _ _⟩
    · have E : Hid (doIns op a b = (-1, -1)) := by show _ = _; unfold doIns; rw [if_neg (by omega)]
      go_enter Try.func36, Try.ntmps36
      go_wp2
      all_goals
        go_ret2
        exact ⟨by rw [E.out]; rfl, Below.refl _ _⟩
  · have E : Hid (doIns op a b = (-1, -1)) := by show _ = _; unfold doIns; rw [if_neg (by omega)]
    go_enter Try.func36, Try.ntmps36
    go_wp2
    all_goals
      go_ret2
      exact ⟨by rw [E.out]; rfl, Below.refl _ _⟩

set_option maxRecDepth 100000 in
set_option maxHeartbeats 1000000 in
theorem spec_DoIns (op a b : Int) (w : World) :
    Calls Try.prog 35 #[.int .i64 op, .int .i64 a, .int .i64 b] w (DoR op a b w) := by
  by_cases a0 : 0 ≤ a
  · have t_a0 := trivial
    by_cases a1 : a ≤ 255
    · have t_a1 := trivial
      by_cases b0 : 0 ≤ b
      · have t_b0 := trivial
        by_cases b1 : b ≤ 255
        · have t_b1 := trivial
          by_cases o0 : 1 ≤ op
          · have t_o0 := trivial
            by_cases o1 : op ≤ 10
            · have t_o1 := trivial
              have H : op = 1 ∨ op = 2 ∨ op = 3 ∨ op = 4 ∨ op = 5 ∨ op = 6 ∨ op = 7 ∨ op = 8 ∨ op = 9 ∨ op = 10 := by omega
              clear o0 o1
              rcases H with rfl | rfl | rfl | rfl | rfl | rfl | rfl | rfl | rfl | rfl
              · have E : Hid (doIns 1 a b = (a, 0)) := by simp [Hid, doIns, *]
                go_enter Try.func35, Try.ntmps35
                go_wp2
                all_goals
                  go_ret2
                  exact ⟨by rw [E.out]; rfl, Below.refl _ _⟩
              · have E : Hid (doIns 2 a b = (a, 0)) := by simp [Hid, doIns, *]
                go_enter Try.func35, Try.ntmps35
                go_wp2
                all_goals
                  go_ret2
                  exact ⟨by rw [E.out]; rfl, Below.refl _ _⟩
              · have E : Hid (doIns 3 a b = ((a + b) % 256, 0)) := by simp [Hid, doIns, *]
                go_enter Try.func35, Try.ntmps35
                go_wp2
                all_goals
                  go_ret2
                  exact ⟨by rw [E.out]; rfl, Below.refl _ _⟩
              · have E : Hid (doIns 4 a b = ((a - b + 256) % 256, 0)) := by simp [Hid, doIns, *]
                go_enter Try.func35, Try.ntmps35
                go_wp2
                all_goals
                  go_ret2
                  exact ⟨(by rw [E.out]; exact congrArg (fun x => Ending.returned (.tuple #[.int .i64 x, .int .i64 0])) (show (a - b) % 256 = (a - b + 256) % 256 by omega)), Below.refl _ _⟩
              · have p0 : 0 ≤ a * b := Int.mul_nonneg a0 b0
                have p1 : a * b ≤ 255 * 255 := Int.mul_le_mul a1 b1 b0 (by omega)
                have E : Hid (doIns 5 a b = (a * b % 256, 0)) := by simp [Hid, doIns, *]
                go_enter Try.func35, Try.ntmps35
                go_wp2
                all_goals
                  go_ret2
                  exact ⟨by rw [E.out]; rfl, Below.refl _ _⟩
              · by_cases z : b = 0
                · subst z
                  have E : Hid (doIns 6 a 0 = (0, 1)) := by simp [Hid, doIns, *]
                  go_enter Try.func35, Try.ntmps35
                  go_wp2
                  all_goals
                    go_ret2
                    exact ⟨by rw [E.out]; rfl, Below.refl _ _⟩
                · have zz : 0 < b := by omega
                  have E : Hid (doIns 6 a b = (a / b, 0)) := by simp [Hid, doIns, *]
                  have z1 : (b == 0) = false := by simpa using z
                  clear z
                  go_enter Try.func35, Try.ntmps35
                  go_wp2
                  all_goals
                    go_ret2
                    exact ⟨by rw [E.out]; rfl, Below.refl _ _⟩
              · by_cases z : b = 0
                · subst z
                  have E : Hid (doIns 7 a 0 = (0, 1)) := by simp [Hid, doIns, *]
                  go_enter Try.func35, Try.ntmps35
                  go_wp2
                  all_goals
                    go_ret2
                    exact ⟨by rw [E.out]; rfl, Below.refl _ _⟩
                · have zz : 0 < b := by omega
                  have E : Hid (doIns 7 a b = (a % b, 0)) := by simp [Hid, doIns, *]
                  have z1 : (b == 0) = false := by simpa using z
                  clear z
                  go_enter Try.func35, Try.ntmps35
                  go_wp2
                  all_goals
                    go_ret2
                    exact ⟨by rw [E.out]; rfl, Below.refl _ _⟩
              · by_cases z : a < b
                · have E : Hid (doIns 8 a b = (1, 0)) := by simp [Hid, doIns, *]
                  go_enter Try.func35, Try.ntmps35
                  go_wp2
                  all_goals
                    go_ret2
                    exact ⟨by rw [E.out]; rfl, Below.refl _ _⟩
                · have E : Hid (doIns 8 a b = (0, 0)) := by simp [Hid, doIns, *]
                  go_enter Try.func35, Try.ntmps35
                  go_wp2
                  all_goals
                    go_ret2
                    exact ⟨by rw [E.out]; rfl, Below.refl _ _⟩
              · by_cases z : a = b
                · subst z
                  have E : Hid (doIns 9 a a = (1, 0)) := by simp [Hid, doIns, *]
                  go_enter Try.func35, Try.ntmps35
                  go_wp2
                  all_goals
                    go_ret2
                    exact ⟨by rw [E.out]; rfl, Below.refl _ _⟩
                · have E : Hid (doIns 9 a b = (0, 0)) := by simp [Hid, doIns, *]
                  have z1 : (a == b) = false := by simpa using z
                  clear z
                  go_enter Try.func35, Try.ntmps35
                  go_wp2
                  all_goals
                    go_ret2
                    exact ⟨by rw [E.out]; rfl, Below.refl _ _⟩
              · by_cases z : a = 0
                · subst z
                  have E : Hid (doIns 10 0 b = (1, 0)) := by simp [Hid, doIns, *]
                  go_enter Try.func35, Try.ntmps35
                  go_wp2
                  all_goals
                    go_ret2
                    exact ⟨by rw [E.out]; rfl, Below.refl _ _⟩
                · have E : Hid (doIns 10 a b = (0, 0)) := by simp [Hid, doIns, *]
                  have z1 : (a == 0) = false := by simpa using z
                  clear z
                  go_enter Try.func35, Try.ntmps35
                  go_wp2
                  all_goals
                    go_ret2
                    exact ⟨by rw [E.out]; rfl, Below.refl _ _⟩
            · have E : Hid (doIns op a b = (-1, -1)) := by show _ = _; unfold doIns; rw [if_neg (by omega)]
              go_enter Try.func35, Try.ntmps35
              go_wp2
              all_goals
                go_ret2
                exact ⟨by rw [E.out]; rfl, Below.refl _ _⟩
          · have E : Hid (doIns op a b = (-1, -1)) := by show _ = _; unfold doIns; rw [if_neg (by omega)]
            go_enter Try.func35, Try.ntmps35
            go_wp2
            all_goals
              go_ret2
              exact ⟨by rw [E.out]; rfl, Below.refl _ _⟩
        · have E : Hid (doIns op a b = (-1, -1)) := by show _ = _; unfold doIns; rw [if_neg (by omega)]
          go_enter Try.func35, Try.ntmps35
          go_wp2
          all_goals
            go_ret2
            exact ⟨by rw [E.out]; rfl, Below.refl _ _⟩
      · have E : Hid (doIns op a b = (-1, -1)) := by show _ = _; unfold doIns; rw [if_neg (by omega)]
        go_enter Try.func35, Try.ntmps35
        go_wp2
        all_goals
          go_ret2
          exact ⟨by rw [E.out]; rfl, Below.refl _ _⟩
    · have E : Hid (doIns op a b = (-1, -1)) := by show _ = _; unfold doIns; rw [if_neg (by omega)]
      go_enter Try.func35, Try.ntmps35
      go_wp2
      all_goals
        go_ret2
        exact ⟨by rw [E.out]; rfl, Below.refl _ _⟩
  · have E : Hid (doIns op a b = (-1, -1)) := by show _ = _; unfold doIns; rw [if_neg (by omega)]
    go_enter Try.func35, Try.ntmps35
    go_wp2
    all_goals
      go_ret2
      exact ⟨by rw [E.out]; rfl, Below.refl _ _⟩

set_option maxRecDepth 100000 in
theorem law_DoIns (op a b : Int) (w : World) : Calls Try.prog 6 #[.int .i64 op, .int .i64 a, .int .i64 b] w (Yes w) := by
  go_enter Try.func6, Try.ntmps6
  go_wp2_with fail
  refine (spec_DoIns op a b _).mono ?_
  rintro e w1 ⟨rfl, b1⟩
  go_wp2_with fail
  refine (impl_DoIns op a b _).mono ?_
  rintro e w2 ⟨rfl, b2⟩
  go_wp2_with fail
  go_ret
  exact ⟨rfl, b1.trans (b2.mono b1.size)⟩

set_option maxRecDepth 100000 in
theorem fnExactDoIns_lifted (os : Os) (started : os.Started) (H : Type) (enc : TypeId × Value → H) :
    ReturnsInHanded {} Try.checked os 6 .any (Rows.fnExactDoInsSpec.pre6 enc Try.prog Try.f6 Rows.fnExactDoInsRow.domain false) (Rows.fnExactDoInsSpec.post enc Try.prog Try.f6 false true false false) := by
  refine returnsInHanded_of_change (C := Try.checked) own started (by kernel_rfl) Try.func6
    (ChangeSpec.witness6 (enc := enc) (C := Try.checked) false ⟨#[], #[.int .i64 0, .int .i64 0, .int .i64 0], []⟩ 8 (by kernel_rfl) (by kernel_rfl) (by kernel_rfl) (by kernel_rfl)) ?_
  intro W base args ds gs before hval0 hW hcnd _
  have hval : ∀ (j : Nat) t v, Try.f6.params[j]? = some t → args[j]? = some v → Value.okWide Try.prog W .any base t v := hval0
  obtain ⟨p, q, hA0, hV, hrest⟩ := id hW
  have hA : DataW.TrodAll enc Try.prog W 0 (fun _ => true) true Try.f6.params.toList args.toList ds p := hA0
  rw [Try.params6] at hA hval
  obtain ⟨v0, v1, v2, d0, d1, d2, p0, p1, p2, rfl, rfl, rfl, h0, h1, h2⟩ := trodAll_three hA
  obtain ⟨rfl, rfl⟩ := trodVars_none hV
  obtain ⟨op, rfl, rfl, rfl, _⟩ := open_int Try.underlying3 (hval 0 _ v0 rfl rfl) h0
  obtain ⟨a, rfl, rfl, rfl, _⟩ := open_int Try.underlying3 (hval 1 _ v1 rfl rfl) h1
  obtain ⟨b, rfl, rfl, rfl, _⟩ := open_int Try.underlying3 (hval 2 _ v2 rfl rfl) h2
  have hcall := law_DoIns op a b W
  refine hcall.mono fun e W' ⟨he, hb⟩ => ?_
  subst he
  exact ⟨_, rfl, post_true laidO hW rfl (by kernel_rfl) Try.underlying4 (by rw [Try.params6]; intro t ht; simp only [List.mem_cons, List.not_mem_nil, or_false] at ht; rcases ht with rfl | rfl | rfl <;> exact ⟨by kernel_rfl, of_decide_eq_true (by kernel_rfl)⟩) rfl rfl rfl hb⟩

set_option maxRecDepth 100000 in
set_option maxHeartbeats 1000000 in
theorem fnExactDoIns_facts : joinedFacts Try.prog 6 Try.f6 Rows.fnExactDoInsSpec Rows.fnExactDoInsRow = true := by
  unfold joinedFacts
  exact and_mk (and_mk (and_mk (and_mk (and_mk (and_mk (and_mk (and_mk (and_mk (and_mk (and_mk (and_mk (and_mk (and_mk (and_mk (and_mk (and_mk (and_mk (and_mk (and_mk (and_mk (and_mk (and_mk (and_mk (and_mk (and_mk (and_mk (and_mk (and_mk (and_mk (and_mk (by as_aux_lemma => kernel_rfl) laidO) mapsRowedO) (by as_aux_lemma => kernel_rfl)) (by as_aux_lemma => kernel_rfl)) (by as_aux_lemma => kernel_rfl)) (by as_aux_lemma => kernel_rfl)) (by as_aux_lemma => kernel_rfl)) (by as_aux_lemma => kernel_rfl)) (by as_aux_lemma => kernel_rfl)) (by as_aux_lemma => kernel_rfl)) (by as_aux_lemma => kernel_rfl)) (by as_aux_lemma => kernel_rfl)) (by as_aux_lemma => kernel_rfl)) (by as_aux_lemma => kernel_rfl)) (by as_aux_lemma => kernel_rfl)) (by as_aux_lemma => kernel_rfl)) (by as_aux_lemma => kernel_rfl)) (by as_aux_lemma => kernel_rfl)) (by as_aux_lemma => kernel_rfl)) (by as_aux_lemma => kernel_rfl)) (by as_aux_lemma => kernel_rfl)) (by rw [plainKeysO]; rfl)) (by as_aux_lemma => kernel_rfl)) stopsHeardO) mayEnter) (by rw [liftsFinal]; rfl)) (by rw [makeCut]; rfl)) (by as_aux_lemma => kernel_rfl)) (by as_aux_lemma => kernel_rfl)) (by as_aux_lemma => kernel_rfl)) (by as_aux_lemma => kernel_rfl)

theorem fnExactDoIns_holds : Rows.FnExactDoInsSaid :=
  OpenClaim.holds_of_wide 6 Try.f6 rfl rfl rfl rfl rfl rfl rfl ⟨rfl, rfl, rfl, rfl, rfl⟩ rfl rfl rfl rfl rfl (by kernel_rfl) Try.func6 fnExactDoIns_facts
    (of_decide_eq_true (by kernel_rfl)) (by unfold Func.isWrapper; first | (rw [if_pos (by decide +kernel)]; kernel_rfl) | (rw [if_neg (by decide +kernel)]; exact ⟨rfl, rfl⟩))
    (fun os started H enc _ => fnExactDoIns_lifted os started H enc)
end Go.Proofs.Ytaokcnjjlbdnoaa
