/-
  MadeBy, the program's and the reference's; and the law FnExactMadeBy: it returns true for all arguments. No condition.
-/
import Derived.Test.YtaokcnjjlbdnoaaEq
import Derived.Test.YtaokcnjjlbdnoaaDec
import Derived.Test.YtaokcnjjlbdnoaaFacts
import Derived.Deep.RegionHeld3
namespace Go.Proofs.Ytaokcnjjlbdnoaa
open Go.RowKit Go.ChangeShapes Go.WideShapes Go.Deep

/-- the register that an instruction sets, or -1 -/
def madeBy (op to : Int) : Int := if 1 ≤ op ∧ op ≤ 14 ∧ op ≠ 12 ∧ op ≠ 13 then to else -1

theorem ret_int {k : IntKind} {a b : Int} (h : a = b) : Ending.returned (.int k a) = .returned (.int k b) := by rw [h]

theorem implMadeBy_any (op to n : Int) (v : Value) (w : World) :
    Calls Try.prog 23 #[.agg #[.int .i64 op, .int .i64 to, v, .int .i64 n]] w fun e w' => e = .returned (.int .i64 (madeBy op to)) ∧ Below w.heap.size w w' := by
  by_cases h1 : 1 ≤ op
  · by_cases h2 : op ≤ 14
    · by_cases h3 : op = 12
      · subst h3
        go_enter Try.func23, Try.ntmps23
        go_wp2
        go_ret
        exact ⟨ret_int (by unfold madeBy; rw [if_neg (by omega)]), (Below.refl _ _).alloc (Nat.le_refl _) _⟩
      · by_cases h4 : op = 13
        · subst h4
          go_enter Try.func23, Try.ntmps23
          go_wp2
          go_ret
          exact ⟨ret_int (by unfold madeBy; rw [if_neg (by omega)]), (Below.refl _ _).alloc (Nat.le_refl _) _⟩
        · have e3 : (op != 12) = true := by simpa using h3
          have e4 : (op != 13) = true := by simpa using h4
          have E : Hid (madeBy op to = to) := by show _ = _; unfold madeBy; rw [if_pos ⟨h1, h2, h3, h4⟩]
          go_enter Try.func23, Try.ntmps23
          go_wp2
          go_ret
          exact ⟨ret_int E.out.symm, (Below.refl _ _).alloc (Nat.le_refl _) _⟩
    · go_enter Try.func23, Try.ntmps23
      go_wp2
      go_ret
      exact ⟨ret_int (by unfold madeBy; rw [if_neg (by omega)]), (Below.refl _ _).alloc (Nat.le_refl _) _⟩
  · go_enter Try.func23, Try.ntmps23
    go_wp2
    go_ret
    exact ⟨ret_int (by unfold madeBy; rw [if_neg (by omega)]), (Below.refl _ _).alloc (Nat.le_refl _) _⟩

theorem specMadeBy_any (op to n : Int) (v : Value) (w : World) :
    Calls Try.prog 21 #[.agg #[.int .i64 op, .int .i64 to, v, .int .i64 n]] w fun e w' => e = .returned (.int .i64 (madeBy op to)) ∧ Below w.heap.size w w' := by
  by_cases h1 : 1 ≤ op
  · by_cases h2 : op ≤ 14
    · by_cases h3 : op = 12
      · subst h3
        go_enter Try.func21, Try.ntmps21
        go_wp2
        go_ret
        exact ⟨ret_int (by unfold madeBy; rw [if_neg (by omega)]), (Below.refl _ _).alloc (Nat.le_refl _) _⟩
      · by_cases h4 : op = 13
        · subst h4
          go_enter Try.func21, Try.ntmps21
          go_wp2
          go_ret
          exact ⟨ret_int (by unfold madeBy; rw [if_neg (by omega)]), (Below.refl _ _).alloc (Nat.le_refl _) _⟩
        · have e3 : (op != 12) = true := by simpa using h3
          have e4 : (op != 13) = true := by simpa using h4
          have E : Hid (madeBy op to = to) := by show _ = _; unfold madeBy; rw [if_pos ⟨h1, h2, h3, h4⟩]
          go_enter Try.func21, Try.ntmps21
          go_wp2
          go_ret
          exact ⟨ret_int E.out.symm, (Below.refl _ _).alloc (Nat.le_refl _) _⟩
    · go_enter Try.func21, Try.ntmps21
      go_wp2
      go_ret
      exact ⟨ret_int (by unfold madeBy; rw [if_neg (by omega)]), (Below.refl _ _).alloc (Nat.le_refl _) _⟩
  · go_enter Try.func21, Try.ntmps21
    go_wp2
    go_ret
    exact ⟨ret_int (by unfold madeBy; rw [if_neg (by omega)]), (Below.refl _ _).alloc (Nat.le_refl _) _⟩

set_option maxRecDepth 100000 in
set_option maxHeartbeats 800000 in
theorem lawMadeBy_any (op to n : Int) (args : List Int) (v2 : Value) (w : World) (h0 : I64 op) (h1 : I64 to) (h2 : Sl false (intS false) w 0 w.heap.size args v2) (h3 : I64 n) :
    Calls Try.prog 3 #[.agg #[.int .i64 op, .int .i64 to, v2, .int .i64 n]] w (Yes w) := by
  have hb0 : Below w.heap.size w (w.alloc (.cells #[.int .i64 op, .int .i64 to, v2, .int .i64 n] 24)) := (Below.refl _ _).alloc (Nat.le_refl _) _
  go_enter Try.func3, Try.ntmps3
  go_wp2_with fail
  refine (sz_Ins op to args v2 n 1048576 _ 0 w.heap.size (by omega) (by omega) hb0.size h0 h1 (h2.below hb0 (Nat.le_refl _)) h3).mono ?_
  rintro e w1 ⟨r, rfl, a1, b1, c1, e1⟩
  have hb1 : Below w.heap.size w w1 := hb0.trans (e1.mono hb0.size)
  have R1 : Row w1 w.heap.size 24 #[.int .i64 op, .int .i64 to, v2, .int .i64 n] := (Row.new w _ _).below e1 (by simp)
  have C1 := Lib.hid c1
  clear c1
  by_cases hr : r < 0
  · go_wp2_with fail
    go_ret
    exact ⟨rfl, hb1⟩
  · have hN : args.length ≤ 1048576 := by
      have := C1.out (by omega)
      omega
    clear a1 b1 C1
    have y0 : w1.cell? ⟨w.heap.size, 0, none⟩ = some (.int .i64 op) := R1.cell 0
    have y1 : w1.cell? ⟨w.heap.size, 1, none⟩ = some (.int .i64 to) := R1.cell 1
    have y2 : w1.cell? ⟨w.heap.size, 2, none⟩ = some v2 := R1.cell 2
    have y3 : w1.cell? ⟨w.heap.size, 3, none⟩ = some (.int .i64 n) := R1.cell 3
    go_wp2_with fail
    refine (to_Ins op to args v2 n _ 0 w.heap.size hb1.size hN h0 h1 (h2.below hb1 (Nat.le_refl _)) h3).mono ?_
    rintro e w2 ⟨cs, rfl, hx, e2⟩
    obtain ⟨x2, rfl, -, -, -, -⟩ := ins_open (hx false)
    clear hx
    have hb2 : Below w.heap.size w w2 := hb1.trans (e2.mono hb1.size)
    have R2 := R1.below e2 R1.lt
    clear y0 y1 y2 y3
    go_wp2_with fail
    refine (specMadeBy_any op to n x2 _).mono ?_
    rintro e w3 ⟨rfl, e3⟩
    have hb3 : Below w.heap.size w w3 := hb2.trans (e3.mono hb2.size)
    have R3 := R2.below e3 R2.lt
    have y0 : w3.cell? ⟨w.heap.size, 0, none⟩ = some (.int .i64 op) := R3.cell 0
    have y1 : w3.cell? ⟨w.heap.size, 1, none⟩ = some (.int .i64 to) := R3.cell 1
    have y2 : w3.cell? ⟨w.heap.size, 2, none⟩ = some v2 := R3.cell 2
    have y3 : w3.cell? ⟨w.heap.size, 3, none⟩ = some (.int .i64 n) := R3.cell 3
    go_wp2_with fail
    refine (to_Ins op to args v2 n _ 0 w.heap.size hb3.size hN h0 h1 (h2.below hb3 (Nat.le_refl _)) h3).mono ?_
    rintro e w4 ⟨cs, rfl, hx, e4⟩
    obtain ⟨x4, rfl, -, -, q4, -⟩ := ins_open (hx false)
    clear hx y0 y1 y2 y3
    have hb4 : Below w.heap.size w w4 := hb3.trans (e4.mono hb3.size)
    have R4 := R3.below e4 R3.lt
    obtain ⟨A4, p4, rfl, _, _⟩ := q4.form
    go_wp2_with fail
    refine (implMadeBy_any op to n (.slice A4 args.length p4) _).mono ?_
    rintro e w5 ⟨rfl, e5⟩
    have hb4' : Below w.heap.size w (w4.alloc (.cells #[.int .i64 op, .int .i64 to, .slice A4 args.length p4, .int .i64 n] 27)) := hb4.alloc hb4.size _
    have hb5 : Below w.heap.size w w5 := hb4'.trans (e5.mono hb4'.size)
    have R5 : Row w5 w.heap.size 24 #[.int .i64 op, .int .i64 to, v2, .int .i64 n] := (R4.alloc _).below e5 (by have := R4.lt; simp; omega)
    have X5 : Row w5 w4.heap.size 27 #[.int .i64 op, .int .i64 to, .slice A4 args.length p4, .int .i64 n] := (Row.new w4 _ _).below e5 (by simp)
    have q5 : Sl false (intS false) w5 w3.heap.size w4.heap.size args (.slice A4 args.length p4) := (q4.below ((Below.refl w4.heap.size w4).alloc (Nat.le_refl _) (.cells #[.int .i64 op, .int .i64 to, .slice A4 args.length p4, .int .i64 n] 27)) (Nat.le_refl _)).below e5 (by simp)
    have s5 : w4.heap.size ≤ w5.heap.size := by have := e5.size; simp at this; omega
    have y0 : w5.cell? ⟨w.heap.size, 0, none⟩ = some (.int .i64 op) := R5.cell 0
    have y1 : w5.cell? ⟨w.heap.size, 1, none⟩ = some (.int .i64 to) := R5.cell 1
    have y2 : w5.cell? ⟨w.heap.size, 2, none⟩ = some v2 := R5.cell 2
    have y3 : w5.cell? ⟨w.heap.size, 3, none⟩ = some (.int .i64 n) := R5.cell 3
    have x0 : w5.cell? ⟨w4.heap.size, 0, none⟩ = some (.int .i64 op) := X5.cell 0
    have x1 : w5.cell? ⟨w4.heap.size, 1, none⟩ = some (.int .i64 to) := X5.cell 1
    have x2 : w5.cell? ⟨w4.heap.size, 2, none⟩ = some (.slice A4 args.length p4) := X5.cell 2
    have x3 : w5.cell? ⟨w4.heap.size, 3, none⟩ = some (.int .i64 n) := X5.cell 3
    go_wp2_with fail
    have X5d : Row w5.drew w4.heap.size 27 #[.int .i64 op, .int .i64 to, .slice A4 args.length p4, .int .i64 n] := X5
    have hb5d : Below w.heap.size w w5.drew := hb5.drew
    have q5d : Sl false (intS false) w5.drew w3.heap.size w4.heap.size args (.slice A4 args.length p4) := q5.keep (Nat.le_refl _) (Nat.le_refl _) (fun _ _ _ => rfl)
    have s5d : w4.heap.size < w5.drew.heap.size := X5.lt
    clear X5 R5 hb5 q5 s5 e5 hb4' hb4 hb3 hb2 hb1 hb0 R1 R2 R3 R4 q4 e1 e2 e3 e4
    go_region_with (first
      | (go_at_call 22; refine (to_Ins op to args v2 n w5.drew 0 w.heap.size hb5d.size hN h0 h1 (h2.below hb5d (Nat.le_refl _)) h3).mono ?_; rintro e w6 ⟨cs, rfl, hx, e6⟩; obtain ⟨x6, rfl, -, -, q6, -⟩ := ins_open (hx false); clear hx; have X6 := X5d.below e6 s5d; have x0 : w6.cell? ⟨w4.heap.size, 0, none⟩ = some (.int .i64 op) := X6.cell 0; have x1 : w6.cell? ⟨w4.heap.size, 1, none⟩ = some (.int .i64 to) := X6.cell 1; have x2 : w6.cell? ⟨w4.heap.size, 2, none⟩ = some (.slice A4 args.length p4) := X6.cell 2; have x3 : w6.cell? ⟨w4.heap.size, 3, none⟩ = some (.int .i64 n) := X6.cell 3; have hb6 : Below w.heap.size w w6 := hb5d.trans (e6.mono hb5d.size); have s6 := e6.size)
      | (go_at_call 24; refine (eq_Ins op to args (.slice A4 args.length p4) x6 n w6 w3.heap.size w4.heap.size w5.drew.heap.size w6.heap.size (by omega) (Nat.le_refl _) (q5d.below e6 (by omega)) q6).mono ?_; rintro e w7 ⟨rfl, e7⟩; have hb7 : Below w.heap.size w w7 := hb6.trans (e7.mono hb6.size)))
    all_goals
      go_wp2_with fail
      go_ret
      exact ⟨rfl, hb7⟩

set_option maxRecDepth 100000 in
theorem fnExactMadeBy_lifted (os : Os) (started : os.Started) (H : Type) (enc : TypeId × Value → H) :
    ReturnsInHanded {} Try.checked os 3 .any (Rows.fnExactMadeBySpec.pre6 enc Try.prog Try.f3 Rows.fnExactMadeByRow.domain false) (Rows.fnExactMadeBySpec.post enc Try.prog Try.f3 false true false false) := by
  refine returnsInHanded_of_change (C := Try.checked) own started (by kernel_rfl) Try.func3
    (ChangeSpec.witness6 (enc := enc) (C := Try.checked) false ⟨#[], #[.agg #[.int .i64 0, .int .i64 0, .slice none 0 0, .int .i64 0]], []⟩ 8 (by kernel_rfl) (by kernel_rfl) (by kernel_rfl) (by kernel_rfl)) ?_
  intro W base args ds gs before hval0 hW hcnd _
  have hval : ∀ (j : Nat) t v, Try.f3.params[j]? = some t → args[j]? = some v → Value.okWide Try.prog W .any base t v := hval0
  obtain ⟨p, q, hA0, hV, hrest⟩ := id hW
  have hA : DataW.TrodAll enc Try.prog W 0 (fun _ => true) true Try.f3.params.toList args.toList ds p := hA0
  rw [Try.params3] at hA hval
  obtain ⟨v0, d0, rfl, rfl, h0⟩ := trodAll_one hA
  obtain ⟨rfl, rfl⟩ := trodVars_none hV
  obtain ⟨cs, rfl, hcs⟩ := okWide_struct Try.underlying24 (hval 0 _ v0 rfl rfl)
  obtain ⟨fuel, hf⟩ := h0
  obtain ⟨a, ha⟩ := dec_Ins hf
  obtain ⟨v2, e, g0, g1, g2, g3⟩ := ins_open ha
  obtain ⟨op, to, args, n⟩ := a
  obtain ⟨cs⟩ := cs
  simp only [Value.cells] at e
  subst e
  have hcall := lawMadeBy_any op to n args v2 W g0 g1 g2 g3
  refine hcall.mono fun e W' ⟨he, hb⟩ => ?_
  subst he
  exact ⟨_, rfl, post_true laidO hW rfl (by kernel_rfl) Try.underlying4 (by rw [Try.params3]; intro t ht; simp only [List.mem_cons, List.not_mem_nil, or_false] at ht; subst ht; exact ⟨by kernel_rfl, of_decide_eq_true (by kernel_rfl)⟩) rfl rfl rfl hb⟩

set_option maxRecDepth 100000 in
set_option maxHeartbeats 1000000 in
theorem fnExactMadeBy_facts : joinedFacts Try.prog 3 Try.f3 Rows.fnExactMadeBySpec Rows.fnExactMadeByRow = true := by
  unfold joinedFacts
  exact and_mk (and_mk (and_mk (and_mk (and_mk (and_mk (and_mk (and_mk (and_mk (and_mk (and_mk (and_mk (and_mk (and_mk (and_mk (and_mk (and_mk (and_mk (and_mk (and_mk (and_mk (and_mk (and_mk (and_mk (and_mk (and_mk (and_mk (and_mk (and_mk (and_mk (and_mk (by as_aux_lemma => kernel_rfl) laidO) mapsRowedO) (by as_aux_lemma => kernel_rfl)) (by as_aux_lemma => kernel_rfl)) (by as_aux_lemma => kernel_rfl)) (by as_aux_lemma => kernel_rfl)) (by as_aux_lemma => kernel_rfl)) (by as_aux_lemma => kernel_rfl)) (by as_aux_lemma => kernel_rfl)) (by as_aux_lemma => kernel_rfl)) (by as_aux_lemma => kernel_rfl)) (by as_aux_lemma => kernel_rfl)) (by as_aux_lemma => kernel_rfl)) (by as_aux_lemma => kernel_rfl)) (by as_aux_lemma => kernel_rfl)) (by as_aux_lemma => kernel_rfl)) (by as_aux_lemma => kernel_rfl)) (by as_aux_lemma => kernel_rfl)) (by as_aux_lemma => kernel_rfl)) (by as_aux_lemma => kernel_rfl)) (by as_aux_lemma => kernel_rfl)) (by rw [plainKeysO]; rfl)) (by as_aux_lemma => kernel_rfl)) stopsHeardO) mayEnter) (by rw [liftsFinal]; rfl)) (by rw [makeCut]; rfl)) (by as_aux_lemma => kernel_rfl)) (by as_aux_lemma => kernel_rfl)) (by as_aux_lemma => kernel_rfl)) (by as_aux_lemma => kernel_rfl)

theorem fnExactMadeBy_holds : Rows.FnExactMadeBySaid :=
  OpenClaim.holds_of_wide 3 Try.f3 rfl rfl rfl rfl rfl rfl rfl ⟨rfl, rfl, rfl, rfl, rfl⟩ rfl rfl rfl rfl rfl (by kernel_rfl) Try.func3 fnExactMadeBy_facts
    (of_decide_eq_true (by kernel_rfl)) (by unfold Func.isWrapper; first | (rw [if_pos (by decide +kernel)]; kernel_rfl) | (rw [if_neg (by decide +kernel)]; exact ⟨rfl, rfl⟩))
    (fun os started H enc _ => fnExactMadeBy_lifted os started H enc)
end Go.Proofs.Ytaokcnjjlbdnoaa
