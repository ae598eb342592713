/-
  The law FnExactExprText. Conditions: the arguments read as data; the tables lie.
-/
import Derived.Test.YtbikgakoeheahaaDoorLawsX
import Derived.Test.YtbikgakoeheahaaDoorTextC
namespace Go.Proofs.YtbikgakoeheahaaDoor
open Go.RowKit Go.ChangeShapes Go.WideShapes Go.Deep

theorem specExprText_u (d : Nat) (op n : Int) (name : ByteArray) (kids : List Ex) (v3 : Value) (w : World) (lo B : Nat) (hB : B ≤ w.heap.size) (_ : name.size + (kids.length + sumBy exN kids) ≤ 1048576) (ho : I64 op) (hn64 : I64 n) (hnm : name.size ≤ maxLen) (h3 : Sl false (exS false d) w lo B kids v3) : Calls Tryd.prog 9 #[.agg #[.int .i64 op, .int .i64 n, .string name, v3]] w (RetV (.tuple #[.string (txV (.mk op n name kids)), .bool (valE (.mk op n name kids))]) w) := spec_ExprText d op n name kids v3 w lo B hB ho hn64 hnm h3
theorem implExprText_u (d : Nat) (op n : Int) (name : ByteArray) (kids : List Ex) (v3 : Value) (w : World) (lo B : Nat) (hB : B ≤ w.heap.size) (_ : name.size + (kids.length + sumBy exN kids) ≤ 1048576) (ho : I64 op) (hn64 : I64 n) (hnm : name.size ≤ maxLen) (h3 : Sl false (exS false d) w lo B kids v3) (ht : TabX w) : Calls Tryd.prog 11 #[.agg #[.int .i64 op, .int .i64 n, .string name, v3]] w (RetV (.tuple #[.string (txV (.mk op n name kids)), .bool (valE (.mk op n name kids))]) w) := impl_ExprText d op n name kids v3 w lo B hB ho hn64 hnm h3 ht
set_option maxRecDepth 100000 in
set_option maxHeartbeats 4000000 in
theorem law_FnExactExprText (d : Nat) (op : Int) (n : Int) (name : ByteArray) (kids : List Ex) (v3 : Value)  (w : World) (h0 : I64 op) (h1 : I64 n) (h2 : name.size ≤ maxLen) (h3 : Sl false (exS false d) w 0 w.heap.size kids v3)  (ht : TabX w) :
    Calls Tryd.prog 3 #[.agg #[.int .i64 op, .int .i64 n, .string name, v3]] w (Yes w) := by
  have hb0 : Below w.heap.size w (w.alloc (.cells #[.int .i64 op, .int .i64 n, .string name, v3] 24)) := (Below.refl _ _).alloc (Nat.le_refl _) _
  have R0_0 : Row (w.alloc (.cells #[.int .i64 op, .int .i64 n, .string name, v3] 24)) (w.heap.size) 24 #[.int .i64 op, .int .i64 n, .string name, v3] := by simpa using Row.new (w) _ _
  go_enter Tryd.func3, Tryd.ntmps3
  go_wp2_with fail
  refine (sz_Expr d op n name kids v3 1048576 _ 0 w.heap.size (by omega) (by omega) hb0.size h0 h1 h2 (h3.below hb0 (Nat.le_refl _))).mono ?_
  rintro e w1 ⟨r0, rfl, a0, b0, c0, e0⟩
  have hb1 : Below w.heap.size w w1 := hb0.trans (e0.mono hb0.size)
  have sz1 := e0.size
  have R1_0 := R0_0.below e0 R0_0.lt
  clear R0_0
  have C0 := Lib.hid c0
  clear c0
  by_cases hr0 : r0 < 0
  · go_wp2_with fail
    go_ret
    exact ⟨rfl, hb1⟩
  · have hN0 : name.size + (kids.length + sumBy exN kids) ≤ 1048576 := by
      have := C0.out (by omega)
      omega
    have hr0' : 0 ≤ r0 := by omega
    clear C0
    have y0_1 : (w1).cell? ⟨w.heap.size, 0, none⟩ = some (.int .i64 op) := R1_0.cell 0
    have y1_1 : (w1).cell? ⟨w.heap.size, 1, none⟩ = some (.int .i64 n) := R1_0.cell 1
    have y2_1 : (w1).cell? ⟨w.heap.size, 2, none⟩ = some (.string name) := R1_0.cell 2
    have y3_1 : (w1).cell? ⟨w.heap.size, 3, none⟩ = some (v3) := R1_0.cell 3
    clear a0 b0
    go_wp2_with fail
    refine (to_Expr d op n name kids v3 _ 0 w.heap.size hb1.size hN0 h0 h1 h2 (h3.below hb1 (Nat.le_refl _))).mono ?_
    rintro e w2 ⟨cs, rfl, hx, e10⟩
    obtain ⟨xs_3, hcs, -, -, -, qs_3⟩ := ex_open d (hx false)
    change _ = [.int .i64 op, .int .i64 n, .string name, xs_3] at hcs
    subst hcs
    clear hx
    obtain ⟨As_3, ps_3, hfs_3, _, _⟩ := qs_3.form
    change _ = Value.slice As_3 kids.length ps_3 at hfs_3
    subst hfs_3
    have hb2 : Below w.heap.size w w2 := hb1.trans (e10.mono hb1.size)
    have sz2 := e10.size
    have R2_0 := R1_0.below e10 R1_0.lt
    clear y0_1 y1_1 y2_1 y3_1
    clear R1_0
    go_wp2_with fail
    refine (specExprText_u d op n name kids (.slice As_3 kids.length ps_3)  _ w1.heap.size w2.heap.size (Nat.le_refl _) hN0 h0 h1 h2 qs_3 ).mono ?_
    rintro e w3 ⟨rfl, e11⟩
    have hb3 : Below w.heap.size w w3 := hb2.trans (e11.mono hb2.size)
    have sz3 := e11.size
    have R3_0 := R2_0.below e11 R2_0.lt
    clear R2_0
    have y0_3 : (w3).cell? ⟨w.heap.size, 0, none⟩ = some (.int .i64 op) := R3_0.cell 0
    have y1_3 : (w3).cell? ⟨w.heap.size, 1, none⟩ = some (.int .i64 n) := R3_0.cell 1
    have y2_3 : (w3).cell? ⟨w.heap.size, 2, none⟩ = some (.string name) := R3_0.cell 2
    have y3_3 : (w3).cell? ⟨w.heap.size, 3, none⟩ = some (v3) := R3_0.cell 3
    have rl0_0 := R3_0.lt
    go_wp2_with fail
    refine (to_Expr d op n name kids v3 _ 0 w.heap.size hb3.size hN0 h0 h1 h2 (h3.below hb3 (Nat.le_refl _))).mono ?_
    rintro e u0 ⟨cs, rfl, hx, f0⟩
    obtain ⟨xx0_3, hcs, -, -, -, qx0_3⟩ := ex_open d (hx false)
    change _ = [.int .i64 op, .int .i64 n, .string name, xx0_3] at hcs
    subst hcs
    clear hx
    obtain ⟨Ax0_3, px0_3, hfx0_3, _, _⟩ := qx0_3.form
    change _ = Value.slice Ax0_3 kids.length px0_3 at hfx0_3
    subst hfx0_3
    have hb4 : Below w.heap.size w u0 := hb3.trans (f0.mono hb3.size)
    have sz4 := f0.size
    have R4_0 := R3_0.below f0 R3_0.lt
    clear y0_3 y1_3 y2_3 y3_3
    clear R3_0
    have hk0 : Below w.heap.size w (u0.alloc (.cells #[.int .i64 op, .int .i64 n, .string name, .slice Ax0_3 kids.length px0_3] 30)) := hb4.alloc hb4.size _
    have K0_0 : Row (u0.alloc (.cells #[.int .i64 op, .int .i64 n, .string name, .slice Ax0_3 kids.length px0_3] 30)) (w.heap.size) 24 #[.int .i64 op, .int .i64 n, .string name, v3] := R4_0.alloc _
    have K0_1 : Row (u0.alloc (.cells #[.int .i64 op, .int .i64 n, .string name, .slice Ax0_3 kids.length px0_3] 30)) u0.heap.size 30 #[.int .i64 op, .int .i64 n, .string name, .slice Ax0_3 kids.length px0_3] := Row.new _ _ _
    have qx0_3_k0 : Sl false (exS false d) (u0.alloc (.cells #[.int .i64 op, .int .i64 n, .string name, .slice Ax0_3 kids.length px0_3] 30)) (w3).heap.size u0.heap.size kids (.slice Ax0_3 kids.length px0_3) := qx0_3.keep (Nat.le_refl _) (Nat.le_refl _) (fun b _ hb => Below.heap_alloc _ _ b (by omega))
    have zz0 : u0.heap.size < (u0.alloc (.cells #[.int .i64 op, .int .i64 n, .string name, .slice Ax0_3 kids.length px0_3] 30)).heap.size := by simp
    have y0_4 : (u0.alloc (.cells #[.int .i64 op, .int .i64 n, .string name, .slice Ax0_3 kids.length px0_3] 30)).cell? ⟨w.heap.size, 0, none⟩ = some (.int .i64 op) := K0_0.cell 0
    have y1_4 : (u0.alloc (.cells #[.int .i64 op, .int .i64 n, .string name, .slice Ax0_3 kids.length px0_3] 30)).cell? ⟨w.heap.size, 1, none⟩ = some (.int .i64 n) := K0_0.cell 1
    have y2_4 : (u0.alloc (.cells #[.int .i64 op, .int .i64 n, .string name, .slice Ax0_3 kids.length px0_3] 30)).cell? ⟨w.heap.size, 2, none⟩ = some (.string name) := K0_0.cell 2
    have y3_4 : (u0.alloc (.cells #[.int .i64 op, .int .i64 n, .string name, .slice Ax0_3 kids.length px0_3] 30)).cell? ⟨w.heap.size, 3, none⟩ = some (v3) := K0_0.cell 3
    have y4_4 : (u0.alloc (.cells #[.int .i64 op, .int .i64 n, .string name, .slice Ax0_3 kids.length px0_3] 30)).cell? ⟨u0.heap.size, 0, none⟩ = some (.int .i64 op) := K0_1.cell 0
    have y5_4 : (u0.alloc (.cells #[.int .i64 op, .int .i64 n, .string name, .slice Ax0_3 kids.length px0_3] 30)).cell? ⟨u0.heap.size, 1, none⟩ = some (.int .i64 n) := K0_1.cell 1
    have y6_4 : (u0.alloc (.cells #[.int .i64 op, .int .i64 n, .string name, .slice Ax0_3 kids.length px0_3] 30)).cell? ⟨u0.heap.size, 2, none⟩ = some (.string name) := K0_1.cell 2
    have y7_4 : (u0.alloc (.cells #[.int .i64 op, .int .i64 n, .string name, .slice Ax0_3 kids.length px0_3] 30)).cell? ⟨u0.heap.size, 3, none⟩ = some (.slice Ax0_3 kids.length px0_3) := K0_1.cell 3
    go_wp2_with fail
    refine (implExprText_u d op n name kids (.slice Ax0_3 kids.length px0_3)  _ (w3).heap.size u0.heap.size (by simp) hN0 h0 h1 h2 qx0_3_k0  (ht.below hk0 (Nat.le_refl _))).mono ?_
    rintro e g0 ⟨rfl, eg⟩
    have tt : (u0.alloc (.cells #[.int .i64 op, .int .i64 n, .string name, .slice Ax0_3 kids.length px0_3] 30)).heap.size ≤ g0.heap.size := eg.size
    have hb5 : Below w.heap.size w g0 := hk0.trans (eg.mono hk0.size)
    have sz5 := eg.size
    have R5_0 := K0_0.below eg K0_0.lt
    have R5_1 := K0_1.below eg K0_1.lt
    have qx0_3_5 := qx0_3_k0.below eg (by first | omega | (simp; omega) | (simp at *; omega))
    clear y0_4 y1_4 y2_4 y3_4 y4_4 y5_4 y6_4 y7_4
    clear K0_0 K0_1 qx0_3_k0
    have y0_5 : (g0).cell? ⟨w.heap.size, 0, none⟩ = some (.int .i64 op) := R5_0.cell 0
    have y1_5 : (g0).cell? ⟨w.heap.size, 1, none⟩ = some (.int .i64 n) := R5_0.cell 1
    have y2_5 : (g0).cell? ⟨w.heap.size, 2, none⟩ = some (.string name) := R5_0.cell 2
    have y3_5 : (g0).cell? ⟨w.heap.size, 3, none⟩ = some (v3) := R5_0.cell 3
    have y4_5 : (g0).cell? ⟨u0.heap.size, 0, none⟩ = some (.int .i64 op) := R5_1.cell 0
    have y5_5 : (g0).cell? ⟨u0.heap.size, 1, none⟩ = some (.int .i64 n) := R5_1.cell 1
    have y6_5 : (g0).cell? ⟨u0.heap.size, 2, none⟩ = some (.string name) := R5_1.cell 2
    have y7_5 : (g0).cell? ⟨u0.heap.size, 3, none⟩ = some (.slice Ax0_3 kids.length px0_3) := R5_1.cell 3
    go_wp2_with fail
    have hbd0 : Below w.heap.size w g0.drew := hb5.drew
    have D0_0 : Row g0.drew (w.heap.size) 24 #[.int .i64 op, .int .i64 n, .string name, v3] := R5_0
    have D0_1 : Row g0.drew (u0.heap.size) 30 #[.int .i64 op, .int .i64 n, .string name, .slice Ax0_3 kids.length px0_3] := R5_1
    have dqx0_3 : Sl false (exS false d) g0.drew (w3).heap.size u0.heap.size kids (.slice Ax0_3 kids.length px0_3) := qx0_3_5.keep (Nat.le_refl _) (Nat.le_refl _) (fun _ _ _ => rfl)
    have ts0 : g0.heap.size ≤ g0.drew.heap.size := Nat.le_refl _
    go_region_held3 (fun w' => w'.cell? ⟨w.heap.size, 0, none⟩ = some (.int .i64 op) ∧ w'.cell? ⟨w.heap.size, 1, none⟩ = some (.int .i64 n) ∧ w'.cell? ⟨w.heap.size, 2, none⟩ = some (.string name) ∧ w'.cell? ⟨w.heap.size, 3, none⟩ = some (v3) ∧ w'.cell? ⟨u0.heap.size, 0, none⟩ = some (.int .i64 op) ∧ w'.cell? ⟨u0.heap.size, 1, none⟩ = some (.int .i64 n) ∧ w'.cell? ⟨u0.heap.size, 2, none⟩ = some (.string name) ∧ w'.cell? ⟨u0.heap.size, 3, none⟩ = some (.slice Ax0_3 kids.length px0_3)) (refine ⟨?_, ?_, ?_, ?_, ?_, ?_, ?_, ?_⟩ <;> assumption) (first | (go_at_call 10; refine (to_Expr d op n name kids v3 g0.drew 0 w.heap.size hbd0.size hN0 h0 h1 h2 (h3.below hbd0 (Nat.le_refl _))).mono ?_; rintro e va0 ⟨cs, rfl, hx, ea0⟩; obtain ⟨xz0_3, hcs, -, -, -, qz0_3⟩ := ex_open d (hx false); change _ = [.int .i64 op, .int .i64 n, .string name, xz0_3] at hcs; subst hcs; clear hx; obtain ⟨Az0_3, pz0_3, hfz0_3, _, _⟩ := qz0_3.form; change _ = Value.slice Az0_3 kids.length pz0_3 at hfz0_3; subst hfz0_3; have hba0 : Below w.heap.size w va0 := hbd0.trans (ea0.mono hbd0.size); have sea0 := ea0.size; have P0_0 := D0_0.below ea0 D0_0.lt; have P0_1 := D0_1.below ea0 D0_1.lt; have m0_0_0 : va0.cell? ⟨w.heap.size, 0, none⟩ = some (.int .i64 op) := P0_0.cell 0; have m0_0_1 : va0.cell? ⟨w.heap.size, 1, none⟩ = some (.int .i64 n) := P0_0.cell 1; have m0_0_2 : va0.cell? ⟨w.heap.size, 2, none⟩ = some (.string name) := P0_0.cell 2; have m0_0_3 : va0.cell? ⟨w.heap.size, 3, none⟩ = some (v3) := P0_0.cell 3; have m0_1_0 : va0.cell? ⟨u0.heap.size, 0, none⟩ = some (.int .i64 op) := P0_1.cell 0; have m0_1_1 : va0.cell? ⟨u0.heap.size, 1, none⟩ = some (.int .i64 n) := P0_1.cell 1; have m0_1_2 : va0.cell? ⟨u0.heap.size, 2, none⟩ = some (.string name) := P0_1.cell 2; have m0_1_3 : va0.cell? ⟨u0.heap.size, 3, none⟩ = some (.slice Ax0_3 kids.length px0_3) := P0_1.cell 3) | (go_at_call 12; refine (eq_Expr d op n name kids (.slice Ax0_3 kids.length px0_3) (.slice Az0_3 kids.length pz0_3) va0 (w3).heap.size u0.heap.size g0.drew.heap.size va0.heap.size (by omega) (Nat.le_refl _) (dqx0_3.below ea0 (by omega)) qz0_3).mono ?_; rintro e vb0 ⟨rfl, eb0⟩; have hbb0 : Below w.heap.size w vb0 := hba0.trans (eb0.mono hba0.size); have seb0 := eb0.size; have Q0_0 := P0_0.below eb0 P0_0.lt; have Q0_1 := P0_1.below eb0 P0_1.lt; have n0_0_0 : vb0.cell? ⟨w.heap.size, 0, none⟩ = some (.int .i64 op) := Q0_0.cell 0; have n0_0_1 : vb0.cell? ⟨w.heap.size, 1, none⟩ = some (.int .i64 n) := Q0_0.cell 1; have n0_0_2 : vb0.cell? ⟨w.heap.size, 2, none⟩ = some (.string name) := Q0_0.cell 2; have n0_0_3 : vb0.cell? ⟨w.heap.size, 3, none⟩ = some (v3) := Q0_0.cell 3; have n0_1_0 : vb0.cell? ⟨u0.heap.size, 0, none⟩ = some (.int .i64 op) := Q0_1.cell 0; have n0_1_1 : vb0.cell? ⟨u0.heap.size, 1, none⟩ = some (.int .i64 n) := Q0_1.cell 1; have n0_1_2 : vb0.cell? ⟨u0.heap.size, 2, none⟩ = some (.string name) := Q0_1.cell 2; have n0_1_3 : vb0.cell? ⟨u0.heap.size, 3, none⟩ = some (.slice Ax0_3 kids.length px0_3) := Q0_1.cell 3))
    clear y0_5 y1_5 y2_5 y3_5 y4_5 y5_5 y6_5 y7_5
    have qx0_3_f0 := (dqx0_3.below ea0 (by omega)).below eb0 (by omega)
    clear m0_0_0 m0_0_1 m0_0_2 m0_0_3 m0_1_0 m0_1_1 m0_1_2 m0_1_3 n0_0_0 n0_0_1 n0_0_2 n0_0_3 n0_1_0 n0_1_1 n0_1_2 n0_1_3
    go_wp2_with fail
    go_ret
    exact ⟨rfl, hbb0⟩

set_option maxRecDepth 100000 in
theorem fnExactExprText_lifted (os : Os) (started : os.Started) (H : Type) (enc : TypeId × Value → H) :
    ReturnsInHanded {} Tryd.checked os 3 .any (fun w args => (Rows.fnExactExprTextSpec.pre enc Tryd.prog Tryd.f3 [] false w args ∧ laidMetH Tryd.prog [("math/bits.deBruijn32tab", Rows.laid_math_bits_deBruijn32tab), ("math/bits.deBruijn64tab", Rows.laid_math_bits_deBruijn64tab), ("internal/strconv.uint64pow10", Rows.laid_internal_strconv_uint64pow10), ("strconv.ErrRange", Rows.laid_strconv_ErrRange), ("strconv.ErrSyntax", Rows.laid_strconv_ErrSyntax), ("loop.example/wholeway/impl.keys", Rows.laid_loop_example_wholeway_impl_keys), ("loop.example/wholeway/impl.opSign", Rows.laid_loop_example_wholeway_impl_opSign)] w) ∧ sizedMet enc Tryd.prog Tryd.f3 (OpenSpec.ofChange Rows.fnExactExprTextSpec) false w args) (Rows.fnExactExprTextSpec.post enc Tryd.prog Tryd.f3 false true false false) := by
  refine returnsInHanded_of_change_and (C := Tryd.checked) (X := fun w _ => laidMetH Tryd.prog [("math/bits.deBruijn32tab", Rows.laid_math_bits_deBruijn32tab), ("math/bits.deBruijn64tab", Rows.laid_math_bits_deBruijn64tab), ("internal/strconv.uint64pow10", Rows.laid_internal_strconv_uint64pow10), ("strconv.ErrRange", Rows.laid_strconv_ErrRange), ("strconv.ErrSyntax", Rows.laid_strconv_ErrSyntax), ("loop.example/wholeway/impl.keys", Rows.laid_loop_example_wholeway_impl_keys), ("loop.example/wholeway/impl.opSign", Rows.laid_loop_example_wholeway_impl_opSign)] w) (fun _ _ _ hh h => h.of_heap hh) own started (by kernel_rfl) Tryd.func3
    (ChangeSpec.witness_shaped (enc := enc) (C := Tryd.checked) (os := os) (X := fun w _ => laidMetH Tryd.prog [("math/bits.deBruijn32tab", Rows.laid_math_bits_deBruijn32tab), ("math/bits.deBruijn64tab", Rows.laid_math_bits_deBruijn64tab), ("internal/strconv.uint64pow10", Rows.laid_internal_strconv_uint64pow10), ("strconv.ErrRange", Rows.laid_strconv_ErrRange), ("strconv.ErrSyntax", Rows.laid_strconv_ErrSyntax), ("loop.example/wholeway/impl.keys", Rows.laid_loop_example_wholeway_impl_keys), ("loop.example/wholeway/impl.opSign", Rows.laid_loop_example_wholeway_impl_opSign)] w) false (World.doorLaid Tryd.prog 400 os) #[.agg #[.int .i64 0, .int .i64 0, .string ⟨#[]⟩, .slice none 0 0]] 8 rfl (World.shaped_of_RefB (by kernel_rfl) (by kernel_rfl)) (by kernel_rfl) (by kernel_rfl) (by kernel_rfl) (door_metX os _)) ?_
  intro W base args ds gs before hval0 hW _ _ hL _
  have hval : ∀ (j : Nat) t v, Tryd.f3.params[j]? = some t → args[j]? = some v → Value.okWide Tryd.prog W .any base t v := hval0
  obtain ⟨p, q, hA0, hV, hrest⟩ := id hW
  have hA : DataW.TrodAll enc Tryd.prog W 0 (fun _ => true) true Tryd.f3.params.toList args.toList ds p := hA0
  rw [Tryd.params3] at hA hval
  obtain ⟨v0, d0, rfl, rfl, h0⟩ := trodAll_one hA
  obtain ⟨gv0, gv1, rfl⟩ := two_vars hV
  obtain ⟨cs0, rfl, -⟩ := okWide_struct Tryd.underlying24 (hval 0 _ v0 rfl rfl)
  obtain ⟨fuel0, hf0⟩ := h0
  obtain ⟨da0, ha0⟩ := dec_Expr_at fuel0 (Nat.le_refl _) hf0
  obtain ⟨fu0, rfl⟩ : ∃ n, fuel0 = n + 1 := by
    cases fuel0 with
    | zero => exact ha0.elim
    | succ n => exact ⟨n, rfl⟩
  obtain ⟨s0_3, e0, g0_0, g0_1, g0_2, g0_3⟩ := ex_open fu0 ha0
  obtain ⟨t0_0, t0_1, t0_2, t0_3⟩ := da0
  obtain ⟨cs0⟩ := cs0
  simp only [Value.cells] at e0
  subst e0
  have hcall := law_FnExactExprText fu0 t0_0 t0_1 t0_2 t0_3 s0_3  W g0_0 g0_1 g0_2 g0_3  (tabx_of hL)
  refine hcall.mono fun e W' ⟨he, hb⟩ => ?_
  subst he
  exact ⟨_, rfl, post_true_vars laidO hW (by kernel_rfl) Tryd.underlying4 (by rw [Tryd.params3]; intro t ht; simp only [List.mem_cons, List.not_mem_nil, or_false] at ht; subst ht; exact ⟨by kernel_rfl, of_decide_eq_true (by kernel_rfl)⟩) vars_ok rfl rfl rfl hb⟩

set_option maxRecDepth 100000 in
set_option maxHeartbeats 1000000 in
theorem fnExactExprText_facts : joinedFacts Tryd.prog 3 Tryd.f3 Rows.fnExactExprTextSpec Rows.fnExactExprTextRow = true := by
  unfold joinedFacts
  exact and_mk (and_mk (and_mk (and_mk (and_mk (and_mk (and_mk (and_mk (and_mk (and_mk (and_mk (and_mk (and_mk (and_mk (and_mk (and_mk (and_mk (and_mk (and_mk (and_mk (and_mk (and_mk (and_mk (and_mk (and_mk (and_mk (and_mk (and_mk (and_mk (and_mk (and_mk (by as_aux_lemma => kernel_rfl) laidO) mapsRowedO) (by as_aux_lemma => kernel_rfl)) (by as_aux_lemma => kernel_rfl)) (by as_aux_lemma => kernel_rfl)) (by as_aux_lemma => kernel_rfl)) (by as_aux_lemma => kernel_rfl)) (by as_aux_lemma => kernel_rfl)) (by as_aux_lemma => kernel_rfl)) (by as_aux_lemma => kernel_rfl)) (by as_aux_lemma => kernel_rfl)) (by as_aux_lemma => kernel_rfl)) (by as_aux_lemma => kernel_rfl)) (by as_aux_lemma => kernel_rfl)) (by as_aux_lemma => kernel_rfl)) (by as_aux_lemma => kernel_rfl)) (by as_aux_lemma => kernel_rfl)) (by as_aux_lemma => kernel_rfl)) (by as_aux_lemma => kernel_rfl)) (by as_aux_lemma => kernel_rfl)) (by as_aux_lemma => kernel_rfl)) (by rw [plainKeysO]; rfl)) (by as_aux_lemma => kernel_rfl)) stopsHeardO) mayEnter) (by rw [liftsFinal]; rfl)) (by rw [makeCut]; rfl)) (by as_aux_lemma => kernel_rfl)) (by as_aux_lemma => kernel_rfl)) (by as_aux_lemma => kernel_rfl)) (by as_aux_lemma => kernel_rfl)

theorem fnExactExprText_said : Rows.FnExactExprTextSaid :=
  OpenClaim.holds_of_wide 3 Tryd.f3 rfl rfl rfl rfl rfl rfl rfl ⟨rfl, rfl, rfl, rfl, rfl⟩ rfl rfl rfl rfl rfl (by kernel_rfl) Tryd.func3 fnExactExprText_facts
    (of_decide_eq_true (by kernel_rfl)) (by unfold Func.isWrapper; first | (rw [if_pos (by decide +kernel)]; kernel_rfl) | (rw [if_neg (by decide +kernel)]; exact ⟨rfl, rfl⟩))
    (fun os started H enc _ => fnExactExprText_lifted os started H enc)

/-- no parameter wants a stand-in -/
theorem fnExactExprText_plain (f : FuncId) (fn : Func) (hf : Tryd.pinned.checked.prog.funcNamed "loop.example/wholeway/laws.FnExactExprText" = some f) (hfn : Tryd.pinned.checked.prog.funcs[f]? = some fn) :
    true = Tryd.pinned.checked.prog.looks [] ∧ ∀ (j : Nat) t, fn.params[j]? = some t → Tryd.pinned.checked.prog.wantsStandIn t = false := by
  obtain rfl : f = 3 := Option.some.inj ((show Tryd.prog.funcNamed "loop.example/wholeway/laws.FnExactExprText" = some 3 by kernel_rfl).symm.trans hf) |>.symm
  obtain rfl : fn = Tryd.f3 := (Option.some.inj (Tryd.func3.symm.trans hfn)).symm
  refine ⟨by kernel_rfl, fun j t ht => ?_⟩
  rw [Tryd.params3] at ht
  have hm : t ∈ [24] := by simpa using Array.mem_of_getElem? ht
  have hall : ([24].all fun u => !Tryd.prog.wantsStandIn u) = true := by kernel_rfl
  exact (show Tryd.prog.wantsStandIn t = false by simpa using List.all_eq_true.1 hall t hm)
theorem fnExactExprText_holds : Rows.FnExactExprTextCardSaid :=
  Claim7.holds_tied_plain_at .later [] _ _ _ _ fnExactExprText_said (fun _ h => by cases h) (by kernel_rfl) (fun _ h => by cases h) fnExactExprText_row_tie rfl ⟨rfl, rfl⟩ (by kernel_rfl) rfl fnExactExprText_plain (by kernel_rfl)

end Go.Proofs.YtbikgakoeheahaaDoor

