/-
  The law FnExactProgramText. Conditions: the arguments read as data; the tables lie.
-/
import Derived.Test.YtbikgakoeheahaaGreatDoorLawsX
import Derived.Test.YtbikgakoeheahaaGreatDoorPt4
namespace Go.Proofs.YtbikgakoeheahaaGreatDoor
open Go.RowKit Go.ChangeShapes Go.WideShapes Go.Deep

def ptS (fns : List FnD) : ByteArray := if prB ⟨fns⟩ = true then jS (prW fns) else ⟨#[]⟩
def ptB (fns : List FnD) : Bool := if prB ⟨fns⟩ = true then jOk (prW fns) else false
theorem ptV_eq (fns : List FnD) : ptV fns = .tuple #[.string (ptS fns), .bool (ptB fns)] := by
  unfold ptV ptS ptB
  split
  · exact jV_eq _
  · rfl
theorem specProgramText_u (d : Nat) (fns : List FnD) (v0 : Value) (w : World) (lo B : Nat) (hB : B ≤ w.heap.size) (hN : (fns.length + sumBy fnN fns) ≤ 1048576) (h0 : Sl false (fnS false d) w lo B fns v0) : Calls Tryz.prog 5 #[.agg #[v0]] w (RetV (.tuple #[.string (ptS fns), .bool (ptB fns)]) w) := by rw [← ptV_eq]; exact spec_ProgramText d fns v0 w lo B hB hN h0
theorem implProgramText_u (d : Nat) (fns : List FnD) (v0 : Value) (w : World) (lo B : Nat) (hB : B ≤ w.heap.size) (hN : (fns.length + sumBy fnN fns) ≤ 1048576) (h0 : Sl false (fnS false d) w lo B fns v0) (ht : TabX w) : Calls Tryz.prog 7 #[.agg #[v0]] w (RetV (.tuple #[.string (ptS fns), .bool (ptB fns)]) w) := by rw [← ptV_eq]; exact impl_ProgramText d fns v0 w lo B hB hN h0 ht
set_option maxRecDepth 100000 in
set_option maxHeartbeats 4000000 in
theorem law_FnExactProgramText (d : Nat) (fns : List FnD) (v0 : Value)  (w : World) (h0 : Sl false (fnS false d) w 0 w.heap.size fns v0)  (ht : TabX w) :
    Calls Tryz.prog 3 #[.agg #[v0]] w (Yes w) := by
  have hb0 : Below w.heap.size w (w.alloc (.cells #[v0] 24)) := (Below.refl _ _).alloc (Nat.le_refl _) _
  have R0_0 : Row (w.alloc (.cells #[v0] 24)) (w.heap.size) 24 #[v0] := by simpa using Row.new (w) _ _
  go_enter Tryz.func3, Tryz.ntmps3
  go_wp2_with fail
  refine (sz_Program d fns v0 1048576 _ 0 w.heap.size (by omega) (by omega) hb0.size (h0.below hb0 (Nat.le_refl _))).mono ?_
  rintro e w1 ⟨r0, rfl, a0, b0, c0, e0⟩
  have hb1 : Below w.heap.size w w1 := hb0.trans (e0.mono hb0.size)
  have sz1 := e0.size
  have R1_0 := R0_0.below e0 R0_0.lt
  clear R0_0
  have C0 := Lib.hid c0
  clear c0
  by_cases hr0 : r0 < 0
  · go_wp2_with fail
    go_ret
    exact ⟨rfl, hb1⟩
  · have hN0 : (fns.length + sumBy fnN fns) ≤ 1048576 := by
      have := C0.out (by omega)
      omega
    have hr0' : 0 ≤ r0 := by omega
    clear C0
    have y0_1 : (w1).cell? ⟨w.heap.size, 0, none⟩ = some (v0) := R1_0.cell 0
    clear a0 b0
    go_wp2_with fail
    refine (to_Program d fns v0 _ 0 w.heap.size hb1.size hN0 (h0.below hb1 (Nat.le_refl _))).mono ?_
    rintro e w2 ⟨cs, rfl, hx, e10⟩
    obtain ⟨xs_0, rfl, qs_0⟩ := prog_open d (hx false)
    clear hx
    obtain ⟨As_0, ps_0, hfs_0, _, _⟩ := qs_0.form
    change _ = Value.slice As_0 fns.length ps_0 at hfs_0
    subst hfs_0
    have hb2 : Below w.heap.size w w2 := hb1.trans (e10.mono hb1.size)
    have sz2 := e10.size
    have R2_0 := R1_0.below e10 R1_0.lt
    clear y0_1
    clear R1_0
    go_wp2_with fail
    refine (specProgramText_u d fns (.slice As_0 fns.length ps_0)  _ w1.heap.size w2.heap.size (Nat.le_refl _) hN0 qs_0 ).mono ?_
    rintro e w3 ⟨rfl, e11⟩
    have hb3 : Below w.heap.size w w3 := hb2.trans (e11.mono hb2.size)
    have sz3 := e11.size
    have R3_0 := R2_0.below e11 R2_0.lt
    clear R2_0
    have y0_3 : (w3).cell? ⟨w.heap.size, 0, none⟩ = some (v0) := R3_0.cell 0
    have rl0_0 := R3_0.lt
    go_wp2_with fail
    refine (to_Program d fns v0 _ 0 w.heap.size hb3.size hN0 (h0.below hb3 (Nat.le_refl _))).mono ?_
    rintro e u0 ⟨cs, rfl, hx, f0⟩
    obtain ⟨xx0_0, rfl, qx0_0⟩ := prog_open d (hx false)
    clear hx
    obtain ⟨Ax0_0, px0_0, hfx0_0, _, _⟩ := qx0_0.form
    change _ = Value.slice Ax0_0 fns.length px0_0 at hfx0_0
    subst hfx0_0
    have hb4 : Below w.heap.size w u0 := hb3.trans (f0.mono hb3.size)
    have sz4 := f0.size
    have R4_0 := R3_0.below f0 R3_0.lt
    clear y0_3
    clear R3_0
    have hk0 : Below w.heap.size w (u0.alloc (.cells #[.slice Ax0_0 fns.length px0_0] 30)) := hb4.alloc hb4.size _
    have K0_0 : Row (u0.alloc (.cells #[.slice Ax0_0 fns.length px0_0] 30)) (w.heap.size) 24 #[v0] := R4_0.alloc _
    have K0_1 : Row (u0.alloc (.cells #[.slice Ax0_0 fns.length px0_0] 30)) u0.heap.size 30 #[.slice Ax0_0 fns.length px0_0] := Row.new _ _ _
    have qx0_0_k0 : Sl false (fnS false d) (u0.alloc (.cells #[.slice Ax0_0 fns.length px0_0] 30)) (w3).heap.size u0.heap.size fns (.slice Ax0_0 fns.length px0_0) := qx0_0.keep (Nat.le_refl _) (Nat.le_refl _) (fun b _ hb => Below.heap_alloc _ _ b (by omega))
    have zz0 : u0.heap.size < (u0.alloc (.cells #[.slice Ax0_0 fns.length px0_0] 30)).heap.size := by simp
    have y0_4 : (u0.alloc (.cells #[.slice Ax0_0 fns.length px0_0] 30)).cell? ⟨w.heap.size, 0, none⟩ = some (v0) := K0_0.cell 0
    have y1_4 : (u0.alloc (.cells #[.slice Ax0_0 fns.length px0_0] 30)).cell? ⟨u0.heap.size, 0, none⟩ = some (.slice Ax0_0 fns.length px0_0) := K0_1.cell 0
    go_wp2_with fail
    refine (implProgramText_u d fns (.slice Ax0_0 fns.length px0_0)  _ (w3).heap.size u0.heap.size (by simp) hN0 qx0_0_k0  (ht.below hk0 (Nat.le_refl _))).mono ?_
    rintro e g0 ⟨rfl, eg⟩
    have tt : (u0.alloc (.cells #[.slice Ax0_0 fns.length px0_0] 30)).heap.size ≤ g0.heap.size := eg.size
    have hb5 : Below w.heap.size w g0 := hk0.trans (eg.mono hk0.size)
    have sz5 := eg.size
    have R5_0 := K0_0.below eg K0_0.lt
    have R5_1 := K0_1.below eg K0_1.lt
    have qx0_0_5 := qx0_0_k0.below eg (by first | omega | (simp; omega) | (simp at *; omega))
    clear y0_4 y1_4
    clear K0_0 K0_1 qx0_0_k0
    have y0_5 : (g0).cell? ⟨w.heap.size, 0, none⟩ = some (v0) := R5_0.cell 0
    have y1_5 : (g0).cell? ⟨u0.heap.size, 0, none⟩ = some (.slice Ax0_0 fns.length px0_0) := R5_1.cell 0
    go_wp2_with fail
    have hbd0 : Below w.heap.size w g0.drew := hb5.drew
    have D0_0 : Row g0.drew (w.heap.size) 24 #[v0] := R5_0
    have D0_1 : Row g0.drew (u0.heap.size) 30 #[.slice Ax0_0 fns.length px0_0] := R5_1
    have dqx0_0 : Sl false (fnS false d) g0.drew (w3).heap.size u0.heap.size fns (.slice Ax0_0 fns.length px0_0) := qx0_0_5.keep (Nat.le_refl _) (Nat.le_refl _) (fun _ _ _ => rfl)
    have ts0 : g0.heap.size ≤ g0.drew.heap.size := Nat.le_refl _
    go_region_held3 (fun w' => w'.cell? ⟨w.heap.size, 0, none⟩ = some (v0) ∧ w'.cell? ⟨u0.heap.size, 0, none⟩ = some (.slice Ax0_0 fns.length px0_0)) (refine ⟨?_, ?_⟩ <;> assumption) (first | (go_at_call 6; refine (to_Program d fns v0 g0.drew 0 w.heap.size hbd0.size hN0 (h0.below hbd0 (Nat.le_refl _))).mono ?_; rintro e va0 ⟨cs, rfl, hx, ea0⟩; obtain ⟨xz0_0, rfl, qz0_0⟩ := prog_open d (hx false); clear hx; obtain ⟨Az0_0, pz0_0, hfz0_0, _, _⟩ := qz0_0.form; change _ = Value.slice Az0_0 fns.length pz0_0 at hfz0_0; subst hfz0_0; have hba0 : Below w.heap.size w va0 := hbd0.trans (ea0.mono hbd0.size); have sea0 := ea0.size; have P0_0 := D0_0.below ea0 D0_0.lt; have P0_1 := D0_1.below ea0 D0_1.lt; have m0_0_0 : va0.cell? ⟨w.heap.size, 0, none⟩ = some (v0) := P0_0.cell 0; have m0_1_0 : va0.cell? ⟨u0.heap.size, 0, none⟩ = some (.slice Ax0_0 fns.length px0_0) := P0_1.cell 0) | (go_at_call 8; refine (eq_Program d fns (.slice Ax0_0 fns.length px0_0) (.slice Az0_0 fns.length pz0_0) va0 (w3).heap.size u0.heap.size g0.drew.heap.size va0.heap.size (by omega) (Nat.le_refl _) (dqx0_0.below ea0 (by omega)) qz0_0).mono ?_; rintro e vb0 ⟨rfl, eb0⟩; have hbb0 : Below w.heap.size w vb0 := hba0.trans (eb0.mono hba0.size); have seb0 := eb0.size; have Q0_0 := P0_0.below eb0 P0_0.lt; have Q0_1 := P0_1.below eb0 P0_1.lt; have n0_0_0 : vb0.cell? ⟨w.heap.size, 0, none⟩ = some (v0) := Q0_0.cell 0; have n0_1_0 : vb0.cell? ⟨u0.heap.size, 0, none⟩ = some (.slice Ax0_0 fns.length px0_0) := Q0_1.cell 0))
    clear y0_5 y1_5
    have qx0_0_f0 := (dqx0_0.below ea0 (by omega)).below eb0 (by omega)
    clear m0_0_0 m0_1_0 n0_0_0 n0_1_0
    go_wp2_with fail
    go_ret
    exact ⟨rfl, hbb0⟩

set_option maxRecDepth 100000 in
theorem fnExactProgramText_lifted (os : Os) (started : os.Started) (H : Type) (enc : TypeId × Value → H) :
    ReturnsInHanded {} Tryz.checked os 3 .any (fun w args => (Rows.fnExactProgramTextSpec.pre enc Tryz.prog Tryz.f3 [] false w args ∧ laidMetH Tryz.prog [("math/bits.deBruijn32tab", Rows.laid_math_bits_deBruijn32tab), ("math/bits.deBruijn64tab", Rows.laid_math_bits_deBruijn64tab), ("internal/strconv.uint64pow10", Rows.laid_internal_strconv_uint64pow10), ("strconv.ErrRange", Rows.laid_strconv_ErrRange), ("strconv.ErrSyntax", Rows.laid_strconv_ErrSyntax), ("loop.example/wholeway/impl.keys", Rows.laid_loop_example_wholeway_impl_keys), ("loop.example/wholeway/impl.opSign", Rows.laid_loop_example_wholeway_impl_opSign)] w) ∧ sizedMet enc Tryz.prog Tryz.f3 (OpenSpec.ofChange Rows.fnExactProgramTextSpec) false w args) (Rows.fnExactProgramTextSpec.post enc Tryz.prog Tryz.f3 false true false false) := by
  refine returnsInHanded_of_change_and (C := Tryz.checked) (X := fun w _ => laidMetH Tryz.prog [("math/bits.deBruijn32tab", Rows.laid_math_bits_deBruijn32tab), ("math/bits.deBruijn64tab", Rows.laid_math_bits_deBruijn64tab), ("internal/strconv.uint64pow10", Rows.laid_internal_strconv_uint64pow10), ("strconv.ErrRange", Rows.laid_strconv_ErrRange), ("strconv.ErrSyntax", Rows.laid_strconv_ErrSyntax), ("loop.example/wholeway/impl.keys", Rows.laid_loop_example_wholeway_impl_keys), ("loop.example/wholeway/impl.opSign", Rows.laid_loop_example_wholeway_impl_opSign)] w) (fun _ _ _ hh h => h.of_heap hh) own started (by kernel_rfl) Tryz.func3
    (ChangeSpec.witness_shaped (enc := enc) (C := Tryz.checked) (os := os) (X := fun w _ => laidMetH Tryz.prog [("math/bits.deBruijn32tab", Rows.laid_math_bits_deBruijn32tab), ("math/bits.deBruijn64tab", Rows.laid_math_bits_deBruijn64tab), ("internal/strconv.uint64pow10", Rows.laid_internal_strconv_uint64pow10), ("strconv.ErrRange", Rows.laid_strconv_ErrRange), ("strconv.ErrSyntax", Rows.laid_strconv_ErrSyntax), ("loop.example/wholeway/impl.keys", Rows.laid_loop_example_wholeway_impl_keys), ("loop.example/wholeway/impl.opSign", Rows.laid_loop_example_wholeway_impl_opSign)] w) false (World.doorLaid Tryz.prog 400 os) #[.agg #[.slice none 0 0]] 8 rfl (World.shaped_of_RefB (by kernel_rfl) (by kernel_rfl)) (by kernel_rfl) (by kernel_rfl) (by kernel_rfl) (door_metX os _)) ?_
  intro W base args ds gs before hval0 hW _ _ hL _
  have hval : ∀ (j : Nat) t v, Tryz.f3.params[j]? = some t → args[j]? = some v → Value.okWide Tryz.prog W .any base t v := hval0
  obtain ⟨p, q, hA0, hV, hrest⟩ := id hW
  have hA : DataW.TrodAll enc Tryz.prog W 0 (fun _ => true) true Tryz.f3.params.toList args.toList ds p := hA0
  rw [Tryz.params3] at hA hval
  obtain ⟨v0, d0, rfl, rfl, h0⟩ := trodAll_one hA
  obtain ⟨gv0, gv1, rfl⟩ := two_vars hV
  obtain ⟨cs0, rfl, -⟩ := okWide_struct Tryz.underlying24 (hval 0 _ v0 rfl rfl)
  obtain ⟨fuel0, hf0⟩ := h0
  obtain ⟨da0, ha0⟩ := dec_Program_at fuel0 (Nat.le_refl _) hf0
  obtain ⟨s0_0, e0, g0_0⟩ := prog_open fuel0 ha0
  obtain ⟨t0_0⟩ := da0
  obtain ⟨cs0⟩ := cs0
  simp only [Value.cells] at e0
  subst e0
  have hcall := law_FnExactProgramText fuel0 t0_0 s0_0  W g0_0  (tabx_of hL)
  refine hcall.mono fun e W' ⟨he, hb⟩ => ?_
  subst he
  exact ⟨_, rfl, post_true_vars laidO hW (by kernel_rfl) Tryz.underlying4 (by rw [Tryz.params3]; intro t ht; simp only [List.mem_cons, List.not_mem_nil, or_false] at ht; subst ht; exact ⟨by kernel_rfl, of_decide_eq_true (by kernel_rfl)⟩) (fun n (hn : n ∈ ["loop.example/wholeway/impl.keys", "loop.example/wholeway/impl.opSign"]) => vars_ok n (by simp only [List.mem_cons, List.not_mem_nil, or_false] at hn ⊢; exact hn.symm)) rfl rfl rfl hb⟩

set_option maxRecDepth 100000 in
set_option maxHeartbeats 1000000 in
theorem fnExactProgramText_facts : joinedFacts Tryz.prog 3 Tryz.f3 Rows.fnExactProgramTextSpec Rows.fnExactProgramTextRow = true := by
  unfold joinedFacts
  exact and_mk (and_mk (and_mk (and_mk (and_mk (and_mk (and_mk (and_mk (and_mk (and_mk (and_mk (and_mk (and_mk (and_mk (and_mk (and_mk (and_mk (and_mk (and_mk (and_mk (and_mk (and_mk (and_mk (and_mk (and_mk (and_mk (and_mk (and_mk (and_mk (and_mk (and_mk (by as_aux_lemma => kernel_rfl) laidO) mapsRowedO) (by as_aux_lemma => kernel_rfl)) (by as_aux_lemma => kernel_rfl)) (by as_aux_lemma => kernel_rfl)) (by as_aux_lemma => kernel_rfl)) (by as_aux_lemma => kernel_rfl)) (by as_aux_lemma => kernel_rfl)) (by as_aux_lemma => kernel_rfl)) (by as_aux_lemma => kernel_rfl)) (by as_aux_lemma => kernel_rfl)) (by as_aux_lemma => kernel_rfl)) (by as_aux_lemma => kernel_rfl)) (by as_aux_lemma => kernel_rfl)) (by as_aux_lemma => kernel_rfl)) (by as_aux_lemma => kernel_rfl)) (by as_aux_lemma => kernel_rfl)) (by as_aux_lemma => kernel_rfl)) (by as_aux_lemma => kernel_rfl)) (by as_aux_lemma => kernel_rfl)) (by as_aux_lemma => kernel_rfl)) (by rw [plainKeysO]; rfl)) (by as_aux_lemma => kernel_rfl)) stopsHeardO) mayEnter) (by rw [liftsFinal]; rfl)) (by rw [makeCut]; rfl)) (by as_aux_lemma => kernel_rfl)) (by as_aux_lemma => kernel_rfl)) (by as_aux_lemma => kernel_rfl)) (by as_aux_lemma => kernel_rfl)

theorem fnExactProgramText_said : Rows.FnExactProgramTextSaid :=
  OpenClaim.holds_of_wide 3 Tryz.f3 rfl rfl rfl rfl rfl rfl rfl ⟨rfl, rfl, rfl, rfl, rfl⟩ rfl rfl rfl rfl rfl (by kernel_rfl) Tryz.func3 fnExactProgramText_facts
    (of_decide_eq_true (by kernel_rfl)) (by unfold Func.isWrapper; first | (rw [if_pos (by decide +kernel)]; kernel_rfl) | (rw [if_neg (by decide +kernel)]; exact ⟨rfl, rfl⟩))
    (fun os started H enc _ => fnExactProgramText_lifted os started H enc)

/-- no parameter wants a stand-in -/
theorem fnExactProgramText_plain (f : FuncId) (fn : Func) (hf : Tryz.pinned.checked.prog.funcNamed "loop.example/wholeway/laws.FnExactProgramText" = some f) (hfn : Tryz.pinned.checked.prog.funcs[f]? = some fn) :
    true = Tryz.pinned.checked.prog.looks [] ∧ ∀ (j : Nat) t, fn.params[j]? = some t → Tryz.pinned.checked.prog.wantsStandIn t = false := by
  obtain rfl : f = 3 := Option.some.inj ((show Tryz.prog.funcNamed "loop.example/wholeway/laws.FnExactProgramText" = some 3 by kernel_rfl).symm.trans hf) |>.symm
  obtain rfl : fn = Tryz.f3 := (Option.some.inj (Tryz.func3.symm.trans hfn)).symm
  refine ⟨by kernel_rfl, fun j t ht => ?_⟩
  rw [Tryz.params3] at ht
  have hm : t ∈ [24] := by simpa using Array.mem_of_getElem? ht
  have hall : ([24].all fun u => !Tryz.prog.wantsStandIn u) = true := by kernel_rfl
  exact (show Tryz.prog.wantsStandIn t = false by simpa using List.all_eq_true.1 hall t hm)
theorem fnExactProgramText_holds : Rows.FnExactProgramTextCardSaid :=
  Claim7.holds_tied_plain_at .later [] _ _ _ _ fnExactProgramText_said (fun _ h => by cases h) (by kernel_rfl) (fun _ h => by cases h) fnExactProgramText_row_tie rfl ⟨rfl, rfl⟩ (by kernel_rfl) rfl fnExactProgramText_plain (by kernel_rfl)

end Go.Proofs.YtbikgakoeheahaaGreatDoor

