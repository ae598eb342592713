/-
  FnAt, by the program and by the reference. Conditions: the arguments read as data.
-/
import Derived.Test.YtaokcnjjlbdnoaaRead
import Derived.Test.YtaokcnjjlbdnoaaDec
import Derived.Test.YtaokcnjjlbdnoaaFacts
namespace Go.Proofs.Ytaokcnjjlbdnoaa
open Go.RowKit Go.ChangeShapes Go.WideShapes Go.Deep

set_option linter.unusedVariables false
/-- is it the name of a function? -/
def isNm (nm : ByteArray) (f : FnD) : Bool := f.name.toList == nm.toList
theorem impl_FnAt_1 (name nm : ByteArray) (v1 v2 : Value) (g : Nat) (w : World) (hc : w.cell? ⟨g, 0, none⟩ = some (.string nm)) :
    Calls Try.prog 101 #[.agg #[.string name, v1, v2], .pointer (some ⟨g, 0, none⟩)] w (RetV (.bool (name.toList == nm.toList)) w) := by
  have hg := World.block_lt_of_cell? w _ hc
  have hc' : (w.alloc (.cells #[.string name, v1, v2] 123)).cell? ⟨g, 0, none⟩ = some (.string nm) := (World.cell?_of_block (Below.heap_alloc w _ g hg)).trans hc
  go_enter Try.func101, Try.ntmps101
  go_wp2_with fail
  go_ret
  exact ⟨rfl, (Below.refl _ _).alloc (Nat.le_refl _) _⟩

set_option maxRecDepth 100000 in
theorem impl_FnAt_idx (d : Nat) (nm : ByteArray) (g : Nat) (l : List FnD) (v : Value) (w : World) (lo B : Nat) (hg : g < w.heap.size) (hc : w.cell? ⟨g, 0, none⟩ = some (.string nm)) (hB : B ≤ w.heap.size) (hv : Sl false (fnS false d) w lo B l v) :
    Calls Try.prog 100 #[v, .func (.func 101) #[] #[.pointer (some ⟨g, 0, none⟩)]] w (RetV (.int .i64 (firstIdx (isNm nm) l)) w) := by
  obtain ⟨A, cap, rfl, hlc, hcm⟩ := hv.form
  have HC := Lib.hid hc
  clear hc
  go_enter Try.func100, Try.ntmps100
  go_wp2_with fail
  go_loopw [8] (fun i wr => ∃ k : Nat, k ≤ l.length ∧ i = .int .i64 k ∧ Hid (firstIdx (isNm nm) l = firstFrom (isNm nm) k (l.drop k)) ∧ Below w.heap.size w wr) (fun i _ => l.length - (intOf i).toNat)
  case atStart => exact ⟨0, by omega, rfl, (show _ = _ from rfl), Below.refl _ _⟩
  case round =>
    obtain ⟨k, hk, rfl, HT, hb⟩ := hrel
    have hsz := hb.size
    by_cases hkl : k < l.length
    · obtain ⟨b, o, name, params, v1, body, v2, rfl, _, hbB, HL, g0, g1, g2, c0, c1, c2⟩ := fn_get d (hv.below hb hB) hkl
      obtain ⟨A_1, p_1, hf, _, _⟩ := g1.form
      change _ = Value.slice A_1 params.length p_1 at hf
      subst hf
      obtain ⟨A_2, p_2, hf, _, _⟩ := g2.form
      change _ = Value.slice A_2 body.length p_2 at hf
      subst hf
      have hkn : (k : Int) < (l.length : Int) := by omega
      have hki : (0 : Int) ≤ (k : Int) := by omega
      go_wp2_with fail
      refine (impl_FnAt_1 name nm (.slice A_1 params.length p_1) (.slice A_2 body.length p_2) g _ ((hb.cell hg).trans HC.out)).mono ?_
      rintro e w3 ⟨rfl, x3⟩
      have hb3 : Below w.heap.size w w3 := hb.trans (x3.mono hb.size)
      by_cases he : (isNm nm) (⟨name, params, body⟩ : FnD) = true
      · have E : Hid (firstIdx (isNm nm) l = k) := HT.out.trans (firstFrom_hit hkl HL.out he)
        clear HT
        have he' : (name.toList == nm.toList) = _ := he
        rw [he']
        clear he'
        clear he
        go_wp2_with fail
        go_ret
        exact RetV.mk (by rw [E.out] <;> rfl) rfl hb3
      · have he : (isNm nm) (⟨name, params, body⟩ : FnD) = false := by simpa using he
        have E : Hid (firstIdx (isNm nm) l = firstFrom (isNm nm) (k + 1) (l.drop (k + 1))) := HT.out.trans (firstFrom_miss hkl HL.out he)
        clear HT
        have he' : (name.toList == nm.toList) = _ := he
        rw [he']
        clear he'
        clear he
        go_wp2_with fail
        go_roundw
        case rel => exact ⟨k + 1, by omega, by go_num, E, hb3⟩
        case measure => simp [intOf]; omega
    · have E : Hid (firstIdx (isNm nm) l = -1) := HT.out.trans (firstFrom_end (by omega))
      clear HT
      go_wp2_with fail
      go_ret
      exact RetV.mk (by rw [E.out] <;> rfl) rfl hb

theorem impl_FnAt (d : Nat) (fns : List FnD) (v0 : Value) (nm : ByteArray) (w : World) (lo B : Nat) (hB : B ≤ w.heap.size) (h0 : Sl false (fnS false d) w lo B fns v0) :
    Calls Try.prog 45 #[.agg #[v0], .string nm] w (RetV (.int .i64 (firstIdx (isNm nm) fns)) w) := by
  obtain ⟨A, p, hf, _, _⟩ := h0.form
  subst hf
  have hb0 : Below w.heap.size w ((w.alloc (.cells #[.slice A fns.length p] 72)).alloc (.cells #[.string nm] 9)) := ((Below.refl _ _).alloc (Nat.le_refl _) _).alloc (by simp) _
  go_enter Try.func45, Try.ntmps45
  go_wp2_with fail
  refine (impl_FnAt_idx d nm (w.heap.size + 1) fns (.slice A fns.length p) _ lo B (by simp) ((show Row ((w.alloc (.cells #[.slice A fns.length p] 72)).alloc (.cells #[.string nm] 9)) (w.heap.size + 1) 9 #[.string nm] by simpa using Row.new (w.alloc (.cells #[.slice A fns.length p] 72)) 9 #[.string nm]).cell 0) (Nat.le_trans hB hb0.size) (h0.below hb0 hB)).mono ?_
  rintro e w1 ⟨rfl, b1⟩
  go_wp2_with fail
  go_ret
  exact ⟨rfl, hb0.trans (b1.mono hb0.size)⟩

set_option maxRecDepth 100000 in
theorem spec_FnAt (d : Nat) (fns : List FnD) (v0 : Value) (nm : ByteArray) (w : World) (lo B : Nat) (hB : B ≤ w.heap.size) (h0 : Sl false (fnS false d) w lo B fns v0) :
    Calls Try.prog 43 #[.agg #[v0], .string nm] w (RetV (.int .i64 (firstIdx (isNm nm) fns)) w) := by
  obtain ⟨A, p, hf, hl1, hl2⟩ := h0.form
  subst hf
  have hb0 : Below w.heap.size w (w.alloc (.cells #[.slice A fns.length p] 72)) := (Below.refl _ _).alloc (Nat.le_refl _) _
  have P0 : Row (w.alloc (.cells #[.slice A fns.length p] 72)) w.heap.size 72 #[.slice A fns.length p] := Row.new w _ _
  go_enter Try.func43, Try.ntmps43
  go_wp2_with fail
  go_loopw [5] (fun i wr => ∃ k : Nat, k ≤ fns.length ∧ i = .int .i64 k ∧ Hid (firstIdx (isNm nm) fns = firstFrom (isNm nm) k (fns.drop k)) ∧ Below w.heap.size w wr ∧ Row wr w.heap.size 72 #[.slice A fns.length p]) (fun i _ => fns.length - (intOf i).toNat)
  case atStart => exact ⟨0, by omega, rfl, (show _ = _ from rfl), hb0, P0⟩
  case round =>
    obtain ⟨k, hk, rfl, HT, hb, P⟩ := hrel
    have hsz := hb.size
    have y0 : wr.cell? ⟨w.heap.size, 0, none⟩ = some (.slice A fns.length p) := P.cell 0
    by_cases hkl : k < fns.length
    · obtain ⟨b, o, name, params, v1, body, v2, rfl, _, hbB, HL, g0, g1, g2, c0, c1, c2⟩ := fn_get d (h0.below hb hB) hkl
      have hkn : (k : Int) < (fns.length : Int) := by omega
      have hki : (0 : Int) ≤ (k : Int) := by omega
      by_cases he : (name.toList == nm.toList) = true
      · have E : Hid (firstIdx (isNm nm) fns = k) := HT.out.trans (firstFrom_hit hkl HL.out he)
        clear HT
        go_wp2_with fail
        go_ret
        exact RetV.mk (by rw [E.out] <;> rfl) rfl hb
      · have he : (name.toList == nm.toList) = false := by simpa using he
        have E : Hid (firstIdx (isNm nm) fns = firstFrom (isNm nm) (k + 1) (fns.drop (k + 1))) := HT.out.trans (firstFrom_miss hkl HL.out he)
        clear HT
        go_wp2_with fail
        go_roundw
        case rel => exact ⟨k + 1, by omega, by go_num, E, hb, P⟩
        case measure => simp [intOf]; omega
    · have E : Hid (firstIdx (isNm nm) fns = -1) := HT.out.trans (firstFrom_end (by omega))
      clear HT
      go_wp2_with fail
      go_ret
      exact RetV.mk (by rw [E.out] <;> rfl) rfl hb
theorem specFnAt_u (d : Nat) (fns : List FnD) (v0 : Value) (nm : ByteArray) (w : World) (lo B : Nat) (hB : B ≤ w.heap.size) (_ : (fns.length + sumBy fnN fns) ≤ 1048576) (h0 : Sl false (fnS false d) w lo B fns v0) (_ : nm.size ≤ maxLen) : Calls Try.prog 43 #[.agg #[v0], .string nm] w (RetV (.int .i64 (firstIdx (isNm nm) fns)) w) := spec_FnAt d fns v0 nm w lo B hB h0
theorem implFnAt_u (d : Nat) (fns : List FnD) (v0 : Value) (nm : ByteArray) (w : World) (lo B : Nat) (hB : B ≤ w.heap.size) (_ : (fns.length + sumBy fnN fns) ≤ 1048576) (h0 : Sl false (fnS false d) w lo B fns v0) (_ : nm.size ≤ maxLen) : Calls Try.prog 45 #[.agg #[v0], .string nm] w (RetV (.int .i64 (firstIdx (isNm nm) fns)) w) := impl_FnAt d fns v0 nm w lo B hB h0

theorem law_FnExactFnAt_big (d : Nat) (fns : List FnD) (v0 : Value) (nm : ByteArray) (w : World) (hbig : 1048576 < nm.size) (hlen : nm.size ≤ 9223372036854775807) :
    Calls Try.prog 8 #[.agg #[v0], .string nm] w (Yes w) := by
  go_enter Try.func8, Try.ntmps8
  go_wp2_with fail
  go_ret
  exact ⟨rfl, (Below.refl _ _).alloc (Nat.le_refl _) _⟩
set_option maxRecDepth 100000 in
set_option maxHeartbeats 4000000 in
theorem law_FnExactFnAt (d : Nat) (fns : List FnD) (v0 : Value) (nm : ByteArray) (w : World) (h0 : Sl false (fnS false d) w 0 w.heap.size fns v0) (hs0 : nm.size ≤ maxLen) (hbig : ¬ 1048576 < nm.size) :
    Calls Try.prog 8 #[.agg #[v0], .string nm] w (Yes w) := by
  have hb0 : Below w.heap.size w (w.alloc (.cells #[v0] 67)) := (Below.refl _ _).alloc (Nat.le_refl _) _
  have R0_0 : Row (w.alloc (.cells #[v0] 67)) (w.heap.size) 67 #[v0] := by simpa using Row.new (w) _ _
  have hlennm : nm.size ≤ 9223372036854775807 := by have := hs0; unfold maxLen at this; omega
  go_enter Try.func8, Try.ntmps8
  go_wp2_with fail
  refine (sz_Program d fns v0 1048576 _ 0 w.heap.size (by omega) (by omega) hb0.size (h0.below hb0 (Nat.le_refl _))).mono ?_
  rintro e w1 ⟨r0, rfl, a0, b0, c0, e0⟩
  have hb1 : Below w.heap.size w w1 := hb0.trans (e0.mono hb0.size)
  have sz1 := e0.size
  have R1_0 := R0_0.below e0 R0_0.lt
  clear R0_0
  have C0 := Lib.hid c0
  clear c0
  by_cases hr0 : r0 < 0
  · go_wp2_with fail
    go_ret
    exact ⟨rfl, hb1⟩
  · have hN0 : (fns.length + sumBy fnN fns) ≤ 1048576 := by
      have := C0.out (by omega)
      omega
    have hr0' : 0 ≤ r0 := by omega
    clear C0
    have y0_1 : (w1).cell? ⟨w.heap.size, 0, none⟩ = some (v0) := R1_0.cell 0
    clear a0 b0
    go_wp2_with fail
    refine (to_Program d fns v0 _ 0 w.heap.size hb1.size hN0 (h0.below hb1 (Nat.le_refl _))).mono ?_
    rintro e w2 ⟨cs, rfl, hx, e10⟩
    obtain ⟨xs_0, rfl, qs_0⟩ := prog_open d (hx false)
    clear hx
    obtain ⟨As_0, ps_0, hfs_0, _, _⟩ := qs_0.form
    change _ = Value.slice As_0 fns.length ps_0 at hfs_0
    subst hfs_0
    have hb2 : Below w.heap.size w w2 := hb1.trans (e10.mono hb1.size)
    have sz2 := e10.size
    have R2_0 := R1_0.below e10 R1_0.lt
    clear y0_1
    clear R1_0
    go_wp2_with fail
    refine (specFnAt_u d fns (.slice As_0 fns.length ps_0) nm _ w1.heap.size w2.heap.size (Nat.le_refl _) hN0 qs_0 hs0).mono ?_
    rintro e w3 ⟨rfl, e11⟩
    have hb3 : Below w.heap.size w w3 := hb2.trans (e11.mono hb2.size)
    have sz3 := e11.size
    have R3_0 := R2_0.below e11 R2_0.lt
    clear R2_0
    have y0_3 : (w3).cell? ⟨w.heap.size, 0, none⟩ = some (v0) := R3_0.cell 0
    have rl0_0 := R3_0.lt
    go_wp2_with fail
    refine (to_Program d fns v0 _ 0 w.heap.size hb3.size hN0 (h0.below hb3 (Nat.le_refl _))).mono ?_
    rintro e u0 ⟨cs, rfl, hx, f0⟩
    obtain ⟨xx0_0, rfl, qx0_0⟩ := prog_open d (hx false)
    clear hx
    obtain ⟨Ax0_0, px0_0, hfx0_0, _, _⟩ := qx0_0.form
    change _ = Value.slice Ax0_0 fns.length px0_0 at hfx0_0
    subst hfx0_0
    have hb4 : Below w.heap.size w u0 := hb3.trans (f0.mono hb3.size)
    have sz4 := f0.size
    have R4_0 := R3_0.below f0 R3_0.lt
    clear y0_3
    clear R3_0
    have hk0 : Below w.heap.size w (u0.alloc (.cells #[.slice Ax0_0 fns.length px0_0] 72)) := hb4.alloc hb4.size _
    have K0_0 : Row (u0.alloc (.cells #[.slice Ax0_0 fns.length px0_0] 72)) (w.heap.size) 67 #[v0] := R4_0.alloc _
    have K0_1 : Row (u0.alloc (.cells #[.slice Ax0_0 fns.length px0_0] 72)) u0.heap.size 72 #[.slice Ax0_0 fns.length px0_0] := Row.new _ _ _
    have qx0_0_k0 : Sl false (fnS false d) (u0.alloc (.cells #[.slice Ax0_0 fns.length px0_0] 72)) (w3).heap.size u0.heap.size fns (.slice Ax0_0 fns.length px0_0) := qx0_0.keep (Nat.le_refl _) (Nat.le_refl _) (fun b _ hb => Below.heap_alloc _ _ b (by omega))
    have zz0 : u0.heap.size < (u0.alloc (.cells #[.slice Ax0_0 fns.length px0_0] 72)).heap.size := by simp
    have y0_4 : (u0.alloc (.cells #[.slice Ax0_0 fns.length px0_0] 72)).cell? ⟨w.heap.size, 0, none⟩ = some (v0) := K0_0.cell 0
    have y1_4 : (u0.alloc (.cells #[.slice Ax0_0 fns.length px0_0] 72)).cell? ⟨u0.heap.size, 0, none⟩ = some (.slice Ax0_0 fns.length px0_0) := K0_1.cell 0
    go_wp2_with fail
    refine (implFnAt_u d fns (.slice Ax0_0 fns.length px0_0) nm _ (w3).heap.size u0.heap.size (by simp) hN0 qx0_0_k0 hs0).mono ?_
    rintro e g0 ⟨rfl, eg⟩
    have tt : (u0.alloc (.cells #[.slice Ax0_0 fns.length px0_0] 72)).heap.size ≤ g0.heap.size := eg.size
    have hb5 : Below w.heap.size w g0 := hk0.trans (eg.mono hk0.size)
    have sz5 := eg.size
    have R5_0 := K0_0.below eg K0_0.lt
    have R5_1 := K0_1.below eg K0_1.lt
    have qx0_0_5 := qx0_0_k0.below eg (by first | omega | (simp; omega) | (simp at *; omega))
    clear y0_4 y1_4
    clear K0_0 K0_1 qx0_0_k0
    have y0_5 : (g0).cell? ⟨w.heap.size, 0, none⟩ = some (v0) := R5_0.cell 0
    have y1_5 : (g0).cell? ⟨u0.heap.size, 0, none⟩ = some (.slice Ax0_0 fns.length px0_0) := R5_1.cell 0
    go_wp2_with fail
    have hbd0 : Below w.heap.size w g0.drew := hb5.drew
    have D0_0 : Row g0.drew (w.heap.size) 67 #[v0] := R5_0
    have D0_1 : Row g0.drew (u0.heap.size) 72 #[.slice Ax0_0 fns.length px0_0] := R5_1
    have dqx0_0 : Sl false (fnS false d) g0.drew (w3).heap.size u0.heap.size fns (.slice Ax0_0 fns.length px0_0) := qx0_0_5.keep (Nat.le_refl _) (Nat.le_refl _) (fun _ _ _ => rfl)
    have ts0 : g0.heap.size ≤ g0.drew.heap.size := Nat.le_refl _
    go_region_held3 (fun w' => w'.cell? ⟨w.heap.size, 0, none⟩ = some (v0) ∧ w'.cell? ⟨u0.heap.size, 0, none⟩ = some (.slice Ax0_0 fns.length px0_0)) (refine ⟨?_, ?_⟩ <;> assumption) (first | (go_at_call 44; refine (to_Program d fns v0 g0.drew 0 w.heap.size hbd0.size hN0 (h0.below hbd0 (Nat.le_refl _))).mono ?_; rintro e va0 ⟨cs, rfl, hx, ea0⟩; obtain ⟨xz0_0, rfl, qz0_0⟩ := prog_open d (hx false); clear hx; obtain ⟨Az0_0, pz0_0, hfz0_0, _, _⟩ := qz0_0.form; change _ = Value.slice Az0_0 fns.length pz0_0 at hfz0_0; subst hfz0_0; have hba0 : Below w.heap.size w va0 := hbd0.trans (ea0.mono hbd0.size); have sea0 := ea0.size; have P0_0 := D0_0.below ea0 D0_0.lt; have P0_1 := D0_1.below ea0 D0_1.lt; have m0_0_0 : va0.cell? ⟨w.heap.size, 0, none⟩ = some (v0) := P0_0.cell 0; have m0_1_0 : va0.cell? ⟨u0.heap.size, 0, none⟩ = some (.slice Ax0_0 fns.length px0_0) := P0_1.cell 0) | (go_at_call 46; refine (eq_Program d fns (.slice Ax0_0 fns.length px0_0) (.slice Az0_0 fns.length pz0_0) va0 (w3).heap.size u0.heap.size g0.drew.heap.size va0.heap.size (by omega) (Nat.le_refl _) (dqx0_0.below ea0 (by omega)) qz0_0).mono ?_; rintro e vb0 ⟨rfl, eb0⟩; have hbb0 : Below w.heap.size w vb0 := hba0.trans (eb0.mono hba0.size); have seb0 := eb0.size; have Q0_0 := P0_0.below eb0 P0_0.lt; have Q0_1 := P0_1.below eb0 P0_1.lt; have n0_0_0 : vb0.cell? ⟨w.heap.size, 0, none⟩ = some (v0) := Q0_0.cell 0; have n0_1_0 : vb0.cell? ⟨u0.heap.size, 0, none⟩ = some (.slice Ax0_0 fns.length px0_0) := Q0_1.cell 0))
    clear y0_5 y1_5
    have qx0_0_f0 := (dqx0_0.below ea0 (by omega)).below eb0 (by omega)
    clear m0_0_0 m0_1_0 n0_0_0 n0_1_0
    go_wp2_with fail
    go_ret
    exact ⟨rfl, hbb0⟩

set_option maxRecDepth 100000 in
theorem fnExactFnAt_lifted (os : Os) (started : os.Started) (H : Type) (enc : TypeId × Value → H) :
    ReturnsInHanded {} Try.checked os 8 .any (Rows.fnExactFnAtSpec.pre6 enc Try.prog Try.f8 Rows.fnExactFnAtRow.domain false) (Rows.fnExactFnAtSpec.post enc Try.prog Try.f8 false true false false) := by
  refine returnsInHanded_of_change (C := Try.checked) own started (by kernel_rfl) Try.func8
    (ChangeSpec.witness6 (enc := enc) (C := Try.checked) false ⟨#[], #[.agg #[.slice none 0 0], .string ⟨#[]⟩], []⟩ 8 (by kernel_rfl) (by kernel_rfl) (by kernel_rfl) (by kernel_rfl)) ?_
  intro W base args ds gs before hval0 hW hcnd _
  have hval : ∀ (j : Nat) t v, Try.f8.params[j]? = some t → args[j]? = some v → Value.okWide Try.prog W .any base t v := hval0
  obtain ⟨p, q, hA0, hV, hrest⟩ := id hW
  have hA : DataW.TrodAll enc Try.prog W 0 (fun _ => true) true Try.f8.params.toList args.toList ds p := hA0
  rw [Try.params8] at hA hval
  obtain ⟨v0, v1, d0, d1, p0, p1, rfl, rfl, rfl, h0, h1⟩ := trodAll_two hA
  obtain ⟨rfl, rfl⟩ := trodVars_none hV
  obtain ⟨cs0, rfl, -⟩ := okWide_struct Try.underlying67 (hval 0 _ v0 rfl rfl)
  obtain ⟨fuel0, hf0⟩ := h0
  obtain ⟨da0, ha0⟩ := dec_Program_at fuel0 (Nat.le_refl _) hf0
  obtain ⟨s0_0, e0, g0_0⟩ := prog_open fuel0 ha0
  obtain ⟨t0_0⟩ := da0
  obtain ⟨cs0⟩ := cs0
  simp only [Value.cells] at e0
  subst e0
  obtain ⟨n0, rfl, rfl, rfl, wn0⟩ := ChangeMaps.open_string Try.underlying9 (hval 1 _ v1 rfl rfl) h1
  have hcall : Calls Try.prog 8 #[.agg #[s0_0], .string n0] W (Yes W) := by
    by_cases hbig : 1048576 < n0.size
    · exact law_FnExactFnAt_big fuel0 t0_0 s0_0 n0 W hbig (by unfold maxLen at wn0; omega)
    · exact law_FnExactFnAt fuel0 t0_0 s0_0 n0 W g0_0 wn0 hbig
  refine hcall.mono fun e W' ⟨he, hb⟩ => ?_
  subst he
  exact ⟨_, rfl, post_true laidO hW rfl (by kernel_rfl) Try.underlying4 (by rw [Try.params8]; intro t ht; simp only [List.mem_cons, List.not_mem_nil, or_false] at ht; rcases ht with rfl | rfl <;> exact ⟨by kernel_rfl, of_decide_eq_true (by kernel_rfl)⟩) rfl rfl rfl hb⟩

set_option maxRecDepth 100000 in
set_option maxHeartbeats 1000000 in
theorem fnExactFnAt_facts : joinedFacts Try.prog 8 Try.f8 Rows.fnExactFnAtSpec Rows.fnExactFnAtRow = true := by
  unfold joinedFacts
  exact and_mk (and_mk (and_mk (and_mk (and_mk (and_mk (and_mk (and_mk (and_mk (and_mk (and_mk (and_mk (and_mk (and_mk (and_mk (and_mk (and_mk (and_mk (and_mk (and_mk (and_mk (and_mk (and_mk (and_mk (and_mk (and_mk (and_mk (and_mk (and_mk (and_mk (and_mk (by as_aux_lemma => kernel_rfl) laidO) mapsRowedO) (by as_aux_lemma => kernel_rfl)) (by as_aux_lemma => kernel_rfl)) (by as_aux_lemma => kernel_rfl)) (by as_aux_lemma => kernel_rfl)) (by as_aux_lemma => kernel_rfl)) (by as_aux_lemma => kernel_rfl)) (by as_aux_lemma => kernel_rfl)) (by as_aux_lemma => kernel_rfl)) (by as_aux_lemma => kernel_rfl)) (by as_aux_lemma => kernel_rfl)) (by as_aux_lemma => kernel_rfl)) (by as_aux_lemma => kernel_rfl)) (by as_aux_lemma => kernel_rfl)) (by as_aux_lemma => kernel_rfl)) (by as_aux_lemma => kernel_rfl)) (by as_aux_lemma => kernel_rfl)) (by as_aux_lemma => kernel_rfl)) (by as_aux_lemma => kernel_rfl)) (by as_aux_lemma => kernel_rfl)) (by rw [plainKeysO]; rfl)) (by as_aux_lemma => kernel_rfl)) stopsHeardO) mayEnter) (by rw [liftsFinal]; rfl)) (by rw [makeCut]; rfl)) (by as_aux_lemma => kernel_rfl)) (by as_aux_lemma => kernel_rfl)) (by as_aux_lemma => kernel_rfl)) (by as_aux_lemma => kernel_rfl)

theorem fnExactFnAt_holds : Rows.FnExactFnAtSaid :=
  OpenClaim.holds_of_wide 8 Try.f8 rfl rfl rfl rfl rfl rfl rfl ⟨rfl, rfl, rfl, rfl, rfl⟩ rfl rfl rfl rfl rfl (by kernel_rfl) Try.func8 fnExactFnAt_facts
    (of_decide_eq_true (by kernel_rfl)) (by unfold Func.isWrapper; first | (rw [if_pos (by decide +kernel)]; kernel_rfl) | (rw [if_neg (by decide +kernel)]; exact ⟨rfl, rfl⟩))
    (fun os started H enc _ => fnExactFnAt_lifted os started H enc)

end Go.Proofs.Ytaokcnjjlbdnoaa

