/-
  The law FnExactNumbersFor: it returns true for all arguments. Condition: the variables that its row lists read as the table lays them.
-/
import Derived.Test.YtlhnojpkomcpmaaDoorLaws
import Derived.Test.YtlhnojpkomcpmaaDoorNf
import Derived.Test.YtlhnojpkomcpmaaDoorMark
namespace Go.Proofs.YtlhnojpkomcpmaaDoor
open Go.RowKit Go.ChangeShapes Go.WideShapes Go.Deep
set_option linter.unusedVariables false
set_option linter.unusedSimpArgs false
def nT (codes : List CodeD) : Nat := nN codes * nP codes
theorem nT_le (codes : List CodeD) : nT codes ≤ 9 := Nat.mul_le_mul (nN_le codes) (nP_le codes)
theorem markx_nf (codes : List CodeD) (v : Value) (w : World) (lo B : Nat) (hB : B ≤ w.heap.size) (hv : Grid true w lo B (nN codes) (nP codes) (triF (nP codes)) v) :
    Calls Tryd.prog 11 #[v, .int .i64 1] w (fun e w' => e = .returned (.int .i64 (1 + (nT codes : Int))) ∧ Grid false w' lo B (nN codes) (nP codes) (fun q => marksL (1 + ((q * nP codes : Nat) : Int)) (nP codes)) v ∧ Soft lo B w w') :=
  markx_IntSS (nN codes) (nP codes) (triF (nP codes)) v 1 w lo B (by omega) (by have := nT_le codes; unfold nT at this; omega) (by have := nN_le codes; omega) hB hv
theorem held_nf (codes : List CodeD) (v : Value) (w : World) (lo B : Nat) (hB : B ≤ w.heap.size) (hv : Grid false w lo B (nN codes) (nP codes) (fun q => marksL (1 + ((q * nP codes : Nat) : Int)) (nP codes)) v) :
    Calls Tryd.prog 12 #[v, .int .i64 1] w (RetV (.int .i64 (1 + (nT codes : Int))) w) :=
  held_IntSS false (nN codes) (nP codes) v 1 w lo B (by omega) (by have := nT_le codes; unfold nT at this; omega) (by have := nN_le codes; omega) hB hv
theorem unit_sl0 {m : Bool} {w : World} {lo B : Nat} {a : UnitD} {c0 : Value} (h : (unitS m).rep w lo B a [c0]) : Sl m (codeS m) w lo B a.codes c0 := by
  obtain ⟨d0, e, h0⟩ := h
  injection e with e0 e
  obtain ⟨v, ev, hv⟩ := h0
  injection ev with ev
  rw [e0, ev]
  exact hv

theorem specNF_u (codes : List CodeD) (v0 : Value)  (w : World) (lo B : Nat) (hB : B ≤ w.heap.size) (hN : (codes.length + sumBy codeN codes) ≤ 1048576) (h0 : Sl false (codeS false) w lo B codes v0)  : Calls Tryd.prog 5 #[.agg #[v0]] w (GP w (nN codes) (nP codes)) := spec_NumbersFor codes v0 w lo B hB (by omega) h0
theorem implNF_u (codes : List CodeD) (v0 : Value)  (w : World) (lo B : Nat) (hB : B ≤ w.heap.size) (hN : (codes.length + sumBy codeN codes) ≤ 1048576) (h0 : Sl false (codeS false) w lo B codes v0)  (ht : Tabs w) : Calls Tryd.prog 7 #[.agg #[v0]] w (GP w (nN codes) (nP codes)) := impl_NumbersFor codes v0 w lo B hB (by omega) h0 ht
set_option maxRecDepth 100000 in
set_option maxHeartbeats 4000000 in
theorem law_FnExactNumbersFor (codes : List CodeD) (v0 : Value)  (w : World) (h0 : Sl false (codeS false) w 0 w.heap.size codes v0)  (ht : Tabs w) :
    Calls Tryd.prog 3 #[.agg #[v0]] w (Yes w) := by
  have hb0 : Below w.heap.size w (w.alloc (.cells #[v0] 24)) := (Below.refl _ _).alloc (Nat.le_refl _) _
  have R0_0 : Row (w.alloc (.cells #[v0] 24)) (w.heap.size) 24 #[v0] := by simpa using Row.new (w) _ _
  go_enter Tryd.func3, Tryd.ntmps3
  go_wp2_with fail
  refine (sz_Unit codes v0 1048576 _ 0 w.heap.size (by omega) (by omega) hb0.size (h0.below hb0 (Nat.le_refl _))).mono ?_
  rintro e w1 ⟨r0, rfl, a0, b0, c0, e0⟩
  have hb1 : Below w.heap.size w w1 := hb0.trans (e0.mono hb0.size)
  have sz1 := e0.size
  have R1_0 := R0_0.below e0 R0_0.lt
  clear R0_0
  have C0 := Lib.hid c0
  clear c0
  by_cases hr0 : r0 < 0
  · go_wp2_with fail
    go_ret
    exact ⟨rfl, hb1⟩
  · have hN0 : (codes.length + sumBy codeN codes) ≤ 1048576 := by
      have := C0.out (by omega)
      omega
    have hr0' : 0 ≤ r0 := by omega
    clear C0
    have y0_1 : (w1).cell? ⟨w.heap.size, 0, none⟩ = some (v0) := R1_0.cell 0
    clear a0 b0
    go_wp2_with fail
    refine (to_Unit codes v0 _ 0 w.heap.size hb1.size hN0 (h0.below hb1 (Nat.le_refl _))).mono ?_
    rintro e w2 ⟨cs, rfl, hx, e10⟩
    obtain ⟨xs_0, rfl, qs_0⟩ := unit_open (hx false)
    clear hx
    obtain ⟨As_0, ps_0, hfs_0, _, _⟩ := qs_0.form
    change _ = Value.slice As_0 codes.length ps_0 at hfs_0
    subst hfs_0
    have hb2 : Below w.heap.size w w2 := hb1.trans (e10.mono hb1.size)
    have sz2 := e10.size
    have R2_0 := R1_0.below e10 R1_0.lt
    clear y0_1
    clear R1_0
    go_wp2_with fail
    refine (specNF_u codes (.slice As_0 codes.length ps_0)  _ w1.heap.size w2.heap.size (Nat.le_refl _) hN0 qs_0 ).mono ?_
    rintro e w3 ⟨vw, rfl, hw, e11⟩
    have qw := hw
    clear hw
    obtain ⟨Aw, pw, hfw, _, _⟩ := qw.form
    subst hfw
    have hb3 : Below w.heap.size w w3 := hb2.trans (e11.mono hb2.size)
    have sz3 := e11.size
    have R3_0 := R2_0.below e11 R2_0.lt
    clear R2_0
    have y0_3 : (w3).cell? ⟨w.heap.size, 0, none⟩ = some (v0) := R3_0.cell 0
    have rl0_0 := R3_0.lt
    go_wp2_with fail
    refine (to_Unit codes v0 _ 0 w.heap.size hb3.size hN0 (h0.below hb3 (Nat.le_refl _))).mono ?_
    rintro e u0 ⟨cs, rfl, hx, f0⟩
    obtain ⟨xx0_0, rfl, qx0_0⟩ := unit_open (hx false)
    have tx0_0 := unit_sl0 (hx true)
    clear hx
    obtain ⟨Ax0_0, px0_0, hfx0_0, _, _⟩ := qx0_0.form
    change _ = Value.slice Ax0_0 codes.length px0_0 at hfx0_0
    subst hfx0_0
    have hb4 : Below w.heap.size w u0 := hb3.trans (f0.mono hb3.size)
    have sz4 := f0.size
    have R4_0 := R3_0.below f0 R3_0.lt
    have qw_4 := qw.below f0 (by first | omega | (simp; omega) | (simp at *; omega))
    clear y0_3
    clear R3_0 qw
    have hk0 : Below w.heap.size w (u0.alloc (.cells #[.slice Ax0_0 codes.length px0_0] 30)) := hb4.alloc hb4.size _
    have K0_0 : Row (u0.alloc (.cells #[.slice Ax0_0 codes.length px0_0] 30)) (w.heap.size) 24 #[v0] := R4_0.alloc _
    have K0_1 : Row (u0.alloc (.cells #[.slice Ax0_0 codes.length px0_0] 30)) u0.heap.size 30 #[.slice Ax0_0 codes.length px0_0] := Row.new _ _ _
    have qw_k0 : Grid true (u0.alloc (.cells #[.slice Ax0_0 codes.length px0_0] 30)) w2.heap.size w3.heap.size (nN codes) (nP codes) (triF (nP codes)) (.slice Aw (nN codes) pw) := qw_4.keep (fun b _ hb => Below.heap_alloc _ _ b (by omega))
    have qx0_0_k0 : Sl false (codeS false) (u0.alloc (.cells #[.slice Ax0_0 codes.length px0_0] 30)) (w3).heap.size u0.heap.size codes (.slice Ax0_0 codes.length px0_0) := qx0_0.keep (Nat.le_refl _) (Nat.le_refl _) (fun b _ hb => Below.heap_alloc _ _ b (by omega))
    have tx0_0_k0 : Sl true (codeS true) (u0.alloc (.cells #[.slice Ax0_0 codes.length px0_0] 30)) (w3).heap.size u0.heap.size codes (.slice Ax0_0 codes.length px0_0) := tx0_0.keep (Nat.le_refl _) (Nat.le_refl _) (fun b _ hb => Below.heap_alloc _ _ b (by omega))
    have zz0 : u0.heap.size < (u0.alloc (.cells #[.slice Ax0_0 codes.length px0_0] 30)).heap.size := by simp
    have y0_4 : (u0.alloc (.cells #[.slice Ax0_0 codes.length px0_0] 30)).cell? ⟨w.heap.size, 0, none⟩ = some (v0) := K0_0.cell 0
    have y1_4 : (u0.alloc (.cells #[.slice Ax0_0 codes.length px0_0] 30)).cell? ⟨u0.heap.size, 0, none⟩ = some (.slice Ax0_0 codes.length px0_0) := K0_1.cell 0
    go_wp2_with fail
    refine (implNF_u codes (.slice Ax0_0 codes.length px0_0)  _ (w3).heap.size u0.heap.size (by simp) hN0 qx0_0_k0  (ht.below hk0 (Nat.le_refl _))).mono ?_
    rintro e g0 ⟨vg, rfl, hg, eg⟩
    have qg := hg
    have tg := hg
    clear hg
    obtain ⟨Ag, pg, hfg, _, _⟩ := qg.form
    subst hfg
    have tt : (u0.alloc (.cells #[.slice Ax0_0 codes.length px0_0] 30)).heap.size ≤ g0.heap.size := eg.size
    have hb5 : Below w.heap.size w g0 := hk0.trans (eg.mono hk0.size)
    have sz5 := eg.size
    have R5_0 := K0_0.below eg K0_0.lt
    have R5_1 := K0_1.below eg K0_1.lt
    have qw_5 := qw_k0.below eg (by first | omega | (simp; omega) | (simp at *; omega))
    have qx0_0_5 := qx0_0_k0.below eg (by first | omega | (simp; omega) | (simp at *; omega))
    have tx0_0_5 := tx0_0_k0.below eg (by first | omega | (simp; omega) | (simp at *; omega))
    clear y0_4 y1_4
    clear K0_0 K0_1 qw_k0 qx0_0_k0 tx0_0_k0
    have hRl : nN codes ≤ 3 := nN_le codes
    have hRp : nP codes ≤ 3 := nP_le codes
    have hRt : nT codes ≤ 9 := nT_le codes
    have y0_5 : (g0).cell? ⟨w.heap.size, 0, none⟩ = some (v0) := R5_0.cell 0
    have y1_5 : (g0).cell? ⟨u0.heap.size, 0, none⟩ = some (.slice Ax0_0 codes.length px0_0) := R5_1.cell 0
    go_wp2_with fail
    refine (eq_IntSS (nN codes) (nP codes) (triF (nP codes)) (.slice Ag (nN codes) pg) (.slice Aw (nN codes) pw) _ (u0.alloc (.cells #[.slice Ax0_0 codes.length px0_0] 30)).heap.size g0.heap.size w2.heap.size w3.heap.size true true (by omega) (by omega) (by omega) qg qw_5).mono ?_
    rintro e g1 ⟨rfl, e_g1⟩
    have hb6 : Below w.heap.size w g1 := hb5.trans (e_g1.mono hb5.size)
    have sz6 := e_g1.size
    have R6_0 := R5_0.below e_g1 R5_0.lt
    have R6_1 := R5_1.below e_g1 R5_1.lt
    have qw_6 := qw_5.below e_g1 (by first | omega | (simp; omega) | (simp at *; omega))
    have qx0_0_6 := qx0_0_5.below e_g1 (by first | omega | (simp; omega) | (simp at *; omega))
    have tx0_0_6 := tx0_0_5.below e_g1 (by first | omega | (simp; omega) | (simp at *; omega))
    have qg_6 := qg.below e_g1 (by first | omega | (simp; omega) | (simp at *; omega))
    have tg_6 := tg.below e_g1 (by first | omega | (simp; omega) | (simp at *; omega))
    clear y0_5 y1_5
    clear R5_0 R5_1 qw_5 qx0_0_5 tx0_0_5 qg tg
    have y0_6 : (g1).cell? ⟨w.heap.size, 0, none⟩ = some (v0) := R6_0.cell 0
    have y1_6 : (g1).cell? ⟨u0.heap.size, 0, none⟩ = some (.slice Ax0_0 codes.length px0_0) := R6_1.cell 0
    go_wp2_with fail
    have hbd0 : Below w.heap.size w g1.drew := hb6.drew
    have D0_0 : Row g1.drew (w.heap.size) 24 #[v0] := R6_0
    have D0_1 : Row g1.drew (u0.heap.size) 30 #[.slice Ax0_0 codes.length px0_0] := R6_1
    have dqw : Grid true g1.drew w2.heap.size w3.heap.size (nN codes) (nP codes) (triF (nP codes)) (.slice Aw (nN codes) pw) := qw_6.keep (fun _ _ _ => rfl)
    have dqx0_0 : Sl false (codeS false) g1.drew (w3).heap.size u0.heap.size codes (.slice Ax0_0 codes.length px0_0) := qx0_0_6.keep (Nat.le_refl _) (Nat.le_refl _) (fun _ _ _ => rfl)
    have dtx0_0 : Sl true (codeS true) g1.drew (w3).heap.size u0.heap.size codes (.slice Ax0_0 codes.length px0_0) := tx0_0_6.keep (Nat.le_refl _) (Nat.le_refl _) (fun _ _ _ => rfl)
    have dqg : Grid true g1.drew (u0.alloc (.cells #[.slice Ax0_0 codes.length px0_0] 30)).heap.size g0.heap.size (nN codes) (nP codes) (triF (nP codes)) (.slice Ag (nN codes) pg) := qg_6.keep (fun _ _ _ => rfl)
    have dtg : Grid true g1.drew (u0.alloc (.cells #[.slice Ax0_0 codes.length px0_0] 30)).heap.size g0.heap.size (nN codes) (nP codes) (triF (nP codes)) (.slice Ag (nN codes) pg) := tg_6.keep (fun _ _ _ => rfl)
    have ts0 : g1.heap.size ≤ g1.drew.heap.size := Nat.le_refl _
    go_region_held3 (fun w' => w'.cell? ⟨w.heap.size, 0, none⟩ = some (v0) ∧ w'.cell? ⟨u0.heap.size, 0, none⟩ = some (.slice Ax0_0 codes.length px0_0)) (refine ⟨?_, ?_⟩ <;> assumption) (first | (go_at_call 6; refine (to_Unit codes v0 g1.drew 0 w.heap.size hbd0.size hN0 (h0.below hbd0 (Nat.le_refl _))).mono ?_; rintro e va0 ⟨cs, rfl, hx, ea0⟩; obtain ⟨xz0_0, rfl, qz0_0⟩ := unit_open (hx false); clear hx; obtain ⟨Az0_0, pz0_0, hfz0_0, _, _⟩ := qz0_0.form; change _ = Value.slice Az0_0 codes.length pz0_0 at hfz0_0; subst hfz0_0; have hba0 : Below w.heap.size w va0 := hbd0.trans (ea0.mono hbd0.size); have sea0 := ea0.size; have P0_0 := D0_0.below ea0 D0_0.lt; have P0_1 := D0_1.below ea0 D0_1.lt; have m0_0_0 : va0.cell? ⟨w.heap.size, 0, none⟩ = some (v0) := P0_0.cell 0; have m0_1_0 : va0.cell? ⟨u0.heap.size, 0, none⟩ = some (.slice Ax0_0 codes.length px0_0) := P0_1.cell 0) | (go_at_call 9; refine (eq_Unit codes (.slice Ax0_0 codes.length px0_0) (.slice Az0_0 codes.length pz0_0) va0 (w3).heap.size u0.heap.size g1.drew.heap.size va0.heap.size (by omega) (Nat.le_refl _) (dqx0_0.below ea0 (by omega)) qz0_0).mono ?_; rintro e vb0 ⟨rfl, eb0⟩; have hbb0 : Below w.heap.size w vb0 := hba0.trans (eb0.mono hba0.size); have seb0 := eb0.size; have Q0_0 := P0_0.below eb0 P0_0.lt; have Q0_1 := P0_1.below eb0 P0_1.lt; have n0_0_0 : vb0.cell? ⟨w.heap.size, 0, none⟩ = some (v0) := Q0_0.cell 0; have n0_1_0 : vb0.cell? ⟨u0.heap.size, 0, none⟩ = some (.slice Ax0_0 codes.length px0_0) := Q0_1.cell 0))
    clear y0_6 y1_6
    have qw_f0 := (dqw.below ea0 (by omega)).below eb0 (by omega)
    have qx0_0_f0 := (dqx0_0.below ea0 (by omega)).below eb0 (by omega)
    have tx0_0_f0 := (dtx0_0.below ea0 (by omega)).below eb0 (by omega)
    have qg_f0 := (dqg.below ea0 (by omega)).below eb0 (by omega)
    have tg_f0 := (dtg.below ea0 (by omega)).below eb0 (by omega)
    clear m0_0_0 m0_1_0 n0_0_0 n0_1_0
    have y0_7 : (vb0).cell? ⟨w.heap.size, 0, none⟩ = some (v0) := Q0_0.cell 0
    have y1_7 : (vb0).cell? ⟨u0.heap.size, 0, none⟩ = some (.slice Ax0_0 codes.length px0_0) := Q0_1.cell 0
    go_wp2_with fail
    refine (mark_Unit (.slice Ax0_0 codes.length px0_0) codes 1 _ (w3).heap.size u0.heap.size (by omega) (by omega) (by omega) tx0_0_f0).mono ?_
    rintro e m0 ⟨rk0, rfl, ka0, kb0, sf0⟩
    have hb8 : Below w.heap.size w m0 := (hbb0.alloc hbb0.size _).trans (sf0.below (by omega))
    have sz8 : (vb0).heap.size ≤ m0.heap.size := sf0.of_alloc
    have R8_0 : Row m0 (w.heap.size) 24 #[v0] := (Q0_0.alloc _).soft sf0 (by omega)
    have R8_1 : Row m0 (u0.heap.size) 30 #[.slice Ax0_0 codes.length px0_0] := (Q0_1.alloc _).soft sf0 (by omega)
    have qw_8 : Grid true m0 w2.heap.size w3.heap.size (nN codes) (nP codes) (triF (nP codes)) (.slice Aw (nN codes) pw) := qw_f0.keep (fun b h1 h2 => (sf0.same (by omega) b h1 h2).trans (Below.heap_alloc _ _ b (by omega)))
    have qg_8 : Grid true m0 (u0.alloc (.cells #[.slice Ax0_0 codes.length px0_0] 30)).heap.size g0.heap.size (nN codes) (nP codes) (triF (nP codes)) (.slice Ag (nN codes) pg) := qg_f0.keep (fun b h1 h2 => (sf0.same (by omega) b h1 h2).trans (Below.heap_alloc _ _ b (by omega)))
    have tg_8 : Grid true m0 (u0.alloc (.cells #[.slice Ax0_0 codes.length px0_0] 30)).heap.size g0.heap.size (nN codes) (nP codes) (triF (nP codes)) (.slice Ag (nN codes) pg) := tg_f0.keep (fun b h1 h2 => (sf0.same (by omega) b h1 h2).trans (Below.heap_alloc _ _ b (by omega)))
    clear y0_7 y1_7
    clear Q0_0 Q0_1 qw_f0 qx0_0_f0 tx0_0_f0 qg_f0 tg_f0
    have hk0 : 0 ≤ rk0 := by omega
    have y0_8 : (m0).cell? ⟨w.heap.size, 0, none⟩ = some (v0) := R8_0.cell 0
    have y1_8 : (m0).cell? ⟨u0.heap.size, 0, none⟩ = some (.slice Ax0_0 codes.length px0_0) := R8_1.cell 0
    go_wp2_with fail
    refine (eq_IntSS (nN codes) (nP codes) (triF (nP codes)) (.slice Ag (nN codes) pg) (.slice Aw (nN codes) pw) _ (u0.alloc (.cells #[.slice Ax0_0 codes.length px0_0] 30)).heap.size g0.heap.size w2.heap.size w3.heap.size true true (by omega) (by omega) (by omega) qg_8 qw_8).mono ?_
    rintro e g2 ⟨rfl, e_g2⟩
    have hb9 : Below w.heap.size w g2 := hb8.trans (e_g2.mono hb8.size)
    have sz9 := e_g2.size
    have R9_0 := R8_0.below e_g2 R8_0.lt
    have R9_1 := R8_1.below e_g2 R8_1.lt
    have qw_9 := qw_8.below e_g2 (by first | omega | (simp; omega) | (simp at *; omega))
    have qg_9 := qg_8.below e_g2 (by first | omega | (simp; omega) | (simp at *; omega))
    have tg_9 := tg_8.below e_g2 (by first | omega | (simp; omega) | (simp at *; omega))
    clear y0_8 y1_8
    clear R8_0 R8_1 qw_8 qg_8 tg_8
    have y0_9 : (g2).cell? ⟨w.heap.size, 0, none⟩ = some (v0) := R9_0.cell 0
    have y1_9 : (g2).cell? ⟨u0.heap.size, 0, none⟩ = some (.slice Ax0_0 codes.length px0_0) := R9_1.cell 0
    go_wp2_with fail
    refine (markx_nf codes (.slice Ag (nN codes) pg) _ (u0.alloc (.cells #[.slice Ax0_0 codes.length px0_0] 30)).heap.size g0.heap.size (by omega) tg_9).mono ?_
    rintro e g3 ⟨rfl, hm, sg⟩
    have hb10 : Below w.heap.size w g3 := hb9.trans (sg.below (by omega))
    have sz10 : (g2).heap.size ≤ g3.heap.size := Nat.le_of_eq sg.size.symm
    have R10_0 : Row g3 (w.heap.size) 24 #[v0] := R9_0.soft sg (by omega)
    have R10_1 : Row g3 (u0.heap.size) 30 #[.slice Ax0_0 codes.length px0_0] := R9_1.soft sg (by omega)
    have qw_10 : Grid true g3 w2.heap.size w3.heap.size (nN codes) (nP codes) (triF (nP codes)) (.slice Aw (nN codes) pw) := qw_9.keep (fun b h1 h2 => sg.same (by omega) b h1 h2)
    clear y0_9 y1_9
    clear R9_0 R9_1 qw_9 qg_9 tg_9
    have hl0 : (0 : Int) ≤ (nT codes : Int) := by omega
    have y0_10 : (g3).cell? ⟨w.heap.size, 0, none⟩ = some (v0) := R10_0.cell 0
    have y1_10 : (g3).cell? ⟨u0.heap.size, 0, none⟩ = some (.slice Ax0_0 codes.length px0_0) := R10_1.cell 0
    go_wp2_with fail
    refine (held_nf codes (.slice Ag (nN codes) pg) _ (u0.alloc (.cells #[.slice Ax0_0 codes.length px0_0] 30)).heap.size g0.heap.size (by omega) hm).mono ?_
    rintro e g4 ⟨rfl, e_g4⟩
    have hb11 : Below w.heap.size w g4 := hb10.trans (e_g4.mono hb10.size)
    have sz11 := e_g4.size
    have R11_0 := R10_0.below e_g4 R10_0.lt
    have R11_1 := R10_1.below e_g4 R10_1.lt
    have qw_11 := qw_10.below e_g4 (by first | omega | (simp; omega) | (simp at *; omega))
    have hm_11 := hm.below e_g4 (by first | omega | (simp; omega) | (simp at *; omega))
    clear y0_10 y1_10
    clear R10_0 R10_1 qw_10 hm
    have y0_11 : (g4).cell? ⟨w.heap.size, 0, none⟩ = some (v0) := R11_0.cell 0
    have y1_11 : (g4).cell? ⟨u0.heap.size, 0, none⟩ = some (.slice Ax0_0 codes.length px0_0) := R11_1.cell 0
    go_wp2_with fail
    refine (to_Unit codes v0 _ 0 w.heap.size hb11.size hN0 (h0.below hb11 (Nat.le_refl _))).mono ?_
    rintro e n0 ⟨cs, rfl, hx, en0⟩
    obtain ⟨xn_0, rfl, qn_0⟩ := unit_open (hx false)
    clear hx
    obtain ⟨An_0, pn_0, hfn_0, _, _⟩ := qn_0.form
    change _ = Value.slice An_0 codes.length pn_0 at hfn_0
    subst hfn_0
    have hb12 : Below w.heap.size w n0 := hb11.trans (en0.mono hb11.size)
    have sz12 := en0.size
    have R12_0 := R11_0.below en0 R11_0.lt
    have R12_1 := R11_1.below en0 R11_1.lt
    have qw_12 := qw_11.below en0 (by first | omega | (simp; omega) | (simp at *; omega))
    have hm_12 := hm_11.below en0 (by first | omega | (simp; omega) | (simp at *; omega))
    clear y0_11 y1_11
    clear R11_0 R11_1 qw_11 hm_11
    go_wp2_with fail
    refine (implNF_u codes (.slice An_0 codes.length pn_0)  _ g4.heap.size n0.heap.size (Nat.le_refl _) hN0 qn_0  (ht.below hb12 (Nat.le_refl _))).mono ?_
    rintro e n1 ⟨vh, rfl, hh, en1⟩
    have qh := hh
    clear hh
    obtain ⟨Ah, ph, hfh, _, _⟩ := qh.form
    subst hfh
    have hb13 : Below w.heap.size w n1 := hb12.trans (en1.mono hb12.size)
    have sz13 := en1.size
    have R13_0 := R12_0.below en1 R12_0.lt
    have R13_1 := R12_1.below en1 R12_1.lt
    have qw_13 := qw_12.below en1 (by first | omega | (simp; omega) | (simp at *; omega))
    have hm_13 := hm_12.below en1 (by first | omega | (simp; omega) | (simp at *; omega))
    have qn_0_13 := qn_0.below en1 (by first | omega | (simp; omega) | (simp at *; omega))
    clear R12_0 R12_1 qw_12 hm_12 qn_0
    have y0_13 : (n1).cell? ⟨w.heap.size, 0, none⟩ = some (v0) := R13_0.cell 0
    have y1_13 : (n1).cell? ⟨u0.heap.size, 0, none⟩ = some (.slice Ax0_0 codes.length px0_0) := R13_1.cell 0
    go_wp2_with fail
    refine (eq_IntSS (nN codes) (nP codes) (triF (nP codes)) (.slice Ah (nN codes) ph) (.slice Aw (nN codes) pw) _ n0.heap.size n1.heap.size w2.heap.size w3.heap.size true true (by omega) (by omega) (by omega) qh qw_13).mono ?_
    rintro e n2 ⟨rfl, e_n2⟩
    have hb14 : Below w.heap.size w n2 := hb13.trans (e_n2.mono hb13.size)
    have sz14 := e_n2.size
    have R14_0 := R13_0.below e_n2 R13_0.lt
    have R14_1 := R13_1.below e_n2 R13_1.lt
    have qw_14 := qw_13.below e_n2 (by first | omega | (simp; omega) | (simp at *; omega))
    have hm_14 := hm_13.below e_n2 (by first | omega | (simp; omega) | (simp at *; omega))
    have qn_0_14 := qn_0_13.below e_n2 (by first | omega | (simp; omega) | (simp at *; omega))
    have qh_14 := qh.below e_n2 (by first | omega | (simp; omega) | (simp at *; omega))
    clear y0_13 y1_13
    clear R13_0 R13_1 qw_13 hm_13 qn_0_13 qh
    have y0_14 : (n2).cell? ⟨w.heap.size, 0, none⟩ = some (v0) := R14_0.cell 0
    have y1_14 : (n2).cell? ⟨u0.heap.size, 0, none⟩ = some (.slice Ax0_0 codes.length px0_0) := R14_1.cell 0
    go_wp2_with fail
    refine (held_nf codes (.slice Ag (nN codes) pg) _ (u0.alloc (.cells #[.slice Ax0_0 codes.length px0_0] 30)).heap.size g0.heap.size (by omega) hm_14).mono ?_
    rintro e n3 ⟨rfl, e_n3⟩
    have hb15 : Below w.heap.size w n3 := hb14.trans (e_n3.mono hb14.size)
    have sz15 := e_n3.size
    have R15_0 := R14_0.below e_n3 R14_0.lt
    have R15_1 := R14_1.below e_n3 R14_1.lt
    have qw_15 := qw_14.below e_n3 (by first | omega | (simp; omega) | (simp at *; omega))
    have hm_15 := hm_14.below e_n3 (by first | omega | (simp; omega) | (simp at *; omega))
    have qn_0_15 := qn_0_14.below e_n3 (by first | omega | (simp; omega) | (simp at *; omega))
    have qh_15 := qh_14.below e_n3 (by first | omega | (simp; omega) | (simp at *; omega))
    clear y0_14 y1_14
    clear R14_0 R14_1 qw_14 hm_14 qn_0_14 qh_14
    go_wp2_with fail
    go_ret
    exact ⟨rfl, hb15⟩

set_option maxRecDepth 100000 in
theorem fnExactNumbersFor_lifted (os : Os) (started : os.Started) (H : Type) (enc : TypeId × Value → H) :
    ReturnsInHanded {} Tryd.checked os 3 .any (fun w args => (Rows.fnExactNumbersForSpec.pre enc Tryd.prog Tryd.f3 [] false w args ∧ laidMetH Tryd.prog [("loop.example/wholeway/impl.tries", Rows.laid_loop_example_wholeway_impl_tries)] w) ∧ sizedMet enc Tryd.prog Tryd.f3 (OpenSpec.ofChange Rows.fnExactNumbersForSpec) false w args) (Rows.fnExactNumbersForSpec.post enc Tryd.prog Tryd.f3 false true false false) := by
  refine returnsInHanded_of_change_and (C := Tryd.checked) (X := fun w _ => laidMetH Tryd.prog [("loop.example/wholeway/impl.tries", Rows.laid_loop_example_wholeway_impl_tries)] w) (fun _ _ _ hh h => h.of_heap hh) own started (by kernel_rfl) Tryd.func3
    (ChangeSpec.witness_shaped (enc := enc) (C := Tryd.checked) (os := os) (X := fun w _ => laidMetH Tryd.prog [("loop.example/wholeway/impl.tries", Rows.laid_loop_example_wholeway_impl_tries)] w) false (World.doorLaid Tryd.prog 400 os) #[.agg #[.slice none 0 0]] 8 rfl (World.shaped_of_RefB (by kernel_rfl) (by kernel_rfl)) (by kernel_rfl) (by kernel_rfl) (by kernel_rfl) (door_met os _)) ?_
  intro W base args ds gs before hval0 hW _ _ hL _
  have hval : ∀ (j : Nat) t v, Tryd.f3.params[j]? = some t → args[j]? = some v → Value.okWide Tryd.prog W .any base t v := hval0
  obtain ⟨p, q, hA0, hV, hrest⟩ := id hW
  have hA : DataW.TrodAll enc Tryd.prog W 0 (fun _ => true) true Tryd.f3.params.toList args.toList ds p := hA0
  rw [Tryd.params3] at hA hval
  obtain ⟨v0, d0, rfl, rfl, h0⟩ := trodAll_one hA
  obtain ⟨gv0, rfl⟩ := one_vars hV
  obtain ⟨cs0, rfl, -⟩ := okWide_struct Tryd.underlying24 (hval 0 _ v0 rfl rfl)
  obtain ⟨fuel0, hf0⟩ := h0
  obtain ⟨da0, ha0⟩ := dec_Unit hf0
  obtain ⟨s0_0, e0, g0_0⟩ := unit_open ha0
  obtain ⟨t0_0⟩ := da0
  obtain ⟨cs0⟩ := cs0
  simp only [Value.cells] at e0
  subst e0
  have hcall := law_FnExactNumbersFor t0_0 s0_0  W g0_0  (tabs_of hL)
  refine hcall.mono fun e W' ⟨he, hb⟩ => ?_
  subst he
  exact ⟨_, rfl, post_true_vars laidO hW (by kernel_rfl) Tryd.underlying4 (by rw [Tryd.params3]; intro t ht; simp only [List.mem_cons, List.not_mem_nil, or_false] at ht; subst ht; exact ⟨by kernel_rfl, of_decide_eq_true (by kernel_rfl)⟩) vars_ok rfl rfl rfl hb⟩

set_option maxRecDepth 100000 in
set_option maxHeartbeats 1000000 in
theorem fnExactNumbersFor_facts : joinedFacts Tryd.prog 3 Tryd.f3 Rows.fnExactNumbersForSpec Rows.fnExactNumbersForRow = true := by
  unfold joinedFacts
  exact and_mk (and_mk (and_mk (and_mk (and_mk (and_mk (and_mk (and_mk (and_mk (and_mk (and_mk (and_mk (and_mk (and_mk (and_mk (and_mk (and_mk (and_mk (and_mk (and_mk (and_mk (and_mk (and_mk (and_mk (and_mk (and_mk (and_mk (and_mk (and_mk (and_mk (and_mk (by as_aux_lemma => kernel_rfl) laidO) mapsRowedO) (by as_aux_lemma => kernel_rfl)) (by as_aux_lemma => kernel_rfl)) (by as_aux_lemma => kernel_rfl)) (by as_aux_lemma => kernel_rfl)) (by as_aux_lemma => kernel_rfl)) (by as_aux_lemma => kernel_rfl)) (by as_aux_lemma => kernel_rfl)) (by as_aux_lemma => kernel_rfl)) (by as_aux_lemma => kernel_rfl)) (by as_aux_lemma => kernel_rfl)) (by as_aux_lemma => kernel_rfl)) (by as_aux_lemma => kernel_rfl)) (by as_aux_lemma => kernel_rfl)) (by as_aux_lemma => kernel_rfl)) (by as_aux_lemma => kernel_rfl)) (by as_aux_lemma => kernel_rfl)) (by as_aux_lemma => kernel_rfl)) (by as_aux_lemma => kernel_rfl)) (by as_aux_lemma => kernel_rfl)) (by rw [plainKeysO]; rfl)) (by as_aux_lemma => kernel_rfl)) stopsHeardO) mayEnter) (by rw [liftsFinal]; rfl)) (by rw [makeCut]; rfl)) (by as_aux_lemma => kernel_rfl)) (by as_aux_lemma => kernel_rfl)) (by as_aux_lemma => kernel_rfl)) (by as_aux_lemma => kernel_rfl)

theorem fnExactNumbersFor_said : Rows.FnExactNumbersForSaid :=
  OpenClaim.holds_of_wide 3 Tryd.f3 rfl rfl rfl rfl rfl rfl rfl ⟨rfl, rfl, rfl, rfl, rfl⟩ rfl rfl rfl rfl rfl (by kernel_rfl) Tryd.func3 fnExactNumbersFor_facts
    (of_decide_eq_true (by kernel_rfl)) (by unfold Func.isWrapper; first | (rw [if_pos (by decide +kernel)]; kernel_rfl) | (rw [if_neg (by decide +kernel)]; exact ⟨rfl, rfl⟩))
    (fun os started H enc _ => fnExactNumbersFor_lifted os started H enc)

/-- no parameter wants a stand-in -/
theorem fnExactNumbersFor_plain (f : FuncId) (fn : Func) (hf : Tryd.pinned.checked.prog.funcNamed "loop.example/wholeway/laws.FnExactNumbersFor" = some f) (hfn : Tryd.pinned.checked.prog.funcs[f]? = some fn) :
    false = Tryd.pinned.checked.prog.looks [] ∧ ∀ (j : Nat) t, fn.params[j]? = some t → Tryd.pinned.checked.prog.wantsStandIn t = false := by
  obtain rfl : f = 3 := Option.some.inj ((show Tryd.prog.funcNamed "loop.example/wholeway/laws.FnExactNumbersFor" = some 3 by kernel_rfl).symm.trans hf) |>.symm
  obtain rfl : fn = Tryd.f3 := (Option.some.inj (Tryd.func3.symm.trans hfn)).symm
  refine ⟨by kernel_rfl, fun j t ht => ?_⟩
  rw [Tryd.params3] at ht
  have hm : t ∈ [24] := by simpa using Array.mem_of_getElem? ht
  have hall : ([24].all fun u => !Tryd.prog.wantsStandIn u) = true := by kernel_rfl
  exact (show Tryd.prog.wantsStandIn t = false by simpa using List.all_eq_true.1 hall t hm)
theorem fnExactNumbersFor_holds : Rows.FnExactNumbersForCardSaid :=
  Claim7.holds_tied_plain_at .later [] _ _ _ _ fnExactNumbersFor_said (fun _ h => by cases h) (by kernel_rfl) (fun _ h => by cases h) fnExactNumbersFor_row_tie rfl ⟨rfl, rfl⟩ (by kernel_rfl) rfl fnExactNumbersFor_plain (by kernel_rfl)

end Go.Proofs.YtlhnojpkomcpmaaDoor
