/-
  The law FnExactVarsOf. Conditions: the arguments read as data; the tables lie.
-/
import Derived.Test.YtnamciblapddbaaDoorLaws
import Derived.Test.YtnamciblapddbaaDoorNames3
import Derived.Test.YtnamciblapddbaaDoorMarkS
namespace Go.Proofs.YtnamciblapddbaaDoor
open Go.RowKit Go.ChangeShapes Go.WideShapes Go.Deep

theorem ex_sl3 (d : Nat) {m : Bool} {w : World} {lo B : Nat} {a : Ex} {c0 c1 c2 c3 : Value} (h : (exS m (d + 1)).rep w lo B a [c0, c1, c2, c3]) : Sl m (exS m d) w lo B a.kids c3 := by
  obtain ⟨d0, d1, d2, d3, e, h0, h1, h2, h3⟩ := h
  injection e with e0 e
  injection e with e1 e
  injection e with e2 e
  injection e with e3 e
  obtain ⟨v, ev, hv⟩ := h3
  injection ev with ev
  rw [e3, ev]
  exact hv

theorem specVarsOf_u (d : Nat) (op n : Int) (name : ByteArray) (kids : List Ex) (v3 : Value) (w : World) (lo B : Nat) (hB : B ≤ w.heap.size) (_ : name.size + (kids.length + sumBy exN kids) ≤ 1048576) (ho : I64 op) (hn64 : I64 n) (hnm : name.size ≤ maxLen) (h3 : Sl false (exS false d) w lo B kids v3) : Calls Tryd.prog 31 #[.agg #[.int .i64 op, .int .i64 n, .string name, v3]] w (ToSP (fun m => strS m) (nmV 2 (.mk op n name kids)) w) := spec_VarsOf d op n name kids v3 w lo B hB ho hn64 hnm h3
theorem implVarsOf_u (d : Nat) (op n : Int) (name : ByteArray) (kids : List Ex) (v3 : Value) (w : World) (lo B : Nat) (hB : B ≤ w.heap.size) (_ : name.size + (kids.length + sumBy exN kids) ≤ 1048576) (ho : I64 op) (hn64 : I64 n) (hnm : name.size ≤ maxLen) (h3 : Sl false (exS false d) w lo B kids v3) (ht : Tabs w) : Calls Tryd.prog 32 #[.agg #[.int .i64 op, .int .i64 n, .string name, v3]] w (ToSP (fun m => strS m) (nmV 2 (.mk op n name kids)) w) := impl_VarsOf d op n name kids v3 w lo B hB ho hn64 hnm h3 ht
set_option maxRecDepth 100000 in
set_option maxHeartbeats 4000000 in
theorem law_FnExactVarsOf (d : Nat) (op : Int) (n : Int) (name : ByteArray) (kids : List Ex) (v3 : Value)  (w : World) (h0 : I64 op) (h1 : I64 n) (h2 : name.size ≤ maxLen) (h3 : Sl false (exS false d) w 0 w.heap.size kids v3)  (ht : Tabs w) :
    Calls Tryd.prog 9 #[.agg #[.int .i64 op, .int .i64 n, .string name, v3]] w (Yes w) := by
  have hb0 : Below w.heap.size w (w.alloc (.cells #[.int .i64 op, .int .i64 n, .string name, v3] 24)) := (Below.refl _ _).alloc (Nat.le_refl _) _
  have R0_0 : Row (w.alloc (.cells #[.int .i64 op, .int .i64 n, .string name, v3] 24)) (w.heap.size) 24 #[.int .i64 op, .int .i64 n, .string name, v3] := by simpa using Row.new (w) _ _
  go_enter Tryd.func9, Tryd.ntmps9
  go_wp2_with fail
  refine (sz_Expr d op n name kids v3 1048576 _ 0 w.heap.size (by omega) (by omega) hb0.size h0 h1 h2 (h3.below hb0 (Nat.le_refl _))).mono ?_
  rintro e w1 ⟨r0, rfl, a0, b0, c0, e0⟩
  have hb1 : Below w.heap.size w w1 := hb0.trans (e0.mono hb0.size)
  have sz1 := e0.size
  have R1_0 := R0_0.below e0 R0_0.lt
  clear R0_0
  have C0 := Lib.hid c0
  clear c0
  by_cases hr0 : r0 < 0
  · go_wp2_with fail
    go_ret
    exact ⟨rfl, hb1⟩
  · have hN0 : name.size + (kids.length + sumBy exN kids) ≤ 1048576 := by
      have := C0.out (by omega)
      omega
    have hr0' : 0 ≤ r0 := by omega
    clear C0
    have y0_1 : (w1).cell? ⟨w.heap.size, 0, none⟩ = some (.int .i64 op) := R1_0.cell 0
    have y1_1 : (w1).cell? ⟨w.heap.size, 1, none⟩ = some (.int .i64 n) := R1_0.cell 1
    have y2_1 : (w1).cell? ⟨w.heap.size, 2, none⟩ = some (.string name) := R1_0.cell 2
    have y3_1 : (w1).cell? ⟨w.heap.size, 3, none⟩ = some (v3) := R1_0.cell 3
    clear a0 b0
    go_wp2_with fail
    refine (to_Expr d op n name kids v3 _ 0 w.heap.size hb1.size hN0 h0 h1 h2 (h3.below hb1 (Nat.le_refl _))).mono ?_
    rintro e w2 ⟨cs, rfl, hx, e10⟩
    obtain ⟨xs_3, hcs, -, -, -, qs_3⟩ := ex_open d (hx false)
    change _ = [.int .i64 op, .int .i64 n, .string name, xs_3] at hcs
    subst hcs
    clear hx
    obtain ⟨As_3, ps_3, hfs_3, _, _⟩ := qs_3.form
    change _ = Value.slice As_3 kids.length ps_3 at hfs_3
    subst hfs_3
    have hb2 : Below w.heap.size w w2 := hb1.trans (e10.mono hb1.size)
    have sz2 := e10.size
    have R2_0 := R1_0.below e10 R1_0.lt
    clear y0_1 y1_1 y2_1 y3_1
    clear R1_0
    go_wp2_with fail
    refine (specVarsOf_u d op n name kids (.slice As_3 kids.length ps_3)  _ w1.heap.size w2.heap.size (Nat.le_refl _) hN0 h0 h1 h2 qs_3 ).mono ?_
    rintro e w3 ⟨vw, rfl, hw, e11⟩
    have qw := hw false
    clear hw
    obtain ⟨Aw, pw, hfw, _, _⟩ := qw.form
    subst hfw
    have hb3 : Below w.heap.size w w3 := hb2.trans (e11.mono hb2.size)
    have sz3 := e11.size
    have R3_0 := R2_0.below e11 R2_0.lt
    clear R2_0
    have y0_3 : (w3).cell? ⟨w.heap.size, 0, none⟩ = some (.int .i64 op) := R3_0.cell 0
    have y1_3 : (w3).cell? ⟨w.heap.size, 1, none⟩ = some (.int .i64 n) := R3_0.cell 1
    have y2_3 : (w3).cell? ⟨w.heap.size, 2, none⟩ = some (.string name) := R3_0.cell 2
    have y3_3 : (w3).cell? ⟨w.heap.size, 3, none⟩ = some (v3) := R3_0.cell 3
    have rl0_0 := R3_0.lt
    go_wp2_with fail
    refine (to_Expr d op n name kids v3 _ 0 w.heap.size hb3.size hN0 h0 h1 h2 (h3.below hb3 (Nat.le_refl _))).mono ?_
    rintro e u0 ⟨cs, rfl, hx, f0⟩
    obtain ⟨xx0_3, hcs, -, -, -, qx0_3⟩ := ex_open d (hx false)
    change _ = [.int .i64 op, .int .i64 n, .string name, xx0_3] at hcs
    subst hcs
    have tx0_3 := ex_sl3 d (hx true)
    clear hx
    obtain ⟨Ax0_3, px0_3, hfx0_3, _, _⟩ := qx0_3.form
    change _ = Value.slice Ax0_3 kids.length px0_3 at hfx0_3
    subst hfx0_3
    have hb4 : Below w.heap.size w u0 := hb3.trans (f0.mono hb3.size)
    have sz4 := f0.size
    have R4_0 := R3_0.below f0 R3_0.lt
    have qw_4 := qw.below f0 (by first | omega | (simp; omega) | (simp at *; omega))
    clear y0_3 y1_3 y2_3 y3_3
    clear R3_0 qw
    have hk0 : Below w.heap.size w (u0.alloc (.cells #[.int .i64 op, .int .i64 n, .string name, .slice Ax0_3 kids.length px0_3] 30)) := hb4.alloc hb4.size _
    have K0_0 : Row (u0.alloc (.cells #[.int .i64 op, .int .i64 n, .string name, .slice Ax0_3 kids.length px0_3] 30)) (w.heap.size) 24 #[.int .i64 op, .int .i64 n, .string name, v3] := R4_0.alloc _
    have K0_1 : Row (u0.alloc (.cells #[.int .i64 op, .int .i64 n, .string name, .slice Ax0_3 kids.length px0_3] 30)) u0.heap.size 30 #[.int .i64 op, .int .i64 n, .string name, .slice Ax0_3 kids.length px0_3] := Row.new _ _ _
    have qw_k0 : Sl false (strS false) (u0.alloc (.cells #[.int .i64 op, .int .i64 n, .string name, .slice Ax0_3 kids.length px0_3] 30)) w2.heap.size w3.heap.size (nmV 2 (.mk op n name kids)) (.slice Aw ((nmV 2 (.mk op n name kids))).length pw) := qw_4.keep (Nat.le_refl _) (Nat.le_refl _) (fun b _ hb => Below.heap_alloc _ _ b (by omega))
    have qx0_3_k0 : Sl false (exS false d) (u0.alloc (.cells #[.int .i64 op, .int .i64 n, .string name, .slice Ax0_3 kids.length px0_3] 30)) (w3).heap.size u0.heap.size kids (.slice Ax0_3 kids.length px0_3) := qx0_3.keep (Nat.le_refl _) (Nat.le_refl _) (fun b _ hb => Below.heap_alloc _ _ b (by omega))
    have tx0_3_k0 : Sl true (exS true d) (u0.alloc (.cells #[.int .i64 op, .int .i64 n, .string name, .slice Ax0_3 kids.length px0_3] 30)) (w3).heap.size u0.heap.size kids (.slice Ax0_3 kids.length px0_3) := tx0_3.keep (Nat.le_refl _) (Nat.le_refl _) (fun b _ hb => Below.heap_alloc _ _ b (by omega))
    have zz0 : u0.heap.size < (u0.alloc (.cells #[.int .i64 op, .int .i64 n, .string name, .slice Ax0_3 kids.length px0_3] 30)).heap.size := by simp
    have y0_4 : (u0.alloc (.cells #[.int .i64 op, .int .i64 n, .string name, .slice Ax0_3 kids.length px0_3] 30)).cell? ⟨w.heap.size, 0, none⟩ = some (.int .i64 op) := K0_0.cell 0
    have y1_4 : (u0.alloc (.cells #[.int .i64 op, .int .i64 n, .string name, .slice Ax0_3 kids.length px0_3] 30)).cell? ⟨w.heap.size, 1, none⟩ = some (.int .i64 n) := K0_0.cell 1
    have y2_4 : (u0.alloc (.cells #[.int .i64 op, .int .i64 n, .string name, .slice Ax0_3 kids.length px0_3] 30)).cell? ⟨w.heap.size, 2, none⟩ = some (.string name) := K0_0.cell 2
    have y3_4 : (u0.alloc (.cells #[.int .i64 op, .int .i64 n, .string name, .slice Ax0_3 kids.length px0_3] 30)).cell? ⟨w.heap.size, 3, none⟩ = some (v3) := K0_0.cell 3
    have y4_4 : (u0.alloc (.cells #[.int .i64 op, .int .i64 n, .string name, .slice Ax0_3 kids.length px0_3] 30)).cell? ⟨u0.heap.size, 0, none⟩ = some (.int .i64 op) := K0_1.cell 0
    have y5_4 : (u0.alloc (.cells #[.int .i64 op, .int .i64 n, .string name, .slice Ax0_3 kids.length px0_3] 30)).cell? ⟨u0.heap.size, 1, none⟩ = some (.int .i64 n) := K0_1.cell 1
    have y6_4 : (u0.alloc (.cells #[.int .i64 op, .int .i64 n, .string name, .slice Ax0_3 kids.length px0_3] 30)).cell? ⟨u0.heap.size, 2, none⟩ = some (.string name) := K0_1.cell 2
    have y7_4 : (u0.alloc (.cells #[.int .i64 op, .int .i64 n, .string name, .slice Ax0_3 kids.length px0_3] 30)).cell? ⟨u0.heap.size, 3, none⟩ = some (.slice Ax0_3 kids.length px0_3) := K0_1.cell 3
    go_wp2_with fail
    refine (implVarsOf_u d op n name kids (.slice Ax0_3 kids.length px0_3)  _ (w3).heap.size u0.heap.size (by simp) hN0 h0 h1 h2 qx0_3_k0  (ht.below hk0 (Nat.le_refl _))).mono ?_
    rintro e g0 ⟨vg, rfl, hg, eg⟩
    have qg := hg false
    have tg := hg true
    clear hg
    obtain ⟨Ag, pg, hfg, _, _⟩ := qg.form
    subst hfg
    have tt : (u0.alloc (.cells #[.int .i64 op, .int .i64 n, .string name, .slice Ax0_3 kids.length px0_3] 30)).heap.size ≤ g0.heap.size := eg.size
    have hb5 : Below w.heap.size w g0 := hk0.trans (eg.mono hk0.size)
    have sz5 := eg.size
    have R5_0 := K0_0.below eg K0_0.lt
    have R5_1 := K0_1.below eg K0_1.lt
    have qw_5 := qw_k0.below eg (by first | omega | (simp; omega) | (simp at *; omega))
    have qx0_3_5 := qx0_3_k0.below eg (by first | omega | (simp; omega) | (simp at *; omega))
    have tx0_3_5 := tx0_3_k0.below eg (by first | omega | (simp; omega) | (simp at *; omega))
    clear y0_4 y1_4 y2_4 y3_4 y4_4 y5_4 y6_4 y7_4
    clear K0_0 K0_1 qw_k0 qx0_3_k0 tx0_3_k0
    have hRl : ((nmV 2 (.mk op n name kids))).length ≤ 1048576 := Nat.le_trans (nmV_len _ _) (by decide)
    have y0_5 : (g0).cell? ⟨w.heap.size, 0, none⟩ = some (.int .i64 op) := R5_0.cell 0
    have y1_5 : (g0).cell? ⟨w.heap.size, 1, none⟩ = some (.int .i64 n) := R5_0.cell 1
    have y2_5 : (g0).cell? ⟨w.heap.size, 2, none⟩ = some (.string name) := R5_0.cell 2
    have y3_5 : (g0).cell? ⟨w.heap.size, 3, none⟩ = some (v3) := R5_0.cell 3
    have y4_5 : (g0).cell? ⟨u0.heap.size, 0, none⟩ = some (.int .i64 op) := R5_1.cell 0
    have y5_5 : (g0).cell? ⟨u0.heap.size, 1, none⟩ = some (.int .i64 n) := R5_1.cell 1
    have y6_5 : (g0).cell? ⟨u0.heap.size, 2, none⟩ = some (.string name) := R5_1.cell 2
    have y7_5 : (g0).cell? ⟨u0.heap.size, 3, none⟩ = some (.slice Ax0_3 kids.length px0_3) := R5_1.cell 3
    go_wp2_with fail
    refine (eq_StringS ((nmV 2 (.mk op n name kids))) (.slice Ag ((nmV 2 (.mk op n name kids))).length pg) (.slice Aw ((nmV 2 (.mk op n name kids))).length pw) _ (u0.alloc (.cells #[.int .i64 op, .int .i64 n, .string name, .slice Ax0_3 kids.length px0_3] 30)).heap.size g0.heap.size w2.heap.size w3.heap.size (by omega) (by omega) qg qw_5).mono ?_
    rintro e g1 ⟨rfl, e_g1⟩
    have hb6 : Below w.heap.size w g1 := hb5.trans (e_g1.mono hb5.size)
    have sz6 := e_g1.size
    have R6_0 := R5_0.below e_g1 R5_0.lt
    have R6_1 := R5_1.below e_g1 R5_1.lt
    have qw_6 := qw_5.below e_g1 (by first | omega | (simp; omega) | (simp at *; omega))
    have qx0_3_6 := qx0_3_5.below e_g1 (by first | omega | (simp; omega) | (simp at *; omega))
    have tx0_3_6 := tx0_3_5.below e_g1 (by first | omega | (simp; omega) | (simp at *; omega))
    have qg_6 := qg.below e_g1 (by first | omega | (simp; omega) | (simp at *; omega))
    have tg_6 := tg.below e_g1 (by first | omega | (simp; omega) | (simp at *; omega))
    clear y0_5 y1_5 y2_5 y3_5 y4_5 y5_5 y6_5 y7_5
    clear R5_0 R5_1 qw_5 qx0_3_5 tx0_3_5 qg tg
    have y0_6 : (g1).cell? ⟨w.heap.size, 0, none⟩ = some (.int .i64 op) := R6_0.cell 0
    have y1_6 : (g1).cell? ⟨w.heap.size, 1, none⟩ = some (.int .i64 n) := R6_0.cell 1
    have y2_6 : (g1).cell? ⟨w.heap.size, 2, none⟩ = some (.string name) := R6_0.cell 2
    have y3_6 : (g1).cell? ⟨w.heap.size, 3, none⟩ = some (v3) := R6_0.cell 3
    have y4_6 : (g1).cell? ⟨u0.heap.size, 0, none⟩ = some (.int .i64 op) := R6_1.cell 0
    have y5_6 : (g1).cell? ⟨u0.heap.size, 1, none⟩ = some (.int .i64 n) := R6_1.cell 1
    have y6_6 : (g1).cell? ⟨u0.heap.size, 2, none⟩ = some (.string name) := R6_1.cell 2
    have y7_6 : (g1).cell? ⟨u0.heap.size, 3, none⟩ = some (.slice Ax0_3 kids.length px0_3) := R6_1.cell 3
    go_wp2_with fail
    have hbd0 : Below w.heap.size w g1.drew := hb6.drew
    have D0_0 : Row g1.drew (w.heap.size) 24 #[.int .i64 op, .int .i64 n, .string name, v3] := R6_0
    have D0_1 : Row g1.drew (u0.heap.size) 30 #[.int .i64 op, .int .i64 n, .string name, .slice Ax0_3 kids.length px0_3] := R6_1
    have dqw : Sl false (strS false) g1.drew w2.heap.size w3.heap.size (nmV 2 (.mk op n name kids)) (.slice Aw ((nmV 2 (.mk op n name kids))).length pw) := qw_6.keep (Nat.le_refl _) (Nat.le_refl _) (fun _ _ _ => rfl)
    have dqx0_3 : Sl false (exS false d) g1.drew (w3).heap.size u0.heap.size kids (.slice Ax0_3 kids.length px0_3) := qx0_3_6.keep (Nat.le_refl _) (Nat.le_refl _) (fun _ _ _ => rfl)
    have dtx0_3 : Sl true (exS true d) g1.drew (w3).heap.size u0.heap.size kids (.slice Ax0_3 kids.length px0_3) := tx0_3_6.keep (Nat.le_refl _) (Nat.le_refl _) (fun _ _ _ => rfl)
    have dqg : Sl false (strS false) g1.drew (u0.alloc (.cells #[.int .i64 op, .int .i64 n, .string name, .slice Ax0_3 kids.length px0_3] 30)).heap.size g0.heap.size (nmV 2 (.mk op n name kids)) (.slice Ag ((nmV 2 (.mk op n name kids))).length pg) := qg_6.keep (Nat.le_refl _) (Nat.le_refl _) (fun _ _ _ => rfl)
    have dtg : Sl true (strS true) g1.drew (u0.alloc (.cells #[.int .i64 op, .int .i64 n, .string name, .slice Ax0_3 kids.length px0_3] 30)).heap.size g0.heap.size (nmV 2 (.mk op n name kids)) (.slice Ag ((nmV 2 (.mk op n name kids))).length pg) := tg_6.keep (Nat.le_refl _) (Nat.le_refl _) (fun _ _ _ => rfl)
    have ts0 : g1.heap.size ≤ g1.drew.heap.size := Nat.le_refl _
    go_region_held3 (fun w' => w'.cell? ⟨w.heap.size, 0, none⟩ = some (.int .i64 op) ∧ w'.cell? ⟨w.heap.size, 1, none⟩ = some (.int .i64 n) ∧ w'.cell? ⟨w.heap.size, 2, none⟩ = some (.string name) ∧ w'.cell? ⟨w.heap.size, 3, none⟩ = some (v3) ∧ w'.cell? ⟨u0.heap.size, 0, none⟩ = some (.int .i64 op) ∧ w'.cell? ⟨u0.heap.size, 1, none⟩ = some (.int .i64 n) ∧ w'.cell? ⟨u0.heap.size, 2, none⟩ = some (.string name) ∧ w'.cell? ⟨u0.heap.size, 3, none⟩ = some (.slice Ax0_3 kids.length px0_3)) (refine ⟨?_, ?_, ?_, ?_, ?_, ?_, ?_, ?_⟩ <;> assumption) (first | (go_at_call 14; refine (to_Expr d op n name kids v3 g1.drew 0 w.heap.size hbd0.size hN0 h0 h1 h2 (h3.below hbd0 (Nat.le_refl _))).mono ?_; rintro e va0 ⟨cs, rfl, hx, ea0⟩; obtain ⟨xz0_3, hcs, -, -, -, qz0_3⟩ := ex_open d (hx false); change _ = [.int .i64 op, .int .i64 n, .string name, xz0_3] at hcs; subst hcs; clear hx; obtain ⟨Az0_3, pz0_3, hfz0_3, _, _⟩ := qz0_3.form; change _ = Value.slice Az0_3 kids.length pz0_3 at hfz0_3; subst hfz0_3; have hba0 : Below w.heap.size w va0 := hbd0.trans (ea0.mono hbd0.size); have sea0 := ea0.size; have P0_0 := D0_0.below ea0 D0_0.lt; have P0_1 := D0_1.below ea0 D0_1.lt; have m0_0_0 : va0.cell? ⟨w.heap.size, 0, none⟩ = some (.int .i64 op) := P0_0.cell 0; have m0_0_1 : va0.cell? ⟨w.heap.size, 1, none⟩ = some (.int .i64 n) := P0_0.cell 1; have m0_0_2 : va0.cell? ⟨w.heap.size, 2, none⟩ = some (.string name) := P0_0.cell 2; have m0_0_3 : va0.cell? ⟨w.heap.size, 3, none⟩ = some (v3) := P0_0.cell 3; have m0_1_0 : va0.cell? ⟨u0.heap.size, 0, none⟩ = some (.int .i64 op) := P0_1.cell 0; have m0_1_1 : va0.cell? ⟨u0.heap.size, 1, none⟩ = some (.int .i64 n) := P0_1.cell 1; have m0_1_2 : va0.cell? ⟨u0.heap.size, 2, none⟩ = some (.string name) := P0_1.cell 2; have m0_1_3 : va0.cell? ⟨u0.heap.size, 3, none⟩ = some (.slice Ax0_3 kids.length px0_3) := P0_1.cell 3) | (go_at_call 16; refine (eq_Expr d op n name kids (.slice Ax0_3 kids.length px0_3) (.slice Az0_3 kids.length pz0_3) va0 (w3).heap.size u0.heap.size g1.drew.heap.size va0.heap.size (by omega) (Nat.le_refl _) (dqx0_3.below ea0 (by omega)) qz0_3).mono ?_; rintro e vb0 ⟨rfl, eb0⟩; have hbb0 : Below w.heap.size w vb0 := hba0.trans (eb0.mono hba0.size); have seb0 := eb0.size; have Q0_0 := P0_0.below eb0 P0_0.lt; have Q0_1 := P0_1.below eb0 P0_1.lt; have n0_0_0 : vb0.cell? ⟨w.heap.size, 0, none⟩ = some (.int .i64 op) := Q0_0.cell 0; have n0_0_1 : vb0.cell? ⟨w.heap.size, 1, none⟩ = some (.int .i64 n) := Q0_0.cell 1; have n0_0_2 : vb0.cell? ⟨w.heap.size, 2, none⟩ = some (.string name) := Q0_0.cell 2; have n0_0_3 : vb0.cell? ⟨w.heap.size, 3, none⟩ = some (v3) := Q0_0.cell 3; have n0_1_0 : vb0.cell? ⟨u0.heap.size, 0, none⟩ = some (.int .i64 op) := Q0_1.cell 0; have n0_1_1 : vb0.cell? ⟨u0.heap.size, 1, none⟩ = some (.int .i64 n) := Q0_1.cell 1; have n0_1_2 : vb0.cell? ⟨u0.heap.size, 2, none⟩ = some (.string name) := Q0_1.cell 2; have n0_1_3 : vb0.cell? ⟨u0.heap.size, 3, none⟩ = some (.slice Ax0_3 kids.length px0_3) := Q0_1.cell 3))
    clear y0_6 y1_6 y2_6 y3_6 y4_6 y5_6 y6_6 y7_6
    have qw_f0 := (dqw.below ea0 (by omega)).below eb0 (by omega)
    have qx0_3_f0 := (dqx0_3.below ea0 (by omega)).below eb0 (by omega)
    have tx0_3_f0 := (dtx0_3.below ea0 (by omega)).below eb0 (by omega)
    have qg_f0 := (dqg.below ea0 (by omega)).below eb0 (by omega)
    have tg_f0 := (dtg.below ea0 (by omega)).below eb0 (by omega)
    clear m0_0_0 m0_0_1 m0_0_2 m0_0_3 m0_1_0 m0_1_1 m0_1_2 m0_1_3 n0_0_0 n0_0_1 n0_0_2 n0_0_3 n0_1_0 n0_1_1 n0_1_2 n0_1_3
    have y0_7 : (vb0).cell? ⟨w.heap.size, 0, none⟩ = some (.int .i64 op) := Q0_0.cell 0
    have y1_7 : (vb0).cell? ⟨w.heap.size, 1, none⟩ = some (.int .i64 n) := Q0_0.cell 1
    have y2_7 : (vb0).cell? ⟨w.heap.size, 2, none⟩ = some (.string name) := Q0_0.cell 2
    have y3_7 : (vb0).cell? ⟨w.heap.size, 3, none⟩ = some (v3) := Q0_0.cell 3
    have y4_7 : (vb0).cell? ⟨u0.heap.size, 0, none⟩ = some (.int .i64 op) := Q0_1.cell 0
    have y5_7 : (vb0).cell? ⟨u0.heap.size, 1, none⟩ = some (.int .i64 n) := Q0_1.cell 1
    have y6_7 : (vb0).cell? ⟨u0.heap.size, 2, none⟩ = some (.string name) := Q0_1.cell 2
    have y7_7 : (vb0).cell? ⟨u0.heap.size, 3, none⟩ = some (.slice Ax0_3 kids.length px0_3) := Q0_1.cell 3
    go_wp2_with fail
    have hPL0 : partsL kids ≤ 1048576 := by
      have h1 := partsL_le kids
      rw [exNs_eq] at h1
      omega
    refine (mark_Expr d op n name kids (.slice Ax0_3 kids.length px0_3) 1 _ (w3).heap.size u0.heap.size (by omega) (by omega) tx0_3_f0 (by first | omega | (simp; omega))).mono ?_
    rintro e m0 ⟨rk0, rfl, ka0, kb0, sf0⟩
    have hb8 : Below w.heap.size w m0 := hbb0.trans (sf0.below (by omega) hbb0.size)
    have sz8 : (vb0).heap.size ≤ m0.heap.size := sf0.size
    have R8_0 : Row m0 (w.heap.size) 24 #[.int .i64 op, .int .i64 n, .string name, v3] := Q0_0.soft sf0 (by omega)
    have R8_1 : Row m0 (u0.heap.size) 30 #[.int .i64 op, .int .i64 n, .string name, .slice Ax0_3 kids.length px0_3] := Q0_1.soft sf0 (by omega)
    have qw_8 : Sl false (strS false) m0 w2.heap.size w3.heap.size ((nmV 2 (.mk op n name kids))) (.slice Aw ((nmV 2 (.mk op n name kids))).length pw) := qw_f0.keep (Nat.le_refl _) (Nat.le_refl _) (sf0.same (by omega) (by omega))
    have qg_8 : Sl false (strS false) m0 (u0.alloc (.cells #[.int .i64 op, .int .i64 n, .string name, .slice Ax0_3 kids.length px0_3] 30)).heap.size g0.heap.size ((nmV 2 (.mk op n name kids))) (.slice Ag ((nmV 2 (.mk op n name kids))).length pg) := qg_f0.keep (Nat.le_refl _) (Nat.le_refl _) (sf0.same (by omega) (by omega))
    have tg_8 : Sl true (strS true) m0 (u0.alloc (.cells #[.int .i64 op, .int .i64 n, .string name, .slice Ax0_3 kids.length px0_3] 30)).heap.size g0.heap.size ((nmV 2 (.mk op n name kids))) (.slice Ag ((nmV 2 (.mk op n name kids))).length pg) := tg_f0.keep (Nat.le_refl _) (Nat.le_refl _) (sf0.same (by omega) (by omega))
    clear y0_7 y1_7 y2_7 y3_7 y4_7 y5_7 y6_7 y7_7
    clear Q0_0 Q0_1 qw_f0 qx0_3_f0 tx0_3_f0 qg_f0 tg_f0
    have hk0 : 0 ≤ rk0 := by omega
    have y0_8 : (m0).cell? ⟨w.heap.size, 0, none⟩ = some (.int .i64 op) := R8_0.cell 0
    have y1_8 : (m0).cell? ⟨w.heap.size, 1, none⟩ = some (.int .i64 n) := R8_0.cell 1
    have y2_8 : (m0).cell? ⟨w.heap.size, 2, none⟩ = some (.string name) := R8_0.cell 2
    have y3_8 : (m0).cell? ⟨w.heap.size, 3, none⟩ = some (v3) := R8_0.cell 3
    have y4_8 : (m0).cell? ⟨u0.heap.size, 0, none⟩ = some (.int .i64 op) := R8_1.cell 0
    have y5_8 : (m0).cell? ⟨u0.heap.size, 1, none⟩ = some (.int .i64 n) := R8_1.cell 1
    have y6_8 : (m0).cell? ⟨u0.heap.size, 2, none⟩ = some (.string name) := R8_1.cell 2
    have y7_8 : (m0).cell? ⟨u0.heap.size, 3, none⟩ = some (.slice Ax0_3 kids.length px0_3) := R8_1.cell 3
    go_wp2_with fail
    refine (eq_StringS ((nmV 2 (.mk op n name kids))) (.slice Ag ((nmV 2 (.mk op n name kids))).length pg) (.slice Aw ((nmV 2 (.mk op n name kids))).length pw) _ (u0.alloc (.cells #[.int .i64 op, .int .i64 n, .string name, .slice Ax0_3 kids.length px0_3] 30)).heap.size g0.heap.size w2.heap.size w3.heap.size (by omega) (by omega) qg_8 qw_8).mono ?_
    rintro e g2 ⟨rfl, e_g2⟩
    have hb9 : Below w.heap.size w g2 := hb8.trans (e_g2.mono hb8.size)
    have sz9 := e_g2.size
    have R9_0 := R8_0.below e_g2 R8_0.lt
    have R9_1 := R8_1.below e_g2 R8_1.lt
    have qw_9 := qw_8.below e_g2 (by first | omega | (simp; omega) | (simp at *; omega))
    have qg_9 := qg_8.below e_g2 (by first | omega | (simp; omega) | (simp at *; omega))
    have tg_9 := tg_8.below e_g2 (by first | omega | (simp; omega) | (simp at *; omega))
    clear y0_8 y1_8 y2_8 y3_8 y4_8 y5_8 y6_8 y7_8
    clear R8_0 R8_1 qw_8 qg_8 tg_8
    have y0_9 : (g2).cell? ⟨w.heap.size, 0, none⟩ = some (.int .i64 op) := R9_0.cell 0
    have y1_9 : (g2).cell? ⟨w.heap.size, 1, none⟩ = some (.int .i64 n) := R9_0.cell 1
    have y2_9 : (g2).cell? ⟨w.heap.size, 2, none⟩ = some (.string name) := R9_0.cell 2
    have y3_9 : (g2).cell? ⟨w.heap.size, 3, none⟩ = some (v3) := R9_0.cell 3
    have y4_9 : (g2).cell? ⟨u0.heap.size, 0, none⟩ = some (.int .i64 op) := R9_1.cell 0
    have y5_9 : (g2).cell? ⟨u0.heap.size, 1, none⟩ = some (.int .i64 n) := R9_1.cell 1
    have y6_9 : (g2).cell? ⟨u0.heap.size, 2, none⟩ = some (.string name) := R9_1.cell 2
    have y7_9 : (g2).cell? ⟨u0.heap.size, 3, none⟩ = some (.slice Ax0_3 kids.length px0_3) := R9_1.cell 3
    go_wp2_with fail
    refine (markx_StringS ((nmV 2 (.mk op n name kids))) (.slice Ag ((nmV 2 (.mk op n name kids))).length pg) 1 _ (u0.alloc (.cells #[.int .i64 op, .int .i64 n, .string name, .slice Ax0_3 kids.length px0_3] 30)).heap.size g0.heap.size (by omega) tg_9 (by first | omega | (simp; omega))).mono ?_
    rintro e g3 ⟨rfl, hm, sg⟩
    have hb10 : Below w.heap.size w g3 := hb9.trans (sg.below (by omega) hb9.size)
    have sz10 : (g2).heap.size ≤ g3.heap.size := sg.size
    have R10_0 : Row g3 (w.heap.size) 24 #[.int .i64 op, .int .i64 n, .string name, v3] := R9_0.soft sg (by omega)
    have R10_1 : Row g3 (u0.heap.size) 30 #[.int .i64 op, .int .i64 n, .string name, .slice Ax0_3 kids.length px0_3] := R9_1.soft sg (by omega)
    have qw_10 : Sl false (strS false) g3 w2.heap.size w3.heap.size ((nmV 2 (.mk op n name kids))) (.slice Aw ((nmV 2 (.mk op n name kids))).length pw) := qw_9.keep (Nat.le_refl _) (Nat.le_refl _) (sg.same (by omega) (by omega))
    clear y0_9 y1_9 y2_9 y3_9 y4_9 y5_9 y6_9 y7_9
    clear R9_0 R9_1 qw_9 qg_9 tg_9
    have hl0 : (0 : Int) ≤ (((nmV 2 (.mk op n name kids))).length : Int) := by omega
    have y0_10 : (g3).cell? ⟨w.heap.size, 0, none⟩ = some (.int .i64 op) := R10_0.cell 0
    have y1_10 : (g3).cell? ⟨w.heap.size, 1, none⟩ = some (.int .i64 n) := R10_0.cell 1
    have y2_10 : (g3).cell? ⟨w.heap.size, 2, none⟩ = some (.string name) := R10_0.cell 2
    have y3_10 : (g3).cell? ⟨w.heap.size, 3, none⟩ = some (v3) := R10_0.cell 3
    have y4_10 : (g3).cell? ⟨u0.heap.size, 0, none⟩ = some (.int .i64 op) := R10_1.cell 0
    have y5_10 : (g3).cell? ⟨u0.heap.size, 1, none⟩ = some (.int .i64 n) := R10_1.cell 1
    have y6_10 : (g3).cell? ⟨u0.heap.size, 2, none⟩ = some (.string name) := R10_1.cell 2
    have y7_10 : (g3).cell? ⟨u0.heap.size, 3, none⟩ = some (.slice Ax0_3 kids.length px0_3) := R10_1.cell 3
    go_wp2_with fail
    refine (held_StringS 1 ((nmV 2 (.mk op n name kids))).length (.slice Ag ((nmV 2 (.mk op n name kids))).length pg) _ (u0.alloc (.cells #[.int .i64 op, .int .i64 n, .string name, .slice Ax0_3 kids.length px0_3] 30)).heap.size g0.heap.size (by first | omega | (simp; omega)) (by omega) hm).mono ?_
    rintro e g4 ⟨rfl, e_g4⟩
    have hb11 : Below w.heap.size w g4 := hb10.trans (e_g4.mono hb10.size)
    have sz11 := e_g4.size
    have R11_0 := R10_0.below e_g4 R10_0.lt
    have R11_1 := R10_1.below e_g4 R10_1.lt
    have qw_11 := qw_10.below e_g4 (by first | omega | (simp; omega) | (simp at *; omega))
    have hm_11 := hm.below e_g4 (by first | omega | (simp; omega) | (simp at *; omega))
    clear y0_10 y1_10 y2_10 y3_10 y4_10 y5_10 y6_10 y7_10
    clear R10_0 R10_1 qw_10 hm
    have y0_11 : (g4).cell? ⟨w.heap.size, 0, none⟩ = some (.int .i64 op) := R11_0.cell 0
    have y1_11 : (g4).cell? ⟨w.heap.size, 1, none⟩ = some (.int .i64 n) := R11_0.cell 1
    have y2_11 : (g4).cell? ⟨w.heap.size, 2, none⟩ = some (.string name) := R11_0.cell 2
    have y3_11 : (g4).cell? ⟨w.heap.size, 3, none⟩ = some (v3) := R11_0.cell 3
    have y4_11 : (g4).cell? ⟨u0.heap.size, 0, none⟩ = some (.int .i64 op) := R11_1.cell 0
    have y5_11 : (g4).cell? ⟨u0.heap.size, 1, none⟩ = some (.int .i64 n) := R11_1.cell 1
    have y6_11 : (g4).cell? ⟨u0.heap.size, 2, none⟩ = some (.string name) := R11_1.cell 2
    have y7_11 : (g4).cell? ⟨u0.heap.size, 3, none⟩ = some (.slice Ax0_3 kids.length px0_3) := R11_1.cell 3
    go_wp2_with fail
    refine (to_Expr d op n name kids v3 _ 0 w.heap.size hb11.size hN0 h0 h1 h2 (h3.below hb11 (Nat.le_refl _))).mono ?_
    rintro e n0 ⟨cs, rfl, hx, en0⟩
    obtain ⟨xn_3, hcs, -, -, -, qn_3⟩ := ex_open d (hx false)
    change _ = [.int .i64 op, .int .i64 n, .string name, xn_3] at hcs
    subst hcs
    clear hx
    obtain ⟨An_3, pn_3, hfn_3, _, _⟩ := qn_3.form
    change _ = Value.slice An_3 kids.length pn_3 at hfn_3
    subst hfn_3
    have hb12 : Below w.heap.size w n0 := hb11.trans (en0.mono hb11.size)
    have sz12 := en0.size
    have R12_0 := R11_0.below en0 R11_0.lt
    have R12_1 := R11_1.below en0 R11_1.lt
    have qw_12 := qw_11.below en0 (by first | omega | (simp; omega) | (simp at *; omega))
    have hm_12 := hm_11.below en0 (by first | omega | (simp; omega) | (simp at *; omega))
    clear y0_11 y1_11 y2_11 y3_11 y4_11 y5_11 y6_11 y7_11
    clear R11_0 R11_1 qw_11 hm_11
    go_wp2_with fail
    refine (implVarsOf_u d op n name kids (.slice An_3 kids.length pn_3)  _ g4.heap.size n0.heap.size (Nat.le_refl _) hN0 h0 h1 h2 qn_3  (ht.below hb12 (Nat.le_refl _))).mono ?_
    rintro e n1 ⟨vh, rfl, hh, en1⟩
    have qh := hh false
    clear hh
    obtain ⟨Ah, ph, hfh, _, _⟩ := qh.form
    subst hfh
    have hb13 : Below w.heap.size w n1 := hb12.trans (en1.mono hb12.size)
    have sz13 := en1.size
    have R13_0 := R12_0.below en1 R12_0.lt
    have R13_1 := R12_1.below en1 R12_1.lt
    have qw_13 := qw_12.below en1 (by first | omega | (simp; omega) | (simp at *; omega))
    have hm_13 := hm_12.below en1 (by first | omega | (simp; omega) | (simp at *; omega))
    have qn_3_13 := qn_3.below en1 (by first | omega | (simp; omega) | (simp at *; omega))
    clear R12_0 R12_1 qw_12 hm_12 qn_3
    have y0_13 : (n1).cell? ⟨w.heap.size, 0, none⟩ = some (.int .i64 op) := R13_0.cell 0
    have y1_13 : (n1).cell? ⟨w.heap.size, 1, none⟩ = some (.int .i64 n) := R13_0.cell 1
    have y2_13 : (n1).cell? ⟨w.heap.size, 2, none⟩ = some (.string name) := R13_0.cell 2
    have y3_13 : (n1).cell? ⟨w.heap.size, 3, none⟩ = some (v3) := R13_0.cell 3
    have y4_13 : (n1).cell? ⟨u0.heap.size, 0, none⟩ = some (.int .i64 op) := R13_1.cell 0
    have y5_13 : (n1).cell? ⟨u0.heap.size, 1, none⟩ = some (.int .i64 n) := R13_1.cell 1
    have y6_13 : (n1).cell? ⟨u0.heap.size, 2, none⟩ = some (.string name) := R13_1.cell 2
    have y7_13 : (n1).cell? ⟨u0.heap.size, 3, none⟩ = some (.slice Ax0_3 kids.length px0_3) := R13_1.cell 3
    go_wp2_with fail
    refine (eq_StringS ((nmV 2 (.mk op n name kids))) (.slice Ah ((nmV 2 (.mk op n name kids))).length ph) (.slice Aw ((nmV 2 (.mk op n name kids))).length pw) _ n0.heap.size n1.heap.size w2.heap.size w3.heap.size (by omega) (by omega) qh qw_13).mono ?_
    rintro e n2 ⟨rfl, e_n2⟩
    have hb14 : Below w.heap.size w n2 := hb13.trans (e_n2.mono hb13.size)
    have sz14 := e_n2.size
    have R14_0 := R13_0.below e_n2 R13_0.lt
    have R14_1 := R13_1.below e_n2 R13_1.lt
    have qw_14 := qw_13.below e_n2 (by first | omega | (simp; omega) | (simp at *; omega))
    have hm_14 := hm_13.below e_n2 (by first | omega | (simp; omega) | (simp at *; omega))
    have qn_3_14 := qn_3_13.below e_n2 (by first | omega | (simp; omega) | (simp at *; omega))
    have qh_14 := qh.below e_n2 (by first | omega | (simp; omega) | (simp at *; omega))
    clear y0_13 y1_13 y2_13 y3_13 y4_13 y5_13 y6_13 y7_13
    clear R13_0 R13_1 qw_13 hm_13 qn_3_13 qh
    have y0_14 : (n2).cell? ⟨w.heap.size, 0, none⟩ = some (.int .i64 op) := R14_0.cell 0
    have y1_14 : (n2).cell? ⟨w.heap.size, 1, none⟩ = some (.int .i64 n) := R14_0.cell 1
    have y2_14 : (n2).cell? ⟨w.heap.size, 2, none⟩ = some (.string name) := R14_0.cell 2
    have y3_14 : (n2).cell? ⟨w.heap.size, 3, none⟩ = some (v3) := R14_0.cell 3
    have y4_14 : (n2).cell? ⟨u0.heap.size, 0, none⟩ = some (.int .i64 op) := R14_1.cell 0
    have y5_14 : (n2).cell? ⟨u0.heap.size, 1, none⟩ = some (.int .i64 n) := R14_1.cell 1
    have y6_14 : (n2).cell? ⟨u0.heap.size, 2, none⟩ = some (.string name) := R14_1.cell 2
    have y7_14 : (n2).cell? ⟨u0.heap.size, 3, none⟩ = some (.slice Ax0_3 kids.length px0_3) := R14_1.cell 3
    go_wp2_with fail
    refine (held_StringS 1 ((nmV 2 (.mk op n name kids))).length (.slice Ag ((nmV 2 (.mk op n name kids))).length pg) _ (u0.alloc (.cells #[.int .i64 op, .int .i64 n, .string name, .slice Ax0_3 kids.length px0_3] 30)).heap.size g0.heap.size (by first | omega | (simp; omega)) (by omega) hm_14).mono ?_
    rintro e n3 ⟨rfl, e_n3⟩
    have hb15 : Below w.heap.size w n3 := hb14.trans (e_n3.mono hb14.size)
    have sz15 := e_n3.size
    have R15_0 := R14_0.below e_n3 R14_0.lt
    have R15_1 := R14_1.below e_n3 R14_1.lt
    have qw_15 := qw_14.below e_n3 (by first | omega | (simp; omega) | (simp at *; omega))
    have hm_15 := hm_14.below e_n3 (by first | omega | (simp; omega) | (simp at *; omega))
    have qn_3_15 := qn_3_14.below e_n3 (by first | omega | (simp; omega) | (simp at *; omega))
    have qh_15 := qh_14.below e_n3 (by first | omega | (simp; omega) | (simp at *; omega))
    clear y0_14 y1_14 y2_14 y3_14 y4_14 y5_14 y6_14 y7_14
    clear R14_0 R14_1 qw_14 hm_14 qn_3_14 qh_14
    go_wp2_with fail
    go_ret
    exact ⟨rfl, hb15⟩

set_option maxRecDepth 100000 in
theorem fnExactVarsOf_lifted (os : Os) (started : os.Started) (H : Type) (enc : TypeId × Value → H) :
    ReturnsInHanded {} Tryd.checked os 9 .any (fun w args => (Rows.fnExactVarsOfSpec.pre enc Tryd.prog Tryd.f9 [] false w args ∧ laidMetH Tryd.prog [("loop.example/wholeway/impl.keys", Rows.laid_loop_example_wholeway_impl_keys), ("loop.example/wholeway/impl.opSign", Rows.laid_loop_example_wholeway_impl_opSign)] w) ∧ sizedMet enc Tryd.prog Tryd.f9 (OpenSpec.ofChange Rows.fnExactVarsOfSpec) false w args) (Rows.fnExactVarsOfSpec.post enc Tryd.prog Tryd.f9 false true false false) := by
  refine returnsInHanded_of_change_and (C := Tryd.checked) (X := fun w _ => laidMetH Tryd.prog [("loop.example/wholeway/impl.keys", Rows.laid_loop_example_wholeway_impl_keys), ("loop.example/wholeway/impl.opSign", Rows.laid_loop_example_wholeway_impl_opSign)] w) (fun _ _ _ hh h => h.of_heap hh) own started (by kernel_rfl) Tryd.func9
    (ChangeSpec.witness_shaped (enc := enc) (C := Tryd.checked) (os := os) (X := fun w _ => laidMetH Tryd.prog [("loop.example/wholeway/impl.keys", Rows.laid_loop_example_wholeway_impl_keys), ("loop.example/wholeway/impl.opSign", Rows.laid_loop_example_wholeway_impl_opSign)] w) false (World.doorLaid Tryd.prog 400 os) #[.agg #[.int .i64 0, .int .i64 0, .string ⟨#[]⟩, .slice none 0 0]] 8 rfl (World.shaped_of_RefB (by kernel_rfl) (by kernel_rfl)) (by kernel_rfl) (by kernel_rfl) (by kernel_rfl) (door_met os _)) ?_
  intro W base args ds gs before hval0 hW _ _ hL _
  have hval : ∀ (j : Nat) t v, Tryd.f9.params[j]? = some t → args[j]? = some v → Value.okWide Tryd.prog W .any base t v := hval0
  obtain ⟨p, q, hA0, hV, hrest⟩ := id hW
  have hA : DataW.TrodAll enc Tryd.prog W 0 (fun _ => true) true Tryd.f9.params.toList args.toList ds p := hA0
  rw [Tryd.params9] at hA hval
  obtain ⟨v0, d0, rfl, rfl, h0⟩ := trodAll_one hA
  obtain ⟨gv0, gv1, rfl⟩ := two_vars hV
  obtain ⟨cs0, rfl, -⟩ := okWide_struct Tryd.underlying24 (hval 0 _ v0 rfl rfl)
  obtain ⟨fuel0, hf0⟩ := h0
  obtain ⟨da0, ha0⟩ := dec_Expr_at fuel0 (Nat.le_refl _) hf0
  obtain ⟨fu0, rfl⟩ : ∃ n, fuel0 = n + 1 := by
    cases fuel0 with
    | zero => exact ha0.elim
    | succ n => exact ⟨n, rfl⟩
  obtain ⟨s0_3, e0, g0_0, g0_1, g0_2, g0_3⟩ := ex_open fu0 ha0
  obtain ⟨t0_0, t0_1, t0_2, t0_3⟩ := da0
  obtain ⟨cs0⟩ := cs0
  simp only [Value.cells] at e0
  subst e0
  have hcall := law_FnExactVarsOf fu0 t0_0 t0_1 t0_2 t0_3 s0_3  W g0_0 g0_1 g0_2 g0_3  (tabs_of hL)
  refine hcall.mono fun e W' ⟨he, hb⟩ => ?_
  subst he
  exact ⟨_, rfl, post_true_vars laidO hW (by kernel_rfl) Tryd.underlying4 (by rw [Tryd.params9]; intro t ht; simp only [List.mem_cons, List.not_mem_nil, or_false] at ht; subst ht; exact ⟨by kernel_rfl, of_decide_eq_true (by kernel_rfl)⟩) vars_ok rfl rfl rfl hb⟩

set_option maxRecDepth 100000 in
set_option maxHeartbeats 1000000 in
theorem fnExactVarsOf_facts : joinedFacts Tryd.prog 9 Tryd.f9 Rows.fnExactVarsOfSpec Rows.fnExactVarsOfRow = true := by
  unfold joinedFacts
  exact and_mk (and_mk (and_mk (and_mk (and_mk (and_mk (and_mk (and_mk (and_mk (and_mk (and_mk (and_mk (and_mk (and_mk (and_mk (and_mk (and_mk (and_mk (and_mk (and_mk (and_mk (and_mk (and_mk (and_mk (and_mk (and_mk (and_mk (and_mk (and_mk (and_mk (and_mk (by as_aux_lemma => kernel_rfl) laidO) mapsRowedO) (by as_aux_lemma => kernel_rfl)) (by as_aux_lemma => kernel_rfl)) (by as_aux_lemma => kernel_rfl)) (by as_aux_lemma => kernel_rfl)) (by as_aux_lemma => kernel_rfl)) (by as_aux_lemma => kernel_rfl)) (by as_aux_lemma => kernel_rfl)) (by as_aux_lemma => kernel_rfl)) (by as_aux_lemma => kernel_rfl)) (by as_aux_lemma => kernel_rfl)) (by as_aux_lemma => kernel_rfl)) (by as_aux_lemma => kernel_rfl)) (by as_aux_lemma => kernel_rfl)) (by as_aux_lemma => kernel_rfl)) (by as_aux_lemma => kernel_rfl)) (by as_aux_lemma => kernel_rfl)) (by as_aux_lemma => kernel_rfl)) (by as_aux_lemma => kernel_rfl)) (by as_aux_lemma => kernel_rfl)) (by rw [plainKeysO]; rfl)) (by as_aux_lemma => kernel_rfl)) stopsHeardO) mayEnter) (by rw [liftsFinal]; rfl)) (by rw [makeCut]; rfl)) (by as_aux_lemma => kernel_rfl)) (by as_aux_lemma => kernel_rfl)) (by as_aux_lemma => kernel_rfl)) (by as_aux_lemma => kernel_rfl)

theorem fnExactVarsOf_said : Rows.FnExactVarsOfSaid :=
  OpenClaim.holds_of_wide 9 Tryd.f9 rfl rfl rfl rfl rfl rfl rfl ⟨rfl, rfl, rfl, rfl, rfl⟩ rfl rfl rfl rfl rfl (by kernel_rfl) Tryd.func9 fnExactVarsOf_facts
    (of_decide_eq_true (by kernel_rfl)) (by unfold Func.isWrapper; first | (rw [if_pos (by decide +kernel)]; kernel_rfl) | (rw [if_neg (by decide +kernel)]; exact ⟨rfl, rfl⟩))
    (fun os started H enc _ => fnExactVarsOf_lifted os started H enc)

/-- no parameter wants a stand-in -/
theorem fnExactVarsOf_plain (f : FuncId) (fn : Func) (hf : Tryd.pinned.checked.prog.funcNamed "loop.example/wholeway/laws.FnExactVarsOf" = some f) (hfn : Tryd.pinned.checked.prog.funcs[f]? = some fn) :
    true = Tryd.pinned.checked.prog.looks [] ∧ ∀ (j : Nat) t, fn.params[j]? = some t → Tryd.pinned.checked.prog.wantsStandIn t = false := by
  obtain rfl : f = 9 := Option.some.inj ((show Tryd.prog.funcNamed "loop.example/wholeway/laws.FnExactVarsOf" = some 9 by kernel_rfl).symm.trans hf) |>.symm
  obtain rfl : fn = Tryd.f9 := (Option.some.inj (Tryd.func9.symm.trans hfn)).symm
  refine ⟨by kernel_rfl, fun j t ht => ?_⟩
  rw [Tryd.params9] at ht
  have hm : t ∈ [24] := by simpa using Array.mem_of_getElem? ht
  have hall : ([24].all fun u => !Tryd.prog.wantsStandIn u) = true := by kernel_rfl
  exact (show Tryd.prog.wantsStandIn t = false by simpa using List.all_eq_true.1 hall t hm)
theorem fnExactVarsOf_holds : Rows.FnExactVarsOfCardSaid :=
  Claim7.holds_tied_plain_at .later [] _ _ _ _ fnExactVarsOf_said (fun _ h => by cases h) (by kernel_rfl) (fun _ h => by cases h) fnExactVarsOf_row_tie rfl ⟨rfl, rfl⟩ (by kernel_rfl) rfl fnExactVarsOf_plain (by kernel_rfl)

end Go.Proofs.YtnamciblapddbaaDoor

