/-
  The eq.. functions: at equal data they answer true. Conditions: the arguments read as data.
-/
import Derived.Test.YtbikgakoeheahaaGreatDoorTo
import Derived.StillTailTactics
import Derived.Deep.QuietTactic
import Derived.BigQuiet
namespace Go.Proofs.YtbikgakoeheahaaGreatDoor
open Go.RowKit Go.ChangeShapes Go.WideShapes Go.Deep

theorem below_drewN {B : Nat} {a w : World} (h : Below B a w) (n : Nat) : Below B a (w.drewN n) := ⟨h.os, h.tape, h.output, h.size, h.block⟩

/-- it answers true and leaves what was there -/
def Yes (w : World) (e : Ending) (w' : World) : Prop := e = .returned (.bool true) ∧ Below w.heap.size w w'

theorem eq_StringS (l : List ByteArray) (v u : Value) (w : World) (lo B lo' B' : Nat) (hB : B ≤ w.heap.size) (hC : B' ≤ w.heap.size) (hv : Sl false (strS false) w lo B l v) (hu : Sl false (strS false) w lo' B' l u) :
    Calls Tryz.prog 65 #[v, u] w (Yes w) := by
  obtain ⟨A, cap, rfl, hlc, hcm⟩ := hv.form
  obtain ⟨A2, cap2, rfl, hlc2, hcm2⟩ := hu.form
  go_enter Tryz.func65, Tryz.ntmps65
  go_wp2_with fail
  go_loopw [5] (fun i wr => ∃ k : Nat, k ≤ l.length ∧ i = .int .i64 k ∧ Below w.heap.size w wr) (fun i _ => l.length - (intOf i).toNat)
  case atStart => exact ⟨0, by omega, rfl, Below.refl _ _⟩
  case round =>
    obtain ⟨k, hk, rfl, hb⟩ := hrel
    have hsz := hb.size
    by_cases hkl : k < l.length
    · obtain ⟨b, o, a, rfl, _, _, HL, ha, c0⟩ := str_get (hv.below hb hB) hkl
      obtain ⟨b2, o2, a2, rfl, _, _, HL2, _, c1⟩ := str_get (hu.below hb hC) hkl
      obtain rfl : a = a2 := HL.out.symm.trans HL2.out
      have hki : (0 : Int) ≤ (k : Int) := by omega
      have hkn : (k : Int) < (l.length : Int) := by omega
      go_wp2_with fail
      go_quiet (fail)
      go_wp2_with fail
      go_roundw
      case rel => exact ⟨k + 1, by omega, by go_num, below_drewN hb _⟩
      case measure => simp [intOf]; omega
    · go_wp2_with fail
      go_ret
      exact ⟨rfl, hb⟩

theorem eq_Expr_of (d : Nat) (HExprS : ∀ (l : List Ex) (v u : Value) (w : World) (lo B lo' B' : Nat) (_ : B ≤ w.heap.size) (_ : B' ≤ w.heap.size) (_ : Sl false (exS false d) w lo B l v) (_ : Sl false (exS false d) w lo' B' l u), Calls Tryz.prog 103 #[v, u] w (Yes w)) (op : Int) (n : Int) (name : ByteArray) (kids : List Ex) (v3 u3 : Value) (w : World) (lo B lo' B' : Nat) (hB : B ≤ w.heap.size) (hC : B' ≤ w.heap.size) (h3 : Sl false (exS false d) w lo B kids v3) (k3 : Sl false (exS false d) w lo' B' kids u3) :
    Calls Tryz.prog 119 #[.agg #[.int .i64 op, .int .i64 n, .string name, v3], .agg #[.int .i64 op, .int .i64 n, .string name, u3]] w (Yes w) := by
  have KExprS := Lib.hid HExprS
  clear HExprS
  have hb0 : Below w.heap.size w ((w.alloc (.cells #[.int .i64 op, .int .i64 n, .string name, v3] 90)).alloc (.cells #[.int .i64 op, .int .i64 n, .string name, u3] 90)) := ((Below.refl _ _).alloc (Nat.le_refl _) _).alloc (by simp) _
  go_enter Tryz.func119, Tryz.ntmps119
  go_wp2_with fail
  refine (KExprS.out kids v3 u3 _ lo B lo' B' (Nat.le_trans hB hb0.size) (Nat.le_trans hC hb0.size) (h3.below hb0 hB) (k3.below hb0 hC)).mono ?_
  rintro e w1 ⟨rfl, e1⟩
  have hb1 : Below w.heap.size w w1 := hb0.trans (e1.mono hb0.size)
  have P1 : Row w1 w.heap.size 90 #[.int .i64 op, .int .i64 n, .string name, v3] := ((Row.new w _ _).alloc _).below e1 (by simp; omega)
  have Q1 : Row w1 (w.heap.size + 1) 90 #[.int .i64 op, .int .i64 n, .string name, u3] := (show Row ((w.alloc (.cells #[.int .i64 op, .int .i64 n, .string name, v3] 90)).alloc (.cells #[.int .i64 op, .int .i64 n, .string name, u3] 90)) (w.heap.size + 1) _ _ by simpa using Row.new (w.alloc (.cells #[.int .i64 op, .int .i64 n, .string name, v3] 90)) 90 #[.int .i64 op, .int .i64 n, .string name, u3]).below e1 (by simp)
  go_wp2_with fail
  go_ret
  exact ⟨rfl, hb1⟩

set_option maxRecDepth 100000 in
theorem eq_ExprS_of (D : Nat) (HExpr : ∀ d, D = d + 1 → ∀ (op : Int) (n : Int) (name : ByteArray) (kids : List Ex) (v3 u3 : Value) (w : World) (lo B lo' B' : Nat) (_ : B ≤ w.heap.size) (_ : B' ≤ w.heap.size) (_ : Sl false (exS false d) w lo B kids v3) (_ : Sl false (exS false d) w lo' B' kids u3), Calls Tryz.prog 119 #[.agg #[.int .i64 op, .int .i64 n, .string name, v3], .agg #[.int .i64 op, .int .i64 n, .string name, u3]] w (Yes w)) (l : List Ex) (v u : Value) (w : World) (lo B lo' B' : Nat) (hB : B ≤ w.heap.size) (hC : B' ≤ w.heap.size) (hv : Sl false (exS false D) w lo B l v) (hu : Sl false (exS false D) w lo' B' l u) :
    Calls Tryz.prog 103 #[v, u] w (Yes w) := by
  have KExpr := Lib.hid HExpr
  clear HExpr
  obtain ⟨A, cap, rfl, hlc, hcm⟩ := hv.form
  obtain ⟨A2, cap2, rfl, hlc2, hcm2⟩ := hu.form
  go_enter Tryz.func103, Tryz.ntmps103
  go_wp2_with fail
  go_loopw [5] (fun i wr => ∃ k : Nat, k ≤ l.length ∧ i = .int .i64 k ∧ Below w.heap.size w wr) (fun i _ => l.length - (intOf i).toNat)
  case atStart => exact ⟨0, by omega, rfl, Below.refl _ _⟩
  case round =>
    obtain ⟨k, hk, rfl, hb⟩ := hrel
    have hsz := hb.size
    by_cases hkl : k < l.length
    · obtain ⟨d, rfl⟩ := exS_pos hv (by omega)
      obtain ⟨b, o, op, n, name, kids, v3, rfl, _, _, HL, g0, g1, g2, g3, c0, c1, c2, c3⟩ := ex_get d (hv.below hb hB) hkl
      obtain ⟨b2, o2, op', n', name', kids', u3, rfl, _, _, HL2, m0, m1, m2, m3, t0, t1, t2, t3⟩ := ex_get d (hu.below hb hC) hkl
      have HI := HL.out.symm.trans HL2.out
      injection HI with q0 q1 q2 q3
      subst q0 q1 q2 q3
      clear HL HL2
      have hki : (0 : Int) ≤ (k : Int) := by omega
      have hkn : (k : Int) < (l.length : Int) := by omega
      go_wp2_with fail
      go_still_tail 8, (by kernel_rfl)
      have hbd : Below w.heap.size w wr.drew := hb.drew
      have D3 : Sl false (exS false d) wr.drew lo B kids v3 := g3.keep (Nat.le_refl _) (Nat.le_refl _) (fun _ _ _ => rfl)
      have E3 : Sl false (exS false d) wr.drew lo' B' kids u3 := m3.keep (Nat.le_refl _) (Nat.le_refl _) (fun _ _ _ => rfl)
      change wpList _ _ _ _ _ wr.drew
      generalize wr.drew = w2 at hbd D3 E3 ⊢
      have hsz2 := hbd.size
      go_wp2_with fail
      refine (KExpr.out d rfl op n name kids v3 u3 _ lo B lo' B' (by omega) (by omega) D3 E3).mono ?_
      rintro e w3 ⟨rfl, hb1⟩
      go_wp2_with fail
      go_roundw
      case rel => exact ⟨k + 1, by omega, by go_num, hbd.trans (hb1.mono hbd.size)⟩
      case measure => simp [intOf]; omega
    · go_wp2_with fail
      go_ret
      exact ⟨rfl, hb⟩

theorem eq_ExprS : ∀ d : Nat, ∀ (l : List Ex) (v u : Value) (w : World) (lo B lo' B' : Nat) (_ : B ≤ w.heap.size) (_ : B' ≤ w.heap.size) (_ : Sl false (exS false d) w lo B l v) (_ : Sl false (exS false d) w lo' B' l u), Calls Tryz.prog 103 #[v, u] w (Yes w) := by
  intro d
  induction d with
  | zero => exact eq_ExprS_of 0 (fun d h => by omega)
  | succ d ih =>
    refine eq_ExprS_of (d + 1) (fun d' h => ?_)
    obtain rfl : d = d' := by omega
    exact eq_Expr_of d ih
theorem eq_Stmt_of (d : Nat) (HStmtS : ∀ (l : List St) (v u : Value) (w : World) (lo B lo' B' : Nat) (_ : B ≤ w.heap.size) (_ : B' ≤ w.heap.size) (_ : Sl false (stS false d) w lo B l v) (_ : Sl false (stS false d) w lo' B' l u), Calls Tryz.prog 66 #[v, u] w (Yes w)) (op : Int) (name : ByteArray) (args : List Ex) (v2 u2 : Value) (body : List St) (v3 u3 : Value) (els : List St) (v4 u4 : Value) (w : World) (lo B lo' B' : Nat) (hB : B ≤ w.heap.size) (hC : B' ≤ w.heap.size) (h2 : Sl false (exS false d) w lo B args v2) (k2 : Sl false (exS false d) w lo' B' args u2) (h3 : Sl false (stS false d) w lo B body v3) (k3 : Sl false (stS false d) w lo' B' body u3) (h4 : Sl false (stS false d) w lo B els v4) (k4 : Sl false (stS false d) w lo' B' els u4) :
    Calls Tryz.prog 87 #[.agg #[.int .i64 op, .string name, v2, v3, v4], .agg #[.int .i64 op, .string name, u2, u3, u4]] w (Yes w) := by
  have KStmtS := Lib.hid HStmtS
  clear HStmtS
  have hb0 : Below w.heap.size w ((w.alloc (.cells #[.int .i64 op, .string name, v2, v3, v4] 76)).alloc (.cells #[.int .i64 op, .string name, u2, u3, u4] 76)) := ((Below.refl _ _).alloc (Nat.le_refl _) _).alloc (by simp) _
  go_enter Tryz.func87, Tryz.ntmps87
  go_wp2_with fail
  refine (eq_ExprS d args v2 u2 _ lo B lo' B' (Nat.le_trans hB hb0.size) (Nat.le_trans hC hb0.size) (h2.below hb0 hB) (k2.below hb0 hC)).mono ?_
  rintro e w1 ⟨rfl, e1⟩
  have hb1 : Below w.heap.size w w1 := hb0.trans (e1.mono hb0.size)
  have P1 : Row w1 w.heap.size 76 #[.int .i64 op, .string name, v2, v3, v4] := ((Row.new w _ _).alloc _).below e1 (by simp; omega)
  have Q1 : Row w1 (w.heap.size + 1) 76 #[.int .i64 op, .string name, u2, u3, u4] := (show Row ((w.alloc (.cells #[.int .i64 op, .string name, v2, v3, v4] 76)).alloc (.cells #[.int .i64 op, .string name, u2, u3, u4] 76)) (w.heap.size + 1) _ _ by simpa using Row.new (w.alloc (.cells #[.int .i64 op, .string name, v2, v3, v4] 76)) 76 #[.int .i64 op, .string name, u2, u3, u4]).below e1 (by simp)
  have y1_3 : w1.cell? ⟨w.heap.size, 3, none⟩ = some (v3) := P1.cell 3
  have z1_3 : w1.cell? ⟨w.heap.size + 1, 3, none⟩ = some (u3) := Q1.cell 3
  have y1_4 : w1.cell? ⟨w.heap.size, 4, none⟩ = some (v4) := P1.cell 4
  have z1_4 : w1.cell? ⟨w.heap.size + 1, 4, none⟩ = some (u4) := Q1.cell 4
  go_wp2_with fail
  refine (KStmtS.out body v3 u3 _ lo B lo' B' (Nat.le_trans hB hb1.size) (Nat.le_trans hC hb1.size) (h3.below hb1 hB) (k3.below hb1 hC)).mono ?_
  rintro e w2 ⟨rfl, e2⟩
  have hb2 : Below w.heap.size w w2 := hb1.trans (e2.mono hb1.size)
  have P2 := P1.below e2 P1.lt
  have Q2 := Q1.below e2 Q1.lt
  have y2_4 : w2.cell? ⟨w.heap.size, 4, none⟩ = some (v4) := P2.cell 4
  have z2_4 : w2.cell? ⟨w.heap.size + 1, 4, none⟩ = some (u4) := Q2.cell 4
  go_wp2_with fail
  refine (KStmtS.out els v4 u4 _ lo B lo' B' (Nat.le_trans hB hb2.size) (Nat.le_trans hC hb2.size) (h4.below hb2 hB) (k4.below hb2 hC)).mono ?_
  rintro e w3 ⟨rfl, e3⟩
  have hb3 : Below w.heap.size w w3 := hb2.trans (e3.mono hb2.size)
  have P3 := P2.below e3 P2.lt
  have Q3 := Q2.below e3 Q2.lt
  go_wp2_with fail
  go_ret
  exact ⟨rfl, hb3⟩

set_option maxRecDepth 100000 in
theorem eq_StmtS_of (D : Nat) (HStmt : ∀ d, D = d + 1 → ∀ (op : Int) (name : ByteArray) (args : List Ex) (v2 u2 : Value) (body : List St) (v3 u3 : Value) (els : List St) (v4 u4 : Value) (w : World) (lo B lo' B' : Nat) (_ : B ≤ w.heap.size) (_ : B' ≤ w.heap.size) (_ : Sl false (exS false d) w lo B args v2) (_ : Sl false (exS false d) w lo' B' args u2) (_ : Sl false (stS false d) w lo B body v3) (_ : Sl false (stS false d) w lo' B' body u3) (_ : Sl false (stS false d) w lo B els v4) (_ : Sl false (stS false d) w lo' B' els u4), Calls Tryz.prog 87 #[.agg #[.int .i64 op, .string name, v2, v3, v4], .agg #[.int .i64 op, .string name, u2, u3, u4]] w (Yes w)) (l : List St) (v u : Value) (w : World) (lo B lo' B' : Nat) (hB : B ≤ w.heap.size) (hC : B' ≤ w.heap.size) (hv : Sl false (stS false D) w lo B l v) (hu : Sl false (stS false D) w lo' B' l u) :
    Calls Tryz.prog 66 #[v, u] w (Yes w) := by
  have KStmt := Lib.hid HStmt
  clear HStmt
  obtain ⟨A, cap, rfl, hlc, hcm⟩ := hv.form
  obtain ⟨A2, cap2, rfl, hlc2, hcm2⟩ := hu.form
  go_enter Tryz.func66, Tryz.ntmps66
  go_wp2_with fail
  go_loopw [5] (fun i wr => ∃ k : Nat, k ≤ l.length ∧ i = .int .i64 k ∧ Below w.heap.size w wr) (fun i _ => l.length - (intOf i).toNat)
  case atStart => exact ⟨0, by omega, rfl, Below.refl _ _⟩
  case round =>
    obtain ⟨k, hk, rfl, hb⟩ := hrel
    have hsz := hb.size
    by_cases hkl : k < l.length
    · obtain ⟨d, rfl⟩ := stS_pos hv (by omega)
      obtain ⟨b, o, op, name, args, v2, body, v3, els, v4, rfl, _, _, HL, g0, g1, g2, g3, g4, c0, c1, c2, c3, c4⟩ := st_get d (hv.below hb hB) hkl
      obtain ⟨b2, o2, op', name', args', u2, body', u3, els', u4, rfl, _, _, HL2, m0, m1, m2, m3, m4, t0, t1, t2, t3, t4⟩ := st_get d (hu.below hb hC) hkl
      have HI := HL.out.symm.trans HL2.out
      injection HI with q0 q1 q2 q3 q4
      subst q0 q1 q2 q3 q4
      clear HL HL2
      have hki : (0 : Int) ≤ (k : Int) := by omega
      have hkn : (k : Int) < (l.length : Int) := by omega
      go_wp2_with fail
      go_still_tail 8, (by kernel_rfl)
      have hbd : Below w.heap.size w wr.drew := hb.drew
      have D2 : Sl false (exS false d) wr.drew lo B args v2 := g2.keep (Nat.le_refl _) (Nat.le_refl _) (fun _ _ _ => rfl)
      have E2 : Sl false (exS false d) wr.drew lo' B' args u2 := m2.keep (Nat.le_refl _) (Nat.le_refl _) (fun _ _ _ => rfl)
      have D3 : Sl false (stS false d) wr.drew lo B body v3 := g3.keep (Nat.le_refl _) (Nat.le_refl _) (fun _ _ _ => rfl)
      have E3 : Sl false (stS false d) wr.drew lo' B' body u3 := m3.keep (Nat.le_refl _) (Nat.le_refl _) (fun _ _ _ => rfl)
      have D4 : Sl false (stS false d) wr.drew lo B els v4 := g4.keep (Nat.le_refl _) (Nat.le_refl _) (fun _ _ _ => rfl)
      have E4 : Sl false (stS false d) wr.drew lo' B' els u4 := m4.keep (Nat.le_refl _) (Nat.le_refl _) (fun _ _ _ => rfl)
      change wpList _ _ _ _ _ wr.drew
      generalize wr.drew = w2 at hbd D2 E2 D3 E3 D4 E4 ⊢
      have hsz2 := hbd.size
      go_wp2_with fail
      refine (KStmt.out d rfl op name args v2 u2 body v3 u3 els v4 u4 _ lo B lo' B' (by omega) (by omega) D2 E2 D3 E3 D4 E4).mono ?_
      rintro e w3 ⟨rfl, hb1⟩
      go_wp2_with fail
      go_roundw
      case rel => exact ⟨k + 1, by omega, by go_num, hbd.trans (hb1.mono hbd.size)⟩
      case measure => simp [intOf]; omega
    · go_wp2_with fail
      go_ret
      exact ⟨rfl, hb⟩

theorem eq_StmtS : ∀ d : Nat, ∀ (l : List St) (v u : Value) (w : World) (lo B lo' B' : Nat) (_ : B ≤ w.heap.size) (_ : B' ≤ w.heap.size) (_ : Sl false (stS false d) w lo B l v) (_ : Sl false (stS false d) w lo' B' l u), Calls Tryz.prog 66 #[v, u] w (Yes w) := by
  intro d
  induction d with
  | zero => exact eq_StmtS_of 0 (fun d h => by omega)
  | succ d ih =>
    refine eq_StmtS_of (d + 1) (fun d' h => ?_)
    obtain rfl : d = d' := by omega
    exact eq_Stmt_of d ih
theorem eq_Fn (d : Nat) (name : ByteArray) (params : List ByteArray) (v1 u1 : Value) (body : List St) (v2 u2 : Value) (w : World) (lo B lo' B' : Nat) (hB : B ≤ w.heap.size) (hC : B' ≤ w.heap.size) (h1 : Sl false (strS false) w lo B params v1) (k1 : Sl false (strS false) w lo' B' params u1) (h2 : Sl false (stS false d) w lo B body v2) (k2 : Sl false (stS false d) w lo' B' body u2) :
    Calls Tryz.prog 38 #[.agg #[.string name, v1, v2], .agg #[.string name, u1, u2]] w (Yes w) := by
  have hb0 : Below w.heap.size w ((w.alloc (.cells #[.string name, v1, v2] 43)).alloc (.cells #[.string name, u1, u2] 43)) := ((Below.refl _ _).alloc (Nat.le_refl _) _).alloc (by simp) _
  go_enter Tryz.func38, Tryz.ntmps38
  go_wp2_with fail
  refine (eq_StringS params v1 u1 _ lo B lo' B' (Nat.le_trans hB hb0.size) (Nat.le_trans hC hb0.size) (h1.below hb0 hB) (k1.below hb0 hC)).mono ?_
  rintro e w1 ⟨rfl, e1⟩
  have hb1 : Below w.heap.size w w1 := hb0.trans (e1.mono hb0.size)
  have P1 : Row w1 w.heap.size 43 #[.string name, v1, v2] := ((Row.new w _ _).alloc _).below e1 (by simp; omega)
  have Q1 : Row w1 (w.heap.size + 1) 43 #[.string name, u1, u2] := (show Row ((w.alloc (.cells #[.string name, v1, v2] 43)).alloc (.cells #[.string name, u1, u2] 43)) (w.heap.size + 1) _ _ by simpa using Row.new (w.alloc (.cells #[.string name, v1, v2] 43)) 43 #[.string name, u1, u2]).below e1 (by simp)
  have y1_2 : w1.cell? ⟨w.heap.size, 2, none⟩ = some (v2) := P1.cell 2
  have z1_2 : w1.cell? ⟨w.heap.size + 1, 2, none⟩ = some (u2) := Q1.cell 2
  go_wp2_with fail
  refine (eq_StmtS d body v2 u2 _ lo B lo' B' (Nat.le_trans hB hb1.size) (Nat.le_trans hC hb1.size) (h2.below hb1 hB) (k2.below hb1 hC)).mono ?_
  rintro e w2 ⟨rfl, e2⟩
  have hb2 : Below w.heap.size w w2 := hb1.trans (e2.mono hb1.size)
  have P2 := P1.below e2 P1.lt
  have Q2 := Q1.below e2 Q1.lt
  go_wp2_with fail
  go_ret
  exact ⟨rfl, hb2⟩

set_option maxRecDepth 100000 in
theorem eq_FnS (d : Nat) (l : List FnD) (v u : Value) (w : World) (lo B lo' B' : Nat) (hB : B ≤ w.heap.size) (hC : B' ≤ w.heap.size) (hv : Sl false (fnS false d) w lo B l v) (hu : Sl false (fnS false d) w lo' B' l u) :
    Calls Tryz.prog 20 #[v, u] w (Yes w) := by
  obtain ⟨A, cap, rfl, hlc, hcm⟩ := hv.form
  obtain ⟨A2, cap2, rfl, hlc2, hcm2⟩ := hu.form
  go_enter Tryz.func20, Tryz.ntmps20
  go_wp2_with fail
  go_loopw [5] (fun i wr => ∃ k : Nat, k ≤ l.length ∧ i = .int .i64 k ∧ Below w.heap.size w wr) (fun i _ => l.length - (intOf i).toNat)
  case atStart => exact ⟨0, by omega, rfl, Below.refl _ _⟩
  case round =>
    obtain ⟨k, hk, rfl, hb⟩ := hrel
    have hsz := hb.size
    by_cases hkl : k < l.length
    · obtain ⟨b, o, name, params, v1, body, v2, rfl, _, _, HL, g0, g1, g2, c0, c1, c2⟩ := fn_get d (hv.below hb hB) hkl
      obtain ⟨b2, o2, name', params', u1, body', u2, rfl, _, _, HL2, m0, m1, m2, t0, t1, t2⟩ := fn_get d (hu.below hb hC) hkl
      have HI := HL.out.symm.trans HL2.out
      injection HI with q0 q1 q2
      subst q0 q1 q2
      clear HL HL2
      have hki : (0 : Int) ≤ (k : Int) := by omega
      have hkn : (k : Int) < (l.length : Int) := by omega
      go_wp2_with fail
      go_still_tail 8, (by kernel_rfl)
      have hbd : Below w.heap.size w wr.drew := hb.drew
      have D1 : Sl false (strS false) wr.drew lo B params v1 := g1.keep (Nat.le_refl _) (Nat.le_refl _) (fun _ _ _ => rfl)
      have E1 : Sl false (strS false) wr.drew lo' B' params u1 := m1.keep (Nat.le_refl _) (Nat.le_refl _) (fun _ _ _ => rfl)
      have D2 : Sl false (stS false d) wr.drew lo B body v2 := g2.keep (Nat.le_refl _) (Nat.le_refl _) (fun _ _ _ => rfl)
      have E2 : Sl false (stS false d) wr.drew lo' B' body u2 := m2.keep (Nat.le_refl _) (Nat.le_refl _) (fun _ _ _ => rfl)
      change wpList _ _ _ _ _ wr.drew
      generalize wr.drew = w2 at hbd D1 E1 D2 E2 ⊢
      have hsz2 := hbd.size
      go_wp2_with fail
      refine (eq_Fn d name params v1 u1 body v2 u2 _ lo B lo' B' (by omega) (by omega) D1 E1 D2 E2).mono ?_
      rintro e w3 ⟨rfl, hb1⟩
      go_wp2_with fail
      go_roundw
      case rel => exact ⟨k + 1, by omega, by go_num, hbd.trans (hb1.mono hbd.size)⟩
      case measure => simp [intOf]; omega
    · go_wp2_with fail
      go_ret
      exact ⟨rfl, hb⟩

theorem eq_Program (d : Nat) (fns : List FnD) (v0 u0 : Value) (w : World) (lo B lo' B' : Nat) (hB : B ≤ w.heap.size) (hC : B' ≤ w.heap.size) (h0 : Sl false (fnS false d) w lo B fns v0) (k0 : Sl false (fnS false d) w lo' B' fns u0) :
    Calls Tryz.prog 8 #[.agg #[v0], .agg #[u0]] w (Yes w) := by
  have hb0 : Below w.heap.size w ((w.alloc (.cells #[v0] 30)).alloc (.cells #[u0] 30)) := ((Below.refl _ _).alloc (Nat.le_refl _) _).alloc (by simp) _
  go_enter Tryz.func8, Tryz.ntmps8
  go_wp2_with fail
  refine (eq_FnS d fns v0 u0 _ lo B lo' B' (Nat.le_trans hB hb0.size) (Nat.le_trans hC hb0.size) (h0.below hb0 hB) (k0.below hb0 hC)).mono ?_
  rintro e w1 ⟨rfl, e1⟩
  have hb1 : Below w.heap.size w w1 := hb0.trans (e1.mono hb0.size)
  have P1 : Row w1 w.heap.size 30 #[v0] := ((Row.new w _ _).alloc _).below e1 (by simp; omega)
  have Q1 : Row w1 (w.heap.size + 1) 30 #[u0] := (show Row ((w.alloc (.cells #[v0] 30)).alloc (.cells #[u0] 30)) (w.heap.size + 1) _ _ by simpa using Row.new (w.alloc (.cells #[v0] 30)) 30 #[u0]).below e1 (by simp)
  go_wp2_with fail
  go_ret
  exact ⟨rfl, hb1⟩

end Go.Proofs.YtbikgakoeheahaaGreatDoor

