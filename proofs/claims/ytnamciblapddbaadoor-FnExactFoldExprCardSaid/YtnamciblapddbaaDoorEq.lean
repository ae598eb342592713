/-
  The eq.. functions: at equal data they answer true. Conditions: the arguments read as data.
-/
import Derived.Test.YtnamciblapddbaaDoorTo
import Derived.StillTailTactics
import Derived.Deep.QuietTactic
import Derived.BigQuiet
namespace Go.Proofs.YtnamciblapddbaaDoor
open Go.RowKit Go.ChangeShapes Go.WideShapes Go.Deep

theorem below_drewN {B : Nat} {a w : World} (h : Below B a w) (n : Nat) : Below B a (w.drewN n) := ⟨h.os, h.tape, h.output, h.size, h.block⟩

/-- it answers true and leaves what was there -/
def Yes (w : World) (e : Ending) (w' : World) : Prop := e = .returned (.bool true) ∧ Below w.heap.size w w'

theorem eq_Expr_of (d : Nat) (HExprS : ∀ (l : List Ex) (v u : Value) (w : World) (lo B lo' B' : Nat) (_ : B ≤ w.heap.size) (_ : B' ≤ w.heap.size) (_ : Sl false (exS false d) w lo B l v) (_ : Sl false (exS false d) w lo' B' l u), Calls Tryd.prog 43 #[v, u] w (Yes w)) (op : Int) (n : Int) (name : ByteArray) (kids : List Ex) (v3 u3 : Value) (w : World) (lo B lo' B' : Nat) (hB : B ≤ w.heap.size) (hC : B' ≤ w.heap.size) (h3 : Sl false (exS false d) w lo B kids v3) (k3 : Sl false (exS false d) w lo' B' kids u3) :
    Calls Tryd.prog 16 #[.agg #[.int .i64 op, .int .i64 n, .string name, v3], .agg #[.int .i64 op, .int .i64 n, .string name, u3]] w (Yes w) := by
  have KExprS := Lib.hid HExprS
  clear HExprS
  have hb0 : Below w.heap.size w ((w.alloc (.cells #[.int .i64 op, .int .i64 n, .string name, v3] 30)).alloc (.cells #[.int .i64 op, .int .i64 n, .string name, u3] 30)) := ((Below.refl _ _).alloc (Nat.le_refl _) _).alloc (by simp) _
  go_enter Tryd.func16, Tryd.ntmps16
  go_wp2_with fail
  refine (KExprS.out kids v3 u3 _ lo B lo' B' (Nat.le_trans hB hb0.size) (Nat.le_trans hC hb0.size) (h3.below hb0 hB) (k3.below hb0 hC)).mono ?_
  rintro e w1 ⟨rfl, e1⟩
  have hb1 : Below w.heap.size w w1 := hb0.trans (e1.mono hb0.size)
  have P1 : Row w1 w.heap.size 30 #[.int .i64 op, .int .i64 n, .string name, v3] := ((Row.new w _ _).alloc _).below e1 (by simp; omega)
  have Q1 : Row w1 (w.heap.size + 1) 30 #[.int .i64 op, .int .i64 n, .string name, u3] := (show Row ((w.alloc (.cells #[.int .i64 op, .int .i64 n, .string name, v3] 30)).alloc (.cells #[.int .i64 op, .int .i64 n, .string name, u3] 30)) (w.heap.size + 1) _ _ by simpa using Row.new (w.alloc (.cells #[.int .i64 op, .int .i64 n, .string name, v3] 30)) 30 #[.int .i64 op, .int .i64 n, .string name, u3]).below e1 (by simp)
  go_wp2_with fail
  go_ret
  exact ⟨rfl, hb1⟩

set_option maxRecDepth 100000 in
theorem eq_ExprS_of (D : Nat) (HExpr : ∀ d, D = d + 1 → ∀ (op : Int) (n : Int) (name : ByteArray) (kids : List Ex) (v3 u3 : Value) (w : World) (lo B lo' B' : Nat) (_ : B ≤ w.heap.size) (_ : B' ≤ w.heap.size) (_ : Sl false (exS false d) w lo B kids v3) (_ : Sl false (exS false d) w lo' B' kids u3), Calls Tryd.prog 16 #[.agg #[.int .i64 op, .int .i64 n, .string name, v3], .agg #[.int .i64 op, .int .i64 n, .string name, u3]] w (Yes w)) (l : List Ex) (v u : Value) (w : World) (lo B lo' B' : Nat) (hB : B ≤ w.heap.size) (hC : B' ≤ w.heap.size) (hv : Sl false (exS false D) w lo B l v) (hu : Sl false (exS false D) w lo' B' l u) :
    Calls Tryd.prog 43 #[v, u] w (Yes w) := by
  have KExpr := Lib.hid HExpr
  clear HExpr
  obtain ⟨A, cap, rfl, hlc, hcm⟩ := hv.form
  obtain ⟨A2, cap2, rfl, hlc2, hcm2⟩ := hu.form
  go_enter Tryd.func43, Tryd.ntmps43
  go_wp2_with fail
  go_loopw [5] (fun i wr => ∃ k : Nat, k ≤ l.length ∧ i = .int .i64 k ∧ Below w.heap.size w wr) (fun i _ => l.length - (intOf i).toNat)
  case atStart => exact ⟨0, by omega, rfl, Below.refl _ _⟩
  case round =>
    obtain ⟨k, hk, rfl, hb⟩ := hrel
    have hsz := hb.size
    by_cases hkl : k < l.length
    · obtain ⟨d, rfl⟩ := exS_pos hv (by omega)
      obtain ⟨b, o, op, n, name, kids, v3, rfl, _, _, HL, g0, g1, g2, g3, c0, c1, c2, c3⟩ := ex_get d (hv.below hb hB) hkl
      obtain ⟨b2, o2, op', n', name', kids', u3, rfl, _, _, HL2, m0, m1, m2, m3, t0, t1, t2, t3⟩ := ex_get d (hu.below hb hC) hkl
      have HI := HL.out.symm.trans HL2.out
      injection HI with q0 q1 q2 q3
      subst q0 q1 q2 q3
      clear HL HL2
      have hki : (0 : Int) ≤ (k : Int) := by omega
      have hkn : (k : Int) < (l.length : Int) := by omega
      go_wp2_with fail
      go_still_tail 8, (by kernel_rfl)
      have hbd : Below w.heap.size w wr.drew := hb.drew
      have D3 : Sl false (exS false d) wr.drew lo B kids v3 := g3.keep (Nat.le_refl _) (Nat.le_refl _) (fun _ _ _ => rfl)
      have E3 : Sl false (exS false d) wr.drew lo' B' kids u3 := m3.keep (Nat.le_refl _) (Nat.le_refl _) (fun _ _ _ => rfl)
      change wpList _ _ _ _ _ wr.drew
      generalize wr.drew = w2 at hbd D3 E3 ⊢
      have hsz2 := hbd.size
      go_wp2_with fail
      refine (KExpr.out d rfl op n name kids v3 u3 _ lo B lo' B' (by omega) (by omega) D3 E3).mono ?_
      rintro e w3 ⟨rfl, hb1⟩
      go_wp2_with fail
      go_roundw
      case rel => exact ⟨k + 1, by omega, by go_num, hbd.trans (hb1.mono hbd.size)⟩
      case measure => simp [intOf]; omega
    · go_wp2_with fail
      go_ret
      exact ⟨rfl, hb⟩

theorem eq_ExprS : ∀ d : Nat, ∀ (l : List Ex) (v u : Value) (w : World) (lo B lo' B' : Nat) (_ : B ≤ w.heap.size) (_ : B' ≤ w.heap.size) (_ : Sl false (exS false d) w lo B l v) (_ : Sl false (exS false d) w lo' B' l u), Calls Tryd.prog 43 #[v, u] w (Yes w) := by
  intro d
  induction d with
  | zero => exact eq_ExprS_of 0 (fun d h => by omega)
  | succ d ih =>
    refine eq_ExprS_of (d + 1) (fun d' h => ?_)
    obtain rfl : d = d' := by omega
    exact eq_Expr_of d ih
theorem eq_Expr (d : Nat) : ∀ (op : Int) (n : Int) (name : ByteArray) (kids : List Ex) (v3 u3 : Value) (w : World) (lo B lo' B' : Nat) (_ : B ≤ w.heap.size) (_ : B' ≤ w.heap.size) (_ : Sl false (exS false d) w lo B kids v3) (_ : Sl false (exS false d) w lo' B' kids u3), Calls Tryd.prog 16 #[.agg #[.int .i64 op, .int .i64 n, .string name, v3], .agg #[.int .i64 op, .int .i64 n, .string name, u3]] w (Yes w) := eq_Expr_of d (eq_ExprS d)

theorem eq_StringS (l : List ByteArray) (v u : Value) (w : World) (lo B lo' B' : Nat) (hB : B ≤ w.heap.size) (hC : B' ≤ w.heap.size) (hv : Sl false (strS false) w lo B l v) (hu : Sl false (strS false) w lo' B' l u) :
    Calls Tryd.prog 27 #[v, u] w (Yes w) := by
  obtain ⟨A, cap, rfl, hlc, hcm⟩ := hv.form
  obtain ⟨A2, cap2, rfl, hlc2, hcm2⟩ := hu.form
  go_enter Tryd.func27, Tryd.ntmps27
  go_wp2_with fail
  go_loopw [5] (fun i wr => ∃ k : Nat, k ≤ l.length ∧ i = .int .i64 k ∧ Below w.heap.size w wr) (fun i _ => l.length - (intOf i).toNat)
  case atStart => exact ⟨0, by omega, rfl, Below.refl _ _⟩
  case round =>
    obtain ⟨k, hk, rfl, hb⟩ := hrel
    have hsz := hb.size
    by_cases hkl : k < l.length
    · obtain ⟨b, o, a, rfl, _, _, HL, ha, c0⟩ := str_get (hv.below hb hB) hkl
      obtain ⟨b2, o2, a2, rfl, _, _, HL2, _, c1⟩ := str_get (hu.below hb hC) hkl
      obtain rfl : a = a2 := HL.out.symm.trans HL2.out
      have hki : (0 : Int) ≤ (k : Int) := by omega
      have hkn : (k : Int) < (l.length : Int) := by omega
      go_wp2_with fail
      go_quiet (fail)
      go_wp2_with fail
      go_roundw
      case rel => exact ⟨k + 1, by omega, by go_num, below_drewN hb _⟩
      case measure => simp [intOf]; omega
    · go_wp2_with fail
      go_ret
      exact ⟨rfl, hb⟩

end Go.Proofs.YtnamciblapddbaaDoor

