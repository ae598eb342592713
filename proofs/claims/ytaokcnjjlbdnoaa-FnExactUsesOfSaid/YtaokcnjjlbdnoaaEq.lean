/-
  The eq.. functions: at equal data they answer true. Conditions: the arguments read as data.
-/
import Derived.Test.YtaokcnjjlbdnoaaTo
import Derived.StillTailTactics
import Derived.Deep.QuietTactic
import Derived.BigQuiet
namespace Go.Proofs.Ytaokcnjjlbdnoaa
open Go.RowKit Go.ChangeShapes Go.WideShapes Go.Deep

theorem below_drewN {B : Nat} {a w : World} (h : Below B a w) (n : Nat) : Below B a (w.drewN n) := ⟨h.os, h.tape, h.output, h.size, h.block⟩

/-- it answers true and leaves what was there -/
def Yes (w : World) (e : Ending) (w' : World) : Prop := e = .returned (.bool true) ∧ Below w.heap.size w w'

theorem eq_IntS (l : List Int) (v u : Value) (w : World) (lo B lo' B' : Nat) (hB : B ≤ w.heap.size) (hC : B' ≤ w.heap.size) (hv : Sl false (intS false) w lo B l v) (hu : Sl false (intS false) w lo' B' l u) :
    Calls Try.prog 49 #[v, u] w (Yes w) := by
  obtain ⟨A, cap, rfl, hlc, hcm⟩ := hv.form
  obtain ⟨A2, cap2, rfl, hlc2, hcm2⟩ := hu.form
  go_enter Try.func49, Try.ntmps49
  go_wp2_with fail
  go_loopw [5] (fun i wr => ∃ k : Nat, k ≤ l.length ∧ i = .int .i64 k ∧ Below w.heap.size w wr) (fun i _ => l.length - (intOf i).toNat)
  case atStart => exact ⟨0, by omega, rfl, Below.refl _ _⟩
  case round =>
    obtain ⟨k, hk, rfl, hb⟩ := hrel
    have hsz := hb.size
    by_cases hkl : k < l.length
    · obtain ⟨b, o, a, rfl, _, _, HL, ha, c0⟩ := int_get (hv.below hb hB) hkl
      obtain ⟨b2, o2, a2, rfl, _, _, HL2, _, c1⟩ := int_get (hu.below hb hC) hkl
      obtain rfl : a = a2 := HL.out.symm.trans HL2.out
      have hki : (0 : Int) ≤ (k : Int) := by omega
      have hkn : (k : Int) < (l.length : Int) := by omega
      go_wp2_with fail
      go_quiet (fail)
      go_wp2_with fail
      go_roundw
      case rel => exact ⟨k + 1, by omega, by go_num, below_drewN hb _⟩
      case measure => simp [intOf]; omega
    · go_wp2_with fail
      go_ret
      exact ⟨rfl, hb⟩

theorem eq_StringS (l : List ByteArray) (v u : Value) (w : World) (lo B lo' B' : Nat) (hB : B ≤ w.heap.size) (hC : B' ≤ w.heap.size) (hv : Sl false (strS false) w lo B l v) (hu : Sl false (strS false) w lo' B' l u) :
    Calls Try.prog 177 #[v, u] w (Yes w) := by
  obtain ⟨A, cap, rfl, hlc, hcm⟩ := hv.form
  obtain ⟨A2, cap2, rfl, hlc2, hcm2⟩ := hu.form
  go_enter Try.func177, Try.ntmps177
  go_wp2_with fail
  go_loopw [5] (fun i wr => ∃ k : Nat, k ≤ l.length ∧ i = .int .i64 k ∧ Below w.heap.size w wr) (fun i _ => l.length - (intOf i).toNat)
  case atStart => exact ⟨0, by omega, rfl, Below.refl _ _⟩
  case round =>
    obtain ⟨k, hk, rfl, hb⟩ := hrel
    have hsz := hb.size
    by_cases hkl : k < l.length
    · obtain ⟨b, o, a, rfl, _, _, HL, ha, c0⟩ := str_get (hv.below hb hB) hkl
      obtain ⟨b2, o2, a2, rfl, _, _, HL2, _, c1⟩ := str_get (hu.below hb hC) hkl
      obtain rfl : a = a2 := HL.out.symm.trans HL2.out
      have hki : (0 : Int) ≤ (k : Int) := by omega
      have hkn : (k : Int) < (l.length : Int) := by omega
      go_wp2_with fail
      go_quiet (fail)
      go_wp2_with fail
      go_roundw
      case rel => exact ⟨k + 1, by omega, by go_num, below_drewN hb _⟩
      case measure => simp [intOf]; omega
    · go_wp2_with fail
      go_ret
      exact ⟨rfl, hb⟩

theorem eq_Phi (to : Int) (args : List Int) (v1 u1 : Value) (w : World) (lo B lo' B' : Nat) (hB : B ≤ w.heap.size) (hC : B' ≤ w.heap.size) (h1 : Sl false (intS false) w lo B args v1) (k1 : Sl false (intS false) w lo' B' args u1) :
    Calls Try.prog 207 #[.agg #[.int .i64 to, v1], .agg #[.int .i64 to, u1]] w (Yes w) := by
  have hb0 : Below w.heap.size w ((w.alloc (.cells #[.int .i64 to, v1] 160)).alloc (.cells #[.int .i64 to, u1] 160)) := ((Below.refl _ _).alloc (Nat.le_refl _) _).alloc (by simp) _
  go_enter Try.func207, Try.ntmps207
  go_wp2_with fail
  refine (eq_IntS args v1 u1 _ lo B lo' B' (Nat.le_trans hB hb0.size) (Nat.le_trans hC hb0.size) (h1.below hb0 hB) (k1.below hb0 hC)).mono ?_
  rintro e w1 ⟨rfl, e1⟩
  have hb1 : Below w.heap.size w w1 := hb0.trans (e1.mono hb0.size)
  have P1 : Row w1 w.heap.size 160 #[.int .i64 to, v1] := ((Row.new w _ _).alloc _).below e1 (by simp; omega)
  have Q1 : Row w1 (w.heap.size + 1) 160 #[.int .i64 to, u1] := (show Row ((w.alloc (.cells #[.int .i64 to, v1] 160)).alloc (.cells #[.int .i64 to, u1] 160)) (w.heap.size + 1) _ _ by simpa using Row.new (w.alloc (.cells #[.int .i64 to, v1] 160)) 160 #[.int .i64 to, u1]).below e1 (by simp)
  go_wp2_with fail
  go_ret
  exact ⟨rfl, hb1⟩

set_option maxRecDepth 100000 in
theorem eq_PhiS (l : List PhiD) (v u : Value) (w : World) (lo B lo' B' : Nat) (hB : B ≤ w.heap.size) (hC : B' ≤ w.heap.size) (hv : Sl false (phiS false) w lo B l v) (hu : Sl false (phiS false) w lo' B' l u) :
    Calls Try.prog 183 #[v, u] w (Yes w) := by
  obtain ⟨A, cap, rfl, hlc, hcm⟩ := hv.form
  obtain ⟨A2, cap2, rfl, hlc2, hcm2⟩ := hu.form
  go_enter Try.func183, Try.ntmps183
  go_wp2_with fail
  go_loopw [5] (fun i wr => ∃ k : Nat, k ≤ l.length ∧ i = .int .i64 k ∧ Below w.heap.size w wr) (fun i _ => l.length - (intOf i).toNat)
  case atStart => exact ⟨0, by omega, rfl, Below.refl _ _⟩
  case round =>
    obtain ⟨k, hk, rfl, hb⟩ := hrel
    have hsz := hb.size
    by_cases hkl : k < l.length
    · obtain ⟨b, o, to, args, v1, rfl, _, _, HL, g0, g1, c0, c1⟩ := phi_get (hv.below hb hB) hkl
      obtain ⟨b2, o2, to', args', u1, rfl, _, _, HL2, m0, m1, t0, t1⟩ := phi_get (hu.below hb hC) hkl
      have HI := HL.out.symm.trans HL2.out
      injection HI with q0 q1
      subst q0 q1
      clear HL HL2
      have hki : (0 : Int) ≤ (k : Int) := by omega
      have hkn : (k : Int) < (l.length : Int) := by omega
      go_wp2_with fail
      go_still_tail 8, (by kernel_rfl)
      have hbd : Below w.heap.size w wr.drew := hb.drew
      have D1 : Sl false (intS false) wr.drew lo B args v1 := g1.keep (Nat.le_refl _) (Nat.le_refl _) (fun _ _ _ => rfl)
      have E1 : Sl false (intS false) wr.drew lo' B' args u1 := m1.keep (Nat.le_refl _) (Nat.le_refl _) (fun _ _ _ => rfl)
      change wpList _ _ _ _ _ wr.drew
      generalize wr.drew = w2 at hbd D1 E1 ⊢
      have hsz2 := hbd.size
      go_wp2_with fail
      refine (eq_Phi to args v1 u1 _ lo B lo' B' (by omega) (by omega) D1 E1).mono ?_
      rintro e w3 ⟨rfl, hb1⟩
      go_wp2_with fail
      go_roundw
      case rel => exact ⟨k + 1, by omega, by go_num, hbd.trans (hb1.mono hbd.size)⟩
      case measure => simp [intOf]; omega
    · go_wp2_with fail
      go_ret
      exact ⟨rfl, hb⟩

theorem eq_Ins (op : Int) (to : Int) (args : List Int) (v2 u2 : Value) (n : Int) (w : World) (lo B lo' B' : Nat) (hB : B ≤ w.heap.size) (hC : B' ≤ w.heap.size) (h2 : Sl false (intS false) w lo B args v2) (k2 : Sl false (intS false) w lo' B' args u2) :
    Calls Try.prog 24 #[.agg #[.int .i64 op, .int .i64 to, v2, .int .i64 n], .agg #[.int .i64 op, .int .i64 to, u2, .int .i64 n]] w (Yes w) := by
  have hb0 : Below w.heap.size w ((w.alloc (.cells #[.int .i64 op, .int .i64 to, v2, .int .i64 n] 27)).alloc (.cells #[.int .i64 op, .int .i64 to, u2, .int .i64 n] 27)) := ((Below.refl _ _).alloc (Nat.le_refl _) _).alloc (by simp) _
  go_enter Try.func24, Try.ntmps24
  go_wp2_with fail
  refine (eq_IntS args v2 u2 _ lo B lo' B' (Nat.le_trans hB hb0.size) (Nat.le_trans hC hb0.size) (h2.below hb0 hB) (k2.below hb0 hC)).mono ?_
  rintro e w1 ⟨rfl, e1⟩
  have hb1 : Below w.heap.size w w1 := hb0.trans (e1.mono hb0.size)
  have P1 : Row w1 w.heap.size 27 #[.int .i64 op, .int .i64 to, v2, .int .i64 n] := ((Row.new w _ _).alloc _).below e1 (by simp; omega)
  have Q1 : Row w1 (w.heap.size + 1) 27 #[.int .i64 op, .int .i64 to, u2, .int .i64 n] := (show Row ((w.alloc (.cells #[.int .i64 op, .int .i64 to, v2, .int .i64 n] 27)).alloc (.cells #[.int .i64 op, .int .i64 to, u2, .int .i64 n] 27)) (w.heap.size + 1) _ _ by simpa using Row.new (w.alloc (.cells #[.int .i64 op, .int .i64 to, v2, .int .i64 n] 27)) 27 #[.int .i64 op, .int .i64 to, u2, .int .i64 n]).below e1 (by simp)
  have y1_3 : w1.cell? ⟨w.heap.size, 3, none⟩ = some (.int .i64 n) := P1.cell 3
  have z1_3 : w1.cell? ⟨w.heap.size + 1, 3, none⟩ = some (.int .i64 n) := Q1.cell 3
  go_wp2_with fail
  go_ret
  exact ⟨rfl, hb1⟩

set_option maxRecDepth 100000 in
theorem eq_InsS (l : List InsD) (v u : Value) (w : World) (lo B lo' B' : Nat) (hB : B ≤ w.heap.size) (hC : B' ≤ w.heap.size) (hv : Sl false (insS false) w lo B l v) (hu : Sl false (insS false) w lo' B' l u) :
    Calls Try.prog 184 #[v, u] w (Yes w) := by
  obtain ⟨A, cap, rfl, hlc, hcm⟩ := hv.form
  obtain ⟨A2, cap2, rfl, hlc2, hcm2⟩ := hu.form
  go_enter Try.func184, Try.ntmps184
  go_wp2_with fail
  go_loopw [5] (fun i wr => ∃ k : Nat, k ≤ l.length ∧ i = .int .i64 k ∧ Below w.heap.size w wr) (fun i _ => l.length - (intOf i).toNat)
  case atStart => exact ⟨0, by omega, rfl, Below.refl _ _⟩
  case round =>
    obtain ⟨k, hk, rfl, hb⟩ := hrel
    have hsz := hb.size
    by_cases hkl : k < l.length
    · obtain ⟨b, o, op, to, args, v2, n, rfl, _, _, HL, g0, g1, g2, g3, c0, c1, c2, c3⟩ := ins_get (hv.below hb hB) hkl
      obtain ⟨b2, o2, op', to', args', u2, n', rfl, _, _, HL2, m0, m1, m2, m3, t0, t1, t2, t3⟩ := ins_get (hu.below hb hC) hkl
      have HI := HL.out.symm.trans HL2.out
      injection HI with q0 q1 q2 q3
      subst q0 q1 q2 q3
      clear HL HL2
      have hki : (0 : Int) ≤ (k : Int) := by omega
      have hkn : (k : Int) < (l.length : Int) := by omega
      go_wp2_with fail
      go_still_tail 8, (by kernel_rfl)
      have hbd : Below w.heap.size w wr.drew := hb.drew
      have D2 : Sl false (intS false) wr.drew lo B args v2 := g2.keep (Nat.le_refl _) (Nat.le_refl _) (fun _ _ _ => rfl)
      have E2 : Sl false (intS false) wr.drew lo' B' args u2 := m2.keep (Nat.le_refl _) (Nat.le_refl _) (fun _ _ _ => rfl)
      change wpList _ _ _ _ _ wr.drew
      generalize wr.drew = w2 at hbd D2 E2 ⊢
      have hsz2 := hbd.size
      go_wp2_with fail
      refine (eq_Ins op to args v2 u2 n _ lo B lo' B' (by omega) (by omega) D2 E2).mono ?_
      rintro e w3 ⟨rfl, hb1⟩
      go_wp2_with fail
      go_roundw
      case rel => exact ⟨k + 1, by omega, by go_num, hbd.trans (hb1.mono hbd.size)⟩
      case measure => simp [intOf]; omega
    · go_wp2_with fail
      go_ret
      exact ⟨rfl, hb⟩

theorem eq_Block (phis : List PhiD) (v0 u0 : Value) (ins : List InsD) (v1 u1 : Value) (jump : Int) (on : Int) (next : List Int) (v4 u4 : Value) (w : World) (lo B lo' B' : Nat) (hB : B ≤ w.heap.size) (hC : B' ≤ w.heap.size) (h0 : Sl false (phiS false) w lo B phis v0) (k0 : Sl false (phiS false) w lo' B' phis u0) (h1 : Sl false (insS false) w lo B ins v1) (k1 : Sl false (insS false) w lo' B' ins u1) (h4 : Sl false (intS false) w lo B next v4) (k4 : Sl false (intS false) w lo' B' next u4) :
    Calls Try.prog 144 #[.agg #[v0, v1, .int .i64 jump, .int .i64 on, v4], .agg #[u0, u1, .int .i64 jump, .int .i64 on, u4]] w (Yes w) := by
  have hb0 : Below w.heap.size w ((w.alloc (.cells #[v0, v1, .int .i64 jump, .int .i64 on, v4] 62)).alloc (.cells #[u0, u1, .int .i64 jump, .int .i64 on, u4] 62)) := ((Below.refl _ _).alloc (Nat.le_refl _) _).alloc (by simp) _
  go_enter Try.func144, Try.ntmps144
  go_wp2_with fail
  refine (eq_PhiS phis v0 u0 _ lo B lo' B' (Nat.le_trans hB hb0.size) (Nat.le_trans hC hb0.size) (h0.below hb0 hB) (k0.below hb0 hC)).mono ?_
  rintro e w1 ⟨rfl, e1⟩
  have hb1 : Below w.heap.size w w1 := hb0.trans (e1.mono hb0.size)
  have P1 : Row w1 w.heap.size 62 #[v0, v1, .int .i64 jump, .int .i64 on, v4] := ((Row.new w _ _).alloc _).below e1 (by simp; omega)
  have Q1 : Row w1 (w.heap.size + 1) 62 #[u0, u1, .int .i64 jump, .int .i64 on, u4] := (show Row ((w.alloc (.cells #[v0, v1, .int .i64 jump, .int .i64 on, v4] 62)).alloc (.cells #[u0, u1, .int .i64 jump, .int .i64 on, u4] 62)) (w.heap.size + 1) _ _ by simpa using Row.new (w.alloc (.cells #[v0, v1, .int .i64 jump, .int .i64 on, v4] 62)) 62 #[u0, u1, .int .i64 jump, .int .i64 on, u4]).below e1 (by simp)
  have y1_1 : w1.cell? ⟨w.heap.size, 1, none⟩ = some (v1) := P1.cell 1
  have z1_1 : w1.cell? ⟨w.heap.size + 1, 1, none⟩ = some (u1) := Q1.cell 1
  have y1_2 : w1.cell? ⟨w.heap.size, 2, none⟩ = some (.int .i64 jump) := P1.cell 2
  have z1_2 : w1.cell? ⟨w.heap.size + 1, 2, none⟩ = some (.int .i64 jump) := Q1.cell 2
  have y1_3 : w1.cell? ⟨w.heap.size, 3, none⟩ = some (.int .i64 on) := P1.cell 3
  have z1_3 : w1.cell? ⟨w.heap.size + 1, 3, none⟩ = some (.int .i64 on) := Q1.cell 3
  have y1_4 : w1.cell? ⟨w.heap.size, 4, none⟩ = some (v4) := P1.cell 4
  have z1_4 : w1.cell? ⟨w.heap.size + 1, 4, none⟩ = some (u4) := Q1.cell 4
  go_wp2_with fail
  refine (eq_InsS ins v1 u1 _ lo B lo' B' (Nat.le_trans hB hb1.size) (Nat.le_trans hC hb1.size) (h1.below hb1 hB) (k1.below hb1 hC)).mono ?_
  rintro e w2 ⟨rfl, e2⟩
  have hb2 : Below w.heap.size w w2 := hb1.trans (e2.mono hb1.size)
  have P2 := P1.below e2 P1.lt
  have Q2 := Q1.below e2 Q1.lt
  have y2_2 : w2.cell? ⟨w.heap.size, 2, none⟩ = some (.int .i64 jump) := P2.cell 2
  have z2_2 : w2.cell? ⟨w.heap.size + 1, 2, none⟩ = some (.int .i64 jump) := Q2.cell 2
  have y2_3 : w2.cell? ⟨w.heap.size, 3, none⟩ = some (.int .i64 on) := P2.cell 3
  have z2_3 : w2.cell? ⟨w.heap.size + 1, 3, none⟩ = some (.int .i64 on) := Q2.cell 3
  have y2_4 : w2.cell? ⟨w.heap.size, 4, none⟩ = some (v4) := P2.cell 4
  have z2_4 : w2.cell? ⟨w.heap.size + 1, 4, none⟩ = some (u4) := Q2.cell 4
  go_wp2_with fail
  refine (eq_IntS next v4 u4 _ lo B lo' B' (Nat.le_trans hB hb2.size) (Nat.le_trans hC hb2.size) (h4.below hb2 hB) (k4.below hb2 hC)).mono ?_
  rintro e w3 ⟨rfl, e3⟩
  have hb3 : Below w.heap.size w w3 := hb2.trans (e3.mono hb2.size)
  have P3 := P2.below e3 P2.lt
  have Q3 := Q2.below e3 Q2.lt
  go_wp2_with fail
  go_ret
  exact ⟨rfl, hb3⟩

set_option maxRecDepth 100000 in
theorem eq_BlockS (l : List BlkD) (v u : Value) (w : World) (lo B lo' B' : Nat) (hB : B ≤ w.heap.size) (hC : B' ≤ w.heap.size) (hv : Sl false (blkS false) w lo B l v) (hu : Sl false (blkS false) w lo' B' l u) :
    Calls Try.prog 105 #[v, u] w (Yes w) := by
  obtain ⟨A, cap, rfl, hlc, hcm⟩ := hv.form
  obtain ⟨A2, cap2, rfl, hlc2, hcm2⟩ := hu.form
  go_enter Try.func105, Try.ntmps105
  go_wp2_with fail
  go_loopw [5] (fun i wr => ∃ k : Nat, k ≤ l.length ∧ i = .int .i64 k ∧ Below w.heap.size w wr) (fun i _ => l.length - (intOf i).toNat)
  case atStart => exact ⟨0, by omega, rfl, Below.refl _ _⟩
  case round =>
    obtain ⟨k, hk, rfl, hb⟩ := hrel
    have hsz := hb.size
    by_cases hkl : k < l.length
    · obtain ⟨b, o, phis, v0, ins, v1, jump, on, next, v4, rfl, _, _, HL, g0, g1, g2, g3, g4, c0, c1, c2, c3, c4⟩ := blk_get (hv.below hb hB) hkl
      obtain ⟨b2, o2, phis', u0, ins', u1, jump', on', next', u4, rfl, _, _, HL2, m0, m1, m2, m3, m4, t0, t1, t2, t3, t4⟩ := blk_get (hu.below hb hC) hkl
      have HI := HL.out.symm.trans HL2.out
      injection HI with q0 q1 q2 q3 q4
      subst q0 q1 q2 q3 q4
      clear HL HL2
      have hki : (0 : Int) ≤ (k : Int) := by omega
      have hkn : (k : Int) < (l.length : Int) := by omega
      go_wp2_with fail
      go_still_tail 8, (by kernel_rfl)
      have hbd : Below w.heap.size w wr.drew := hb.drew
      have D0 : Sl false (phiS false) wr.drew lo B phis v0 := g0.keep (Nat.le_refl _) (Nat.le_refl _) (fun _ _ _ => rfl)
      have E0 : Sl false (phiS false) wr.drew lo' B' phis u0 := m0.keep (Nat.le_refl _) (Nat.le_refl _) (fun _ _ _ => rfl)
      have D1 : Sl false (insS false) wr.drew lo B ins v1 := g1.keep (Nat.le_refl _) (Nat.le_refl _) (fun _ _ _ => rfl)
      have E1 : Sl false (insS false) wr.drew lo' B' ins u1 := m1.keep (Nat.le_refl _) (Nat.le_refl _) (fun _ _ _ => rfl)
      have D4 : Sl false (intS false) wr.drew lo B next v4 := g4.keep (Nat.le_refl _) (Nat.le_refl _) (fun _ _ _ => rfl)
      have E4 : Sl false (intS false) wr.drew lo' B' next u4 := m4.keep (Nat.le_refl _) (Nat.le_refl _) (fun _ _ _ => rfl)
      change wpList _ _ _ _ _ wr.drew
      generalize wr.drew = w2 at hbd D0 E0 D1 E1 D4 E4 ⊢
      have hsz2 := hbd.size
      go_wp2_with fail
      refine (eq_Block phis v0 u0 ins v1 u1 jump on next v4 u4 _ lo B lo' B' (by omega) (by omega) D0 E0 D1 E1 D4 E4).mono ?_
      rintro e w3 ⟨rfl, hb1⟩
      go_wp2_with fail
      go_roundw
      case rel => exact ⟨k + 1, by omega, by go_num, hbd.trans (hb1.mono hbd.size)⟩
      case measure => simp [intOf]; omega
    · go_wp2_with fail
      go_ret
      exact ⟨rfl, hb⟩

theorem eq_Code (params : Int) (regs : Int) (blocks : List BlkD) (v2 u2 : Value) (w : World) (lo B lo' B' : Nat) (hB : B ≤ w.heap.size) (hC : B' ≤ w.heap.size) (h2 : Sl false (blkS false) w lo B blocks v2) (k2 : Sl false (blkS false) w lo' B' blocks u2) :
    Calls Try.prog 50 #[.agg #[.int .i64 params, .int .i64 regs, v2], .agg #[.int .i64 params, .int .i64 regs, u2]] w (Yes w) := by
  have hb0 : Below w.heap.size w ((w.alloc (.cells #[.int .i64 params, .int .i64 regs, v2] 54)).alloc (.cells #[.int .i64 params, .int .i64 regs, u2] 54)) := ((Below.refl _ _).alloc (Nat.le_refl _) _).alloc (by simp) _
  go_enter Try.func50, Try.ntmps50
  go_wp2_with fail
  refine (eq_BlockS blocks v2 u2 _ lo B lo' B' (Nat.le_trans hB hb0.size) (Nat.le_trans hC hb0.size) (h2.below hb0 hB) (k2.below hb0 hC)).mono ?_
  rintro e w1 ⟨rfl, e1⟩
  have hb1 : Below w.heap.size w w1 := hb0.trans (e1.mono hb0.size)
  have P1 : Row w1 w.heap.size 54 #[.int .i64 params, .int .i64 regs, v2] := ((Row.new w _ _).alloc _).below e1 (by simp; omega)
  have Q1 : Row w1 (w.heap.size + 1) 54 #[.int .i64 params, .int .i64 regs, u2] := (show Row ((w.alloc (.cells #[.int .i64 params, .int .i64 regs, v2] 54)).alloc (.cells #[.int .i64 params, .int .i64 regs, u2] 54)) (w.heap.size + 1) _ _ by simpa using Row.new (w.alloc (.cells #[.int .i64 params, .int .i64 regs, v2] 54)) 54 #[.int .i64 params, .int .i64 regs, u2]).below e1 (by simp)
  go_wp2_with fail
  go_ret
  exact ⟨rfl, hb1⟩

set_option maxRecDepth 100000 in
theorem eq_CodeS (l : List CodeD) (v u : Value) (w : World) (lo B lo' B' : Nat) (hB : B ≤ w.heap.size) (hC : B' ≤ w.heap.size) (hv : Sl false (codeS false) w lo B l v) (hu : Sl false (codeS false) w lo' B' l u) :
    Calls Try.prog 119 #[v, u] w (Yes w) := by
  obtain ⟨A, cap, rfl, hlc, hcm⟩ := hv.form
  obtain ⟨A2, cap2, rfl, hlc2, hcm2⟩ := hu.form
  go_enter Try.func119, Try.ntmps119
  go_wp2_with fail
  go_loopw [5] (fun i wr => ∃ k : Nat, k ≤ l.length ∧ i = .int .i64 k ∧ Below w.heap.size w wr) (fun i _ => l.length - (intOf i).toNat)
  case atStart => exact ⟨0, by omega, rfl, Below.refl _ _⟩
  case round =>
    obtain ⟨k, hk, rfl, hb⟩ := hrel
    have hsz := hb.size
    by_cases hkl : k < l.length
    · obtain ⟨b, o, params, regs, blocks, v2, rfl, _, _, HL, g0, g1, g2, c0, c1, c2⟩ := code_get (hv.below hb hB) hkl
      obtain ⟨b2, o2, params', regs', blocks', u2, rfl, _, _, HL2, m0, m1, m2, t0, t1, t2⟩ := code_get (hu.below hb hC) hkl
      have HI := HL.out.symm.trans HL2.out
      injection HI with q0 q1 q2
      subst q0 q1 q2
      clear HL HL2
      have hki : (0 : Int) ≤ (k : Int) := by omega
      have hkn : (k : Int) < (l.length : Int) := by omega
      go_wp2_with fail
      go_still_tail 8, (by kernel_rfl)
      have hbd : Below w.heap.size w wr.drew := hb.drew
      have D2 : Sl false (blkS false) wr.drew lo B blocks v2 := g2.keep (Nat.le_refl _) (Nat.le_refl _) (fun _ _ _ => rfl)
      have E2 : Sl false (blkS false) wr.drew lo' B' blocks u2 := m2.keep (Nat.le_refl _) (Nat.le_refl _) (fun _ _ _ => rfl)
      change wpList _ _ _ _ _ wr.drew
      generalize wr.drew = w2 at hbd D2 E2 ⊢
      have hsz2 := hbd.size
      go_wp2_with fail
      refine (eq_Code params regs blocks v2 u2 _ lo B lo' B' (by omega) (by omega) D2 E2).mono ?_
      rintro e w3 ⟨rfl, hb1⟩
      go_wp2_with fail
      go_roundw
      case rel => exact ⟨k + 1, by omega, by go_num, hbd.trans (hb1.mono hbd.size)⟩
      case measure => simp [intOf]; omega
    · go_wp2_with fail
      go_ret
      exact ⟨rfl, hb⟩

theorem eq_Unit (codes : List CodeD) (v0 u0 : Value) (w : World) (lo B lo' B' : Nat) (hB : B ≤ w.heap.size) (hC : B' ≤ w.heap.size) (h0 : Sl false (codeS false) w lo B codes v0) (k0 : Sl false (codeS false) w lo' B' codes u0) :
    Calls Try.prog 60 #[.agg #[v0], .agg #[u0]] w (Yes w) := by
  have hb0 : Below w.heap.size w ((w.alloc (.cells #[v0] 93)).alloc (.cells #[u0] 93)) := ((Below.refl _ _).alloc (Nat.le_refl _) _).alloc (by simp) _
  go_enter Try.func60, Try.ntmps60
  go_wp2_with fail
  refine (eq_CodeS codes v0 u0 _ lo B lo' B' (Nat.le_trans hB hb0.size) (Nat.le_trans hC hb0.size) (h0.below hb0 hB) (k0.below hb0 hC)).mono ?_
  rintro e w1 ⟨rfl, e1⟩
  have hb1 : Below w.heap.size w w1 := hb0.trans (e1.mono hb0.size)
  have P1 : Row w1 w.heap.size 93 #[v0] := ((Row.new w _ _).alloc _).below e1 (by simp; omega)
  have Q1 : Row w1 (w.heap.size + 1) 93 #[u0] := (show Row ((w.alloc (.cells #[v0] 93)).alloc (.cells #[u0] 93)) (w.heap.size + 1) _ _ by simpa using Row.new (w.alloc (.cells #[v0] 93)) 93 #[u0]).below e1 (by simp)
  go_wp2_with fail
  go_ret
  exact ⟨rfl, hb1⟩

theorem eq_Outcome (said : List Int) (v0 u0 : Value) (stop : Int) (value : Int) (cells : List Int) (v3 u3 : Value) (w : World) (lo B lo' B' : Nat) (hB : B ≤ w.heap.size) (hC : B' ≤ w.heap.size) (h0 : Sl false (intS false) w lo B said v0) (k0 : Sl false (intS false) w lo' B' said u0) (h3 : Sl false (intS false) w lo B cells v3) (k3 : Sl false (intS false) w lo' B' cells u3) :
    Calls Try.prog 29 #[.agg #[v0, .int .i64 stop, .int .i64 value, v3], .agg #[u0, .int .i64 stop, .int .i64 value, u3]] w (Yes w) := by
  have hb0 : Below w.heap.size w ((w.alloc (.cells #[v0, .int .i64 stop, .int .i64 value, v3] 35)).alloc (.cells #[u0, .int .i64 stop, .int .i64 value, u3] 35)) := ((Below.refl _ _).alloc (Nat.le_refl _) _).alloc (by simp) _
  go_enter Try.func29, Try.ntmps29
  go_wp2_with fail
  refine (eq_IntS said v0 u0 _ lo B lo' B' (Nat.le_trans hB hb0.size) (Nat.le_trans hC hb0.size) (h0.below hb0 hB) (k0.below hb0 hC)).mono ?_
  rintro e w1 ⟨rfl, e1⟩
  have hb1 : Below w.heap.size w w1 := hb0.trans (e1.mono hb0.size)
  have P1 : Row w1 w.heap.size 35 #[v0, .int .i64 stop, .int .i64 value, v3] := ((Row.new w _ _).alloc _).below e1 (by simp; omega)
  have Q1 : Row w1 (w.heap.size + 1) 35 #[u0, .int .i64 stop, .int .i64 value, u3] := (show Row ((w.alloc (.cells #[v0, .int .i64 stop, .int .i64 value, v3] 35)).alloc (.cells #[u0, .int .i64 stop, .int .i64 value, u3] 35)) (w.heap.size + 1) _ _ by simpa using Row.new (w.alloc (.cells #[v0, .int .i64 stop, .int .i64 value, v3] 35)) 35 #[u0, .int .i64 stop, .int .i64 value, u3]).below e1 (by simp)
  have y1_1 : w1.cell? ⟨w.heap.size, 1, none⟩ = some (.int .i64 stop) := P1.cell 1
  have z1_1 : w1.cell? ⟨w.heap.size + 1, 1, none⟩ = some (.int .i64 stop) := Q1.cell 1
  have y1_2 : w1.cell? ⟨w.heap.size, 2, none⟩ = some (.int .i64 value) := P1.cell 2
  have z1_2 : w1.cell? ⟨w.heap.size + 1, 2, none⟩ = some (.int .i64 value) := Q1.cell 2
  have y1_3 : w1.cell? ⟨w.heap.size, 3, none⟩ = some (v3) := P1.cell 3
  have z1_3 : w1.cell? ⟨w.heap.size + 1, 3, none⟩ = some (u3) := Q1.cell 3
  go_wp2_with fail
  refine (eq_IntS cells v3 u3 _ lo B lo' B' (Nat.le_trans hB hb1.size) (Nat.le_trans hC hb1.size) (h3.below hb1 hB) (k3.below hb1 hC)).mono ?_
  rintro e w2 ⟨rfl, e2⟩
  have hb2 : Below w.heap.size w w2 := hb1.trans (e2.mono hb1.size)
  have P2 := P1.below e2 P1.lt
  have Q2 := Q1.below e2 Q1.lt
  go_wp2_with fail
  go_ret
  exact ⟨rfl, hb2⟩

theorem eq_Expr_of (d : Nat) (HExprS : ∀ (l : List Ex) (v u : Value) (w : World) (lo B lo' B' : Nat) (_ : B ≤ w.heap.size) (_ : B' ≤ w.heap.size) (_ : Sl false (exS false d) w lo B l v) (_ : Sl false (exS false d) w lo' B' l u), Calls Try.prog 86 #[v, u] w (Yes w)) (op : Int) (n : Int) (name : ByteArray) (kids : List Ex) (v3 u3 : Value) (w : World) (lo B lo' B' : Nat) (hB : B ≤ w.heap.size) (hC : B' ≤ w.heap.size) (h3 : Sl false (exS false d) w lo B kids v3) (k3 : Sl false (exS false d) w lo' B' kids u3) :
    Calls Try.prog 34 #[.agg #[.int .i64 op, .int .i64 n, .string name, v3], .agg #[.int .i64 op, .int .i64 n, .string name, u3]] w (Yes w) := by
  have KExprS := Lib.hid HExprS
  clear HExprS
  have hb0 : Below w.heap.size w ((w.alloc (.cells #[.int .i64 op, .int .i64 n, .string name, v3] 45)).alloc (.cells #[.int .i64 op, .int .i64 n, .string name, u3] 45)) := ((Below.refl _ _).alloc (Nat.le_refl _) _).alloc (by simp) _
  go_enter Try.func34, Try.ntmps34
  go_wp2_with fail
  refine (KExprS.out kids v3 u3 _ lo B lo' B' (Nat.le_trans hB hb0.size) (Nat.le_trans hC hb0.size) (h3.below hb0 hB) (k3.below hb0 hC)).mono ?_
  rintro e w1 ⟨rfl, e1⟩
  have hb1 : Below w.heap.size w w1 := hb0.trans (e1.mono hb0.size)
  have P1 : Row w1 w.heap.size 45 #[.int .i64 op, .int .i64 n, .string name, v3] := ((Row.new w _ _).alloc _).below e1 (by simp; omega)
  have Q1 : Row w1 (w.heap.size + 1) 45 #[.int .i64 op, .int .i64 n, .string name, u3] := (show Row ((w.alloc (.cells #[.int .i64 op, .int .i64 n, .string name, v3] 45)).alloc (.cells #[.int .i64 op, .int .i64 n, .string name, u3] 45)) (w.heap.size + 1) _ _ by simpa using Row.new (w.alloc (.cells #[.int .i64 op, .int .i64 n, .string name, v3] 45)) 45 #[.int .i64 op, .int .i64 n, .string name, u3]).below e1 (by simp)
  go_wp2_with fail
  go_ret
  exact ⟨rfl, hb1⟩

set_option maxRecDepth 100000 in
theorem eq_ExprS_of (D : Nat) (HExpr : ∀ d, D = d + 1 → ∀ (op : Int) (n : Int) (name : ByteArray) (kids : List Ex) (v3 u3 : Value) (w : World) (lo B lo' B' : Nat) (_ : B ≤ w.heap.size) (_ : B' ≤ w.heap.size) (_ : Sl false (exS false d) w lo B kids v3) (_ : Sl false (exS false d) w lo' B' kids u3), Calls Try.prog 34 #[.agg #[.int .i64 op, .int .i64 n, .string name, v3], .agg #[.int .i64 op, .int .i64 n, .string name, u3]] w (Yes w)) (l : List Ex) (v u : Value) (w : World) (lo B lo' B' : Nat) (hB : B ≤ w.heap.size) (hC : B' ≤ w.heap.size) (hv : Sl false (exS false D) w lo B l v) (hu : Sl false (exS false D) w lo' B' l u) :
    Calls Try.prog 86 #[v, u] w (Yes w) := by
  have KExpr := Lib.hid HExpr
  clear HExpr
  obtain ⟨A, cap, rfl, hlc, hcm⟩ := hv.form
  obtain ⟨A2, cap2, rfl, hlc2, hcm2⟩ := hu.form
  go_enter Try.func86, Try.ntmps86
  go_wp2_with fail
  go_loopw [5] (fun i wr => ∃ k : Nat, k ≤ l.length ∧ i = .int .i64 k ∧ Below w.heap.size w wr) (fun i _ => l.length - (intOf i).toNat)
  case atStart => exact ⟨0, by omega, rfl, Below.refl _ _⟩
  case round =>
    obtain ⟨k, hk, rfl, hb⟩ := hrel
    have hsz := hb.size
    by_cases hkl : k < l.length
    · obtain ⟨d, rfl⟩ := exS_pos hv (by omega)
      obtain ⟨b, o, op, n, name, kids, v3, rfl, _, _, HL, g0, g1, g2, g3, c0, c1, c2, c3⟩ := ex_get d (hv.below hb hB) hkl
      obtain ⟨b2, o2, op', n', name', kids', u3, rfl, _, _, HL2, m0, m1, m2, m3, t0, t1, t2, t3⟩ := ex_get d (hu.below hb hC) hkl
      have HI := HL.out.symm.trans HL2.out
      injection HI with q0 q1 q2 q3
      subst q0 q1 q2 q3
      clear HL HL2
      have hki : (0 : Int) ≤ (k : Int) := by omega
      have hkn : (k : Int) < (l.length : Int) := by omega
      go_wp2_with fail
      go_still_tail 8, (by kernel_rfl)
      have hbd : Below w.heap.size w wr.drew := hb.drew
      have D3 : Sl false (exS false d) wr.drew lo B kids v3 := g3.keep (Nat.le_refl _) (Nat.le_refl _) (fun _ _ _ => rfl)
      have E3 : Sl false (exS false d) wr.drew lo' B' kids u3 := m3.keep (Nat.le_refl _) (Nat.le_refl _) (fun _ _ _ => rfl)
      change wpList _ _ _ _ _ wr.drew
      generalize wr.drew = w2 at hbd D3 E3 ⊢
      have hsz2 := hbd.size
      go_wp2_with fail
      refine (KExpr.out d rfl op n name kids v3 u3 _ lo B lo' B' (by omega) (by omega) D3 E3).mono ?_
      rintro e w3 ⟨rfl, hb1⟩
      go_wp2_with fail
      go_roundw
      case rel => exact ⟨k + 1, by omega, by go_num, hbd.trans (hb1.mono hbd.size)⟩
      case measure => simp [intOf]; omega
    · go_wp2_with fail
      go_ret
      exact ⟨rfl, hb⟩

theorem eq_ExprS : ∀ d : Nat, ∀ (l : List Ex) (v u : Value) (w : World) (lo B lo' B' : Nat) (_ : B ≤ w.heap.size) (_ : B' ≤ w.heap.size) (_ : Sl false (exS false d) w lo B l v) (_ : Sl false (exS false d) w lo' B' l u), Calls Try.prog 86 #[v, u] w (Yes w) := by
  intro d
  induction d with
  | zero => exact eq_ExprS_of 0 (fun d h => by omega)
  | succ d ih =>
    refine eq_ExprS_of (d + 1) (fun d' h => ?_)
    obtain rfl : d = d' := by omega
    exact eq_Expr_of d ih
theorem eq_Expr (d : Nat) : ∀ (op : Int) (n : Int) (name : ByteArray) (kids : List Ex) (v3 u3 : Value) (w : World) (lo B lo' B' : Nat) (_ : B ≤ w.heap.size) (_ : B' ≤ w.heap.size) (_ : Sl false (exS false d) w lo B kids v3) (_ : Sl false (exS false d) w lo' B' kids u3), Calls Try.prog 34 #[.agg #[.int .i64 op, .int .i64 n, .string name, v3], .agg #[.int .i64 op, .int .i64 n, .string name, u3]] w (Yes w) := eq_Expr_of d (eq_ExprS d)

theorem eq_Stmt_of (d : Nat) (HStmtS : ∀ (l : List St) (v u : Value) (w : World) (lo B lo' B' : Nat) (_ : B ≤ w.heap.size) (_ : B' ≤ w.heap.size) (_ : Sl false (stS false d) w lo B l v) (_ : Sl false (stS false d) w lo' B' l u), Calls Try.prog 178 #[v, u] w (Yes w)) (op : Int) (name : ByteArray) (args : List Ex) (v2 u2 : Value) (body : List St) (v3 u3 : Value) (els : List St) (v4 u4 : Value) (w : World) (lo B lo' B' : Nat) (hB : B ≤ w.heap.size) (hC : B' ≤ w.heap.size) (h2 : Sl false (exS false d) w lo B args v2) (k2 : Sl false (exS false d) w lo' B' args u2) (h3 : Sl false (stS false d) w lo B body v3) (k3 : Sl false (stS false d) w lo' B' body u3) (h4 : Sl false (stS false d) w lo B els v4) (k4 : Sl false (stS false d) w lo' B' els u4) :
    Calls Try.prog 204 #[.agg #[.int .i64 op, .string name, v2, v3, v4], .agg #[.int .i64 op, .string name, u2, u3, u4]] w (Yes w) := by
  have KStmtS := Lib.hid HStmtS
  clear HStmtS
  have hb0 : Below w.heap.size w ((w.alloc (.cells #[.int .i64 op, .string name, v2, v3, v4] 137)).alloc (.cells #[.int .i64 op, .string name, u2, u3, u4] 137)) := ((Below.refl _ _).alloc (Nat.le_refl _) _).alloc (by simp) _
  go_enter Try.func204, Try.ntmps204
  go_wp2_with fail
  refine (eq_ExprS d args v2 u2 _ lo B lo' B' (Nat.le_trans hB hb0.size) (Nat.le_trans hC hb0.size) (h2.below hb0 hB) (k2.below hb0 hC)).mono ?_
  rintro e w1 ⟨rfl, e1⟩
  have hb1 : Below w.heap.size w w1 := hb0.trans (e1.mono hb0.size)
  have P1 : Row w1 w.heap.size 137 #[.int .i64 op, .string name, v2, v3, v4] := ((Row.new w _ _).alloc _).below e1 (by simp; omega)
  have Q1 : Row w1 (w.heap.size + 1) 137 #[.int .i64 op, .string name, u2, u3, u4] := (show Row ((w.alloc (.cells #[.int .i64 op, .string name, v2, v3, v4] 137)).alloc (.cells #[.int .i64 op, .string name, u2, u3, u4] 137)) (w.heap.size + 1) _ _ by simpa using Row.new (w.alloc (.cells #[.int .i64 op, .string name, v2, v3, v4] 137)) 137 #[.int .i64 op, .string name, u2, u3, u4]).below e1 (by simp)
  have y1_3 : w1.cell? ⟨w.heap.size, 3, none⟩ = some (v3) := P1.cell 3
  have z1_3 : w1.cell? ⟨w.heap.size + 1, 3, none⟩ = some (u3) := Q1.cell 3
  have y1_4 : w1.cell? ⟨w.heap.size, 4, none⟩ = some (v4) := P1.cell 4
  have z1_4 : w1.cell? ⟨w.heap.size + 1, 4, none⟩ = some (u4) := Q1.cell 4
  go_wp2_with fail
  refine (KStmtS.out body v3 u3 _ lo B lo' B' (Nat.le_trans hB hb1.size) (Nat.le_trans hC hb1.size) (h3.below hb1 hB) (k3.below hb1 hC)).mono ?_
  rintro e w2 ⟨rfl, e2⟩
  have hb2 : Below w.heap.size w w2 := hb1.trans (e2.mono hb1.size)
  have P2 := P1.below e2 P1.lt
  have Q2 := Q1.below e2 Q1.lt
  have y2_4 : w2.cell? ⟨w.heap.size, 4, none⟩ = some (v4) := P2.cell 4
  have z2_4 : w2.cell? ⟨w.heap.size + 1, 4, none⟩ = some (u4) := Q2.cell 4
  go_wp2_with fail
  refine (KStmtS.out els v4 u4 _ lo B lo' B' (Nat.le_trans hB hb2.size) (Nat.le_trans hC hb2.size) (h4.below hb2 hB) (k4.below hb2 hC)).mono ?_
  rintro e w3 ⟨rfl, e3⟩
  have hb3 : Below w.heap.size w w3 := hb2.trans (e3.mono hb2.size)
  have P3 := P2.below e3 P2.lt
  have Q3 := Q2.below e3 Q2.lt
  go_wp2_with fail
  go_ret
  exact ⟨rfl, hb3⟩

set_option maxRecDepth 100000 in
theorem eq_StmtS_of (D : Nat) (HStmt : ∀ d, D = d + 1 → ∀ (op : Int) (name : ByteArray) (args : List Ex) (v2 u2 : Value) (body : List St) (v3 u3 : Value) (els : List St) (v4 u4 : Value) (w : World) (lo B lo' B' : Nat) (_ : B ≤ w.heap.size) (_ : B' ≤ w.heap.size) (_ : Sl false (exS false d) w lo B args v2) (_ : Sl false (exS false d) w lo' B' args u2) (_ : Sl false (stS false d) w lo B body v3) (_ : Sl false (stS false d) w lo' B' body u3) (_ : Sl false (stS false d) w lo B els v4) (_ : Sl false (stS false d) w lo' B' els u4), Calls Try.prog 204 #[.agg #[.int .i64 op, .string name, v2, v3, v4], .agg #[.int .i64 op, .string name, u2, u3, u4]] w (Yes w)) (l : List St) (v u : Value) (w : World) (lo B lo' B' : Nat) (hB : B ≤ w.heap.size) (hC : B' ≤ w.heap.size) (hv : Sl false (stS false D) w lo B l v) (hu : Sl false (stS false D) w lo' B' l u) :
    Calls Try.prog 178 #[v, u] w (Yes w) := by
  have KStmt := Lib.hid HStmt
  clear HStmt
  obtain ⟨A, cap, rfl, hlc, hcm⟩ := hv.form
  obtain ⟨A2, cap2, rfl, hlc2, hcm2⟩ := hu.form
  go_enter Try.func178, Try.ntmps178
  go_wp2_with fail
  go_loopw [5] (fun i wr => ∃ k : Nat, k ≤ l.length ∧ i = .int .i64 k ∧ Below w.heap.size w wr) (fun i _ => l.length - (intOf i).toNat)
  case atStart => exact ⟨0, by omega, rfl, Below.refl _ _⟩
  case round =>
    obtain ⟨k, hk, rfl, hb⟩ := hrel
    have hsz := hb.size
    by_cases hkl : k < l.length
    · obtain ⟨d, rfl⟩ := stS_pos hv (by omega)
      obtain ⟨b, o, op, name, args, v2, body, v3, els, v4, rfl, _, _, HL, g0, g1, g2, g3, g4, c0, c1, c2, c3, c4⟩ := st_get d (hv.below hb hB) hkl
      obtain ⟨b2, o2, op', name', args', u2, body', u3, els', u4, rfl, _, _, HL2, m0, m1, m2, m3, m4, t0, t1, t2, t3, t4⟩ := st_get d (hu.below hb hC) hkl
      have HI := HL.out.symm.trans HL2.out
      injection HI with q0 q1 q2 q3 q4
      subst q0 q1 q2 q3 q4
      clear HL HL2
      have hki : (0 : Int) ≤ (k : Int) := by omega
      have hkn : (k : Int) < (l.length : Int) := by omega
      go_wp2_with fail
      go_still_tail 8, (by kernel_rfl)
      have hbd : Below w.heap.size w wr.drew := hb.drew
      have D2 : Sl false (exS false d) wr.drew lo B args v2 := g2.keep (Nat.le_refl _) (Nat.le_refl _) (fun _ _ _ => rfl)
      have E2 : Sl false (exS false d) wr.drew lo' B' args u2 := m2.keep (Nat.le_refl _) (Nat.le_refl _) (fun _ _ _ => rfl)
      have D3 : Sl false (stS false d) wr.drew lo B body v3 := g3.keep (Nat.le_refl _) (Nat.le_refl _) (fun _ _ _ => rfl)
      have E3 : Sl false (stS false d) wr.drew lo' B' body u3 := m3.keep (Nat.le_refl _) (Nat.le_refl _) (fun _ _ _ => rfl)
      have D4 : Sl false (stS false d) wr.drew lo B els v4 := g4.keep (Nat.le_refl _) (Nat.le_refl _) (fun _ _ _ => rfl)
      have E4 : Sl false (stS false d) wr.drew lo' B' els u4 := m4.keep (Nat.le_refl _) (Nat.le_refl _) (fun _ _ _ => rfl)
      change wpList _ _ _ _ _ wr.drew
      generalize wr.drew = w2 at hbd D2 E2 D3 E3 D4 E4 ⊢
      have hsz2 := hbd.size
      go_wp2_with fail
      refine (KStmt.out d rfl op name args v2 u2 body v3 u3 els v4 u4 _ lo B lo' B' (by omega) (by omega) D2 E2 D3 E3 D4 E4).mono ?_
      rintro e w3 ⟨rfl, hb1⟩
      go_wp2_with fail
      go_roundw
      case rel => exact ⟨k + 1, by omega, by go_num, hbd.trans (hb1.mono hbd.size)⟩
      case measure => simp [intOf]; omega
    · go_wp2_with fail
      go_ret
      exact ⟨rfl, hb⟩

theorem eq_StmtS : ∀ d : Nat, ∀ (l : List St) (v u : Value) (w : World) (lo B lo' B' : Nat) (_ : B ≤ w.heap.size) (_ : B' ≤ w.heap.size) (_ : Sl false (stS false d) w lo B l v) (_ : Sl false (stS false d) w lo' B' l u), Calls Try.prog 178 #[v, u] w (Yes w) := by
  intro d
  induction d with
  | zero => exact eq_StmtS_of 0 (fun d h => by omega)
  | succ d ih =>
    refine eq_StmtS_of (d + 1) (fun d' h => ?_)
    obtain rfl : d = d' := by omega
    exact eq_Stmt_of d ih
theorem eq_Stmt (d : Nat) : ∀ (op : Int) (name : ByteArray) (args : List Ex) (v2 u2 : Value) (body : List St) (v3 u3 : Value) (els : List St) (v4 u4 : Value) (w : World) (lo B lo' B' : Nat) (_ : B ≤ w.heap.size) (_ : B' ≤ w.heap.size) (_ : Sl false (exS false d) w lo B args v2) (_ : Sl false (exS false d) w lo' B' args u2) (_ : Sl false (stS false d) w lo B body v3) (_ : Sl false (stS false d) w lo' B' body u3) (_ : Sl false (stS false d) w lo B els v4) (_ : Sl false (stS false d) w lo' B' els u4), Calls Try.prog 204 #[.agg #[.int .i64 op, .string name, v2, v3, v4], .agg #[.int .i64 op, .string name, u2, u3, u4]] w (Yes w) := eq_Stmt_of d (eq_StmtS d)

theorem eq_Fn (d : Nat) (name : ByteArray) (params : List ByteArray) (v1 u1 : Value) (body : List St) (v2 u2 : Value) (w : World) (lo B lo' B' : Nat) (hB : B ≤ w.heap.size) (hC : B' ≤ w.heap.size) (h1 : Sl false (strS false) w lo B params v1) (k1 : Sl false (strS false) w lo' B' params u1) (h2 : Sl false (stS false d) w lo B body v2) (k2 : Sl false (stS false d) w lo' B' body u2) :
    Calls Try.prog 141 #[.agg #[.string name, v1, v2], .agg #[.string name, u1, u2]] w (Yes w) := by
  have hb0 : Below w.heap.size w ((w.alloc (.cells #[.string name, v1, v2] 123)).alloc (.cells #[.string name, u1, u2] 123)) := ((Below.refl _ _).alloc (Nat.le_refl _) _).alloc (by simp) _
  go_enter Try.func141, Try.ntmps141
  go_wp2_with fail
  refine (eq_StringS params v1 u1 _ lo B lo' B' (Nat.le_trans hB hb0.size) (Nat.le_trans hC hb0.size) (h1.below hb0 hB) (k1.below hb0 hC)).mono ?_
  rintro e w1 ⟨rfl, e1⟩
  have hb1 : Below w.heap.size w w1 := hb0.trans (e1.mono hb0.size)
  have P1 : Row w1 w.heap.size 123 #[.string name, v1, v2] := ((Row.new w _ _).alloc _).below e1 (by simp; omega)
  have Q1 : Row w1 (w.heap.size + 1) 123 #[.string name, u1, u2] := (show Row ((w.alloc (.cells #[.string name, v1, v2] 123)).alloc (.cells #[.string name, u1, u2] 123)) (w.heap.size + 1) _ _ by simpa using Row.new (w.alloc (.cells #[.string name, v1, v2] 123)) 123 #[.string name, u1, u2]).below e1 (by simp)
  have y1_2 : w1.cell? ⟨w.heap.size, 2, none⟩ = some (v2) := P1.cell 2
  have z1_2 : w1.cell? ⟨w.heap.size + 1, 2, none⟩ = some (u2) := Q1.cell 2
  go_wp2_with fail
  refine (eq_StmtS d body v2 u2 _ lo B lo' B' (Nat.le_trans hB hb1.size) (Nat.le_trans hC hb1.size) (h2.below hb1 hB) (k2.below hb1 hC)).mono ?_
  rintro e w2 ⟨rfl, e2⟩
  have hb2 : Below w.heap.size w w2 := hb1.trans (e2.mono hb1.size)
  have P2 := P1.below e2 P1.lt
  have Q2 := Q1.below e2 Q1.lt
  go_wp2_with fail
  go_ret
  exact ⟨rfl, hb2⟩

set_option maxRecDepth 100000 in
theorem eq_FnS (d : Nat) (l : List FnD) (v u : Value) (w : World) (lo B lo' B' : Nat) (hB : B ≤ w.heap.size) (hC : B' ≤ w.heap.size) (hv : Sl false (fnS false d) w lo B l v) (hu : Sl false (fnS false d) w lo' B' l u) :
    Calls Try.prog 102 #[v, u] w (Yes w) := by
  obtain ⟨A, cap, rfl, hlc, hcm⟩ := hv.form
  obtain ⟨A2, cap2, rfl, hlc2, hcm2⟩ := hu.form
  go_enter Try.func102, Try.ntmps102
  go_wp2_with fail
  go_loopw [5] (fun i wr => ∃ k : Nat, k ≤ l.length ∧ i = .int .i64 k ∧ Below w.heap.size w wr) (fun i _ => l.length - (intOf i).toNat)
  case atStart => exact ⟨0, by omega, rfl, Below.refl _ _⟩
  case round =>
    obtain ⟨k, hk, rfl, hb⟩ := hrel
    have hsz := hb.size
    by_cases hkl : k < l.length
    · obtain ⟨b, o, name, params, v1, body, v2, rfl, _, _, HL, g0, g1, g2, c0, c1, c2⟩ := fn_get d (hv.below hb hB) hkl
      obtain ⟨b2, o2, name', params', u1, body', u2, rfl, _, _, HL2, m0, m1, m2, t0, t1, t2⟩ := fn_get d (hu.below hb hC) hkl
      have HI := HL.out.symm.trans HL2.out
      injection HI with q0 q1 q2
      subst q0 q1 q2
      clear HL HL2
      have hki : (0 : Int) ≤ (k : Int) := by omega
      have hkn : (k : Int) < (l.length : Int) := by omega
      go_wp2_with fail
      go_still_tail 8, (by kernel_rfl)
      have hbd : Below w.heap.size w wr.drew := hb.drew
      have D1 : Sl false (strS false) wr.drew lo B params v1 := g1.keep (Nat.le_refl _) (Nat.le_refl _) (fun _ _ _ => rfl)
      have E1 : Sl false (strS false) wr.drew lo' B' params u1 := m1.keep (Nat.le_refl _) (Nat.le_refl _) (fun _ _ _ => rfl)
      have D2 : Sl false (stS false d) wr.drew lo B body v2 := g2.keep (Nat.le_refl _) (Nat.le_refl _) (fun _ _ _ => rfl)
      have E2 : Sl false (stS false d) wr.drew lo' B' body u2 := m2.keep (Nat.le_refl _) (Nat.le_refl _) (fun _ _ _ => rfl)
      change wpList _ _ _ _ _ wr.drew
      generalize wr.drew = w2 at hbd D1 E1 D2 E2 ⊢
      have hsz2 := hbd.size
      go_wp2_with fail
      refine (eq_Fn d name params v1 u1 body v2 u2 _ lo B lo' B' (by omega) (by omega) D1 E1 D2 E2).mono ?_
      rintro e w3 ⟨rfl, hb1⟩
      go_wp2_with fail
      go_roundw
      case rel => exact ⟨k + 1, by omega, by go_num, hbd.trans (hb1.mono hbd.size)⟩
      case measure => simp [intOf]; omega
    · go_wp2_with fail
      go_ret
      exact ⟨rfl, hb⟩

theorem eq_Program (d : Nat) (fns : List FnD) (v0 u0 : Value) (w : World) (lo B lo' B' : Nat) (hB : B ≤ w.heap.size) (hC : B' ≤ w.heap.size) (h0 : Sl false (fnS false d) w lo B fns v0) (k0 : Sl false (fnS false d) w lo' B' fns u0) :
    Calls Try.prog 46 #[.agg #[v0], .agg #[u0]] w (Yes w) := by
  have hb0 : Below w.heap.size w ((w.alloc (.cells #[v0] 72)).alloc (.cells #[u0] 72)) := ((Below.refl _ _).alloc (Nat.le_refl _) _).alloc (by simp) _
  go_enter Try.func46, Try.ntmps46
  go_wp2_with fail
  refine (eq_FnS d fns v0 u0 _ lo B lo' B' (Nat.le_trans hB hb0.size) (Nat.le_trans hC hb0.size) (h0.below hb0 hB) (k0.below hb0 hC)).mono ?_
  rintro e w1 ⟨rfl, e1⟩
  have hb1 : Below w.heap.size w w1 := hb0.trans (e1.mono hb0.size)
  have P1 : Row w1 w.heap.size 72 #[v0] := ((Row.new w _ _).alloc _).below e1 (by simp; omega)
  have Q1 : Row w1 (w.heap.size + 1) 72 #[u0] := (show Row ((w.alloc (.cells #[v0] 72)).alloc (.cells #[u0] 72)) (w.heap.size + 1) _ _ by simpa using Row.new (w.alloc (.cells #[v0] 72)) 72 #[u0]).below e1 (by simp)
  go_wp2_with fail
  go_ret
  exact ⟨rfl, hb1⟩

end Go.Proofs.Ytaokcnjjlbdnoaa

