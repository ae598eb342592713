/-
  The eq.. functions: at equal data they answer true. Conditions: the arguments read as data.
-/
import Derived.Test.YtgcjccoglcgcoaaTo
import Derived.StillTailTactics
import Derived.Deep.QuietTactic
import Derived.BigQuiet
namespace Go.Proofs.Ytgcjccoglcgcoaa
open Go.RowKit Go.ChangeShapes Go.WideShapes Go.Deep

theorem below_drewN {B : Nat} {a w : World} (h : Below B a w) (n : Nat) : Below B a (w.drewN n) := ⟨h.os, h.tape, h.output, h.size, h.block⟩

/-- it answers true and leaves what was there -/
def Yes (w : World) (e : Ending) (w' : World) : Prop := e = .returned (.bool true) ∧ Below w.heap.size w w'

theorem eq_IntS (l : List Int) (v u : Value) (w : World) (lo B lo' B' : Nat) (hB : B ≤ w.heap.size) (hC : B' ≤ w.heap.size) (hv : Sl false (intS false) w lo B l v) (hu : Sl false (intS false) w lo' B' l u) :
    Calls Try.prog 116 #[v, u] w (Yes w) := by
  obtain ⟨A, cap, rfl, hlc, hcm⟩ := hv.form
  obtain ⟨A2, cap2, rfl, hlc2, hcm2⟩ := hu.form
  go_enter Try.func116, Try.ntmps116
  go_wp2_with fail
  go_loopw [5] (fun i wr => ∃ k : Nat, k ≤ l.length ∧ i = .int .i64 k ∧ Below w.heap.size w wr) (fun i _ => l.length - (intOf i).toNat)
  case atStart => exact ⟨0, by omega, rfl, Below.refl _ _⟩
  case round =>
    obtain ⟨k, hk, rfl, hb⟩ := hrel
    have hsz := hb.size
    by_cases hkl : k < l.length
    · obtain ⟨b, o, a, rfl, _, _, HL, ha, c0⟩ := int_get (hv.below hb hB) hkl
      obtain ⟨b2, o2, a2, rfl, _, _, HL2, _, c1⟩ := int_get (hu.below hb hC) hkl
      obtain rfl : a = a2 := HL.out.symm.trans HL2.out
      have hki : (0 : Int) ≤ (k : Int) := by omega
      have hkn : (k : Int) < (l.length : Int) := by omega
      go_wp2_with fail
      go_quiet (fail)
      go_wp2_with fail
      go_roundw
      case rel => exact ⟨k + 1, by omega, by go_num, below_drewN hb _⟩
      case measure => simp [intOf]; omega
    · go_wp2_with fail
      go_ret
      exact ⟨rfl, hb⟩

theorem eq_Phi (to : Int) (args : List Int) (v1 u1 : Value) (w : World) (lo B lo' B' : Nat) (hB : B ≤ w.heap.size) (hC : B' ≤ w.heap.size) (h1 : Sl false (intS false) w lo B args v1) (k1 : Sl false (intS false) w lo' B' args u1) :
    Calls Try.prog 121 #[.agg #[.int .i64 to, v1], .agg #[.int .i64 to, u1]] w (Yes w) := by
  have hb0 : Below w.heap.size w ((w.alloc (.cells #[.int .i64 to, v1] 69)).alloc (.cells #[.int .i64 to, u1] 69)) := ((Below.refl _ _).alloc (Nat.le_refl _) _).alloc (by simp) _
  go_enter Try.func121, Try.ntmps121
  go_wp2_with fail
  refine (eq_IntS args v1 u1 _ lo B lo' B' (Nat.le_trans hB hb0.size) (Nat.le_trans hC hb0.size) (h1.below hb0 hB) (k1.below hb0 hC)).mono ?_
  rintro e w1 ⟨rfl, e1⟩
  have hb1 : Below w.heap.size w w1 := hb0.trans (e1.mono hb0.size)
  have P1 : Row w1 w.heap.size 69 #[.int .i64 to, v1] := ((Row.new w _ _).alloc _).below e1 (by simp; omega)
  have Q1 : Row w1 (w.heap.size + 1) 69 #[.int .i64 to, u1] := (show Row ((w.alloc (.cells #[.int .i64 to, v1] 69)).alloc (.cells #[.int .i64 to, u1] 69)) (w.heap.size + 1) _ _ by simpa using Row.new (w.alloc (.cells #[.int .i64 to, v1] 69)) 69 #[.int .i64 to, u1]).below e1 (by simp)
  go_wp2_with fail
  go_ret
  exact ⟨rfl, hb1⟩

set_option maxRecDepth 100000 in
theorem eq_PhiS (l : List PhiD) (v u : Value) (w : World) (lo B lo' B' : Nat) (hB : B ≤ w.heap.size) (hC : B' ≤ w.heap.size) (hv : Sl false (phiS false) w lo B l v) (hu : Sl false (phiS false) w lo' B' l u) :
    Calls Try.prog 114 #[v, u] w (Yes w) := by
  obtain ⟨A, cap, rfl, hlc, hcm⟩ := hv.form
  obtain ⟨A2, cap2, rfl, hlc2, hcm2⟩ := hu.form
  go_enter Try.func114, Try.ntmps114
  go_wp2_with fail
  go_loopw [5] (fun i wr => ∃ k : Nat, k ≤ l.length ∧ i = .int .i64 k ∧ Below w.heap.size w wr) (fun i _ => l.length - (intOf i).toNat)
  case atStart => exact ⟨0, by omega, rfl, Below.refl _ _⟩
  case round =>
    obtain ⟨k, hk, rfl, hb⟩ := hrel
    have hsz := hb.size
    by_cases hkl : k < l.length
    · obtain ⟨b, o, to, args, v1, rfl, _, _, HL, g0, g1, c0, c1⟩ := phi_get (hv.below hb hB) hkl
      obtain ⟨b2, o2, to', args', u1, rfl, _, _, HL2, m0, m1, t0, t1⟩ := phi_get (hu.below hb hC) hkl
      have HI := HL.out.symm.trans HL2.out
      injection HI with q0 q1
      subst q0 q1
      clear HL HL2
      have hki : (0 : Int) ≤ (k : Int) := by omega
      have hkn : (k : Int) < (l.length : Int) := by omega
      go_wp2_with fail
      go_still_tail 8, (by kernel_rfl)
      have hbd : Below w.heap.size w wr.drew := hb.drew
      have D1 : Sl false (intS false) wr.drew lo B args v1 := g1.keep (Nat.le_refl _) (Nat.le_refl _) (fun _ _ _ => rfl)
      have E1 : Sl false (intS false) wr.drew lo' B' args u1 := m1.keep (Nat.le_refl _) (Nat.le_refl _) (fun _ _ _ => rfl)
      change wpList _ _ _ _ _ wr.drew
      generalize wr.drew = w2 at hbd D1 E1 ⊢
      have hsz2 := hbd.size
      go_wp2_with fail
      refine (eq_Phi to args v1 u1 _ lo B lo' B' (by omega) (by omega) D1 E1).mono ?_
      rintro e w3 ⟨rfl, hb1⟩
      go_wp2_with fail
      go_roundw
      case rel => exact ⟨k + 1, by omega, by go_num, hbd.trans (hb1.mono hbd.size)⟩
      case measure => simp [intOf]; omega
    · go_wp2_with fail
      go_ret
      exact ⟨rfl, hb⟩

theorem eq_Ins (op : Int) (to : Int) (args : List Int) (v2 u2 : Value) (n : Int) (w : World) (lo B lo' B' : Nat) (hB : B ≤ w.heap.size) (hC : B' ≤ w.heap.size) (h2 : Sl false (intS false) w lo B args v2) (k2 : Sl false (intS false) w lo' B' args u2) :
    Calls Try.prog 122 #[.agg #[.int .i64 op, .int .i64 to, v2, .int .i64 n], .agg #[.int .i64 op, .int .i64 to, u2, .int .i64 n]] w (Yes w) := by
  have hb0 : Below w.heap.size w ((w.alloc (.cells #[.int .i64 op, .int .i64 to, v2, .int .i64 n] 72)).alloc (.cells #[.int .i64 op, .int .i64 to, u2, .int .i64 n] 72)) := ((Below.refl _ _).alloc (Nat.le_refl _) _).alloc (by simp) _
  go_enter Try.func122, Try.ntmps122
  go_wp2_with fail
  refine (eq_IntS args v2 u2 _ lo B lo' B' (Nat.le_trans hB hb0.size) (Nat.le_trans hC hb0.size) (h2.below hb0 hB) (k2.below hb0 hC)).mono ?_
  rintro e w1 ⟨rfl, e1⟩
  have hb1 : Below w.heap.size w w1 := hb0.trans (e1.mono hb0.size)
  have P1 : Row w1 w.heap.size 72 #[.int .i64 op, .int .i64 to, v2, .int .i64 n] := ((Row.new w _ _).alloc _).below e1 (by simp; omega)
  have Q1 : Row w1 (w.heap.size + 1) 72 #[.int .i64 op, .int .i64 to, u2, .int .i64 n] := (show Row ((w.alloc (.cells #[.int .i64 op, .int .i64 to, v2, .int .i64 n] 72)).alloc (.cells #[.int .i64 op, .int .i64 to, u2, .int .i64 n] 72)) (w.heap.size + 1) _ _ by simpa using Row.new (w.alloc (.cells #[.int .i64 op, .int .i64 to, v2, .int .i64 n] 72)) 72 #[.int .i64 op, .int .i64 to, u2, .int .i64 n]).below e1 (by simp)
  have y1_3 : w1.cell? ⟨w.heap.size, 3, none⟩ = some (.int .i64 n) := P1.cell 3
  have z1_3 : w1.cell? ⟨w.heap.size + 1, 3, none⟩ = some (.int .i64 n) := Q1.cell 3
  go_wp2_with fail
  go_ret
  exact ⟨rfl, hb1⟩

set_option maxRecDepth 100000 in
theorem eq_InsS (l : List InsD) (v u : Value) (w : World) (lo B lo' B' : Nat) (hB : B ≤ w.heap.size) (hC : B' ≤ w.heap.size) (hv : Sl false (insS false) w lo B l v) (hu : Sl false (insS false) w lo' B' l u) :
    Calls Try.prog 115 #[v, u] w (Yes w) := by
  obtain ⟨A, cap, rfl, hlc, hcm⟩ := hv.form
  obtain ⟨A2, cap2, rfl, hlc2, hcm2⟩ := hu.form
  go_enter Try.func115, Try.ntmps115
  go_wp2_with fail
  go_loopw [5] (fun i wr => ∃ k : Nat, k ≤ l.length ∧ i = .int .i64 k ∧ Below w.heap.size w wr) (fun i _ => l.length - (intOf i).toNat)
  case atStart => exact ⟨0, by omega, rfl, Below.refl _ _⟩
  case round =>
    obtain ⟨k, hk, rfl, hb⟩ := hrel
    have hsz := hb.size
    by_cases hkl : k < l.length
    · obtain ⟨b, o, op, to, args, v2, n, rfl, _, _, HL, g0, g1, g2, g3, c0, c1, c2, c3⟩ := ins_get (hv.below hb hB) hkl
      obtain ⟨b2, o2, op', to', args', u2, n', rfl, _, _, HL2, m0, m1, m2, m3, t0, t1, t2, t3⟩ := ins_get (hu.below hb hC) hkl
      have HI := HL.out.symm.trans HL2.out
      injection HI with q0 q1 q2 q3
      subst q0 q1 q2 q3
      clear HL HL2
      have hki : (0 : Int) ≤ (k : Int) := by omega
      have hkn : (k : Int) < (l.length : Int) := by omega
      go_wp2_with fail
      go_still_tail 8, (by kernel_rfl)
      have hbd : Below w.heap.size w wr.drew := hb.drew
      have D2 : Sl false (intS false) wr.drew lo B args v2 := g2.keep (Nat.le_refl _) (Nat.le_refl _) (fun _ _ _ => rfl)
      have E2 : Sl false (intS false) wr.drew lo' B' args u2 := m2.keep (Nat.le_refl _) (Nat.le_refl _) (fun _ _ _ => rfl)
      change wpList _ _ _ _ _ wr.drew
      generalize wr.drew = w2 at hbd D2 E2 ⊢
      have hsz2 := hbd.size
      go_wp2_with fail
      refine (eq_Ins op to args v2 u2 n _ lo B lo' B' (by omega) (by omega) D2 E2).mono ?_
      rintro e w3 ⟨rfl, hb1⟩
      go_wp2_with fail
      go_roundw
      case rel => exact ⟨k + 1, by omega, by go_num, hbd.trans (hb1.mono hbd.size)⟩
      case measure => simp [intOf]; omega
    · go_wp2_with fail
      go_ret
      exact ⟨rfl, hb⟩

theorem eq_Block (phis : List PhiD) (v0 u0 : Value) (ins : List InsD) (v1 u1 : Value) (jump : Int) (on : Int) (next : List Int) (v4 u4 : Value) (w : World) (lo B lo' B' : Nat) (hB : B ≤ w.heap.size) (hC : B' ≤ w.heap.size) (h0 : Sl false (phiS false) w lo B phis v0) (k0 : Sl false (phiS false) w lo' B' phis u0) (h1 : Sl false (insS false) w lo B ins v1) (k1 : Sl false (insS false) w lo' B' ins u1) (h4 : Sl false (intS false) w lo B next v4) (k4 : Sl false (intS false) w lo' B' next u4) :
    Calls Try.prog 104 #[.agg #[v0, v1, .int .i64 jump, .int .i64 on, v4], .agg #[u0, u1, .int .i64 jump, .int .i64 on, u4]] w (Yes w) := by
  have hb0 : Below w.heap.size w ((w.alloc (.cells #[v0, v1, .int .i64 jump, .int .i64 on, v4] 65)).alloc (.cells #[u0, u1, .int .i64 jump, .int .i64 on, u4] 65)) := ((Below.refl _ _).alloc (Nat.le_refl _) _).alloc (by simp) _
  go_enter Try.func104, Try.ntmps104
  go_wp2_with fail
  refine (eq_PhiS phis v0 u0 _ lo B lo' B' (Nat.le_trans hB hb0.size) (Nat.le_trans hC hb0.size) (h0.below hb0 hB) (k0.below hb0 hC)).mono ?_
  rintro e w1 ⟨rfl, e1⟩
  have hb1 : Below w.heap.size w w1 := hb0.trans (e1.mono hb0.size)
  have P1 : Row w1 w.heap.size 65 #[v0, v1, .int .i64 jump, .int .i64 on, v4] := ((Row.new w _ _).alloc _).below e1 (by simp; omega)
  have Q1 : Row w1 (w.heap.size + 1) 65 #[u0, u1, .int .i64 jump, .int .i64 on, u4] := (show Row ((w.alloc (.cells #[v0, v1, .int .i64 jump, .int .i64 on, v4] 65)).alloc (.cells #[u0, u1, .int .i64 jump, .int .i64 on, u4] 65)) (w.heap.size + 1) _ _ by simpa using Row.new (w.alloc (.cells #[v0, v1, .int .i64 jump, .int .i64 on, v4] 65)) 65 #[u0, u1, .int .i64 jump, .int .i64 on, u4]).below e1 (by simp)
  have y1_1 : w1.cell? ⟨w.heap.size, 1, none⟩ = some (v1) := P1.cell 1
  have z1_1 : w1.cell? ⟨w.heap.size + 1, 1, none⟩ = some (u1) := Q1.cell 1
  have y1_2 : w1.cell? ⟨w.heap.size, 2, none⟩ = some (.int .i64 jump) := P1.cell 2
  have z1_2 : w1.cell? ⟨w.heap.size + 1, 2, none⟩ = some (.int .i64 jump) := Q1.cell 2
  have y1_3 : w1.cell? ⟨w.heap.size, 3, none⟩ = some (.int .i64 on) := P1.cell 3
  have z1_3 : w1.cell? ⟨w.heap.size + 1, 3, none⟩ = some (.int .i64 on) := Q1.cell 3
  have y1_4 : w1.cell? ⟨w.heap.size, 4, none⟩ = some (v4) := P1.cell 4
  have z1_4 : w1.cell? ⟨w.heap.size + 1, 4, none⟩ = some (u4) := Q1.cell 4
  go_wp2_with fail
  refine (eq_InsS ins v1 u1 _ lo B lo' B' (Nat.le_trans hB hb1.size) (Nat.le_trans hC hb1.size) (h1.below hb1 hB) (k1.below hb1 hC)).mono ?_
  rintro e w2 ⟨rfl, e2⟩
  have hb2 : Below w.heap.size w w2 := hb1.trans (e2.mono hb1.size)
  have P2 := P1.below e2 P1.lt
  have Q2 := Q1.below e2 Q1.lt
  have y2_2 : w2.cell? ⟨w.heap.size, 2, none⟩ = some (.int .i64 jump) := P2.cell 2
  have z2_2 : w2.cell? ⟨w.heap.size + 1, 2, none⟩ = some (.int .i64 jump) := Q2.cell 2
  have y2_3 : w2.cell? ⟨w.heap.size, 3, none⟩ = some (.int .i64 on) := P2.cell 3
  have z2_3 : w2.cell? ⟨w.heap.size + 1, 3, none⟩ = some (.int .i64 on) := Q2.cell 3
  have y2_4 : w2.cell? ⟨w.heap.size, 4, none⟩ = some (v4) := P2.cell 4
  have z2_4 : w2.cell? ⟨w.heap.size + 1, 4, none⟩ = some (u4) := Q2.cell 4
  go_wp2_with fail
  refine (eq_IntS next v4 u4 _ lo B lo' B' (Nat.le_trans hB hb2.size) (Nat.le_trans hC hb2.size) (h4.below hb2 hB) (k4.below hb2 hC)).mono ?_
  rintro e w3 ⟨rfl, e3⟩
  have hb3 : Below w.heap.size w w3 := hb2.trans (e3.mono hb2.size)
  have P3 := P2.below e3 P2.lt
  have Q3 := Q2.below e3 Q2.lt
  go_wp2_with fail
  go_ret
  exact ⟨rfl, hb3⟩

set_option maxRecDepth 100000 in
theorem eq_BlockS (l : List BlkD) (v u : Value) (w : World) (lo B lo' B' : Nat) (hB : B ≤ w.heap.size) (hC : B' ≤ w.heap.size) (hv : Sl false (blkS false) w lo B l v) (hu : Sl false (blkS false) w lo' B' l u) :
    Calls Try.prog 73 #[v, u] w (Yes w) := by
  obtain ⟨A, cap, rfl, hlc, hcm⟩ := hv.form
  obtain ⟨A2, cap2, rfl, hlc2, hcm2⟩ := hu.form
  go_enter Try.func73, Try.ntmps73
  go_wp2_with fail
  go_loopw [5] (fun i wr => ∃ k : Nat, k ≤ l.length ∧ i = .int .i64 k ∧ Below w.heap.size w wr) (fun i _ => l.length - (intOf i).toNat)
  case atStart => exact ⟨0, by omega, rfl, Below.refl _ _⟩
  case round =>
    obtain ⟨k, hk, rfl, hb⟩ := hrel
    have hsz := hb.size
    by_cases hkl : k < l.length
    · obtain ⟨b, o, phis, v0, ins, v1, jump, on, next, v4, rfl, _, _, HL, g0, g1, g2, g3, g4, c0, c1, c2, c3, c4⟩ := blk_get (hv.below hb hB) hkl
      obtain ⟨b2, o2, phis', u0, ins', u1, jump', on', next', u4, rfl, _, _, HL2, m0, m1, m2, m3, m4, t0, t1, t2, t3, t4⟩ := blk_get (hu.below hb hC) hkl
      have HI := HL.out.symm.trans HL2.out
      injection HI with q0 q1 q2 q3 q4
      subst q0 q1 q2 q3 q4
      clear HL HL2
      have hki : (0 : Int) ≤ (k : Int) := by omega
      have hkn : (k : Int) < (l.length : Int) := by omega
      go_wp2_with fail
      go_still_tail 8, (by kernel_rfl)
      have hbd : Below w.heap.size w wr.drew := hb.drew
      have D0 : Sl false (phiS false) wr.drew lo B phis v0 := g0.keep (Nat.le_refl _) (Nat.le_refl _) (fun _ _ _ => rfl)
      have E0 : Sl false (phiS false) wr.drew lo' B' phis u0 := m0.keep (Nat.le_refl _) (Nat.le_refl _) (fun _ _ _ => rfl)
      have D1 : Sl false (insS false) wr.drew lo B ins v1 := g1.keep (Nat.le_refl _) (Nat.le_refl _) (fun _ _ _ => rfl)
      have E1 : Sl false (insS false) wr.drew lo' B' ins u1 := m1.keep (Nat.le_refl _) (Nat.le_refl _) (fun _ _ _ => rfl)
      have D4 : Sl false (intS false) wr.drew lo B next v4 := g4.keep (Nat.le_refl _) (Nat.le_refl _) (fun _ _ _ => rfl)
      have E4 : Sl false (intS false) wr.drew lo' B' next u4 := m4.keep (Nat.le_refl _) (Nat.le_refl _) (fun _ _ _ => rfl)
      change wpList _ _ _ _ _ wr.drew
      generalize wr.drew = w2 at hbd D0 E0 D1 E1 D4 E4 ⊢
      have hsz2 := hbd.size
      go_wp2_with fail
      refine (eq_Block phis v0 u0 ins v1 u1 jump on next v4 u4 _ lo B lo' B' (by omega) (by omega) D0 E0 D1 E1 D4 E4).mono ?_
      rintro e w3 ⟨rfl, hb1⟩
      go_wp2_with fail
      go_roundw
      case rel => exact ⟨k + 1, by omega, by go_num, hbd.trans (hb1.mono hbd.size)⟩
      case measure => simp [intOf]; omega
    · go_wp2_with fail
      go_ret
      exact ⟨rfl, hb⟩

theorem eq_Code (params : Int) (regs : Int) (blocks : List BlkD) (v2 u2 : Value) (w : World) (lo B lo' B' : Nat) (hB : B ≤ w.heap.size) (hC : B' ≤ w.heap.size) (h2 : Sl false (blkS false) w lo B blocks v2) (k2 : Sl false (blkS false) w lo' B' blocks u2) :
    Calls Try.prog 44 #[.agg #[.int .i64 params, .int .i64 regs, v2], .agg #[.int .i64 params, .int .i64 regs, u2]] w (Yes w) := by
  have hb0 : Below w.heap.size w ((w.alloc (.cells #[.int .i64 params, .int .i64 regs, v2] 39)).alloc (.cells #[.int .i64 params, .int .i64 regs, u2] 39)) := ((Below.refl _ _).alloc (Nat.le_refl _) _).alloc (by simp) _
  go_enter Try.func44, Try.ntmps44
  go_wp2_with fail
  refine (eq_BlockS blocks v2 u2 _ lo B lo' B' (Nat.le_trans hB hb0.size) (Nat.le_trans hC hb0.size) (h2.below hb0 hB) (k2.below hb0 hC)).mono ?_
  rintro e w1 ⟨rfl, e1⟩
  have hb1 : Below w.heap.size w w1 := hb0.trans (e1.mono hb0.size)
  have P1 : Row w1 w.heap.size 39 #[.int .i64 params, .int .i64 regs, v2] := ((Row.new w _ _).alloc _).below e1 (by simp; omega)
  have Q1 : Row w1 (w.heap.size + 1) 39 #[.int .i64 params, .int .i64 regs, u2] := (show Row ((w.alloc (.cells #[.int .i64 params, .int .i64 regs, v2] 39)).alloc (.cells #[.int .i64 params, .int .i64 regs, u2] 39)) (w.heap.size + 1) _ _ by simpa using Row.new (w.alloc (.cells #[.int .i64 params, .int .i64 regs, v2] 39)) 39 #[.int .i64 params, .int .i64 regs, u2]).below e1 (by simp)
  go_wp2_with fail
  go_ret
  exact ⟨rfl, hb1⟩

set_option maxRecDepth 100000 in
theorem eq_CodeS (l : List CodeD) (v u : Value) (w : World) (lo B lo' B' : Nat) (hB : B ≤ w.heap.size) (hC : B' ≤ w.heap.size) (hv : Sl false (codeS false) w lo B l v) (hu : Sl false (codeS false) w lo' B' l u) :
    Calls Try.prog 23 #[v, u] w (Yes w) := by
  obtain ⟨A, cap, rfl, hlc, hcm⟩ := hv.form
  obtain ⟨A2, cap2, rfl, hlc2, hcm2⟩ := hu.form
  go_enter Try.func23, Try.ntmps23
  go_wp2_with fail
  go_loopw [5] (fun i wr => ∃ k : Nat, k ≤ l.length ∧ i = .int .i64 k ∧ Below w.heap.size w wr) (fun i _ => l.length - (intOf i).toNat)
  case atStart => exact ⟨0, by omega, rfl, Below.refl _ _⟩
  case round =>
    obtain ⟨k, hk, rfl, hb⟩ := hrel
    have hsz := hb.size
    by_cases hkl : k < l.length
    · obtain ⟨b, o, params, regs, blocks, v2, rfl, _, _, HL, g0, g1, g2, c0, c1, c2⟩ := code_get (hv.below hb hB) hkl
      obtain ⟨b2, o2, params', regs', blocks', u2, rfl, _, _, HL2, m0, m1, m2, t0, t1, t2⟩ := code_get (hu.below hb hC) hkl
      have HI := HL.out.symm.trans HL2.out
      injection HI with q0 q1 q2
      subst q0 q1 q2
      clear HL HL2
      have hki : (0 : Int) ≤ (k : Int) := by omega
      have hkn : (k : Int) < (l.length : Int) := by omega
      go_wp2_with fail
      go_still_tail 8, (by kernel_rfl)
      have hbd : Below w.heap.size w wr.drew := hb.drew
      have D2 : Sl false (blkS false) wr.drew lo B blocks v2 := g2.keep (Nat.le_refl _) (Nat.le_refl _) (fun _ _ _ => rfl)
      have E2 : Sl false (blkS false) wr.drew lo' B' blocks u2 := m2.keep (Nat.le_refl _) (Nat.le_refl _) (fun _ _ _ => rfl)
      change wpList _ _ _ _ _ wr.drew
      generalize wr.drew = w2 at hbd D2 E2 ⊢
      have hsz2 := hbd.size
      go_wp2_with fail
      refine (eq_Code params regs blocks v2 u2 _ lo B lo' B' (by omega) (by omega) D2 E2).mono ?_
      rintro e w3 ⟨rfl, hb1⟩
      go_wp2_with fail
      go_roundw
      case rel => exact ⟨k + 1, by omega, by go_num, hbd.trans (hb1.mono hbd.size)⟩
      case measure => simp [intOf]; omega
    · go_wp2_with fail
      go_ret
      exact ⟨rfl, hb⟩

theorem eq_Unit (codes : List CodeD) (v0 u0 : Value) (w : World) (lo B lo' B' : Nat) (hB : B ≤ w.heap.size) (hC : B' ≤ w.heap.size) (h0 : Sl false (codeS false) w lo B codes v0) (k0 : Sl false (codeS false) w lo' B' codes u0) :
    Calls Try.prog 9 #[.agg #[v0], .agg #[u0]] w (Yes w) := by
  have hb0 : Below w.heap.size w ((w.alloc (.cells #[v0] 28)).alloc (.cells #[u0] 28)) := ((Below.refl _ _).alloc (Nat.le_refl _) _).alloc (by simp) _
  go_enter Try.func9, Try.ntmps9
  go_wp2_with fail
  refine (eq_CodeS codes v0 u0 _ lo B lo' B' (Nat.le_trans hB hb0.size) (Nat.le_trans hC hb0.size) (h0.below hb0 hB) (k0.below hb0 hC)).mono ?_
  rintro e w1 ⟨rfl, e1⟩
  have hb1 : Below w.heap.size w w1 := hb0.trans (e1.mono hb0.size)
  have P1 : Row w1 w.heap.size 28 #[v0] := ((Row.new w _ _).alloc _).below e1 (by simp; omega)
  have Q1 : Row w1 (w.heap.size + 1) 28 #[u0] := (show Row ((w.alloc (.cells #[v0] 28)).alloc (.cells #[u0] 28)) (w.heap.size + 1) _ _ by simpa using Row.new (w.alloc (.cells #[v0] 28)) 28 #[u0]).below e1 (by simp)
  go_wp2_with fail
  go_ret
  exact ⟨rfl, hb1⟩

end Go.Proofs.Ytgcjccoglcgcoaa

