/-
  The eq.. functions: at equal data they answer true. Conditions: the arguments read as data.
-/
import Derived.Test.YtcmcpipcafjiaaaDoorTo
import Derived.StillTailTactics
import Derived.Deep.QuietTactic
import Derived.BigQuiet
namespace Go.Proofs.YtcmcpipcafjiaaaDoor
open Go.RowKit Go.ChangeShapes Go.WideShapes Go.Deep
set_option linter.unusedVariables false

theorem below_drewN {B : Nat} {a w : World} (h : Below B a w) (n : Nat) : Below B a (w.drewN n) := ⟨h.os, h.tape, h.output, h.size, h.block⟩

/-- it answers true and leaves what was there -/
def Yes (w : World) (e : Ending) (w' : World) : Prop := e = .returned (.bool true) ∧ Below w.heap.size w w'

theorem eq_Word (kind : Int) (text : ByteArray) (w : World) (lo B lo' B' : Nat) (_hB : B ≤ w.heap.size) (_hC : B' ≤ w.heap.size)  :
    Calls Tryd.prog 52 #[.agg #[.int .i64 kind, .string text], .agg #[.int .i64 kind, .string text]] w (Yes w) := by
  have hb0 : Below w.heap.size w ((w.alloc (.cells #[.int .i64 kind, .string text] 32)).alloc (.cells #[.int .i64 kind, .string text] 32)) := ((Below.refl _ _).alloc (Nat.le_refl _) _).alloc (by simp) _
  go_enter Tryd.func52, Tryd.ntmps52
  go_wp2_with fail
  go_ret
  exact ⟨rfl, hb0⟩

set_option maxRecDepth 100000 in
theorem eq_WordS (l : List WordD) (v u : Value) (w : World) (lo B lo' B' : Nat) (hB : B ≤ w.heap.size) (hC : B' ≤ w.heap.size) (hv : Sl false (wordS false) w lo B l v) (hu : Sl false (wordS false) w lo' B' l u) :
    Calls Tryd.prog 25 #[v, u] w (Yes w) := by
  obtain ⟨A, cap, rfl, hlc, hcm⟩ := hv.form
  obtain ⟨A2, cap2, rfl, hlc2, hcm2⟩ := hu.form
  go_enter Tryd.func25, Tryd.ntmps25
  go_wp2_with fail
  go_loopw [5] (fun i wr => ∃ k : Nat, k ≤ l.length ∧ i = .int .i64 k ∧ Below w.heap.size w wr) (fun i _ => l.length - (intOf i).toNat)
  case atStart => exact ⟨0, by omega, rfl, Below.refl _ _⟩
  case round =>
    obtain ⟨k, hk, rfl, hb⟩ := hrel
    have hsz := hb.size
    by_cases hkl : k < l.length
    · obtain ⟨b, o, kind, text, rfl, _, _, HL, g0, g1, c0, c1⟩ := word_get (hv.below hb hB) hkl
      obtain ⟨b2, o2, kind', text', rfl, _, _, HL2, m0, m1, t0, t1⟩ := word_get (hu.below hb hC) hkl
      have HI := HL.out.symm.trans HL2.out
      injection HI with q0 q1
      subst q0 q1
      clear HL HL2
      have hki : (0 : Int) ≤ (k : Int) := by omega
      have hkn : (k : Int) < (l.length : Int) := by omega
      go_wp2_with fail
      go_still_tail 8, (by kernel_rfl)
      have hbd : Below w.heap.size w wr.drew := hb.drew
      change wpList _ _ _ _ _ wr.drew
      generalize wr.drew = w2 at hbd ⊢
      have hsz2 := hbd.size
      go_wp2_with fail
      refine (eq_Word kind text _ lo B lo' B' (by omega) (by omega) ).mono ?_
      rintro e w3 ⟨rfl, hb1⟩
      go_wp2_with fail
      go_roundw
      case rel => exact ⟨k + 1, by omega, by go_num, hbd.trans (hb1.mono hbd.size)⟩
      case measure => simp [intOf]; omega
    · go_wp2_with fail
      go_ret
      exact ⟨rfl, hb⟩

theorem eq_StringS (l : List ByteArray) (v u : Value) (w : World) (lo B lo' B' : Nat) (hB : B ≤ w.heap.size) (hC : B' ≤ w.heap.size) (hv : Sl false (strS false) w lo B l v) (hu : Sl false (strS false) w lo' B' l u) :
    Calls Tryd.prog 12 #[v, u] w (Yes w) := by
  obtain ⟨A, cap, rfl, hlc, hcm⟩ := hv.form
  obtain ⟨A2, cap2, rfl, hlc2, hcm2⟩ := hu.form
  go_enter Tryd.func12, Tryd.ntmps12
  go_wp2_with fail
  go_loopw [5] (fun i wr => ∃ k : Nat, k ≤ l.length ∧ i = .int .i64 k ∧ Below w.heap.size w wr) (fun i _ => l.length - (intOf i).toNat)
  case atStart => exact ⟨0, by omega, rfl, Below.refl _ _⟩
  case round =>
    obtain ⟨k, hk, rfl, hb⟩ := hrel
    have hsz := hb.size
    by_cases hkl : k < l.length
    · obtain ⟨b, o, a, rfl, _, _, HL, ha, c0⟩ := str_get (hv.below hb hB) hkl
      obtain ⟨b2, o2, a2, rfl, _, _, HL2, _, c1⟩ := str_get (hu.below hb hC) hkl
      obtain rfl : a = a2 := HL.out.symm.trans HL2.out
      have hki : (0 : Int) ≤ (k : Int) := by omega
      have hkn : (k : Int) < (l.length : Int) := by omega
      go_wp2_with fail
      go_quiet (fail)
      go_wp2_with fail
      go_roundw
      case rel => exact ⟨k + 1, by omega, by go_num, below_drewN hb _⟩
      case measure => simp [intOf]; omega
    · go_wp2_with fail
      go_ret
      exact ⟨rfl, hb⟩

end Go.Proofs.YtcmcpipcafjiaaaDoor

