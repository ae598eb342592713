/-
  Is an expression safe: the program. Conditions: the argument reads as data; the tables lie.
-/
import Derived.Test.YtnamciblapddbaaDoorSafe3
namespace Go.Proofs.YtnamciblapddbaaDoor
open Go.RowKit Go.ChangeShapes Go.WideShapes Go.Deep

set_option linter.unusedVariables false
set_option linter.unusedSimpArgs false
def PartsP (m : Nat) (e : Ex) (b0 : Bool) (g : Nat) (w : World) (en : Ending) (w' : World) : Prop :=
  en = .returned (.tuple #[]) ∧ Row w' g 4 #[.bool (b0 && safeE m e)] ∧ But g w w'
def PartsAt (m : Nat) : Prop := ∀ (d : Nat) (op n : Int) (name : ByteArray) (kids : List Ex) (v3 : Value) (w : World) (lo B g : Nat) (b0 : Bool) (_ : B ≤ g) (_ : I64 op) (_ : I64 n) (_ : name.size ≤ maxLen) (_ : Sl false (exS false d) w lo B kids v3) (_ : formB m (.mk op n name kids) = true) (_ : Row w g 4 #[.bool b0]),
  Calls Tryd.prog 49 #[.agg #[.int .i64 op, .int .i64 n, .string name, v3], .func (.func 50) #[] #[.pointer (some ⟨g, 0, none⟩)]] w (PartsP m (.mk op n name kids) b0 g w)
set_option maxRecDepth 100000 in
set_option maxHeartbeats 8000000 in
theorem parts_step (m : Nat) (ih : PartsAt m) : PartsAt (m + 1) := by
  intro d op n name kids v3 w lo B g b0 hB ho hn64 hnm h3 hform G
  rw [formB, Bool.and_eq_true] at hform
  obtain ⟨hfm, hall⟩ := hform
  replace hall := Lib.hid hall
  have hk2 := Lib.hid (fun h : op = 6 ∨ op = 7 => fmK_two h hfm)
  clear hfm
  obtain ⟨A, p, hf, hl1, hl2⟩ := h3.form
  subst hf
  have hgw := G.lt
  have hb0 : Below w.heap.size w (w.alloc (.cells #[.int .i64 op, .int .i64 n, .string name, .slice A kids.length p] 30)) := (Below.refl _ _).alloc (Nat.le_refl _) _
  have R0 : Row (w.alloc (.cells #[.int .i64 op, .int .i64 n, .string name, .slice A kids.length p] 30)) w.heap.size 30 #[.int .i64 op, .int .i64 n, .string name, .slice A kids.length p] := Row.new w _ _
  have G0 : Row (w.alloc (.cells #[.int .i64 op, .int .i64 n, .string name, .slice A kids.length p] 30)) g 4 #[.bool b0] := G.alloc _
  have B0 : But g w (w.alloc (.cells #[.int .i64 op, .int .i64 n, .string name, .slice A kids.length p] 30)) := But.of_below hgw hb0
  go_enter Tryd.func49, Tryd.ntmps49
  go_wp2_with fail
  refine (impl_Safe_1 d op n name kids _ _ lo B g b0 hB ho hn64 hnm (h3.below hb0 (by omega)) hk2.out G0).mono ?_
  rintro e w1 ⟨rfl, G1, B1⟩
  have R1 := B1.row R0 (by omega)
  have B01 := B0.trans B1
  have y3 : w1.cell? ⟨w.heap.size, 3, none⟩ = some (.slice A kids.length p) := R1.cell 3
  go_wp2_with fail
  go_loopw [12] (fun i wr => ∃ (k : Nat) (c : Bool), k ≤ kids.length ∧ i = .int .i64 k ∧ Hid ((b0 && (safeK op kids && kids.all (safeE m))) = (c && (kids.drop k).all (safeE m))) ∧ Row wr g 4 #[.bool c] ∧ But g w wr) (fun i _ => kids.length - (intOf i).toNat)
  case atStart => exact ⟨0, (b0 && safeK op kids), by omega, rfl, (by show _ = _; rw [List.drop_zero, Bool.and_assoc]), G1, B01⟩
  case round =>
    clear y3 R1
    obtain ⟨k, c, hk, rfl, HA, G2, B2⟩ := hrel
    by_cases hkl : k < kids.length
    · obtain ⟨d', rfl⟩ := exS_pos h3 (by omega)
      obtain ⟨b, o, op', n', name', kids', v', rfl, _, hbB, HL, g0, g1, g2, g3, c0, c1, c2, c3⟩ := ex_get d' (h3.below B2.1 hB) hkl
      obtain ⟨A', p', hf, _, _⟩ := g3.form
      change _ = Value.slice A' kids'.length p' at hf
      subst hf
      have hkn : (k : Int) < (kids.length : Int) := by omega
      have hki : (0 : Int) ≤ (k : Int) := by omega
      have hfk := Lib.hid (List.all_eq_true.1 hall.out _ (HL.out ▸ List.getElem_mem hkl : Ex.mk op' n' name' kids' ∈ kids))
      go_wp2_with fail
      have B3a : But g wr (wr.alloc (.cells #[.int .i64 op', .int .i64 n', .string name', .slice A' kids'.length p'] 30)) := But.of_below G2.lt ((Below.refl _ _).alloc (Nat.le_refl _) _)
      refine (ih d' op' n' name' kids' (.slice A' kids'.length p') _ lo B g c hB g0 g1 g2 (g3.below B3a.1 hB) hfk.out (G2.alloc _)).mono ?_
      rintro e w3 ⟨rfl, G3, B3⟩
      have E3 : Hid ((b0 && (safeK op kids && kids.all (safeE m))) = ((c && safeE m (.mk op' n' name' kids')) && (kids.drop (k + 1)).all (safeE m))) := by
        have h1 := HA.out
        rw [drop_cons hkl HL.out, List.all_cons] at h1
        show _ = _
        rw [h1, Bool.and_assoc]
      clear HA
      go_wp2_with fail
      go_roundw
      case rel => exact ⟨k + 1, _, by omega, by go_num, E3, G3, B2.trans (B3a.trans B3)⟩
      case measure => simp [intOf]; omega
    · have E : Hid ((b0 && safeE (m + 1) (.mk op n name kids)) = c) := by
        have h1 := HA.out
        rw [List.drop_eq_nil_of_le (by omega), List.all_nil, Bool.and_true] at h1
        show _ = _
        rw [safeE]
        exact h1
      clear HA
      go_wp2_with fail
      go_end0
      exact ⟨rfl, by rw [E.out]; exact G2, B2⟩
theorem impl_parts : ∀ m : Nat, PartsAt m
  | 0 => fun d op n name kids v3 w lo B g b0 _ _ _ _ _ h _ => by simp [formB] at h
  | m + 1 => parts_step m (impl_parts m)

end Go.Proofs.YtnamciblapddbaaDoor

