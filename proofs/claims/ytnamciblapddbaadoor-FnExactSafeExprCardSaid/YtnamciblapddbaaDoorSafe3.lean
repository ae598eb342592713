/-
  Is an expression safe: the program's closure. Conditions: the argument reads as data; the captured box holds a bool.
-/
import Derived.Test.YtnamciblapddbaaDoorSafe2
namespace Go.Proofs.YtnamciblapddbaaDoor
open Go.RowKit Go.ChangeShapes Go.WideShapes Go.Deep

set_option linter.unusedVariables false
set_option linter.unusedSimpArgs false
/-- of the old blocks, only block g may have changed, and none below it -/
def But (g : Nat) (w w' : World) : Prop := Below g w w' ∧ ∀ b : Nat, g < b → b < w.heap.size → w'.heap[b]? = w.heap[b]?
theorem But.of_below {g : Nat} {w w' : World} (hg : g < w.heap.size) (h : Below w.heap.size w w') : But g w w' := ⟨h.mono (by omega), fun b _ hb => h.block b hb⟩
theorem But.trans {g : Nat} {a b c : World} (h : But g a b) (k : But g b c) : But g a c :=
  ⟨h.1.trans k.1, fun x h1 h2 => (k.2 x h1 (Nat.lt_of_lt_of_le h2 h.1.size)).trans (h.2 x h1 h2)⟩
theorem But.row {g : Nat} {w w' : World} {b : Nat} {t : TypeId} {cs : Array Value} (h : But g w w') (R : Row w b t cs) (hb : g < b) : Row w' b t cs := (h.2 b hb R.lt).trans R
def ClosP (op : Int) (kids : List Ex) (b0 : Bool) (g : Nat) (w : World) (e : Ending) (w' : World) : Prop :=
  e = .returned (.tuple #[]) ∧ Row w' g 4 #[.bool (b0 && safeK op kids)] ∧ But g w w'
set_option maxRecDepth 100000 in
set_option maxHeartbeats 8000000 in
theorem impl_Safe_1 (d : Nat) (op n : Int) (name : ByteArray) (kids : List Ex) (v3 : Value) (w : World) (lo B g : Nat) (b0 : Bool) (hB : B ≤ g) (ho : I64 op) (hn64 : I64 n) (hnm : name.size ≤ maxLen) (h3 : Sl false (exS false d) w lo B kids v3) (hk2 : op = 6 ∨ op = 7 → kids.length = 2) (G : Row w g 4 #[.bool b0]) :
    Calls Tryd.prog 50 #[.agg #[.int .i64 op, .int .i64 n, .string name, v3], .pointer (some ⟨g, 0, none⟩)] w (ClosP op kids b0 g w) := by
  obtain ⟨A, p, hf, hl1, hl2⟩ := h3.form
  subst hf
  have hgw := G.lt
  have hgn : g ≠ w.heap.size := by omega
  have hb0 : Below w.heap.size w (w.alloc (.cells #[.int .i64 op, .int .i64 n, .string name, .slice A kids.length p] 30)) := (Below.refl _ _).alloc (Nat.le_refl _) _
  have G0 : Row (w.alloc (.cells #[.int .i64 op, .int .i64 n, .string name, .slice A kids.length p] 30)) g 4 #[.bool b0] := G.alloc _
  have z0 : (w.alloc (.cells #[.int .i64 op, .int .i64 n, .string name, .slice A kids.length p] 30)).cell? ⟨g, 0, none⟩ = some (.bool b0) := G0.cell 0
  have zf : (w.alloc (.cells #[.int .i64 op, .int .i64 n, .string name, .slice A kids.length p] 30)).frozen? ⟨g, 0, none⟩ = false := G0.frozen 0
  have fin : ∀ x : Bool, (b0 && safeK op kids) = x → ClosP op kids b0 g w (.returned (.tuple #[])) ((w.setCell ⟨g, 0, none⟩ (.bool x)).alloc (.cells #[.int .i64 op, .int .i64 n, .string name, .slice A kids.length p] 30)) := fun x hx => by
    refine ⟨rfl, ?_, ((Below.refl g w).setCell (p := ⟨g, 0, none⟩) (Nat.le_refl g) _).alloc (by simp; omega) _, fun b h1 h2 => (Below.heap_alloc _ _ b (by simpa using h2)).trans (Below.heap_setCell _ _ _ b (by show b ≠ g; omega))⟩
    rw [hx]
    exact (G.set_ 0 (.bool x)).alloc _
  replace hk2 := Lib.hid hk2
  replace fin := Lib.hid fin
  go_enter Tryd.func50, Tryd.ntmps50
  cases b0
  case false =>
    go_wp2_with fail
    go_end0
    exact fin.out _ (by rfl)
  by_cases o12 : op = 12
  case pos =>
    subst o12
    go_wp2_with fail
    go_end0
    exact fin.out _ (by unfold safeK; rw [if_pos (by omega)]; rfl)
  have n12 : (op != 12) = true := by simpa using o12
  by_cases o13 : op = 13
  case pos =>
    subst o13
    clear o12 n12
    go_wp2_with fail
    go_end0
    exact fin.out _ (by unfold safeK; rw [if_pos (by omega)]; rfl)
  have n13 : (op != 13) = true := by simpa using o13
  by_cases o6 : op = 6
  case pos =>
    subst o6
    clear o12 n12 o13 n13
    have hl2' : kids.length = 2 := hk2.out (by omega)
    have hkl1 : 1 < kids.length := by omega
    obtain ⟨d1, rfl⟩ := exS_pos h3 (by omega)
    obtain ⟨b1, o1, op1, n1, name1, kids1, v1, rfl, _, hbB1, HL1, g10, g11, g12, g13, c10, c11, c12, c13⟩ := ex_get d1 (h3.below hb0 (by omega)) hkl1
    have HK1 : Hid (safeK 6 kids = (decide (op1 = 1) && !(decide (n1 = 0)))) := safeK_div (by omega) (by rw [List.getElem?_eq_getElem hkl1, HL1.out] : kids[1]? = some (Ex.mk op1 n1 name1 kids1))
    have hkn1 : (1 : Int) < (kids.length : Int) := by omega
    replace hl2' := Lib.hid hl2'
    have d10 : (w.alloc (.cells #[.int .i64 6, .int .i64 n, .string name, .slice (some ⟨b1, o1, none⟩) kids.length p] 30)).cell? ⟨b1, o1 + 4, none⟩ = some (.int .i64 op1) := c10
    have d11 : (w.alloc (.cells #[.int .i64 6, .int .i64 n, .string name, .slice (some ⟨b1, o1, none⟩) kids.length p] 30)).cell? ⟨b1, o1 + 5, none⟩ = some (.int .i64 n1) := c11
    clear c10 c11 c12 c13
    by_cases p1 : op1 = 1
    case neg =>
      have q1 : (op1 == 1) = false := by simpa using p1
      have e1 := Lib.hid p1
      clear p1
      go_wp2_with fail
      go_end0
      exact fin.out _ (by rw [HK1.out, decide_eq_false e1.out]; rfl)
    have q1 : (op1 == 1) = true := by simpa using p1
    have e1 := Lib.hid p1
    clear p1
    by_cases p2 : n1 = 0
    case pos =>
      have q2 : (n1 != 0) = false := by simpa using p2
      have e2 := Lib.hid p2
      clear p2
      go_wp2_with fail
      go_end0
      exact fin.out _ (by rw [HK1.out, decide_eq_true e2.out, Bool.not_true, Bool.and_false]; rfl)
    have q2 : (n1 != 0) = true := by simpa using p2
    have e2 := Lib.hid p2
    clear p2
    go_wp2_with fail
    go_end0
    exact fin.out _ (by rw [HK1.out, decide_eq_true e1.out, decide_eq_false e2.out]; rfl)
  have n6 : (op != 6) = true := by simpa using o6
  by_cases o7 : op = 7
  case pos =>
    subst o7
    clear o12 n12 o13 n13 o6 n6
    have hl2' : kids.length = 2 := hk2.out (by omega)
    have hkl1 : 1 < kids.length := by omega
    obtain ⟨d1, rfl⟩ := exS_pos h3 (by omega)
    obtain ⟨b1, o1, op1, n1, name1, kids1, v1, rfl, _, hbB1, HL1, g10, g11, g12, g13, c10, c11, c12, c13⟩ := ex_get d1 (h3.below hb0 (by omega)) hkl1
    have HK1 : Hid (safeK 7 kids = (decide (op1 = 1) && !(decide (n1 = 0)))) := safeK_div (by omega) (by rw [List.getElem?_eq_getElem hkl1, HL1.out] : kids[1]? = some (Ex.mk op1 n1 name1 kids1))
    have hkn1 : (1 : Int) < (kids.length : Int) := by omega
    replace hl2' := Lib.hid hl2'
    have d10 : (w.alloc (.cells #[.int .i64 7, .int .i64 n, .string name, .slice (some ⟨b1, o1, none⟩) kids.length p] 30)).cell? ⟨b1, o1 + 4, none⟩ = some (.int .i64 op1) := c10
    have d11 : (w.alloc (.cells #[.int .i64 7, .int .i64 n, .string name, .slice (some ⟨b1, o1, none⟩) kids.length p] 30)).cell? ⟨b1, o1 + 5, none⟩ = some (.int .i64 n1) := c11
    clear c10 c11 c12 c13
    by_cases p1 : op1 = 1
    case neg =>
      have q1 : (op1 == 1) = false := by simpa using p1
      have e1 := Lib.hid p1
      clear p1
      go_wp2_with fail
      go_end0
      exact fin.out _ (by rw [HK1.out, decide_eq_false e1.out]; rfl)
    have q1 : (op1 == 1) = true := by simpa using p1
    have e1 := Lib.hid p1
    clear p1
    by_cases p2 : n1 = 0
    case pos =>
      have q2 : (n1 != 0) = false := by simpa using p2
      have e2 := Lib.hid p2
      clear p2
      go_wp2_with fail
      go_end0
      exact fin.out _ (by rw [HK1.out, decide_eq_true e2.out, Bool.not_true, Bool.and_false]; rfl)
    have q2 : (n1 != 0) = true := by simpa using p2
    have e2 := Lib.hid p2
    clear p2
    go_wp2_with fail
    go_end0
    exact fin.out _ (by rw [HK1.out, decide_eq_true e1.out, decide_eq_false e2.out]; rfl)
  have n7 : (op != 7) = true := by simpa using o7
  have HK : Hid (safeK op kids = true) := safeK_else o12 o13 o6 o7
  clear o12 o13 o6 o7
  go_wp2_with fail
  go_end0
  exact fin.out _ (by rw [HK.out]; rfl)
end Go.Proofs.YtnamciblapddbaaDoor

