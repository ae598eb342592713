/-
  A word of a text: by the program and by the reference. Condition: the text is not empty; the table of keys lies.
-/
import Derived.Test.YtiaioiijdlmilaaDoorWord
import Derived.Deep.QuietTactic
import Derived.BigQuiet
import Derived.Deep.RegionHeld3
namespace Go.Proofs.YtiaioiijdlmilaaDoor
open Go.RowKit Go.ChangeShapes Go.WideShapes Go.Deep
set_option linter.unusedSimpArgs false
set_option linter.unusedVariables false
theorem impl_isLetter (b : UInt8) (w : World) : Calls Tryd.prog 47 #[.int .u8 (b.toNat : Int)] w (RetW (.bool (low b)) w) := by
  by_cases h1 : 97 ≤ b.toNat
  · have g1 : (97 : Int) ≤ (b.toNat : Int) := by omega
    by_cases h2 : b.toNat ≤ 122
    · have g2 : (b.toNat : Int) ≤ 122 := by omega
      have E : Hid (low b = true) := by show _ = _; simp [low, h1, h2]
      clear h1 h2
      go_enter Tryd.func47, Tryd.ntmps47
      go_wp2_with fail
      go_ret
      exact RetW.mk (by rw [E.out] <;> rfl) rfl
    · have g2 : decide ((b.toNat : Int) ≤ 122) = false := by simp; omega
      have E : Hid (low b = false) := by show _ = _; simp [low, h2]
      clear h1 h2
      go_enter Tryd.func47, Tryd.ntmps47
      go_wp2_with fail
      go_ret
      exact RetW.mk (by rw [E.out] <;> rfl) rfl
  · have g1 : decide ((97 : Int) ≤ (b.toNat : Int)) = false := by simp; omega
    have E : Hid (low b = false) := by show _ = _; simp [low, h1]
    clear h1
    go_enter Tryd.func47, Tryd.ntmps47
    go_wp2_with fail
    go_ret
    exact RetW.mk (by rw [E.out] <;> rfl) rfl
/-- the kind of a text that begins with b, by the reference -/
def kindS (b : UInt8) (s : ByteArray) : Int := if isKey s = true then 4 else cls b
/-- and by the program -/
def kindI (b : UInt8) (s : ByteArray) : Int := if isDig b = true then 2 else if isKey s = true then 4 else if low b = true then 1 else 3
set_option maxRecDepth 100000 in
set_option maxHeartbeats 4000000 in
theorem spec_l1Word (s : ByteArray) (w : World) (hs : s.size ≤ maxLen) (hp : 0 < s.size) : Calls Tryd.prog 56 #[.string s] w (RetV (.agg #[.int .i64 (kindS s[0] s), .string s]) w) := by
  have hs' : s.size ≤ 9223372036854775807 := by unfold maxLen at hs; omega
  have hb0 : Below w.heap.size w (w.alloc (.cells #[.int .i64 0, .string ⟨#[]⟩] 29)) := (Below.refl _ _).alloc (Nat.le_refl _) _
  have R0 : Row (w.alloc (.cells #[.int .i64 0, .string ⟨#[]⟩] 29)) w.heap.size 29 #[.int .i64 0, .string ⟨#[]⟩] := Row.new w _ _
  go_enter Tryd.func56, Tryd.ntmps56
  go_wp2_with fail
  refine (spec_l1Class s[0] _).mono ?_
  rintro e w' ⟨rfl, rfl⟩
  go_wp2_with fail
  refine (spec_l1Key s _).mono ?_
  rintro e w1 ⟨rfl, b1⟩
  have hb1 : Below w.heap.size w w1 := hb0.trans (b1.mono hb0.size)
  have R1 := R0.below b1 R0.lt
  have rl := R1.lt
  have y0 : w1.cell? ⟨w.heap.size, 0, none⟩ = some (.int .i64 0) := R1.cell 0
  have y1 : w1.cell? ⟨w.heap.size, 1, none⟩ = some (.string ⟨#[]⟩) := R1.cell 1
  have f0 : w1.frozen? ⟨w.heap.size, 0, none⟩ = false := R1.frozen 0
  have f1 : w1.frozen? ⟨w.heap.size, 1, none⟩ = false := R1.frozen 1
  have HB : Hid (∀ u0 u1, Below w.heap.size w ((w1.setCell ⟨w.heap.size, 0, none⟩ u0).setCell ⟨w.heap.size, 1, none⟩ u1)) := fun u0 u1 => (hb1.setCell (Nat.le_refl _) _).setCell (Nat.le_refl _) _
  have z0 : ∀ u0, (w1.setCell ⟨w.heap.size, 0, none⟩ u0).cell? ⟨w.heap.size, 0, none⟩ = some u0 := fun u0 => (R1.set_ 0 u0).cell 0
  have z1 : ∀ u0 u1, ((w1.setCell ⟨w.heap.size, 0, none⟩ u0).setCell ⟨w.heap.size, 1, none⟩ u1).cell? ⟨w.heap.size, 1, none⟩ = some u1 := fun u0 u1 => ((R1.set_ 0 u0).set_ 1 u1).cell 1
  replace z0 := Lib.hid z0
  replace z1 := Lib.hid z1
  clear R0
  cases hk : isKey s
  · have E : Hid (kindS s[0] s = cls s[0]) := by show _ = _; unfold kindS; rw [hk]; rfl
    clear hk
    go_wp2_with fail
    refine bodyPost_ret (v := .agg #[.int .i64 (cls s[0]), .string s]) (by simp [results, Tryd.results56, go_sem, z0.out, z1.out]) rfl ?_
    exact RetV.mk (by rw [E.out]) rfl (HB.out _ _)
  · have E : Hid (kindS s[0] s = 4) := by show _ = _; unfold kindS; rw [hk]; rfl
    clear hk
    go_wp2_with fail
    refine bodyPost_ret (v := .agg #[.int .i64 4, .string s]) (by simp [results, Tryd.results56, go_sem, z0.out, z1.out]) rfl ?_
    exact RetV.mk (by rw [E.out]) rfl (HB.out _ _)
set_option maxRecDepth 100000 in
set_option maxHeartbeats 4000000 in
theorem impl_wordOf (s : ByteArray) (w : World) (hs : s.size ≤ maxLen) (hp : 0 < s.size) (ht : KeysAt w) : Calls Tryd.prog 49 #[.string s] w (RetV (.agg #[.int .i64 (kindI s[0] s), .string s]) w) := by
  have hs' : s.size ≤ 9223372036854775807 := by unfold maxLen at hs; omega
  have hb0 : Below w.heap.size w (w.alloc (.cells #[.int .i64 0, .string ⟨#[]⟩] 29)) := (Below.refl _ _).alloc (Nat.le_refl _) _
  have R0 : Row (w.alloc (.cells #[.int .i64 0, .string ⟨#[]⟩] 29)) w.heap.size 29 #[.int .i64 0, .string ⟨#[]⟩] := Row.new w _ _
  have ht0 := ht.below hb0 (Nat.le_refl _)
  go_enter Tryd.func49, Tryd.ntmps49
  go_wp2_with fail
  refine (impl_isDigit s[0] _).mono ?_
  rintro e w' ⟨rfl, rfl⟩
  cases hd : isDig s[0]
  case true =>
    have E : Hid (kindI s[0] s = 2) := by show _ = _; unfold kindI; rw [hd]; rfl
    have rl := R0.lt
    have y0 : (w.alloc (.cells #[.int .i64 0, .string ⟨#[]⟩] 29)).cell? ⟨w.heap.size, 0, none⟩ = some (.int .i64 0) := R0.cell 0
    have y1 : (w.alloc (.cells #[.int .i64 0, .string ⟨#[]⟩] 29)).cell? ⟨w.heap.size, 1, none⟩ = some (.string ⟨#[]⟩) := R0.cell 1
    clear hd
    go_wp2_with fail
    refine bodyPost_ret (v := .agg #[.int .i64 2, .string s]) (by simp [results, Tryd.results49, go_sem]) rfl ?_
    exact RetV.mk (by rw [E.out]) rfl ((Below.refl _ _).alloc (Nat.le_refl _) _)
  go_wp2_with fail
  refine (strs_Contains keysL s (.slice (some ⟨0, 0, none⟩) keysL.length 9) _ 0 _ (Nat.le_refl _) ht0.sl).mono ?_
  rintro e w1 ⟨rfl, b1⟩
  have hb1 : Below w.heap.size w w1 := hb0.trans (b1.mono hb0.size)
  have R1 := R0.below b1 R0.lt
  have rl := R1.lt
  have y0 : w1.cell? ⟨w.heap.size, 0, none⟩ = some (.int .i64 0) := R1.cell 0
  have y1 : w1.cell? ⟨w.heap.size, 1, none⟩ = some (.string ⟨#[]⟩) := R1.cell 1
  have f0 : w1.frozen? ⟨w.heap.size, 0, none⟩ = false := R1.frozen 0
  have f1 : w1.frozen? ⟨w.heap.size, 1, none⟩ = false := R1.frozen 1
  have HB : Hid (∀ u0 u1, Below w.heap.size w ((w1.setCell ⟨w.heap.size, 0, none⟩ u0).setCell ⟨w.heap.size, 1, none⟩ u1)) := fun u0 u1 => (hb1.setCell (Nat.le_refl _) _).setCell (Nat.le_refl _) _
  have z0 : ∀ u0, (w1.setCell ⟨w.heap.size, 0, none⟩ u0).cell? ⟨w.heap.size, 0, none⟩ = some u0 := fun u0 => (R1.set_ 0 u0).cell 0
  have z1 : ∀ u0 u1, ((w1.setCell ⟨w.heap.size, 0, none⟩ u0).setCell ⟨w.heap.size, 1, none⟩ u1).cell? ⟨w.heap.size, 1, none⟩ = some u1 := fun u0 u1 => ((R1.set_ 0 u0).set_ 1 u1).cell 1
  replace z0 := Lib.hid z0
  replace z1 := Lib.hid z1
  clear R0
  rw [show (keysL.any fun n => s.toList == n.toList) = isKey s from rfl]
  cases hk : isKey s
  case true =>
    have E : Hid (kindI s[0] s = 4) := by show _ = _; unfold kindI; rw [hd, hk]; rfl
    clear hk hd
    go_wp2_with fail
    refine bodyPost_ret (v := .agg #[.int .i64 4, .string s]) (by simp [results, Tryd.results49, go_sem, z0.out, z1.out]) rfl ?_
    exact RetV.mk (by rw [E.out]) rfl (HB.out _ _)
  go_wp2_with fail
  refine (impl_isLetter s[0] _).mono ?_
  rintro e w' ⟨rfl, rfl⟩
  cases hl : low s[0]
  · have E : Hid (kindI s[0] s = 3) := by show _ = _; unfold kindI; rw [hd, hk, hl]; rfl
    clear hk hd hl
    go_wp2_with fail
    refine bodyPost_ret (v := .agg #[.int .i64 3, .string s]) (by simp [results, Tryd.results49, go_sem, z0.out, z1.out]) rfl ?_
    exact RetV.mk (by rw [E.out]) rfl (HB.out _ _)
  · have E : Hid (kindI s[0] s = 1) := by show _ = _; unfold kindI; rw [hd, hk, hl]; rfl
    clear hk hd hl
    go_wp2_with fail
    refine bodyPost_ret (v := .agg #[.int .i64 1, .string s]) (by simp [results, Tryd.results49, go_sem, z0.out, z1.out]) rfl ?_
    exact RetV.mk (by rw [E.out]) rfl (HB.out _ _)
end Go.Proofs.YtiaioiijdlmilaaDoor
