/-
  PutVar, by the reference and by the program. Conditions: the arguments read as data; the tables lie.
-/
import Derived.Test.YtnamciblapddbaaDoorPut2
import Derived.Laws.EntriesVeiled
namespace Go.Proofs.YtnamciblapddbaaDoor
open Go.RowKit Go.ChangeShapes Go.WideShapes Go.Deep

set_option linter.unusedVariables false
set_option linter.unusedSimpArgs false
def exZ : Ex := .mk 0 0 ⟨#[]⟩ []
def putV (e : Ex) (nm : ByteArray) (y : Ex) : Ex × Bool := if valE e = true ∧ valE y = true then (if valE (putE 6 nm y e) = true then (putE 6 nm y e, true) else (exZ, false)) else (exZ, false)
/-- an expression in memory of its own, and a bool -/
def PairP (D : Nat) (x : Ex × Bool) (w : World) (en : Ending) (w' : World) : Prop :=
  ∃ v3 : Value, en = .returned (.tuple #[.agg #[.int .i64 x.1.op, .int .i64 x.1.n, .string x.1.name, v3], .bool x.2]) ∧ (∀ m, (exT m (D + 1)).rep w' w.heap.size w'.heap.size x.1 [.int .i64 x.1.op, .int .i64 x.1.n, .string x.1.name, v3]) ∧ Below w.heap.size w w'
theorem exZ_rep (m : Bool) (D : Nat) (w : World) (lo B : Nat) : (exT m (D + 1)).rep w lo B exZ [.int .i64 0, .int .i64 0, .string ⟨#[]⟩, .slice none 0 0] := exT_mk m D 0 0 ⟨#[]⟩ [] _ ⟨by omega, by omega⟩ ⟨by omega, by omega⟩ (by decide) (SlT.nil_ _ _ _ _ _)
theorem PairP.no {D : Nat} {x : Ex × Bool} {w : World} {en : Ending} {w' : World} (h : x = (exZ, false)) (he : en = .returned (.tuple #[.agg #[.int .i64 0, .int .i64 0, .string ⟨#[]⟩, .slice none 0 0], .bool false])) (hb : Below w.heap.size w w') : PairP D x w en w' := by
  subst h
  exact ⟨_, he, fun m => exZ_rep m D _ _ _, hb⟩
theorem putV_no1 {e y : Ex} {nm : ByteArray} (h : valE e = false) : putV e nm y = (exZ, false) := by unfold putV; rw [if_neg (by rw [h]; simp)]
theorem putV_no2 {e y : Ex} {nm : ByteArray} (h : valE y = false) : putV e nm y = (exZ, false) := by unfold putV; rw [if_neg (by rw [h]; simp)]
theorem putV_no3 {e y z : Ex} {nm : ByteArray} (hp : putE 6 nm y e = z) (h : valE z = false) : putV e nm y = (exZ, false) := by
  unfold putV
  rw [hp, h]
  split <;> rfl
theorem putV_yes {e y z : Ex} {nm : ByteArray} (h1 : valE e = true) (h2 : valE y = true) (hp : putE 6 nm y e = z) (h : valE z = true) : putV e nm y = (z, true) := by
  unfold putV
  rw [if_pos ⟨h1, h2⟩, hp, if_pos h]
theorem val_form {e : Ex} (h : valE e = true) : formB 6 e = true := by
  rw [valE_form, Bool.and_eq_true] at h
  exact h.1
set_option maxRecDepth 100000 in
set_option maxHeartbeats 8000000 in
theorem spec_PutVar (d : Nat) (op n : Int) (name : ByteArray) (kids : List Ex) (v3 : Value) (nm : ByteArray) (db : Nat) (bop bn : Int) (bname : ByteArray) (bkids : List Ex) (bv3 : Value) (w : World) (lo B lo' B' : Nat) (hB : B ≤ w.heap.size) (hB' : B' ≤ w.heap.size) (ho : I64 op) (hn64 : I64 n) (hnm : name.size ≤ maxLen) (h3 : Sl false (exS false d) w lo B kids v3) (bo : I64 bop) (bn64 : I64 bn) (bnm : bname.size ≤ maxLen) (bh3 : Sl false (exS false db) w lo' B' bkids bv3) :
    Calls Tryd.prog 33 #[.agg #[.int .i64 op, .int .i64 n, .string name, v3], .string nm, .agg #[.int .i64 bop, .int .i64 bn, .string bname, bv3]] w (PairP 12 (putV (.mk op n name kids) nm (.mk bop bn bname bkids)) w) := by
  obtain ⟨A, p, hf, hl1, hl2⟩ := h3.form
  subst hf
  obtain ⟨bA, bp, hf, _, _⟩ := bh3.form
  subst hf
  have hb0 : Below w.heap.size w (((w.alloc (.cells #[.int .i64 op, .int .i64 n, .string name, .slice A kids.length p] 30)).alloc (.cells #[.int .i64 bop, .int .i64 bn, .string bname, .slice bA bkids.length bp] 30)).alloc (.cells #[.int .i64 0, .int .i64 0, .string ⟨#[]⟩, .slice none 0 0] 30)) := (((Below.refl _ _).alloc (Nat.le_refl _) _).alloc (by simp) _).alloc (by simp; omega) _
  have R0 : Row (((w.alloc (.cells #[.int .i64 op, .int .i64 n, .string name, .slice A kids.length p] 30)).alloc (.cells #[.int .i64 bop, .int .i64 bn, .string bname, .slice bA bkids.length bp] 30)).alloc (.cells #[.int .i64 0, .int .i64 0, .string ⟨#[]⟩, .slice none 0 0] 30)) (w.heap.size) 30 #[.int .i64 op, .int .i64 n, .string name, .slice A kids.length p] := ((Row.new w _ _).alloc _).alloc _
  have Q0 : Row (((w.alloc (.cells #[.int .i64 op, .int .i64 n, .string name, .slice A kids.length p] 30)).alloc (.cells #[.int .i64 bop, .int .i64 bn, .string bname, .slice bA bkids.length bp] 30)).alloc (.cells #[.int .i64 0, .int .i64 0, .string ⟨#[]⟩, .slice none 0 0] 30)) (w.heap.size + 1) 30 #[.int .i64 bop, .int .i64 bn, .string bname, .slice bA bkids.length bp] := by simpa using (Row.new (w.alloc (.cells #[.int .i64 op, .int .i64 n, .string name, .slice A kids.length p] 30)) 30 #[.int .i64 bop, .int .i64 bn, .string bname, .slice bA bkids.length bp]).alloc (.cells #[.int .i64 0, .int .i64 0, .string ⟨#[]⟩, .slice none 0 0] 30)
  have S0 : Row (((w.alloc (.cells #[.int .i64 op, .int .i64 n, .string name, .slice A kids.length p] 30)).alloc (.cells #[.int .i64 bop, .int .i64 bn, .string bname, .slice bA bkids.length bp] 30)).alloc (.cells #[.int .i64 0, .int .i64 0, .string ⟨#[]⟩, .slice none 0 0] 30)) (w.heap.size + 1 + 1) 30 #[.int .i64 0, .int .i64 0, .string ⟨#[]⟩, .slice none 0 0] := by simpa using Row.new ((w.alloc (.cells #[.int .i64 op, .int .i64 n, .string name, .slice A kids.length p] 30)).alloc (.cells #[.int .i64 bop, .int .i64 bn, .string bname, .slice bA bkids.length bp] 30)) 30 #[.int .i64 0, .int .i64 0, .string ⟨#[]⟩, .slice none 0 0]
  have zb : w.heap.size + 1 + 1 < (((w.alloc (.cells #[.int .i64 op, .int .i64 n, .string name, .slice A kids.length p] 30)).alloc (.cells #[.int .i64 bop, .int .i64 bn, .string bname, .slice bA bkids.length bp] 30)).alloc (.cells #[.int .i64 0, .int .i64 0, .string ⟨#[]⟩, .slice none 0 0] 30)).heap.size := S0.lt
  go_enter Tryd.func33, Tryd.ntmps33
  go_wp2_with fail
  refine (spec_ExprValid d op n name kids _ _ lo B (Nat.le_trans hB hb0.size) ho hn64 hnm (h3.below hb0 hB) ).mono ?_
  rintro e w1 ⟨rfl, c1⟩
  have hb1 : Below w.heap.size w w1 := hb0.trans (c1.mono hb0.size)
  have R1 := R0.below c1 R0.lt
  have Q1 := Q0.below c1 Q0.lt
  have S1 := S0.below c1 S0.lt
  have z1 := c1.size
  cases hf : valE (.mk op n name kids)
  case false =>
    have E : Hid (putV (.mk op n name kids) nm (.mk bop bn bname bkids) = (exZ, false)) := putV_no1 hf
    have s0 : (w1).cell? ⟨w.heap.size + 1 + 1, 0, none⟩ = some (.int .i64 0) := S1.cell 0
    have sf0 : (w1).frozen? ⟨w.heap.size + 1 + 1, 0, none⟩ = false := S1.frozen 0
    have s1 : (w1).cell? ⟨w.heap.size + 1 + 1, 1, none⟩ = some (.int .i64 0) := S1.cell 1
    have sf1 : (w1).frozen? ⟨w.heap.size + 1 + 1, 1, none⟩ = false := S1.frozen 1
    have s2 : (w1).cell? ⟨w.heap.size + 1 + 1, 2, none⟩ = some (.string ⟨#[]⟩) := S1.cell 2
    have sf2 : (w1).frozen? ⟨w.heap.size + 1 + 1, 2, none⟩ = false := S1.frozen 2
    have s3 : (w1).cell? ⟨w.heap.size + 1 + 1, 3, none⟩ = some (.slice none 0 0) := S1.cell 3
    have sf3 : (w1).frozen? ⟨w.heap.size + 1 + 1, 3, none⟩ = false := S1.frozen 3
    go_wp2_with fail
    refine bodyPost_ret (v := .tuple #[.agg #[.int .i64 0, .int .i64 0, .string ⟨#[]⟩, .slice none 0 0], .bool false]) (by simp [results, Tryd.results33, go_sem, s0, s1, s2, s3]) rfl (PairP.no E.out rfl ((((hb1.setCell (p := ⟨w.heap.size + 1 + 1, 0, none⟩) (by first | omega | (simp; omega) | simp) (.int .i64 0)).setCell (p := ⟨w.heap.size + 1 + 1, 1, none⟩) (by first | omega | (simp; omega) | simp) (.int .i64 0)).setCell (p := ⟨w.heap.size + 1 + 1, 2, none⟩) (by first | omega | (simp; omega) | simp) (.string ⟨#[]⟩)).setCell (p := ⟨w.heap.size + 1 + 1, 3, none⟩) (by first | omega | (simp; omega) | simp) (.slice none 0 0)))
  have q0 : (w1).cell? ⟨w.heap.size + 1, 0, none⟩ = some (.int .i64 bop) := Q1.cell 0
  have q1 : (w1).cell? ⟨w.heap.size + 1, 1, none⟩ = some (.int .i64 bn) := Q1.cell 1
  have q2 : (w1).cell? ⟨w.heap.size + 1, 2, none⟩ = some (.string bname) := Q1.cell 2
  have q3 : (w1).cell? ⟨w.heap.size + 1, 3, none⟩ = some (.slice bA bkids.length bp) := Q1.cell 3
  go_wp2_with fail
  refine (spec_ExprValid db bop bn bname bkids _ _ lo' B' (Nat.le_trans hB' hb1.size) bo bn64 bnm (bh3.below hb1 hB') ).mono ?_
  rintro e w2 ⟨rfl, c2⟩
  have hb2 : Below w.heap.size w w2 := hb1.trans (c2.mono hb1.size)
  have R2 := R1.below c2 R1.lt
  have Q2 := Q1.below c2 Q1.lt
  have S2 := S1.below c2 S1.lt
  have z2 := c2.size
  clear q0 q1 q2 q3
  cases hg : valE (.mk bop bn bname bkids)
  case false =>
    have E : Hid (putV (.mk op n name kids) nm (.mk bop bn bname bkids) = (exZ, false)) := putV_no2 hg
    have s0 : (w2).cell? ⟨w.heap.size + 1 + 1, 0, none⟩ = some (.int .i64 0) := S2.cell 0
    have sf0 : (w2).frozen? ⟨w.heap.size + 1 + 1, 0, none⟩ = false := S2.frozen 0
    have s1 : (w2).cell? ⟨w.heap.size + 1 + 1, 1, none⟩ = some (.int .i64 0) := S2.cell 1
    have sf1 : (w2).frozen? ⟨w.heap.size + 1 + 1, 1, none⟩ = false := S2.frozen 1
    have s2 : (w2).cell? ⟨w.heap.size + 1 + 1, 2, none⟩ = some (.string ⟨#[]⟩) := S2.cell 2
    have sf2 : (w2).frozen? ⟨w.heap.size + 1 + 1, 2, none⟩ = false := S2.frozen 2
    have s3 : (w2).cell? ⟨w.heap.size + 1 + 1, 3, none⟩ = some (.slice none 0 0) := S2.cell 3
    have sf3 : (w2).frozen? ⟨w.heap.size + 1 + 1, 3, none⟩ = false := S2.frozen 3
    go_wp2_with fail
    refine bodyPost_ret (v := .tuple #[.agg #[.int .i64 0, .int .i64 0, .string ⟨#[]⟩, .slice none 0 0], .bool false]) (by simp [results, Tryd.results33, go_sem, s0, s1, s2, s3]) rfl (PairP.no E.out rfl ((((hb2.setCell (p := ⟨w.heap.size + 1 + 1, 0, none⟩) (by first | omega | (simp; omega) | simp) (.int .i64 0)).setCell (p := ⟨w.heap.size + 1 + 1, 1, none⟩) (by first | omega | (simp; omega) | simp) (.int .i64 0)).setCell (p := ⟨w.heap.size + 1 + 1, 2, none⟩) (by first | omega | (simp; omega) | simp) (.string ⟨#[]⟩)).setCell (p := ⟨w.heap.size + 1 + 1, 3, none⟩) (by first | omega | (simp; omega) | simp) (.slice none 0 0)))
  have F1 := Lib.hid (val_form hf)
  have F2 := Lib.hid (val_form hg)
  replace hf := Lib.hid hf
  replace hg := Lib.hid hg
  obtain ⟨yop, yn, ynm, yk, hy⟩ : ∃ (yop yn : Int) (ynm : ByteArray) (yk : List Ex), putE 6 nm (.mk bop bn bname bkids) (.mk op n name kids) = .mk yop yn ynm yk := by
      cases hq : putE 6 nm (.mk bop bn bname bkids) (.mk op n name kids) with
      | mk a b c d => exact ⟨a, b, c, d, rfl⟩
  replace hy := Lib.hid hy
  have r0 : (w2).cell? ⟨w.heap.size, 0, none⟩ = some (.int .i64 op) := R2.cell 0
  have r1 : (w2).cell? ⟨w.heap.size, 1, none⟩ = some (.int .i64 n) := R2.cell 1
  have r2 : (w2).cell? ⟨w.heap.size, 2, none⟩ = some (.string name) := R2.cell 2
  have r3 : (w2).cell? ⟨w.heap.size, 3, none⟩ = some (.slice A kids.length p) := R2.cell 3
  have q0 : (w2).cell? ⟨w.heap.size + 1, 0, none⟩ = some (.int .i64 bop) := Q2.cell 0
  have q1 : (w2).cell? ⟨w.heap.size + 1, 1, none⟩ = some (.int .i64 bn) := Q2.cell 1
  have q2 : (w2).cell? ⟨w.heap.size + 1, 2, none⟩ = some (.string bname) := Q2.cell 2
  have q3 : (w2).cell? ⟨w.heap.size + 1, 3, none⟩ = some (.slice bA bkids.length bp) := Q2.cell 3
  go_wp2_with fail
  refine (spec_l2Put 6 d op n name kids _ nm db bop bn bname bkids _ _ lo B lo' B' (Nat.le_trans hB hb2.size) (Nat.le_trans hB' hb2.size) ho hn64 hnm (h3.below hb2 hB) F1.out bo bn64 bnm (bh3.below hb2 hB') F2.out).mono ?_
  rintro e w3 ⟨v3', he, hx, c3⟩
  rw [hy.out] at he hx
  obtain ⟨Ay, py, hw, _, _⟩ := (exT_kids 12 (hx false)).form
  change _ = Value.slice Ay yk.length py at hw
  subst hw
  change _ = Ending.returned (.agg #[.int .i64 yop, .int .i64 yn, .string ynm, .slice Ay yk.length py]) at he
  subst he
  obtain ⟨_, -, j0, j1, j2, j3⟩ := exT_open 12 (hx false)
  change I64 yop at j0
  change I64 yn at j1
  change ynm.size ≤ maxLen at j2
  have k3 := (exT_kids 12 (hx false)).exS
  change Sl false (exS false 12) w3 (w2).heap.size w3.heap.size yk (.slice Ay yk.length py) at k3
  have hb3 : Below w.heap.size w w3 := hb2.trans (c3.mono hb2.size)
  have R3 := R2.below c3 R2.lt
  have Q3 := Q2.below c3 Q2.lt
  have S3 := S2.below c3 S2.lt
  have zz3 : w.heap.size ≤ (w2).heap.size := hb2.size
  have z3 : (w2).heap.size ≤ w3.heap.size := c3.size
  clear r0 r1 r2 r3 q0 q1 q2 q3
  have hbY : Below w.heap.size w (w3.alloc (.cells #[.int .i64 yop, .int .i64 yn, .string ynm, .slice Ay yk.length py] 30)) := hb3.alloc hb3.size _
  have RY := R3.alloc (.cells #[.int .i64 yop, .int .i64 yn, .string ynm, .slice Ay yk.length py] 30)
  have QY := Q3.alloc (.cells #[.int .i64 yop, .int .i64 yn, .string ynm, .slice Ay yk.length py] 30)
  have SY := S3.alloc (.cells #[.int .i64 yop, .int .i64 yn, .string ynm, .slice Ay yk.length py] 30)
  have YY : Row (w3.alloc (.cells #[.int .i64 yop, .int .i64 yn, .string ynm, .slice Ay yk.length py] 30)) w3.heap.size 30 #[.int .i64 yop, .int .i64 yn, .string ynm, .slice Ay yk.length py] := Row.new _ _ _
  have zY : w3.heap.size < (w3.alloc (.cells #[.int .i64 yop, .int .i64 yn, .string ynm, .slice Ay yk.length py] 30)).heap.size := by simp
  have kY : Sl false (exS false 12) (w3.alloc (.cells #[.int .i64 yop, .int .i64 yn, .string ynm, .slice Ay yk.length py] 30)) (w2).heap.size w3.heap.size yk (.slice Ay yk.length py) := k3.below ((Below.refl _ _).alloc (Nat.le_refl _) _) (Nat.le_refl _)
  have y0 : (w3.alloc (.cells #[.int .i64 yop, .int .i64 yn, .string ynm, .slice Ay yk.length py] 30)).cell? ⟨w3.heap.size, 0, none⟩ = some (.int .i64 yop) := YY.cell 0
  have y1 : (w3.alloc (.cells #[.int .i64 yop, .int .i64 yn, .string ynm, .slice Ay yk.length py] 30)).cell? ⟨w3.heap.size, 1, none⟩ = some (.int .i64 yn) := YY.cell 1
  have y2 : (w3.alloc (.cells #[.int .i64 yop, .int .i64 yn, .string ynm, .slice Ay yk.length py] 30)).cell? ⟨w3.heap.size, 2, none⟩ = some (.string ynm) := YY.cell 2
  have y3 : (w3.alloc (.cells #[.int .i64 yop, .int .i64 yn, .string ynm, .slice Ay yk.length py] 30)).cell? ⟨w3.heap.size, 3, none⟩ = some (.slice Ay yk.length py) := YY.cell 3
  go_wp2_with fail
  refine (spec_ExprValid 12 yop yn ynm yk _ _ (w2).heap.size w3.heap.size (Nat.le_of_lt zY) j0 j1 j2 kY).mono ?_
  rintro e w4 ⟨rfl, c4⟩
  have hb4 : Below w.heap.size w w4 := hbY.trans (c4.mono hbY.size)
  have R4 := RY.below c4 RY.lt
  have Q4 := QY.below c4 QY.lt
  have S4 := SY.below c4 SY.lt
  have Y4 := YY.below c4 YY.lt
  have z4 : (w3.alloc (.cells #[.int .i64 yop, .int .i64 yn, .string ynm, .slice Ay yk.length py] 30)).heap.size ≤ w4.heap.size := c4.size
  clear y0 y1 y2 y3
  cases hv : valE (.mk yop yn ynm yk)
  case false =>
    have E : Hid (putV (.mk op n name kids) nm (.mk bop bn bname bkids) = (exZ, false)) := putV_no3 hy.out hv
    have s0 : (w4).cell? ⟨w.heap.size + 1 + 1, 0, none⟩ = some (.int .i64 0) := S4.cell 0
    have sf0 : (w4).frozen? ⟨w.heap.size + 1 + 1, 0, none⟩ = false := S4.frozen 0
    have s1 : (w4).cell? ⟨w.heap.size + 1 + 1, 1, none⟩ = some (.int .i64 0) := S4.cell 1
    have sf1 : (w4).frozen? ⟨w.heap.size + 1 + 1, 1, none⟩ = false := S4.frozen 1
    have s2 : (w4).cell? ⟨w.heap.size + 1 + 1, 2, none⟩ = some (.string ⟨#[]⟩) := S4.cell 2
    have sf2 : (w4).frozen? ⟨w.heap.size + 1 + 1, 2, none⟩ = false := S4.frozen 2
    have s3 : (w4).cell? ⟨w.heap.size + 1 + 1, 3, none⟩ = some (.slice none 0 0) := S4.cell 3
    have sf3 : (w4).frozen? ⟨w.heap.size + 1 + 1, 3, none⟩ = false := S4.frozen 3
    go_wp2_with fail
    refine bodyPost_ret (v := .tuple #[.agg #[.int .i64 0, .int .i64 0, .string ⟨#[]⟩, .slice none 0 0], .bool false]) (by simp [results, Tryd.results33, go_sem, s0, s1, s2, s3]) rfl (PairP.no E.out rfl ((((hb4.setCell (p := ⟨w.heap.size + 1 + 1, 0, none⟩) (by first | omega | (simp; omega) | simp) (.int .i64 0)).setCell (p := ⟨w.heap.size + 1 + 1, 1, none⟩) (by first | omega | (simp; omega) | simp) (.int .i64 0)).setCell (p := ⟨w.heap.size + 1 + 1, 2, none⟩) (by first | omega | (simp; omega) | simp) (.string ⟨#[]⟩)).setCell (p := ⟨w.heap.size + 1 + 1, 3, none⟩) (by first | omega | (simp; omega) | simp) (.slice none 0 0)))
  have E : Hid (putV (.mk op n name kids) nm (.mk bop bn bname bkids) = (.mk yop yn ynm yk, true)) := putV_yes hf.out hg.out hy.out hv
  have y0 : (w4).cell? ⟨w3.heap.size, 0, none⟩ = some (.int .i64 yop) := Y4.cell 0
  have y1 : (w4).cell? ⟨w3.heap.size, 1, none⟩ = some (.int .i64 yn) := Y4.cell 1
  have y2 : (w4).cell? ⟨w3.heap.size, 2, none⟩ = some (.string ynm) := Y4.cell 2
  have y3 : (w4).cell? ⟨w3.heap.size, 3, none⟩ = some (.slice Ay yk.length py) := Y4.cell 3
  have s0 : (w4).cell? ⟨w.heap.size + 1 + 1, 0, none⟩ = some (.int .i64 0) := S4.cell 0
  have sf0 : (w4).frozen? ⟨w.heap.size + 1 + 1, 0, none⟩ = false := S4.frozen 0
  have s1 : (w4).cell? ⟨w.heap.size + 1 + 1, 1, none⟩ = some (.int .i64 0) := S4.cell 1
  have sf1 : (w4).frozen? ⟨w.heap.size + 1 + 1, 1, none⟩ = false := S4.frozen 1
  have s2 : (w4).cell? ⟨w.heap.size + 1 + 1, 2, none⟩ = some (.string ⟨#[]⟩) := S4.cell 2
  have sf2 : (w4).frozen? ⟨w.heap.size + 1 + 1, 2, none⟩ = false := S4.frozen 2
  have s3 : (w4).cell? ⟨w.heap.size + 1 + 1, 3, none⟩ = some (.slice none 0 0) := S4.cell 3
  have sf3 : (w4).frozen? ⟨w.heap.size + 1 + 1, 3, none⟩ = false := S4.frozen 3
  have hz : w.heap.size + 1 + 1 < (w2).heap.size := S2.lt
  have hZ : ∀ m', (exT m' 13).rep w4 (w2).heap.size w3.heap.size (.mk yop yn ynm yk) [.int .i64 yop, .int .i64 yn, .string ynm, .slice Ay yk.length py] := fun m' => (exT m' 13).below ((exT m' 13).below (hx m') ((Below.refl _ _).alloc (Nat.le_refl _) (.cells #[.int .i64 yop, .int .i64 yn, .string ynm, .slice Ay yk.length py] 30)) (Nat.le_refl _)) c4 (Nat.le_of_lt zY)
  go_wp2_with fail
  refine bodyPost_ret (v := .tuple #[.agg #[.int .i64 yop, .int .i64 yn, .string ynm, .slice Ay yk.length py], .bool true]) (by simp [results, Tryd.results33, go_sem, s0, s1, s2, s3]) rfl ?_
  unfold PairP
  rw [E.out]
  refine ⟨_, rfl, fun m' => ?_, ?_⟩
  · refine (exT m' 13).keep (hZ m') (by omega) ?_ (((((Same.refl _ _ _).setCell (p := ⟨w.heap.size + 1 + 1, 0, none⟩) (.inl (by first | omega | (simp; omega) | simp)) (.int .i64 yop)).setCell (p := ⟨w.heap.size + 1 + 1, 1, none⟩) (.inl (by first | omega | (simp; omega) | simp)) (.int .i64 yn)).setCell (p := ⟨w.heap.size + 1 + 1, 2, none⟩) (.inl (by first | omega | (simp; omega) | simp)) (.string ynm)).setCell (p := ⟨w.heap.size + 1 + 1, 3, none⟩) (.inl (by first | omega | (simp; omega) | simp)) (.slice Ay yk.length py))
    simp only [World.setCell, Array.size_modify]
    omega
  · exact ((((hb4.setCell (p := ⟨w.heap.size + 1 + 1, 0, none⟩) (by first | omega | (simp; omega) | simp) (.int .i64 yop)).setCell (p := ⟨w.heap.size + 1 + 1, 1, none⟩) (by first | omega | (simp; omega) | simp) (.int .i64 yn)).setCell (p := ⟨w.heap.size + 1 + 1, 2, none⟩) (by first | omega | (simp; omega) | simp) (.string ynm)).setCell (p := ⟨w.heap.size + 1 + 1, 3, none⟩) (by first | omega | (simp; omega) | simp) (.slice Ay yk.length py))
set_option maxRecDepth 100000 in
set_option maxHeartbeats 8000000 in
theorem impl_PutVar (d : Nat) (op n : Int) (name : ByteArray) (kids : List Ex) (v3 : Value) (nm : ByteArray) (db : Nat) (bop bn : Int) (bname : ByteArray) (bkids : List Ex) (bv3 : Value) (w : World) (lo B lo' B' : Nat) (hB : B ≤ w.heap.size) (hB' : B' ≤ w.heap.size) (ho : I64 op) (hn64 : I64 n) (hnm : name.size ≤ maxLen) (h3 : Sl false (exS false d) w lo B kids v3) (bo : I64 bop) (bn64 : I64 bn) (bnm : bname.size ≤ maxLen) (bh3 : Sl false (exS false db) w lo' B' bkids bv3) (ht : Tabs w) :
    Calls Tryd.prog 34 #[.agg #[.int .i64 op, .int .i64 n, .string name, v3], .string nm, .agg #[.int .i64 bop, .int .i64 bn, .string bname, bv3]] w (PairP 12 (putV (.mk op n name kids) nm (.mk bop bn bname bkids)) w) := by
  obtain ⟨A, p, hf, hl1, hl2⟩ := h3.form
  subst hf
  obtain ⟨bA, bp, hf, _, _⟩ := bh3.form
  subst hf
  have hb0 : Below w.heap.size w ((((w.alloc (.cells #[.int .i64 op, .int .i64 n, .string name, .slice A kids.length p] 30)).alloc (.cells #[.string nm] 9)).alloc (.cells #[.int .i64 bop, .int .i64 bn, .string bname, .slice bA bkids.length bp] 30)).alloc (.cells #[.int .i64 0, .int .i64 0, .string ⟨#[]⟩, .slice none 0 0] 30)) := ((((Below.refl _ _).alloc (Nat.le_refl _) _).alloc (by simp) _).alloc (by simp; omega) _).alloc (by simp; omega) _
  have R0 : Row ((((w.alloc (.cells #[.int .i64 op, .int .i64 n, .string name, .slice A kids.length p] 30)).alloc (.cells #[.string nm] 9)).alloc (.cells #[.int .i64 bop, .int .i64 bn, .string bname, .slice bA bkids.length bp] 30)).alloc (.cells #[.int .i64 0, .int .i64 0, .string ⟨#[]⟩, .slice none 0 0] 30)) (w.heap.size) 30 #[.int .i64 op, .int .i64 n, .string name, .slice A kids.length p] := (((Row.new w _ _).alloc _).alloc _).alloc _
  have N0 : Row ((((w.alloc (.cells #[.int .i64 op, .int .i64 n, .string name, .slice A kids.length p] 30)).alloc (.cells #[.string nm] 9)).alloc (.cells #[.int .i64 bop, .int .i64 bn, .string bname, .slice bA bkids.length bp] 30)).alloc (.cells #[.int .i64 0, .int .i64 0, .string ⟨#[]⟩, .slice none 0 0] 30)) (w.heap.size + 1) 9 #[.string nm] := by simpa using ((Row.new (w.alloc (.cells #[.int .i64 op, .int .i64 n, .string name, .slice A kids.length p] 30)) 9 #[.string nm]).alloc (.cells #[.int .i64 bop, .int .i64 bn, .string bname, .slice bA bkids.length bp] 30)).alloc (.cells #[.int .i64 0, .int .i64 0, .string ⟨#[]⟩, .slice none 0 0] 30)
  have Q0 : Row ((((w.alloc (.cells #[.int .i64 op, .int .i64 n, .string name, .slice A kids.length p] 30)).alloc (.cells #[.string nm] 9)).alloc (.cells #[.int .i64 bop, .int .i64 bn, .string bname, .slice bA bkids.length bp] 30)).alloc (.cells #[.int .i64 0, .int .i64 0, .string ⟨#[]⟩, .slice none 0 0] 30)) (w.heap.size + 1 + 1) 30 #[.int .i64 bop, .int .i64 bn, .string bname, .slice bA bkids.length bp] := by simpa using (Row.new ((w.alloc (.cells #[.int .i64 op, .int .i64 n, .string name, .slice A kids.length p] 30)).alloc (.cells #[.string nm] 9)) 30 #[.int .i64 bop, .int .i64 bn, .string bname, .slice bA bkids.length bp]).alloc (.cells #[.int .i64 0, .int .i64 0, .string ⟨#[]⟩, .slice none 0 0] 30)
  have S0 : Row ((((w.alloc (.cells #[.int .i64 op, .int .i64 n, .string name, .slice A kids.length p] 30)).alloc (.cells #[.string nm] 9)).alloc (.cells #[.int .i64 bop, .int .i64 bn, .string bname, .slice bA bkids.length bp] 30)).alloc (.cells #[.int .i64 0, .int .i64 0, .string ⟨#[]⟩, .slice none 0 0] 30)) (w.heap.size + 1 + 1 + 1) 30 #[.int .i64 0, .int .i64 0, .string ⟨#[]⟩, .slice none 0 0] := by simpa using Row.new (((w.alloc (.cells #[.int .i64 op, .int .i64 n, .string name, .slice A kids.length p] 30)).alloc (.cells #[.string nm] 9)).alloc (.cells #[.int .i64 bop, .int .i64 bn, .string bname, .slice bA bkids.length bp] 30)) 30 #[.int .i64 0, .int .i64 0, .string ⟨#[]⟩, .slice none 0 0]
  have zb : w.heap.size + 1 + 1 + 1 < ((((w.alloc (.cells #[.int .i64 op, .int .i64 n, .string name, .slice A kids.length p] 30)).alloc (.cells #[.string nm] 9)).alloc (.cells #[.int .i64 bop, .int .i64 bn, .string bname, .slice bA bkids.length bp] 30)).alloc (.cells #[.int .i64 0, .int .i64 0, .string ⟨#[]⟩, .slice none 0 0] 30)).heap.size := S0.lt
  go_enter Tryd.func34, Tryd.ntmps34
  go_wp2_with fail
  refine (impl_ExprValid d op n name kids _ _ lo B (Nat.le_trans hB hb0.size) ho hn64 hnm (h3.below hb0 hB) (ht.below hb0 (Nat.le_refl _))).mono ?_
  rintro e w1 ⟨rfl, c1⟩
  have hb1 : Below w.heap.size w w1 := hb0.trans (c1.mono hb0.size)
  have R1 := R0.below c1 R0.lt
  have Q1 := Q0.below c1 Q0.lt
  have S1 := S0.below c1 S0.lt
  have N1 := N0.below c1 N0.lt
  have z1 := c1.size
  cases hf : valE (.mk op n name kids)
  case false =>
    have E : Hid (putV (.mk op n name kids) nm (.mk bop bn bname bkids) = (exZ, false)) := putV_no1 hf
    have s0 : (w1).cell? ⟨w.heap.size + 1 + 1 + 1, 0, none⟩ = some (.int .i64 0) := S1.cell 0
    have sf0 : (w1).frozen? ⟨w.heap.size + 1 + 1 + 1, 0, none⟩ = false := S1.frozen 0
    have s1 : (w1).cell? ⟨w.heap.size + 1 + 1 + 1, 1, none⟩ = some (.int .i64 0) := S1.cell 1
    have sf1 : (w1).frozen? ⟨w.heap.size + 1 + 1 + 1, 1, none⟩ = false := S1.frozen 1
    have s2 : (w1).cell? ⟨w.heap.size + 1 + 1 + 1, 2, none⟩ = some (.string ⟨#[]⟩) := S1.cell 2
    have sf2 : (w1).frozen? ⟨w.heap.size + 1 + 1 + 1, 2, none⟩ = false := S1.frozen 2
    have s3 : (w1).cell? ⟨w.heap.size + 1 + 1 + 1, 3, none⟩ = some (.slice none 0 0) := S1.cell 3
    have sf3 : (w1).frozen? ⟨w.heap.size + 1 + 1 + 1, 3, none⟩ = false := S1.frozen 3
    go_wp2_with fail
    refine bodyPost_ret (v := .tuple #[.agg #[.int .i64 0, .int .i64 0, .string ⟨#[]⟩, .slice none 0 0], .bool false]) (by simp [results, Tryd.results34, go_sem, s0, s1, s2, s3]) rfl (PairP.no E.out rfl ((((hb1.setCell (p := ⟨w.heap.size + 1 + 1 + 1, 0, none⟩) (by first | omega | (simp; omega) | simp) (.int .i64 0)).setCell (p := ⟨w.heap.size + 1 + 1 + 1, 1, none⟩) (by first | omega | (simp; omega) | simp) (.int .i64 0)).setCell (p := ⟨w.heap.size + 1 + 1 + 1, 2, none⟩) (by first | omega | (simp; omega) | simp) (.string ⟨#[]⟩)).setCell (p := ⟨w.heap.size + 1 + 1 + 1, 3, none⟩) (by first | omega | (simp; omega) | simp) (.slice none 0 0)))
  have q0 : (w1).cell? ⟨w.heap.size + 1 + 1, 0, none⟩ = some (.int .i64 bop) := Q1.cell 0
  have q1 : (w1).cell? ⟨w.heap.size + 1 + 1, 1, none⟩ = some (.int .i64 bn) := Q1.cell 1
  have q2 : (w1).cell? ⟨w.heap.size + 1 + 1, 2, none⟩ = some (.string bname) := Q1.cell 2
  have q3 : (w1).cell? ⟨w.heap.size + 1 + 1, 3, none⟩ = some (.slice bA bkids.length bp) := Q1.cell 3
  go_wp2_with fail
  refine (impl_ExprValid db bop bn bname bkids _ _ lo' B' (Nat.le_trans hB' hb1.size) bo bn64 bnm (bh3.below hb1 hB') (ht.below hb1 (Nat.le_refl _))).mono ?_
  rintro e w2 ⟨rfl, c2⟩
  have hb2 : Below w.heap.size w w2 := hb1.trans (c2.mono hb1.size)
  have R2 := R1.below c2 R1.lt
  have Q2 := Q1.below c2 Q1.lt
  have S2 := S1.below c2 S1.lt
  have N2 := N1.below c2 N1.lt
  have z2 := c2.size
  clear q0 q1 q2 q3
  cases hg : valE (.mk bop bn bname bkids)
  case false =>
    have E : Hid (putV (.mk op n name kids) nm (.mk bop bn bname bkids) = (exZ, false)) := putV_no2 hg
    have s0 : (w2).cell? ⟨w.heap.size + 1 + 1 + 1, 0, none⟩ = some (.int .i64 0) := S2.cell 0
    have sf0 : (w2).frozen? ⟨w.heap.size + 1 + 1 + 1, 0, none⟩ = false := S2.frozen 0
    have s1 : (w2).cell? ⟨w.heap.size + 1 + 1 + 1, 1, none⟩ = some (.int .i64 0) := S2.cell 1
    have sf1 : (w2).frozen? ⟨w.heap.size + 1 + 1 + 1, 1, none⟩ = false := S2.frozen 1
    have s2 : (w2).cell? ⟨w.heap.size + 1 + 1 + 1, 2, none⟩ = some (.string ⟨#[]⟩) := S2.cell 2
    have sf2 : (w2).frozen? ⟨w.heap.size + 1 + 1 + 1, 2, none⟩ = false := S2.frozen 2
    have s3 : (w2).cell? ⟨w.heap.size + 1 + 1 + 1, 3, none⟩ = some (.slice none 0 0) := S2.cell 3
    have sf3 : (w2).frozen? ⟨w.heap.size + 1 + 1 + 1, 3, none⟩ = false := S2.frozen 3
    go_wp2_with fail
    refine bodyPost_ret (v := .tuple #[.agg #[.int .i64 0, .int .i64 0, .string ⟨#[]⟩, .slice none 0 0], .bool false]) (by simp [results, Tryd.results34, go_sem, s0, s1, s2, s3]) rfl (PairP.no E.out rfl ((((hb2.setCell (p := ⟨w.heap.size + 1 + 1 + 1, 0, none⟩) (by first | omega | (simp; omega) | simp) (.int .i64 0)).setCell (p := ⟨w.heap.size + 1 + 1 + 1, 1, none⟩) (by first | omega | (simp; omega) | simp) (.int .i64 0)).setCell (p := ⟨w.heap.size + 1 + 1 + 1, 2, none⟩) (by first | omega | (simp; omega) | simp) (.string ⟨#[]⟩)).setCell (p := ⟨w.heap.size + 1 + 1 + 1, 3, none⟩) (by first | omega | (simp; omega) | simp) (.slice none 0 0)))
  have F1 := Lib.hid (val_form hf)
  have F2 := Lib.hid (val_form hg)
  replace hf := Lib.hid hf
  replace hg := Lib.hid hg
  obtain ⟨yop, yn, ynm, yk, hy⟩ : ∃ (yop yn : Int) (ynm : ByteArray) (yk : List Ex), putE 6 nm (.mk bop bn bname bkids) (.mk op n name kids) = .mk yop yn ynm yk := by
      cases hq : putE 6 nm (.mk bop bn bname bkids) (.mk op n name kids) with
      | mk a b c d => exact ⟨a, b, c, d, rfl⟩
  replace hy := Lib.hid hy
  have hbF : Below w.heap.size w (w2.alloc (.cells #[.func (.func 56) #[] #[.pointer (some ⟨w.heap.size + 1, 0, none⟩), .pointer (some ⟨w.heap.size + 1 + 1, 0, none⟩), .pointer (some ⟨w2.heap.size, 0, none⟩)]] 62)) := hb2.alloc hb2.size _
  have RF := R2.alloc (.cells #[.func (.func 56) #[] #[.pointer (some ⟨w.heap.size + 1, 0, none⟩), .pointer (some ⟨w.heap.size + 1 + 1, 0, none⟩), .pointer (some ⟨w2.heap.size, 0, none⟩)]] 62)
  have QF := Q2.alloc (.cells #[.func (.func 56) #[] #[.pointer (some ⟨w.heap.size + 1, 0, none⟩), .pointer (some ⟨w.heap.size + 1 + 1, 0, none⟩), .pointer (some ⟨w2.heap.size, 0, none⟩)]] 62)
  have SF := S2.alloc (.cells #[.func (.func 56) #[] #[.pointer (some ⟨w.heap.size + 1, 0, none⟩), .pointer (some ⟨w.heap.size + 1 + 1, 0, none⟩), .pointer (some ⟨w2.heap.size, 0, none⟩)]] 62)
  have NF := N2.alloc (.cells #[.func (.func 56) #[] #[.pointer (some ⟨w.heap.size + 1, 0, none⟩), .pointer (some ⟨w.heap.size + 1 + 1, 0, none⟩), .pointer (some ⟨w2.heap.size, 0, none⟩)]] 62)
  have PF : Row (w2.alloc (.cells #[.func (.func 56) #[] #[.pointer (some ⟨w.heap.size + 1, 0, none⟩), .pointer (some ⟨w.heap.size + 1 + 1, 0, none⟩), .pointer (some ⟨w2.heap.size, 0, none⟩)]] 62)) (w2.heap.size) 62 #[.func (.func 56) #[] #[.pointer (some ⟨w.heap.size + 1, 0, none⟩), .pointer (some ⟨w.heap.size + 1 + 1, 0, none⟩), .pointer (some ⟨w2.heap.size, 0, none⟩)]] := Row.new _ _ _
  have zF : w2.heap.size ≤ (w2.alloc (.cells #[.func (.func 56) #[] #[.pointer (some ⟨w.heap.size + 1, 0, none⟩), .pointer (some ⟨w.heap.size + 1 + 1, 0, none⟩), .pointer (some ⟨w2.heap.size, 0, none⟩)]] 62)).heap.size := by simp
  have r0 : (w2.alloc (.cells #[.func (.func 56) #[] #[.pointer (some ⟨w.heap.size + 1, 0, none⟩), .pointer (some ⟨w.heap.size + 1 + 1, 0, none⟩), .pointer (some ⟨w2.heap.size, 0, none⟩)]] 62)).cell? ⟨w.heap.size, 0, none⟩ = some (.int .i64 op) := RF.cell 0
  have r1 : (w2.alloc (.cells #[.func (.func 56) #[] #[.pointer (some ⟨w.heap.size + 1, 0, none⟩), .pointer (some ⟨w.heap.size + 1 + 1, 0, none⟩), .pointer (some ⟨w2.heap.size, 0, none⟩)]] 62)).cell? ⟨w.heap.size, 1, none⟩ = some (.int .i64 n) := RF.cell 1
  have r2 : (w2.alloc (.cells #[.func (.func 56) #[] #[.pointer (some ⟨w.heap.size + 1, 0, none⟩), .pointer (some ⟨w.heap.size + 1 + 1, 0, none⟩), .pointer (some ⟨w2.heap.size, 0, none⟩)]] 62)).cell? ⟨w.heap.size, 2, none⟩ = some (.string name) := RF.cell 2
  have r3 : (w2.alloc (.cells #[.func (.func 56) #[] #[.pointer (some ⟨w.heap.size + 1, 0, none⟩), .pointer (some ⟨w.heap.size + 1 + 1, 0, none⟩), .pointer (some ⟨w2.heap.size, 0, none⟩)]] 62)).cell? ⟨w.heap.size, 3, none⟩ = some (.slice A kids.length p) := RF.cell 3
  go_wp2_with fail
  refine (impl_put 6 d op n name kids _ nm db bop bn bname bkids bA bp (w.heap.size + 1) (w.heap.size + 1 + 1) (w2.heap.size) _ lo B lo' B' (Nat.le_trans hB hbF.size) (Nat.le_trans hB' hbF.size) ho hn64 hnm (h3.below hbF hB) F1.out bo bn64 bnm (bh3.below hbF hB') F2.out ⟨NF, QF, PF⟩).mono ?_
  rintro e w3 ⟨v3', he, hx, c3⟩
  rw [hy.out] at he hx
  obtain ⟨Ay, py, hw, _, _⟩ := (exT_kids 12 (hx false)).form
  change _ = Value.slice Ay yk.length py at hw
  subst hw
  change _ = Ending.returned (.agg #[.int .i64 yop, .int .i64 yn, .string ynm, .slice Ay yk.length py]) at he
  subst he
  obtain ⟨_, -, j0, j1, j2, j3⟩ := exT_open 12 (hx false)
  change I64 yop at j0
  change I64 yn at j1
  change ynm.size ≤ maxLen at j2
  have k3 := (exT_kids 12 (hx false)).exS
  change Sl false (exS false 12) w3 (w2.alloc (.cells #[.func (.func 56) #[] #[.pointer (some ⟨w.heap.size + 1, 0, none⟩), .pointer (some ⟨w.heap.size + 1 + 1, 0, none⟩), .pointer (some ⟨w2.heap.size, 0, none⟩)]] 62)).heap.size w3.heap.size yk (.slice Ay yk.length py) at k3
  have hb3 : Below w.heap.size w w3 := hbF.trans (c3.mono hbF.size)
  have R3 := RF.below c3 RF.lt
  have Q3 := QF.below c3 QF.lt
  have S3 := SF.below c3 SF.lt
  have N3 := NF.below c3 NF.lt
  have zz3 : w.heap.size ≤ (w2.alloc (.cells #[.func (.func 56) #[] #[.pointer (some ⟨w.heap.size + 1, 0, none⟩), .pointer (some ⟨w.heap.size + 1 + 1, 0, none⟩), .pointer (some ⟨w2.heap.size, 0, none⟩)]] 62)).heap.size := hbF.size
  have z3 : (w2.alloc (.cells #[.func (.func 56) #[] #[.pointer (some ⟨w.heap.size + 1, 0, none⟩), .pointer (some ⟨w.heap.size + 1 + 1, 0, none⟩), .pointer (some ⟨w2.heap.size, 0, none⟩)]] 62)).heap.size ≤ w3.heap.size := c3.size
  clear r0 r1 r2 r3
  have hbY : Below w.heap.size w (w3.alloc (.cells #[.int .i64 yop, .int .i64 yn, .string ynm, .slice Ay yk.length py] 30)) := hb3.alloc hb3.size _
  have RY := R3.alloc (.cells #[.int .i64 yop, .int .i64 yn, .string ynm, .slice Ay yk.length py] 30)
  have QY := Q3.alloc (.cells #[.int .i64 yop, .int .i64 yn, .string ynm, .slice Ay yk.length py] 30)
  have SY := S3.alloc (.cells #[.int .i64 yop, .int .i64 yn, .string ynm, .slice Ay yk.length py] 30)
  have NY := N3.alloc (.cells #[.int .i64 yop, .int .i64 yn, .string ynm, .slice Ay yk.length py] 30)
  have YY : Row (w3.alloc (.cells #[.int .i64 yop, .int .i64 yn, .string ynm, .slice Ay yk.length py] 30)) w3.heap.size 30 #[.int .i64 yop, .int .i64 yn, .string ynm, .slice Ay yk.length py] := Row.new _ _ _
  have zY : w3.heap.size < (w3.alloc (.cells #[.int .i64 yop, .int .i64 yn, .string ynm, .slice Ay yk.length py] 30)).heap.size := by simp
  have kY : Sl false (exS false 12) (w3.alloc (.cells #[.int .i64 yop, .int .i64 yn, .string ynm, .slice Ay yk.length py] 30)) (w2.alloc (.cells #[.func (.func 56) #[] #[.pointer (some ⟨w.heap.size + 1, 0, none⟩), .pointer (some ⟨w.heap.size + 1 + 1, 0, none⟩), .pointer (some ⟨w2.heap.size, 0, none⟩)]] 62)).heap.size w3.heap.size yk (.slice Ay yk.length py) := k3.below ((Below.refl _ _).alloc (Nat.le_refl _) _) (Nat.le_refl _)
  have y0 : (w3.alloc (.cells #[.int .i64 yop, .int .i64 yn, .string ynm, .slice Ay yk.length py] 30)).cell? ⟨w3.heap.size, 0, none⟩ = some (.int .i64 yop) := YY.cell 0
  have y1 : (w3.alloc (.cells #[.int .i64 yop, .int .i64 yn, .string ynm, .slice Ay yk.length py] 30)).cell? ⟨w3.heap.size, 1, none⟩ = some (.int .i64 yn) := YY.cell 1
  have y2 : (w3.alloc (.cells #[.int .i64 yop, .int .i64 yn, .string ynm, .slice Ay yk.length py] 30)).cell? ⟨w3.heap.size, 2, none⟩ = some (.string ynm) := YY.cell 2
  have y3 : (w3.alloc (.cells #[.int .i64 yop, .int .i64 yn, .string ynm, .slice Ay yk.length py] 30)).cell? ⟨w3.heap.size, 3, none⟩ = some (.slice Ay yk.length py) := YY.cell 3
  go_wp2_with fail
  refine (impl_ExprValid 12 yop yn ynm yk _ _ (w2.alloc (.cells #[.func (.func 56) #[] #[.pointer (some ⟨w.heap.size + 1, 0, none⟩), .pointer (some ⟨w.heap.size + 1 + 1, 0, none⟩), .pointer (some ⟨w2.heap.size, 0, none⟩)]] 62)).heap.size w3.heap.size (Nat.le_of_lt zY) j0 j1 j2 kY (ht.below hbY (Nat.le_refl _))).mono ?_
  rintro e w4 ⟨rfl, c4⟩
  have hb4 : Below w.heap.size w w4 := hbY.trans (c4.mono hbY.size)
  have R4 := RY.below c4 RY.lt
  have Q4 := QY.below c4 QY.lt
  have S4 := SY.below c4 SY.lt
  have N4 := NY.below c4 NY.lt
  have Y4 := YY.below c4 YY.lt
  have z4 : (w3.alloc (.cells #[.int .i64 yop, .int .i64 yn, .string ynm, .slice Ay yk.length py] 30)).heap.size ≤ w4.heap.size := c4.size
  clear y0 y1 y2 y3
  cases hv : valE (.mk yop yn ynm yk)
  case false =>
    have E : Hid (putV (.mk op n name kids) nm (.mk bop bn bname bkids) = (exZ, false)) := putV_no3 hy.out hv
    have s0 : (w4).cell? ⟨w.heap.size + 1 + 1 + 1, 0, none⟩ = some (.int .i64 0) := S4.cell 0
    have sf0 : (w4).frozen? ⟨w.heap.size + 1 + 1 + 1, 0, none⟩ = false := S4.frozen 0
    have s1 : (w4).cell? ⟨w.heap.size + 1 + 1 + 1, 1, none⟩ = some (.int .i64 0) := S4.cell 1
    have sf1 : (w4).frozen? ⟨w.heap.size + 1 + 1 + 1, 1, none⟩ = false := S4.frozen 1
    have s2 : (w4).cell? ⟨w.heap.size + 1 + 1 + 1, 2, none⟩ = some (.string ⟨#[]⟩) := S4.cell 2
    have sf2 : (w4).frozen? ⟨w.heap.size + 1 + 1 + 1, 2, none⟩ = false := S4.frozen 2
    have s3 : (w4).cell? ⟨w.heap.size + 1 + 1 + 1, 3, none⟩ = some (.slice none 0 0) := S4.cell 3
    have sf3 : (w4).frozen? ⟨w.heap.size + 1 + 1 + 1, 3, none⟩ = false := S4.frozen 3
    go_wp2_with fail
    refine bodyPost_ret (v := .tuple #[.agg #[.int .i64 0, .int .i64 0, .string ⟨#[]⟩, .slice none 0 0], .bool false]) (by simp [results, Tryd.results34, go_sem, s0, s1, s2, s3]) rfl (PairP.no E.out rfl ((((hb4.setCell (p := ⟨w.heap.size + 1 + 1 + 1, 0, none⟩) (by first | omega | (simp; omega) | simp) (.int .i64 0)).setCell (p := ⟨w.heap.size + 1 + 1 + 1, 1, none⟩) (by first | omega | (simp; omega) | simp) (.int .i64 0)).setCell (p := ⟨w.heap.size + 1 + 1 + 1, 2, none⟩) (by first | omega | (simp; omega) | simp) (.string ⟨#[]⟩)).setCell (p := ⟨w.heap.size + 1 + 1 + 1, 3, none⟩) (by first | omega | (simp; omega) | simp) (.slice none 0 0)))
  have E : Hid (putV (.mk op n name kids) nm (.mk bop bn bname bkids) = (.mk yop yn ynm yk, true)) := putV_yes hf.out hg.out hy.out hv
  have y0 : (w4).cell? ⟨w3.heap.size, 0, none⟩ = some (.int .i64 yop) := Y4.cell 0
  have y1 : (w4).cell? ⟨w3.heap.size, 1, none⟩ = some (.int .i64 yn) := Y4.cell 1
  have y2 : (w4).cell? ⟨w3.heap.size, 2, none⟩ = some (.string ynm) := Y4.cell 2
  have y3 : (w4).cell? ⟨w3.heap.size, 3, none⟩ = some (.slice Ay yk.length py) := Y4.cell 3
  have s0 : (w4).cell? ⟨w.heap.size + 1 + 1 + 1, 0, none⟩ = some (.int .i64 0) := S4.cell 0
  have sf0 : (w4).frozen? ⟨w.heap.size + 1 + 1 + 1, 0, none⟩ = false := S4.frozen 0
  have s1 : (w4).cell? ⟨w.heap.size + 1 + 1 + 1, 1, none⟩ = some (.int .i64 0) := S4.cell 1
  have sf1 : (w4).frozen? ⟨w.heap.size + 1 + 1 + 1, 1, none⟩ = false := S4.frozen 1
  have s2 : (w4).cell? ⟨w.heap.size + 1 + 1 + 1, 2, none⟩ = some (.string ⟨#[]⟩) := S4.cell 2
  have sf2 : (w4).frozen? ⟨w.heap.size + 1 + 1 + 1, 2, none⟩ = false := S4.frozen 2
  have s3 : (w4).cell? ⟨w.heap.size + 1 + 1 + 1, 3, none⟩ = some (.slice none 0 0) := S4.cell 3
  have sf3 : (w4).frozen? ⟨w.heap.size + 1 + 1 + 1, 3, none⟩ = false := S4.frozen 3
  have hz : w.heap.size + 1 + 1 + 1 < (w2.alloc (.cells #[.func (.func 56) #[] #[.pointer (some ⟨w.heap.size + 1, 0, none⟩), .pointer (some ⟨w.heap.size + 1 + 1, 0, none⟩), .pointer (some ⟨w2.heap.size, 0, none⟩)]] 62)).heap.size := SF.lt
  have hZ : ∀ m', (exT m' 13).rep w4 (w2.alloc (.cells #[.func (.func 56) #[] #[.pointer (some ⟨w.heap.size + 1, 0, none⟩), .pointer (some ⟨w.heap.size + 1 + 1, 0, none⟩), .pointer (some ⟨w2.heap.size, 0, none⟩)]] 62)).heap.size w3.heap.size (.mk yop yn ynm yk) [.int .i64 yop, .int .i64 yn, .string ynm, .slice Ay yk.length py] := fun m' => (exT m' 13).below ((exT m' 13).below (hx m') ((Below.refl _ _).alloc (Nat.le_refl _) (.cells #[.int .i64 yop, .int .i64 yn, .string ynm, .slice Ay yk.length py] 30)) (Nat.le_refl _)) c4 (Nat.le_of_lt zY)
  go_wp2_with fail
  refine bodyPost_ret (v := .tuple #[.agg #[.int .i64 yop, .int .i64 yn, .string ynm, .slice Ay yk.length py], .bool true]) (by simp [results, Tryd.results34, go_sem, s0, s1, s2, s3]) rfl ?_
  unfold PairP
  rw [E.out]
  refine ⟨_, rfl, fun m' => ?_, ?_⟩
  · refine (exT m' 13).keep (hZ m') (by omega) ?_ (((((Same.refl _ _ _).setCell (p := ⟨w.heap.size + 1 + 1 + 1, 0, none⟩) (.inl (by first | omega | (simp; omega) | simp)) (.int .i64 yop)).setCell (p := ⟨w.heap.size + 1 + 1 + 1, 1, none⟩) (.inl (by first | omega | (simp; omega) | simp)) (.int .i64 yn)).setCell (p := ⟨w.heap.size + 1 + 1 + 1, 2, none⟩) (.inl (by first | omega | (simp; omega) | simp)) (.string ynm)).setCell (p := ⟨w.heap.size + 1 + 1 + 1, 3, none⟩) (.inl (by first | omega | (simp; omega) | simp)) (.slice Ay yk.length py))
    simp only [World.setCell, Array.size_modify]
    omega
  · exact ((((hb4.setCell (p := ⟨w.heap.size + 1 + 1 + 1, 0, none⟩) (by first | omega | (simp; omega) | simp) (.int .i64 yop)).setCell (p := ⟨w.heap.size + 1 + 1 + 1, 1, none⟩) (by first | omega | (simp; omega) | simp) (.int .i64 yn)).setCell (p := ⟨w.heap.size + 1 + 1 + 1, 2, none⟩) (by first | omega | (simp; omega) | simp) (.string ynm)).setCell (p := ⟨w.heap.size + 1 + 1 + 1, 3, none⟩) (by first | omega | (simp; omega) | simp) (.slice Ay yk.length py))
end Go.Proofs.YtnamciblapddbaaDoor

