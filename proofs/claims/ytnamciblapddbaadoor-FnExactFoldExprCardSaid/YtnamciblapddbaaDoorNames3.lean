/-
  VarsOf and CallsIn, by the program and by the reference. Conditions: the argument reads as data; the tables lie.
-/
import Derived.Test.YtnamciblapddbaaDoorNames2
namespace Go.Proofs.YtnamciblapddbaaDoor
open Go.RowKit Go.ChangeShapes Go.WideShapes Go.Deep

set_option linter.unusedVariables false
set_option linter.unusedSimpArgs false
def nmV (tag : Int) (e : Ex) : List ByteArray := if valE e = true then nmE 6 tag [] e else []
theorem valE_parts {e : Ex} (h : valE e = true) : partsE e ≤ 30 := by
  rw [valE_form, Bool.and_eq_true] at h
  exact of_decide_eq_true h.2
theorem nmV_len (tag : Int) (e : Ex) : (nmV tag e).length ≤ 30 := by
  unfold nmV
  split
  · rename_i h
    have h1 := nmE_len tag 6 e []
    have h2 := valE_parts h
    simp at h1
    omega
  · simp
set_option maxRecDepth 100000 in
set_option maxHeartbeats 4000000 in
theorem spec_VarsOf (d : Nat) (op n : Int) (name : ByteArray) (kids : List Ex) (v3 : Value) (w : World) (lo B : Nat) (hB : B ≤ w.heap.size) (ho : I64 op) (hn64 : I64 n) (hnm : name.size ≤ maxLen) (h3 : Sl false (exS false d) w lo B kids v3) :
    Calls Tryd.prog 31 #[.agg #[.int .i64 op, .int .i64 n, .string name, v3]] w (ToSP (fun m => strS m) (nmV 2 (.mk op n name kids)) w) := by
  obtain ⟨A, p, hf, hl1, hl2⟩ := h3.form
  subst hf
  have hb0 : Below w.heap.size w (w.alloc (.cells #[.int .i64 op, .int .i64 n, .string name, .slice A kids.length p] 30)) := (Below.refl _ _).alloc (Nat.le_refl _) _
  have R0 : Row (w.alloc (.cells #[.int .i64 op, .int .i64 n, .string name, .slice A kids.length p] 30)) w.heap.size 30 #[.int .i64 op, .int .i64 n, .string name, .slice A kids.length p] := Row.new w _ _
  go_enter Tryd.func31, Tryd.ntmps31
  go_wp2_with fail
  refine (spec_ExprValid d op n name kids _ _ lo B (Nat.le_trans hB hb0.size) ho hn64 hnm (h3.below hb0 hB)).mono ?_
  rintro e w1 ⟨rfl, b1⟩
  have hb1 : Below w.heap.size w w1 := hb0.trans (b1.mono hb0.size)
  have R1 := R0.below b1 R0.lt
  have rl := R1.lt
  cases hf : valE (.mk op n name kids)
  case false =>
    have E : Hid (nmV 2 (.mk op n name kids) = []) := by show _ = _; unfold nmV; rw [hf]; rfl
    go_wp2_with fail
    go_ret
    exact ⟨_, rfl, fun m => by rw [E.out]; exact ⟨_, 0, rfl, by simp, by simp [maxLen], fun h => absurd rfl h⟩, hb1.alloc hb1.size _⟩
  have hp : formB 6 (.mk op n name kids) = true := by
    rw [valE_form, Bool.and_eq_true] at hf
    exact hf.1
  have hpl := valE_parts hf
  have E : Hid (nmV 2 (.mk op n name kids) = nmE 6 2 [] (.mk op n name kids)) := by show _ = _; unfold nmV; rw [if_pos hf]
  have y0 : (w1).cell? ⟨w.heap.size, 0, none⟩ = some (.int .i64 op) := R1.cell 0
  have y1 : (w1).cell? ⟨w.heap.size, 1, none⟩ = some (.int .i64 n) := R1.cell 1
  have y2 : (w1).cell? ⟨w.heap.size, 2, none⟩ = some (.string name) := R1.cell 2
  have y3 : (w1).cell? ⟨w.heap.size, 3, none⟩ = some (.slice A kids.length p) := R1.cell 3
  replace hp := Lib.hid hp
  have hbe : Below w.heap.size w (w1.alloc (.cells #[] 9)) := hb1.alloc hb1.size _
  go_wp2_with fail
  refine (spec_l2Names 6 d op n name kids (.slice A kids.length p) _ lo B 2 _ [] w1.heap.size (Nat.le_trans hB hb1.size) (by simp) ho hn64 hnm (h3.below hbe hB) hp.out (by simp; omega) (fun s hs => by cases hs) (own_emptyS w1 _ _ (Nat.le_refl _))).mono ?_
  rintro e w2 ⟨v', rfl, own2, hs2, G2⟩
  have hb2 : Below w1.heap.size (w1.alloc (.cells #[] 9)) w2 := G2.below (by simp) (fun k hk => by
    have : k = w1.heap.size := by simpa [Value.ownBlock] using hk.symm
    omega)
  have hb3 := hbe.trans (hb2.mono hb1.size)
  replace hs2 := Lib.hid hs2
  go_wp2_with fail
  go_ret
  exact ⟨_, rfl, fun m => by rw [E.out]; exact Sl.of_ownS own2 hs2.out hb1.size m, hb3⟩

set_option maxRecDepth 100000 in
set_option maxHeartbeats 4000000 in
theorem spec_CallsIn (d : Nat) (op n : Int) (name : ByteArray) (kids : List Ex) (v3 : Value) (w : World) (lo B : Nat) (hB : B ≤ w.heap.size) (ho : I64 op) (hn64 : I64 n) (hnm : name.size ≤ maxLen) (h3 : Sl false (exS false d) w lo B kids v3) :
    Calls Tryd.prog 25 #[.agg #[.int .i64 op, .int .i64 n, .string name, v3]] w (ToSP (fun m => strS m) (nmV 13 (.mk op n name kids)) w) := by
  obtain ⟨A, p, hf, hl1, hl2⟩ := h3.form
  subst hf
  have hb0 : Below w.heap.size w (w.alloc (.cells #[.int .i64 op, .int .i64 n, .string name, .slice A kids.length p] 30)) := (Below.refl _ _).alloc (Nat.le_refl _) _
  have R0 : Row (w.alloc (.cells #[.int .i64 op, .int .i64 n, .string name, .slice A kids.length p] 30)) w.heap.size 30 #[.int .i64 op, .int .i64 n, .string name, .slice A kids.length p] := Row.new w _ _
  go_enter Tryd.func25, Tryd.ntmps25
  go_wp2_with fail
  refine (spec_ExprValid d op n name kids _ _ lo B (Nat.le_trans hB hb0.size) ho hn64 hnm (h3.below hb0 hB)).mono ?_
  rintro e w1 ⟨rfl, b1⟩
  have hb1 : Below w.heap.size w w1 := hb0.trans (b1.mono hb0.size)
  have R1 := R0.below b1 R0.lt
  have rl := R1.lt
  cases hf : valE (.mk op n name kids)
  case false =>
    have E : Hid (nmV 13 (.mk op n name kids) = []) := by show _ = _; unfold nmV; rw [hf]; rfl
    go_wp2_with fail
    go_ret
    exact ⟨_, rfl, fun m => by rw [E.out]; exact ⟨_, 0, rfl, by simp, by simp [maxLen], fun h => absurd rfl h⟩, hb1.alloc hb1.size _⟩
  have hp : formB 6 (.mk op n name kids) = true := by
    rw [valE_form, Bool.and_eq_true] at hf
    exact hf.1
  have hpl := valE_parts hf
  have E : Hid (nmV 13 (.mk op n name kids) = nmE 6 13 [] (.mk op n name kids)) := by show _ = _; unfold nmV; rw [if_pos hf]
  have y0 : (w1).cell? ⟨w.heap.size, 0, none⟩ = some (.int .i64 op) := R1.cell 0
  have y1 : (w1).cell? ⟨w.heap.size, 1, none⟩ = some (.int .i64 n) := R1.cell 1
  have y2 : (w1).cell? ⟨w.heap.size, 2, none⟩ = some (.string name) := R1.cell 2
  have y3 : (w1).cell? ⟨w.heap.size, 3, none⟩ = some (.slice A kids.length p) := R1.cell 3
  replace hp := Lib.hid hp
  have hbe : Below w.heap.size w (w1.alloc (.cells #[] 9)) := hb1.alloc hb1.size _
  go_wp2_with fail
  refine (spec_l2Names 6 d op n name kids (.slice A kids.length p) _ lo B 13 _ [] w1.heap.size (Nat.le_trans hB hb1.size) (by simp) ho hn64 hnm (h3.below hbe hB) hp.out (by simp; omega) (fun s hs => by cases hs) (own_emptyS w1 _ _ (Nat.le_refl _))).mono ?_
  rintro e w2 ⟨v', rfl, own2, hs2, G2⟩
  have hb2 : Below w1.heap.size (w1.alloc (.cells #[] 9)) w2 := G2.below (by simp) (fun k hk => by
    have : k = w1.heap.size := by simpa [Value.ownBlock] using hk.symm
    omega)
  have hb3 := hbe.trans (hb2.mono hb1.size)
  replace hs2 := Lib.hid hs2
  go_wp2_with fail
  go_ret
  exact ⟨_, rfl, fun m => by rw [E.out]; exact Sl.of_ownS own2 hs2.out hb1.size m, hb3⟩

set_option maxRecDepth 100000 in
set_option maxHeartbeats 4000000 in
theorem impl_namesOf (d : Nat) (op n : Int) (name : ByteArray) (kids : List Ex) (v3 : Value) (w : World) (lo B : Nat) (hB : B ≤ w.heap.size) (ho : I64 op) (hn64 : I64 n) (hnm : name.size ≤ maxLen) (h3 : Sl false (exS false d) w lo B kids v3) (tag : Int) (ht : Tabs w) :
    Calls Tryd.prog 52 #[.agg #[.int .i64 op, .int .i64 n, .string name, v3], .int .i64 tag] w (ToSP (fun m => strS m) (nmV tag (.mk op n name kids)) w) := by
  obtain ⟨A, p, hf, hl1, hl2⟩ := h3.form
  subst hf
  have hb0 : Below w.heap.size w (w.alloc (.cells #[.int .i64 op, .int .i64 n, .string name, .slice A kids.length p] 30)) := (Below.refl _ _).alloc (Nat.le_refl _) _
  have R0 : Row (w.alloc (.cells #[.int .i64 op, .int .i64 n, .string name, .slice A kids.length p] 30)) w.heap.size 30 #[.int .i64 op, .int .i64 n, .string name, .slice A kids.length p] := Row.new w _ _
  have hb3 : Below w.heap.size w (((w.alloc (.cells #[.int .i64 op, .int .i64 n, .string name, .slice A kids.length p] 30)).alloc (.cells #[.int .i64 tag] 3)).alloc (.cells #[.slice none 0 0] 36)) := (hb0.alloc hb0.size _).alloc (by simp; omega) _
  have R3 : Row (((w.alloc (.cells #[.int .i64 op, .int .i64 n, .string name, .slice A kids.length p] 30)).alloc (.cells #[.int .i64 tag] 3)).alloc (.cells #[.slice none 0 0] 36)) w.heap.size 30 #[.int .i64 op, .int .i64 n, .string name, .slice A kids.length p] := (R0.alloc _).alloc _
  have O3 : Row (((w.alloc (.cells #[.int .i64 op, .int .i64 n, .string name, .slice A kids.length p] 30)).alloc (.cells #[.int .i64 tag] 3)).alloc (.cells #[.slice none 0 0] 36)) (w.heap.size + 1) 3 #[.int .i64 tag] := by simpa using (Row.new (w.alloc (.cells #[.int .i64 op, .int .i64 n, .string name, .slice A kids.length p] 30)) 3 #[.int .i64 tag]).alloc (.cells #[.slice none 0 0] 36)
  have G3 : Row (((w.alloc (.cells #[.int .i64 op, .int .i64 n, .string name, .slice A kids.length p] 30)).alloc (.cells #[.int .i64 tag] 3)).alloc (.cells #[.slice none 0 0] 36)) (w.heap.size + 1 + 1) 36 #[.slice none 0 0] := by simpa using Row.new ((w.alloc (.cells #[.int .i64 op, .int .i64 n, .string name, .slice A kids.length p] 30)).alloc (.cells #[.int .i64 tag] 3)) 36 #[.slice none 0 0]
  have z3 : w.heap.size + 1 + 1 + 1 = (((w.alloc (.cells #[.int .i64 op, .int .i64 n, .string name, .slice A kids.length p] 30)).alloc (.cells #[.int .i64 tag] 3)).alloc (.cells #[.slice none 0 0] 36)).heap.size := by simp
  go_enter Tryd.func52, Tryd.ntmps52
  go_wp2_with fail
  refine (impl_ExprValid d op n name kids _ _ lo B (Nat.le_trans hB hb3.size) ho hn64 hnm (h3.below hb3 hB) (ht.below hb3 (Nat.le_refl _))).mono ?_
  rintro e w1 ⟨rfl, b1⟩
  have hb1 : Below w.heap.size w w1 := hb3.trans (b1.mono hb3.size)
  have R1 := R3.below b1 R3.lt
  have O1 := O3.below b1 O3.lt
  have G1 := G3.below b1 G3.lt
  have z1 : w.heap.size + 1 + 1 + 1 ≤ w1.heap.size := z3 ▸ b1.size
  clear z3
  cases hf : valE (.mk op n name kids)
  case false =>
    have E : Hid (nmV tag (.mk op n name kids) = []) := by show _ = _; unfold nmV; rw [hf]; rfl
    go_wp2_with fail
    go_ret
    exact ⟨_, rfl, fun m => by rw [E.out]; exact Sl.nil_ _ _ _ _ _, hb1⟩
  have hp : formB 6 (.mk op n name kids) = true := by
    rw [valE_form, Bool.and_eq_true] at hf
    exact hf.1
  have hpl := valE_parts hf
  have E : Hid (nmV tag (.mk op n name kids) = nmE 6 tag [] (.mk op n name kids)) := by show _ = _; unfold nmV; rw [if_pos hf]
  have y0 : (w1).cell? ⟨w.heap.size, 0, none⟩ = some (.int .i64 op) := R1.cell 0
  have y1 : (w1).cell? ⟨w.heap.size, 1, none⟩ = some (.int .i64 n) := R1.cell 1
  have y2 : (w1).cell? ⟨w.heap.size, 2, none⟩ = some (.string name) := R1.cell 2
  have y3 : (w1).cell? ⟨w.heap.size, 3, none⟩ = some (.slice A kids.length p) := R1.cell 3
  replace hp := Lib.hid hp
  go_wp2_with fail
  refine (impl_partsN 6 d op n name kids (.slice A kids.length p) _ lo B (w.heap.size + 1) (w.heap.size + 1 + 1) (w.heap.size + 1 + 1 + 1) tag (.slice none 0 0) [] (by omega) ho hn64 hnm (h3.below hb1 hB) hp.out (by omega) (by omega) (by omega) z1 G1 O1 (by simp; omega) (fun s hs => by cases hs) (own_nilS _ _ _)).mono ?_
  rintro e w2 ⟨rfl, v', G2, own2, hs2, B2⟩
  have hb2 : Below w.heap.size w1 w2 := B2.below (by omega) (by omega) (fun k hk => by cases hk)
  have y : w2.cell? ⟨w.heap.size + 1 + 1, 0, none⟩ = some v' := G2.cell 0
  replace hs2 := Lib.hid hs2
  go_wp2_with fail
  go_ret
  exact ⟨_, rfl, fun m => by rw [E.out]; exact Sl.of_ownS own2 hs2.out (by omega) m, hb1.trans hb2⟩

theorem impl_VarsOf (d : Nat) (op n : Int) (name : ByteArray) (kids : List Ex) (v3 : Value) (w : World) (lo B : Nat) (hB : B ≤ w.heap.size) (ho : I64 op) (hn64 : I64 n) (hnm : name.size ≤ maxLen) (h3 : Sl false (exS false d) w lo B kids v3) (ht : Tabs w) :
    Calls Tryd.prog 32 #[.agg #[.int .i64 op, .int .i64 n, .string name, v3]] w (ToSP (fun m => strS m) (nmV 2 (.mk op n name kids)) w) := by
  obtain ⟨A, p, hf, hl1, hl2⟩ := h3.form
  subst hf
  have hb0 : Below w.heap.size w (w.alloc (.cells #[.int .i64 op, .int .i64 n, .string name, .slice A kids.length p] 30)) := (Below.refl _ _).alloc (Nat.le_refl _) _
  have R0 : Row (w.alloc (.cells #[.int .i64 op, .int .i64 n, .string name, .slice A kids.length p] 30)) w.heap.size 30 #[.int .i64 op, .int .i64 n, .string name, .slice A kids.length p] := Row.new w _ _
  go_enter Tryd.func32, Tryd.ntmps32
  go_wp2_with fail
  refine (impl_namesOf d op n name kids _ _ lo B (Nat.le_trans hB hb0.size) ho hn64 hnm (h3.below hb0 hB) 2 (ht.below hb0 (Nat.le_refl _))).mono ?_
  rintro e w1 ⟨v', rfl, hv, b1⟩
  go_wp2_with fail
  go_ret
  exact ⟨_, rfl, fun m => (hv m).more hb0.size (Nat.le_refl _), hb0.trans (b1.mono hb0.size)⟩

theorem impl_CallsIn (d : Nat) (op n : Int) (name : ByteArray) (kids : List Ex) (v3 : Value) (w : World) (lo B : Nat) (hB : B ≤ w.heap.size) (ho : I64 op) (hn64 : I64 n) (hnm : name.size ≤ maxLen) (h3 : Sl false (exS false d) w lo B kids v3) (ht : Tabs w) :
    Calls Tryd.prog 26 #[.agg #[.int .i64 op, .int .i64 n, .string name, v3]] w (ToSP (fun m => strS m) (nmV 13 (.mk op n name kids)) w) := by
  obtain ⟨A, p, hf, hl1, hl2⟩ := h3.form
  subst hf
  have hb0 : Below w.heap.size w (w.alloc (.cells #[.int .i64 op, .int .i64 n, .string name, .slice A kids.length p] 30)) := (Below.refl _ _).alloc (Nat.le_refl _) _
  have R0 : Row (w.alloc (.cells #[.int .i64 op, .int .i64 n, .string name, .slice A kids.length p] 30)) w.heap.size 30 #[.int .i64 op, .int .i64 n, .string name, .slice A kids.length p] := Row.new w _ _
  go_enter Tryd.func26, Tryd.ntmps26
  go_wp2_with fail
  refine (impl_namesOf d op n name kids _ _ lo B (Nat.le_trans hB hb0.size) ho hn64 hnm (h3.below hb0 hB) 13 (ht.below hb0 (Nat.le_refl _))).mono ?_
  rintro e w1 ⟨v', rfl, hv, b1⟩
  go_wp2_with fail
  go_ret
  exact ⟨_, rfl, fun m => (hv m).more hb0.size (Nat.le_refl _), hb0.trans (b1.mono hb0.size)⟩

end Go.Proofs.YtnamciblapddbaaDoor

