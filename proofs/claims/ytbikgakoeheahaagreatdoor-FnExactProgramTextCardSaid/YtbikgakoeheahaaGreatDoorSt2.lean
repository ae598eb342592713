/-
  A statement is one, by the program. Conditions: the argument reads as data; the tables lie.
-/
import Derived.Test.YtbikgakoeheahaaGreatDoorStP
namespace Go.Proofs.YtbikgakoeheahaaGreatDoor
open Go.RowKit Go.ChangeShapes Go.WideShapes Go.Deep
set_option linter.unusedVariables false
set_option linter.unusedSimpArgs false
theorem impl_argCount1 (w : World) : Calls Tryz.prog 78 #[.int .i64 1] w (RetW (.tuple #[.int .i64 1, .bool true, .bool false, .bool false]) w) := by
  go_enter Tryz.func78, Tryz.ntmps78
  go_wp2_with fail
  refine bodyPost_ret (v := .tuple #[.int .i64 1, .bool true, .bool false, .bool false]) (by simp [results, Tryz.results78, go_sem]) rfl ?_
  exact ⟨rfl, rfl⟩
theorem impl_argCount2 (w : World) : Calls Tryz.prog 78 #[.int .i64 2] w (RetW (.tuple #[.int .i64 1, .bool true, .bool false, .bool false]) w) := by
  go_enter Tryz.func78, Tryz.ntmps78
  go_wp2_with fail
  refine bodyPost_ret (v := .tuple #[.int .i64 1, .bool true, .bool false, .bool false]) (by simp [results, Tryz.results78, go_sem]) rfl ?_
  exact ⟨rfl, rfl⟩
theorem impl_argCount3 (w : World) : Calls Tryz.prog 78 #[.int .i64 3] w (RetW (.tuple #[.int .i64 1, .bool false, .bool false, .bool false]) w) := by
  go_enter Tryz.func78, Tryz.ntmps78
  go_wp2_with fail
  refine bodyPost_ret (v := .tuple #[.int .i64 1, .bool false, .bool false, .bool false]) (by simp [results, Tryz.results78, go_sem]) rfl ?_
  exact ⟨rfl, rfl⟩
theorem impl_argCount4 (w : World) : Calls Tryz.prog 78 #[.int .i64 4] w (RetW (.tuple #[.int .i64 2, .bool false, .bool false, .bool false]) w) := by
  go_enter Tryz.func78, Tryz.ntmps78
  go_wp2_with fail
  refine bodyPost_ret (v := .tuple #[.int .i64 2, .bool false, .bool false, .bool false]) (by simp [results, Tryz.results78, go_sem]) rfl ?_
  exact ⟨rfl, rfl⟩
theorem impl_argCount5 (w : World) : Calls Tryz.prog 78 #[.int .i64 5] w (RetW (.tuple #[.int .i64 1, .bool false, .bool true, .bool true]) w) := by
  go_enter Tryz.func78, Tryz.ntmps78
  go_wp2_with fail
  refine bodyPost_ret (v := .tuple #[.int .i64 1, .bool false, .bool true, .bool true]) (by simp [results, Tryz.results78, go_sem]) rfl ?_
  exact ⟨rfl, rfl⟩
theorem impl_argCount6 (w : World) : Calls Tryz.prog 78 #[.int .i64 6] w (RetW (.tuple #[.int .i64 1, .bool false, .bool true, .bool false]) w) := by
  go_enter Tryz.func78, Tryz.ntmps78
  go_wp2_with fail
  refine bodyPost_ret (v := .tuple #[.int .i64 1, .bool false, .bool true, .bool false]) (by simp [results, Tryz.results78, go_sem]) rfl ?_
  exact ⟨rfl, rfl⟩
theorem impl_argCount7 (w : World) : Calls Tryz.prog 78 #[.int .i64 7] w (RetW (.tuple #[.int .i64 1, .bool false, .bool false, .bool false]) w) := by
  go_enter Tryz.func78, Tryz.ntmps78
  go_wp2_with fail
  refine bodyPost_ret (v := .tuple #[.int .i64 1, .bool false, .bool false, .bool false]) (by simp [results, Tryz.results78, go_sem]) rfl ?_
  exact ⟨rfl, rfl⟩
theorem impl_argCount8 (w : World) : Calls Tryz.prog 78 #[.int .i64 8] w (RetW (.tuple #[.int .i64 1, .bool false, .bool false, .bool false]) w) := by
  go_enter Tryz.func78, Tryz.ntmps78
  go_wp2_with fail
  refine bodyPost_ret (v := .tuple #[.int .i64 1, .bool false, .bool false, .bool false]) (by simp [results, Tryz.results78, go_sem]) rfl ?_
  exact ⟨rfl, rfl⟩
theorem impl_argCount_out (op : Int) (h : op < 1 ∨ 8 < op) (w : World) : Calls Tryz.prog 78 #[.int .i64 op] w (RetW (.tuple #[.int .i64 (-1), .bool false, .bool false, .bool false]) w) := by
  have q1 : (op == 1) = false := by simp; omega
  have q2 : (op == 2) = false := by simp; omega
  have q3 : (op == 3) = false := by simp; omega
  have q4 : (op == 4) = false := by simp; omega
  have q5 : (op == 5) = false := by simp; omega
  have q6 : (op == 6) = false := by simp; omega
  have q7 : (op == 7) = false := by simp; omega
  have q8 : (op == 8) = false := by simp; omega
  go_enter Tryz.func78, Tryz.ntmps78
  go_wp2_with fail
  refine bodyPost_ret (v := .tuple #[.int .i64 (-1), .bool false, .bool false, .bool false]) (by simp [results, Tryz.results78, go_sem]) rfl ?_
  exact ⟨rfl, rfl⟩
theorem impl_argCount_any (op : Int) (w : World) : Calls Tryz.prog 78 #[.int .i64 op] w (fun e w' => w' = w ∧ ∃ (a : Int) (b c d : Bool), e = .returned (.tuple #[.int .i64 a, .bool b, .bool c, .bool d])) := by
  by_cases h : op < 1 ∨ 8 < op
  · refine (impl_argCount_out op h w).mono ?_
    rintro e w' ⟨rfl, rfl⟩
    exact ⟨rfl, _, _, _, _, rfl⟩
  · have h8 : op = 1 ∨ op = 2 ∨ op = 3 ∨ op = 4 ∨ op = 5 ∨ op = 6 ∨ op = 7 ∨ op = 8 := by omega
    rcases h8 with rfl | rfl | rfl | rfl | rfl | rfl | rfl | rfl
    · refine (impl_argCount1 w).mono ?_
      rintro e w' ⟨rfl, rfl⟩
      exact ⟨rfl, _, _, _, _, rfl⟩
    · refine (impl_argCount2 w).mono ?_
      rintro e w' ⟨rfl, rfl⟩
      exact ⟨rfl, _, _, _, _, rfl⟩
    · refine (impl_argCount3 w).mono ?_
      rintro e w' ⟨rfl, rfl⟩
      exact ⟨rfl, _, _, _, _, rfl⟩
    · refine (impl_argCount4 w).mono ?_
      rintro e w' ⟨rfl, rfl⟩
      exact ⟨rfl, _, _, _, _, rfl⟩
    · refine (impl_argCount5 w).mono ?_
      rintro e w' ⟨rfl, rfl⟩
      exact ⟨rfl, _, _, _, _, rfl⟩
    · refine (impl_argCount6 w).mono ?_
      rintro e w' ⟨rfl, rfl⟩
      exact ⟨rfl, _, _, _, _, rfl⟩
    · refine (impl_argCount7 w).mono ?_
      rintro e w' ⟨rfl, rfl⟩
      exact ⟨rfl, _, _, _, _, rfl⟩
    · refine (impl_argCount8 w).mono ?_
      rintro e w' ⟨rfl, rfl⟩
      exact ⟨rfl, _, _, _, _, rfl⟩
def OkAt (m : Nat) : Prop := ∀ (d : Nat) (op : Int) (name : ByteArray) (args : List Ex) (v2 : Value) (body : List St) (v3 : Value) (els : List St) (v4 : Value) (x : Int) (w : World) (lo B : Nat) (_ : B ≤ w.heap.size) (_ : I64 op) (_ : name.size ≤ maxLen) (_ : Sl false (exS false d) w lo B args v2) (_ : Sl false (stS false d) w lo B body v3) (_ : Sl false (stS false d) w lo B els v4) (_ : x + m = 5) (_ : Tabs w),
  Calls Tryz.prog 56 #[.agg #[.int .i64 op, .string name, v2, v3, v4], .int .i64 x] w (RetV (.bool (stB m (.mk op name args body els))) w)
def BkAt (m : Nat) : Prop := ∀ (d : Nat) (l : List St) (v : Value) (x : Int) (w : World) (lo B : Nat) (_ : B ≤ w.heap.size) (_ : Sl false (stS false d) w lo B l v) (_ : x + m = 5) (_ : Tabs w), Calls Tryz.prog 33 #[v, .int .i64 x] w (RetV (.bool (l.all (stB m))) w)
set_option maxRecDepth 100000 in
theorem clo_of (m : Nat) (ih : OkAt m) (d : Nat) (op : Int) (name : ByteArray) (args : List Ex) (v2 : Value) (body : List St) (v3 : Value) (els : List St) (v4 : Value) (x : Int) (g : Nat) (w : World) (lo B : Nat) (hB : B ≤ w.heap.size) (ho : I64 op) (hnm : name.size ≤ maxLen) (h2 : Sl false (exS false d) w lo B args v2) (h3 : Sl false (stS false d) w lo B body v3) (h4 : Sl false (stS false d) w lo B els v4) (hx : x + m = 5) (ht : Tabs w) (hg : w.cell? ⟨g, 0, none⟩ = some (.int .i64 x)) :
    Calls Tryz.prog 55 #[.agg #[.int .i64 op, .string name, v2, v3, v4], .pointer (some ⟨g, 0, none⟩)] w (RetV (.bool (!stB m (.mk op name args body els))) w) := by
  obtain ⟨A2, p2, hf, _, _⟩ := h2.form
  subst hf
  obtain ⟨A3, p3, hf, _, _⟩ := h3.form
  subst hf
  obtain ⟨A4, p4, hf, _, _⟩ := h4.form
  subst hf
  have hgl := World.block_lt_of_cell? w _ hg
  have hb0 : Below w.heap.size w (w.alloc (.cells #[.int .i64 op, .string name, .slice A2 args.length p2, .slice A3 body.length p3, .slice A4 els.length p4] 76)) := (Below.refl _ _).alloc (Nat.le_refl _) _
  have hg' : (w.alloc (.cells #[.int .i64 op, .string name, .slice A2 args.length p2, .slice A3 body.length p3, .slice A4 els.length p4] 76)).cell? ⟨g, 0, none⟩ = some (.int .i64 x) := (hb0.cell hgl).trans hg
  go_enter Tryz.func55, Tryz.ntmps55
  go_wp2_with fail
  refine (ih d op name args _ body _ els _ x _ lo B (Nat.le_trans hB hb0.size) ho hnm (h2.below hb0 hB) (h3.below hb0 hB) (h4.below hb0 hB) hx (ht.below hb0 (Nat.le_refl _))).mono ?_
  rintro e w1 ⟨rfl, b1⟩
  have hb1 : Below w.heap.size w w1 := hb0.trans (b1.mono hb0.size)
  go_wp2_with fail
  go_ret
  exact RetV.mk rfl rfl hb1
def IdxP (b : Bool) (w : World) (e : Ending) (w' : World) : Prop := ∃ r : Int, e = .returned (.int .i64 r) ∧ decide (0 ≤ r) = b ∧ Below w.heap.size w w'
set_option maxRecDepth 100000 in
set_option maxHeartbeats 4000000 in
theorem idx_of (m : Nat) (ih : OkAt m) (d : Nat) (l : List St) (v : Value) (x : Int) (g : Nat) (w : World) (lo B : Nat) (hB : B ≤ w.heap.size) (hv : Sl false (stS false d) w lo B l v) (hx : x + m = 5) (ht : Tabs w) (hg : w.cell? ⟨g, 0, none⟩ = some (.int .i64 x)) :
    Calls Tryz.prog 77 #[v, .func (.func 55) #[] #[.pointer (some ⟨g, 0, none⟩)]] w (IdxP (!l.all (stB m)) w) := by
  obtain ⟨A, p, hf, hl1, hl2⟩ := hv.form
  subst hf
  have hgl := World.block_lt_of_cell? w _ hg
  have HG := Lib.hid hg
  have HT := Lib.hid ht
  clear hg ht
  go_enter Tryz.func77, Tryz.ntmps77
  go_wp2_with fail
  go_loopw [8] (fun i wr => ∃ k : Nat, k ≤ l.length ∧ i = .int .i64 k ∧ Hid (l.all (stB m) = (l.drop k).all (stB m)) ∧ Below w.heap.size w wr) (fun i _ => l.length - (intOf i).toNat)
  case atStart => exact ⟨0, by omega, rfl, (show _ = _ from rfl), Below.refl _ _⟩
  case round =>
    obtain ⟨k, hk, rfl, HA, hb⟩ := hrel
    have hsz := hb.size
    by_cases hkl : k < l.length
    · obtain ⟨d', rfl⟩ := stS_pos hv (by omega)
      obtain ⟨b, o, op, name, args, v2, body, v3, els, v4, rfl, _, hbB, HL, g0, g1, g2, g3, g4, c0, c1, c2, c3, c4⟩ := st_get d' (hv.below hb hB) hkl
      obtain ⟨A2, p2, hf, _, _⟩ := g2.form
      change _ = Value.slice A2 args.length p2 at hf
      subst hf
      obtain ⟨A3, p3, hf, _, _⟩ := g3.form
      change _ = Value.slice A3 body.length p3 at hf
      subst hf
      obtain ⟨A4, p4, hf, _, _⟩ := g4.form
      change _ = Value.slice A4 els.length p4 at hf
      subst hf
      have hkn : (k : Int) < (l.length : Int) := by omega
      have hki : (0 : Int) ≤ (k : Int) := by omega
      go_wp2_with fail
      refine (clo_of m ih d' op name args _ body _ els _ x g _ lo B (Nat.le_trans hB hsz) g0 g1 g2 g3 g4 hx (HT.out.below hb (Nat.le_refl _)) ((hb.cell hgl).trans HG.out)).mono ?_
      rintro e w3 ⟨rfl, x3⟩
      have hb3 : Below w.heap.size w w3 := hb.trans (x3.mono hsz)
      cases he : stB m (.mk op name args body els)
      case true =>
        have E3 : Hid (l.all (stB m) = (l.drop (k + 1)).all (stB m)) := by
          have h1 := HA.out
          rw [drop_cons hkl HL.out, List.all_cons, he, Bool.true_and] at h1
          exact h1
        clear HA
        go_wp2_with fail
        go_roundw
        case rel => exact ⟨k + 1, by omega, by go_num, E3, hb3⟩
        case measure => simp [intOf]; omega
      case false =>
        have E : Hid ((!l.all (stB m)) = true) := by
          have h1 := HA.out
          rw [drop_cons hkl HL.out, List.all_cons, he, Bool.false_and] at h1
          show _ = _
          rw [h1]
          rfl
        clear HA
        go_wp2_with fail
        go_ret
        exact ⟨_, rfl, by rw [E.out]; exact decide_eq_true (by omega), hb3⟩
    · have E : Hid ((!l.all (stB m)) = false) := by
        have h1 := HA.out
        rw [List.drop_eq_nil_of_le (by omega)] at h1
        show _ = _
        rw [h1]
        rfl
      clear HA
      go_wp2_with fail
      go_ret
      exact ⟨_, rfl, by rw [E.out]; rfl, hb⟩
set_option maxRecDepth 100000 in
theorem cf_of (m : Nat) (ih : OkAt m) (d : Nat) (l : List St) (v : Value) (x : Int) (g : Nat) (w : World) (lo B : Nat) (hB : B ≤ w.heap.size) (hv : Sl false (stS false d) w lo B l v) (hx : x + m = 5) (ht : Tabs w) (hg : w.cell? ⟨g, 0, none⟩ = some (.int .i64 x)) :
    Calls Tryz.prog 54 #[v, .func (.func 55) #[] #[.pointer (some ⟨g, 0, none⟩)]] w (RetV (.bool (!l.all (stB m))) w) := by
  obtain ⟨A, p, hf, hl1, hl2⟩ := hv.form
  subst hf
  go_enter Tryz.func54, Tryz.ntmps54
  go_wp2_with fail
  refine (idx_of m ih d l _ x g _ lo B hB hv hx ht hg).mono ?_
  rintro e w1 ⟨r, rfl, hr, b1⟩
  go_wp2_with fail
  go_ret
  exact RetV.mk (by first | rfl | (rw [hr] <;> rfl)) rfl b1
set_option maxRecDepth 100000 in
theorem blk_of (m : Nat) (ih : OkAt m) : BkAt m := by
  intro d l v x w lo B hB hv hx ht
  obtain ⟨A, p, hf, hl1, hl2⟩ := hv.form
  subst hf
  have hb0 : Below w.heap.size w (w.alloc (.cells #[.int .i64 x] 3)) := (Below.refl _ _).alloc (Nat.le_refl _) _
  have R0 : Row (w.alloc (.cells #[.int .i64 x] 3)) w.heap.size 3 #[.int .i64 x] := Row.new w _ _
  go_enter Tryz.func33, Tryz.ntmps33
  go_wp2_with fail
  refine (cf_of m ih d l _ x w.heap.size _ lo B (Nat.le_trans hB hb0.size) (hv.below hb0 hB) hx (ht.below hb0 (Nat.le_refl _)) (R0.cell 0)).mono ?_
  rintro e w1 ⟨rfl, b1⟩
  have hb1 : Below w.heap.size w w1 := hb0.trans (b1.mono hb0.size)
  have hnn : (!(!l.all (stB m))) = l.all (stB m) := Bool.not_not _
  go_wp2_with fail
  go_ret
  exact RetV.mk (by first | rfl | (rw [hnn] <;> rfl)) rfl hb1
set_option maxRecDepth 100000 in
set_option maxHeartbeats 4000000 in
theorem ok_zero : OkAt 0 := by
  intro d op name args v2 body v3 els v4 x w lo B hB ho hnm h2 h3 h4 hx ht
  obtain ⟨A2, p2, hf, _, _⟩ := h2.form
  subst hf
  obtain ⟨A3, p3, hf, _, _⟩ := h3.form
  subst hf
  obtain ⟨A4, p4, hf, _, _⟩ := h4.form
  subst hf
  obtain rfl : x = 5 := by omega
  have hb0 : Below w.heap.size w (w.alloc (.cells #[.int .i64 op, .string name, .slice A2 args.length p2, .slice A3 body.length p3, .slice A4 els.length p4] 76)) := (Below.refl _ _).alloc (Nat.le_refl _) _
  have E : Hid (stB 0 (.mk op name args body els) = false) := rfl
  go_enter Tryz.func56, Tryz.ntmps56
  go_wp2_with fail
  refine (impl_argCount_any op _).mono ?_
  rintro e w' ⟨rfl, a, b, c, d, rfl⟩
  go_wp2_with fail
  go_ret
  exact RetV.mk (by rw [E.out] <;> rfl) rfl hb0
set_option maxRecDepth 100000 in
set_option maxHeartbeats 16000000 in
theorem ok_step (m : Nat) (hm : m ≤ 4) (ih : BkAt m) : OkAt (m + 1) := by
  intro d op name args v2 body v3 els v4 x w lo B hB ho hnm h2 h3 h4 hx ht
  obtain ⟨A2, p2, hf, _, _⟩ := h2.form
  subst hf
  obtain ⟨A3, p3, hf, _, _⟩ := h3.form
  subst hf
  obtain ⟨A4, p4, hf, _, _⟩ := h4.form
  subst hf
  have hx4 : x + (m : Int) = 4 := by omega
  clear hx
  have qx : decide ((4 : Int) < x) = false := decide_eq_false (by omega)
  have hnm' : name.size ≤ 9223372036854775807 := by unfold maxLen at hnm; omega
  by_cases hop : 1 ≤ op ∧ op ≤ 8
  case neg =>
    have hb0 : Below w.heap.size w (w.alloc (.cells #[.int .i64 op, .string name, .slice A2 args.length p2, .slice A3 body.length p3, .slice A4 els.length p4] 76)) := (Below.refl _ _).alloc (Nat.le_refl _) _
    have q0 : ((args.length : Int) != (-1)) = true := by first | (simp; done) | (simp; omega)
    go_enter Tryz.func56, Tryz.ntmps56
    go_wp2_with fail
    refine (impl_argCount_out op (by omega) _).mono ?_
    rintro e w' ⟨rfl, rfl⟩
    have E : Hid (stB (m + 1) (.mk op name args body els) = false) := st_no (hd_out (by omega)) _
    go_wp2_with fail
    go_ret
    exact RetV.mk (by rw [E.out] <;> rfl) rfl hb0
  have h8 : op = 1 ∨ op = 2 ∨ op = 3 ∨ op = 4 ∨ op = 5 ∨ op = 6 ∨ op = 7 ∨ op = 8 := by omega
  clear hop
  rcases h8 with rfl | rfl | rfl | rfl | rfl | rfl | rfl | rfl
  · have hb0 : Below w.heap.size w (w.alloc (.cells #[.int .i64 1, .string name, .slice A2 args.length p2, .slice A3 body.length p3, .slice A4 els.length p4] 76)) := (Below.refl _ _).alloc (Nat.le_refl _) _
    have R0 : Row (w.alloc (.cells #[.int .i64 1, .string name, .slice A2 args.length p2, .slice A3 body.length p3, .slice A4 els.length p4] 76)) w.heap.size 76 #[.int .i64 1, .string name, .slice A2 args.length p2, .slice A3 body.length p3, .slice A4 els.length p4] := Row.new w _ _
    go_enter Tryz.func56, Tryz.ntmps56
    go_wp2_with fail
    refine (impl_argCount1 _).mono ?_
    rintro e w' ⟨rfl, rfl⟩
    by_cases hkl : args.length = 1
    case neg =>
      have q0 : ((args.length : Int) != 1) = true := by simp; omega
      have E : Hid (stB (m + 1) (.mk 1 name args body els) = false) := st_no (hd_len (by rw [show stK 1 = 1 from rfl]; exact hkl)) _
      go_wp2_with fail
      go_ret
      exact RetV.mk (by rw [E.out] <;> rfl) rfl hb0
    have q0 : ((args.length : Int) != 1) = false := by simp; omega
    have HKL := Lib.hid hkl
    clear hkl
    go_wp2_with fail
    refine (impl_IsName name _ hnm (ht.below hb0 (Nat.le_refl _)).1).mono ?_
    rintro e w1 ⟨rfl, b1⟩
    have hb1 : Below w.heap.size w w1 := hb0.trans (b1.mono hb0.size)
    have R1 := R0.below b1 R0.lt
    have y0 : w1.cell? ⟨w.heap.size, 0, none⟩ = some (.int .i64 1) := R1.cell 0
    have y1 : w1.cell? ⟨w.heap.size, 1, none⟩ = some (.string name) := R1.cell 1
    have y2 : w1.cell? ⟨w.heap.size, 2, none⟩ = some (.slice A2 args.length p2) := R1.cell 2
    have y3 : w1.cell? ⟨w.heap.size, 3, none⟩ = some (.slice A3 body.length p3) := R1.cell 3
    have y4 : w1.cell? ⟨w.heap.size, 4, none⟩ = some (.slice A4 els.length p4) := R1.cell 4
    cases hi : isName name
    case false =>
      have E : Hid (stB (m + 1) (.mk 1 name args body els) = false) := st_no (hd_name (by unfold nmB; rw [if_pos (by omega), hi])) _
      go_wp2_with fail
      go_ret
      exact RetV.mk (by rw [E.out] <;> rfl) rfl hb1
    have HN : Hid (nmB 1 name = true) := by show _ = _; unfold nmB; rw [if_pos (by omega), hi]
    by_cases hb0' : 0 < body.length
    case pos =>
      have qb : (0 : Int) < (body.length : Int) := by omega
      have E : Hid (stB (m + 1) (.mk 1 name args body els) = false) := st_no (hd_body hb0' (by omega) (by omega)) _
      go_wp2_with fail
      go_ret
      exact RetV.mk (by rw [E.out] <;> rfl) rfl hb1
    have qb : decide ((0 : Int) < (body.length : Int)) = false := decide_eq_false (by omega)
    by_cases he0 : 0 < els.length
    case pos =>
      have qe : (0 : Int) < (els.length : Int) := by omega
      have E : Hid (stB (m + 1) (.mk 1 name args body els) = false) := st_no (hd_els he0 (by omega)) _
      go_wp2_with fail
      go_ret
      exact RetV.mk (by rw [E.out] <;> rfl) rfl hb1
    have qe : decide ((0 : Int) < (els.length : Int)) = false := decide_eq_false (by omega)
    have HD : Hid (args.all (fun e => decide ((1 : Int) = 8 → e.op = 13)) = true) := by show _ = _; rw [List.all_eq_true]; intro x _; exact decide_eq_true (by intro h; omega)
    go_wp2_with fail
    go_loopw [71] (fun i wr => ∃ k : Nat, k ≤ args.length ∧ i = .int .i64 k ∧ Hid (args.all valE = (args.drop k).all valE) ∧ Row wr w.heap.size 76 #[.int .i64 1, .string name, .slice A2 args.length p2, .slice A3 body.length p3, .slice A4 els.length p4] ∧ Below w.heap.size w wr) (fun i _ => args.length - (intOf i).toNat)
    case atStart => exact ⟨0, by omega, rfl, (show _ = _ from rfl), R1, hb1⟩
    case round =>
      clear y0 y1 y2 y3 y4
      obtain ⟨k, hk, rfl, HA, R, hb⟩ := hrel
      have hsz := hb.size
      have y0 : wr.cell? ⟨w.heap.size, 0, none⟩ = some (.int .i64 1) := R.cell 0
      have y1 : wr.cell? ⟨w.heap.size, 1, none⟩ = some (.string name) := R.cell 1
      have y2 : wr.cell? ⟨w.heap.size, 2, none⟩ = some (.slice A2 args.length p2) := R.cell 2
      have y3 : wr.cell? ⟨w.heap.size, 3, none⟩ = some (.slice A3 body.length p3) := R.cell 3
      have y4 : wr.cell? ⟨w.heap.size, 4, none⟩ = some (.slice A4 els.length p4) := R.cell 4
      by_cases hkl' : k < args.length
      · obtain ⟨d', rfl⟩ := exS_pos h2 (by omega)
        obtain ⟨b2, o2, op2, n2, name2, kids2, v2', hA, _, hbB2, HL2, g0_, g1_, g2_, g3_, e0, e1, e2, e3⟩ := ex_get d' (h2.below hb hB) hkl'
        subst hA
        obtain ⟨A', p', hf', _, _⟩ := g3_.form
        change _ = Value.slice A' kids2.length p' at hf'
        subst hf'
        have hkn : (k : Int) < (args.length : Int) := by omega
        have hki : (0 : Int) ≤ (k : Int) := by omega
        go_wp2_with fail
        have xk := (Below.refl _ wr).alloc (Nat.le_refl _) (.cells #[.int .i64 op2, .int .i64 n2, .string name2, .slice A' kids2.length p'] 90)
        have hbk : Below w.heap.size w _ := hb.trans (xk.mono hsz)
        refine (impl_ExprValid d' op2 n2 name2 kids2 (.slice A' kids2.length p') _ lo B (Nat.le_trans hB hbk.size) g0_ g1_ g2_ (g3_.below xk (Nat.le_trans hB hsz)) (ht.below hbk (Nat.le_refl _))).mono ?_
        rintro e w3 ⟨rfl, x3⟩
        have hb3 : Below w.heap.size w w3 := hbk.trans (x3.mono hbk.size)
        cases he : valE (.mk op2 n2 name2 kids2)
        case true =>
          have E3 : Hid (args.all valE = (args.drop (k + 1)).all valE) := by
            have h1 := HA.out
            rw [drop_cons hkl' HL2.out, List.all_cons, he, Bool.true_and] at h1
            exact h1
          clear HA
          go_wp2_with fail
          go_roundw
          case rel => exact ⟨k + 1, by omega, by go_num, E3, (R.below xk R.lt).below x3 (Nat.lt_of_lt_of_le R.lt xk.size), hb3⟩
          case measure => simp [intOf]; omega
        case false =>
          have E : Hid (stB (m + 1) (.mk 1 name args body els) = false) := st_no (hd_args (by have h1 := HA.out; rw [drop_cons hkl' HL2.out, List.all_cons, he, Bool.false_and] at h1; exact h1)) _
          clear HA
          go_wp2_with fail
          go_ret
          exact RetV.mk (by rw [E.out] <;> rfl) rfl hb3
      · have HV : Hid (args.all valE = true) := by
          have h1 := HA.out
          rw [List.drop_eq_nil_of_le (by omega)] at h1
          exact h1
        clear HA
        have HH : Hid (hdB 1 name args body.length els.length = true) := hd_yes (by omega) HKL.out HN.out HV.out (by first | exact HD.out | (have h := HD.out; simpa using h)) (by omega) (by omega)
        go_wp2_with fail
        refine (ih d body _ _ _ lo B (Nat.le_trans hB hb.size) (h3.below hb hB) (by first | omega | go_num) (ht.below hb (Nat.le_refl _))).mono ?_
        rintro e w4 ⟨rfl, x4⟩
        have hb4 : Below w.heap.size w w4 := hb.trans (x4.mono hb.size)
        have R4 := R.below x4 R.lt
        have z0 : w4.cell? ⟨w.heap.size, 0, none⟩ = some (.int .i64 1) := R4.cell 0
        have z1 : w4.cell? ⟨w.heap.size, 1, none⟩ = some (.string name) := R4.cell 1
        have z2 : w4.cell? ⟨w.heap.size, 2, none⟩ = some (.slice A2 args.length p2) := R4.cell 2
        have z3 : w4.cell? ⟨w.heap.size, 3, none⟩ = some (.slice A3 body.length p3) := R4.cell 3
        have z4 : w4.cell? ⟨w.heap.size, 4, none⟩ = some (.slice A4 els.length p4) := R4.cell 4
        cases hB1 : body.all (stB m)
        case false =>
          have E : Hid (stB (m + 1) (.mk 1 name args body els) = false) := by show _ = _; rw [stB, HH.out, hB1]; rfl
          go_wp2_with fail
          go_ret
          exact RetV.mk (by rw [E.out] <;> rfl) rfl hb4
        go_wp2_with fail
        refine (ih d els _ _ _ lo B (Nat.le_trans hB hb4.size) (h4.below hb4 hB) (by first | omega | go_num) (ht.below hb4 (Nat.le_refl _))).mono ?_
        rintro e w5 ⟨rfl, x5⟩
        have hb5 : Below w.heap.size w w5 := hb4.trans (x5.mono hb4.size)
        have E : Hid (stB (m + 1) (.mk 1 name args body els) = els.all (stB m)) := by show _ = _; rw [stB, HH.out, hB1, Bool.true_and, Bool.true_and]
        go_wp2_with fail
        go_ret
        exact RetV.mk (by rw [E.out] <;> rfl) rfl hb5
  · have hb0 : Below w.heap.size w (w.alloc (.cells #[.int .i64 2, .string name, .slice A2 args.length p2, .slice A3 body.length p3, .slice A4 els.length p4] 76)) := (Below.refl _ _).alloc (Nat.le_refl _) _
    have R0 : Row (w.alloc (.cells #[.int .i64 2, .string name, .slice A2 args.length p2, .slice A3 body.length p3, .slice A4 els.length p4] 76)) w.heap.size 76 #[.int .i64 2, .string name, .slice A2 args.length p2, .slice A3 body.length p3, .slice A4 els.length p4] := Row.new w _ _
    go_enter Tryz.func56, Tryz.ntmps56
    go_wp2_with fail
    refine (impl_argCount2 _).mono ?_
    rintro e w' ⟨rfl, rfl⟩
    by_cases hkl : args.length = 1
    case neg =>
      have q0 : ((args.length : Int) != 1) = true := by simp; omega
      have E : Hid (stB (m + 1) (.mk 2 name args body els) = false) := st_no (hd_len (by rw [show stK 2 = 1 from rfl]; exact hkl)) _
      go_wp2_with fail
      go_ret
      exact RetV.mk (by rw [E.out] <;> rfl) rfl hb0
    have q0 : ((args.length : Int) != 1) = false := by simp; omega
    have HKL := Lib.hid hkl
    clear hkl
    go_wp2_with fail
    refine (impl_IsName name _ hnm (ht.below hb0 (Nat.le_refl _)).1).mono ?_
    rintro e w1 ⟨rfl, b1⟩
    have hb1 : Below w.heap.size w w1 := hb0.trans (b1.mono hb0.size)
    have R1 := R0.below b1 R0.lt
    have y0 : w1.cell? ⟨w.heap.size, 0, none⟩ = some (.int .i64 2) := R1.cell 0
    have y1 : w1.cell? ⟨w.heap.size, 1, none⟩ = some (.string name) := R1.cell 1
    have y2 : w1.cell? ⟨w.heap.size, 2, none⟩ = some (.slice A2 args.length p2) := R1.cell 2
    have y3 : w1.cell? ⟨w.heap.size, 3, none⟩ = some (.slice A3 body.length p3) := R1.cell 3
    have y4 : w1.cell? ⟨w.heap.size, 4, none⟩ = some (.slice A4 els.length p4) := R1.cell 4
    cases hi : isName name
    case false =>
      have E : Hid (stB (m + 1) (.mk 2 name args body els) = false) := st_no (hd_name (by unfold nmB; rw [if_pos (by omega), hi])) _
      go_wp2_with fail
      go_ret
      exact RetV.mk (by rw [E.out] <;> rfl) rfl hb1
    have HN : Hid (nmB 2 name = true) := by show _ = _; unfold nmB; rw [if_pos (by omega), hi]
    by_cases hb0' : 0 < body.length
    case pos =>
      have qb : (0 : Int) < (body.length : Int) := by omega
      have E : Hid (stB (m + 1) (.mk 2 name args body els) = false) := st_no (hd_body hb0' (by omega) (by omega)) _
      go_wp2_with fail
      go_ret
      exact RetV.mk (by rw [E.out] <;> rfl) rfl hb1
    have qb : decide ((0 : Int) < (body.length : Int)) = false := decide_eq_false (by omega)
    by_cases he0 : 0 < els.length
    case pos =>
      have qe : (0 : Int) < (els.length : Int) := by omega
      have E : Hid (stB (m + 1) (.mk 2 name args body els) = false) := st_no (hd_els he0 (by omega)) _
      go_wp2_with fail
      go_ret
      exact RetV.mk (by rw [E.out] <;> rfl) rfl hb1
    have qe : decide ((0 : Int) < (els.length : Int)) = false := decide_eq_false (by omega)
    have HD : Hid (args.all (fun e => decide ((2 : Int) = 8 → e.op = 13)) = true) := by show _ = _; rw [List.all_eq_true]; intro x _; exact decide_eq_true (by intro h; omega)
    go_wp2_with fail
    go_loopw [71] (fun i wr => ∃ k : Nat, k ≤ args.length ∧ i = .int .i64 k ∧ Hid (args.all valE = (args.drop k).all valE) ∧ Row wr w.heap.size 76 #[.int .i64 2, .string name, .slice A2 args.length p2, .slice A3 body.length p3, .slice A4 els.length p4] ∧ Below w.heap.size w wr) (fun i _ => args.length - (intOf i).toNat)
    case atStart => exact ⟨0, by omega, rfl, (show _ = _ from rfl), R1, hb1⟩
    case round =>
      clear y0 y1 y2 y3 y4
      obtain ⟨k, hk, rfl, HA, R, hb⟩ := hrel
      have hsz := hb.size
      have y0 : wr.cell? ⟨w.heap.size, 0, none⟩ = some (.int .i64 2) := R.cell 0
      have y1 : wr.cell? ⟨w.heap.size, 1, none⟩ = some (.string name) := R.cell 1
      have y2 : wr.cell? ⟨w.heap.size, 2, none⟩ = some (.slice A2 args.length p2) := R.cell 2
      have y3 : wr.cell? ⟨w.heap.size, 3, none⟩ = some (.slice A3 body.length p3) := R.cell 3
      have y4 : wr.cell? ⟨w.heap.size, 4, none⟩ = some (.slice A4 els.length p4) := R.cell 4
      by_cases hkl' : k < args.length
      · obtain ⟨d', rfl⟩ := exS_pos h2 (by omega)
        obtain ⟨b2, o2, op2, n2, name2, kids2, v2', hA, _, hbB2, HL2, g0_, g1_, g2_, g3_, e0, e1, e2, e3⟩ := ex_get d' (h2.below hb hB) hkl'
        subst hA
        obtain ⟨A', p', hf', _, _⟩ := g3_.form
        change _ = Value.slice A' kids2.length p' at hf'
        subst hf'
        have hkn : (k : Int) < (args.length : Int) := by omega
        have hki : (0 : Int) ≤ (k : Int) := by omega
        go_wp2_with fail
        have xk := (Below.refl _ wr).alloc (Nat.le_refl _) (.cells #[.int .i64 op2, .int .i64 n2, .string name2, .slice A' kids2.length p'] 90)
        have hbk : Below w.heap.size w _ := hb.trans (xk.mono hsz)
        refine (impl_ExprValid d' op2 n2 name2 kids2 (.slice A' kids2.length p') _ lo B (Nat.le_trans hB hbk.size) g0_ g1_ g2_ (g3_.below xk (Nat.le_trans hB hsz)) (ht.below hbk (Nat.le_refl _))).mono ?_
        rintro e w3 ⟨rfl, x3⟩
        have hb3 : Below w.heap.size w w3 := hbk.trans (x3.mono hbk.size)
        cases he : valE (.mk op2 n2 name2 kids2)
        case true =>
          have E3 : Hid (args.all valE = (args.drop (k + 1)).all valE) := by
            have h1 := HA.out
            rw [drop_cons hkl' HL2.out, List.all_cons, he, Bool.true_and] at h1
            exact h1
          clear HA
          go_wp2_with fail
          go_roundw
          case rel => exact ⟨k + 1, by omega, by go_num, E3, (R.below xk R.lt).below x3 (Nat.lt_of_lt_of_le R.lt xk.size), hb3⟩
          case measure => simp [intOf]; omega
        case false =>
          have E : Hid (stB (m + 1) (.mk 2 name args body els) = false) := st_no (hd_args (by have h1 := HA.out; rw [drop_cons hkl' HL2.out, List.all_cons, he, Bool.false_and] at h1; exact h1)) _
          clear HA
          go_wp2_with fail
          go_ret
          exact RetV.mk (by rw [E.out] <;> rfl) rfl hb3
      · have HV : Hid (args.all valE = true) := by
          have h1 := HA.out
          rw [List.drop_eq_nil_of_le (by omega)] at h1
          exact h1
        clear HA
        have HH : Hid (hdB 2 name args body.length els.length = true) := hd_yes (by omega) HKL.out HN.out HV.out (by first | exact HD.out | (have h := HD.out; simpa using h)) (by omega) (by omega)
        go_wp2_with fail
        refine (ih d body _ _ _ lo B (Nat.le_trans hB hb.size) (h3.below hb hB) (by first | omega | go_num) (ht.below hb (Nat.le_refl _))).mono ?_
        rintro e w4 ⟨rfl, x4⟩
        have hb4 : Below w.heap.size w w4 := hb.trans (x4.mono hb.size)
        have R4 := R.below x4 R.lt
        have z0 : w4.cell? ⟨w.heap.size, 0, none⟩ = some (.int .i64 2) := R4.cell 0
        have z1 : w4.cell? ⟨w.heap.size, 1, none⟩ = some (.string name) := R4.cell 1
        have z2 : w4.cell? ⟨w.heap.size, 2, none⟩ = some (.slice A2 args.length p2) := R4.cell 2
        have z3 : w4.cell? ⟨w.heap.size, 3, none⟩ = some (.slice A3 body.length p3) := R4.cell 3
        have z4 : w4.cell? ⟨w.heap.size, 4, none⟩ = some (.slice A4 els.length p4) := R4.cell 4
        cases hB1 : body.all (stB m)
        case false =>
          have E : Hid (stB (m + 1) (.mk 2 name args body els) = false) := by show _ = _; rw [stB, HH.out, hB1]; rfl
          go_wp2_with fail
          go_ret
          exact RetV.mk (by rw [E.out] <;> rfl) rfl hb4
        go_wp2_with fail
        refine (ih d els _ _ _ lo B (Nat.le_trans hB hb4.size) (h4.below hb4 hB) (by first | omega | go_num) (ht.below hb4 (Nat.le_refl _))).mono ?_
        rintro e w5 ⟨rfl, x5⟩
        have hb5 : Below w.heap.size w w5 := hb4.trans (x5.mono hb4.size)
        have E : Hid (stB (m + 1) (.mk 2 name args body els) = els.all (stB m)) := by show _ = _; rw [stB, HH.out, hB1, Bool.true_and, Bool.true_and]
        go_wp2_with fail
        go_ret
        exact RetV.mk (by rw [E.out] <;> rfl) rfl hb5
  · have hb0 : Below w.heap.size w (w.alloc (.cells #[.int .i64 3, .string name, .slice A2 args.length p2, .slice A3 body.length p3, .slice A4 els.length p4] 76)) := (Below.refl _ _).alloc (Nat.le_refl _) _
    have R0 : Row (w.alloc (.cells #[.int .i64 3, .string name, .slice A2 args.length p2, .slice A3 body.length p3, .slice A4 els.length p4] 76)) w.heap.size 76 #[.int .i64 3, .string name, .slice A2 args.length p2, .slice A3 body.length p3, .slice A4 els.length p4] := Row.new w _ _
    go_enter Tryz.func56, Tryz.ntmps56
    go_wp2_with fail
    refine (impl_argCount3 _).mono ?_
    rintro e w' ⟨rfl, rfl⟩
    by_cases hkl : args.length = 1
    case neg =>
      have q0 : ((args.length : Int) != 1) = true := by simp; omega
      have E : Hid (stB (m + 1) (.mk 3 name args body els) = false) := st_no (hd_len (by rw [show stK 3 = 1 from rfl]; exact hkl)) _
      go_wp2_with fail
      go_ret
      exact RetV.mk (by rw [E.out] <;> rfl) rfl hb0
    have q0 : ((args.length : Int) != 1) = false := by simp; omega
    have HKL := Lib.hid hkl
    clear hkl
    cases hem : name.toList.isEmpty
    case false =>
      have hem2 : (!name.toList.isEmpty) = true := by rw [hem]; rfl
      have E : Hid (stB (m + 1) (.mk 3 name args body els) = false) := st_no (hd_name (by unfold nmB; rw [if_neg (by omega), hem])) _
      go_wp2_with fail
      go_ret
      exact RetV.mk (by rw [E.out] <;> rfl) rfl hb0
    have HN : Hid (nmB 3 name = true) := by show _ = _; unfold nmB; rw [if_neg (by omega), hem]
    by_cases hb0' : 0 < body.length
    case pos =>
      have qb : (0 : Int) < (body.length : Int) := by omega
      have E : Hid (stB (m + 1) (.mk 3 name args body els) = false) := st_no (hd_body hb0' (by omega) (by omega)) _
      go_wp2_with fail
      go_ret
      exact RetV.mk (by rw [E.out] <;> rfl) rfl hb0
    have qb : decide ((0 : Int) < (body.length : Int)) = false := decide_eq_false (by omega)
    by_cases he0 : 0 < els.length
    case pos =>
      have qe : (0 : Int) < (els.length : Int) := by omega
      have E : Hid (stB (m + 1) (.mk 3 name args body els) = false) := st_no (hd_els he0 (by omega)) _
      go_wp2_with fail
      go_ret
      exact RetV.mk (by rw [E.out] <;> rfl) rfl hb0
    have qe : decide ((0 : Int) < (els.length : Int)) = false := decide_eq_false (by omega)
    have HD : Hid (args.all (fun e => decide ((3 : Int) = 8 → e.op = 13)) = true) := by show _ = _; rw [List.all_eq_true]; intro x _; exact decide_eq_true (by intro h; omega)
    go_wp2_with fail
    go_loopw [71] (fun i wr => ∃ k : Nat, k ≤ args.length ∧ i = .int .i64 k ∧ Hid (args.all valE = (args.drop k).all valE) ∧ Row wr w.heap.size 76 #[.int .i64 3, .string name, .slice A2 args.length p2, .slice A3 body.length p3, .slice A4 els.length p4] ∧ Below w.heap.size w wr) (fun i _ => args.length - (intOf i).toNat)
    case atStart => exact ⟨0, by omega, rfl, (show _ = _ from rfl), R0, hb0⟩
    case round =>
      obtain ⟨k, hk, rfl, HA, R, hb⟩ := hrel
      have hsz := hb.size
      have y0 : wr.cell? ⟨w.heap.size, 0, none⟩ = some (.int .i64 3) := R.cell 0
      have y1 : wr.cell? ⟨w.heap.size, 1, none⟩ = some (.string name) := R.cell 1
      have y2 : wr.cell? ⟨w.heap.size, 2, none⟩ = some (.slice A2 args.length p2) := R.cell 2
      have y3 : wr.cell? ⟨w.heap.size, 3, none⟩ = some (.slice A3 body.length p3) := R.cell 3
      have y4 : wr.cell? ⟨w.heap.size, 4, none⟩ = some (.slice A4 els.length p4) := R.cell 4
      by_cases hkl' : k < args.length
      · obtain ⟨d', rfl⟩ := exS_pos h2 (by omega)
        obtain ⟨b2, o2, op2, n2, name2, kids2, v2', hA, _, hbB2, HL2, g0_, g1_, g2_, g3_, e0, e1, e2, e3⟩ := ex_get d' (h2.below hb hB) hkl'
        subst hA
        obtain ⟨A', p', hf', _, _⟩ := g3_.form
        change _ = Value.slice A' kids2.length p' at hf'
        subst hf'
        have hkn : (k : Int) < (args.length : Int) := by omega
        have hki : (0 : Int) ≤ (k : Int) := by omega
        go_wp2_with fail
        have xk := (Below.refl _ wr).alloc (Nat.le_refl _) (.cells #[.int .i64 op2, .int .i64 n2, .string name2, .slice A' kids2.length p'] 90)
        have hbk : Below w.heap.size w _ := hb.trans (xk.mono hsz)
        refine (impl_ExprValid d' op2 n2 name2 kids2 (.slice A' kids2.length p') _ lo B (Nat.le_trans hB hbk.size) g0_ g1_ g2_ (g3_.below xk (Nat.le_trans hB hsz)) (ht.below hbk (Nat.le_refl _))).mono ?_
        rintro e w3 ⟨rfl, x3⟩
        have hb3 : Below w.heap.size w w3 := hbk.trans (x3.mono hbk.size)
        cases he : valE (.mk op2 n2 name2 kids2)
        case true =>
          have E3 : Hid (args.all valE = (args.drop (k + 1)).all valE) := by
            have h1 := HA.out
            rw [drop_cons hkl' HL2.out, List.all_cons, he, Bool.true_and] at h1
            exact h1
          clear HA
          go_wp2_with fail
          go_roundw
          case rel => exact ⟨k + 1, by omega, by go_num, E3, (R.below xk R.lt).below x3 (Nat.lt_of_lt_of_le R.lt xk.size), hb3⟩
          case measure => simp [intOf]; omega
        case false =>
          have E : Hid (stB (m + 1) (.mk 3 name args body els) = false) := st_no (hd_args (by have h1 := HA.out; rw [drop_cons hkl' HL2.out, List.all_cons, he, Bool.false_and] at h1; exact h1)) _
          clear HA
          go_wp2_with fail
          go_ret
          exact RetV.mk (by rw [E.out] <;> rfl) rfl hb3
      · have HV : Hid (args.all valE = true) := by
          have h1 := HA.out
          rw [List.drop_eq_nil_of_le (by omega)] at h1
          exact h1
        clear HA
        have HH : Hid (hdB 3 name args body.length els.length = true) := hd_yes (by omega) HKL.out HN.out HV.out (by first | exact HD.out | (have h := HD.out; simpa using h)) (by omega) (by omega)
        go_wp2_with fail
        refine (ih d body _ _ _ lo B (Nat.le_trans hB hb.size) (h3.below hb hB) (by first | omega | go_num) (ht.below hb (Nat.le_refl _))).mono ?_
        rintro e w4 ⟨rfl, x4⟩
        have hb4 : Below w.heap.size w w4 := hb.trans (x4.mono hb.size)
        have R4 := R.below x4 R.lt
        have z0 : w4.cell? ⟨w.heap.size, 0, none⟩ = some (.int .i64 3) := R4.cell 0
        have z1 : w4.cell? ⟨w.heap.size, 1, none⟩ = some (.string name) := R4.cell 1
        have z2 : w4.cell? ⟨w.heap.size, 2, none⟩ = some (.slice A2 args.length p2) := R4.cell 2
        have z3 : w4.cell? ⟨w.heap.size, 3, none⟩ = some (.slice A3 body.length p3) := R4.cell 3
        have z4 : w4.cell? ⟨w.heap.size, 4, none⟩ = some (.slice A4 els.length p4) := R4.cell 4
        cases hB1 : body.all (stB m)
        case false =>
          have E : Hid (stB (m + 1) (.mk 3 name args body els) = false) := by show _ = _; rw [stB, HH.out, hB1]; rfl
          go_wp2_with fail
          go_ret
          exact RetV.mk (by rw [E.out] <;> rfl) rfl hb4
        go_wp2_with fail
        refine (ih d els _ _ _ lo B (Nat.le_trans hB hb4.size) (h4.below hb4 hB) (by first | omega | go_num) (ht.below hb4 (Nat.le_refl _))).mono ?_
        rintro e w5 ⟨rfl, x5⟩
        have hb5 : Below w.heap.size w w5 := hb4.trans (x5.mono hb4.size)
        have E : Hid (stB (m + 1) (.mk 3 name args body els) = els.all (stB m)) := by show _ = _; rw [stB, HH.out, hB1, Bool.true_and, Bool.true_and]
        go_wp2_with fail
        go_ret
        exact RetV.mk (by rw [E.out] <;> rfl) rfl hb5
  · have hb0 : Below w.heap.size w (w.alloc (.cells #[.int .i64 4, .string name, .slice A2 args.length p2, .slice A3 body.length p3, .slice A4 els.length p4] 76)) := (Below.refl _ _).alloc (Nat.le_refl _) _
    have R0 : Row (w.alloc (.cells #[.int .i64 4, .string name, .slice A2 args.length p2, .slice A3 body.length p3, .slice A4 els.length p4] 76)) w.heap.size 76 #[.int .i64 4, .string name, .slice A2 args.length p2, .slice A3 body.length p3, .slice A4 els.length p4] := Row.new w _ _
    go_enter Tryz.func56, Tryz.ntmps56
    go_wp2_with fail
    refine (impl_argCount4 _).mono ?_
    rintro e w' ⟨rfl, rfl⟩
    by_cases hkl : args.length = 2
    case neg =>
      have q0 : ((args.length : Int) != 2) = true := by simp; omega
      have E : Hid (stB (m + 1) (.mk 4 name args body els) = false) := st_no (hd_len (by rw [show stK 4 = 2 from rfl]; exact hkl)) _
      go_wp2_with fail
      go_ret
      exact RetV.mk (by rw [E.out] <;> rfl) rfl hb0
    have q0 : ((args.length : Int) != 2) = false := by simp; omega
    have HKL := Lib.hid hkl
    clear hkl
    cases hem : name.toList.isEmpty
    case false =>
      have hem2 : (!name.toList.isEmpty) = true := by rw [hem]; rfl
      have E : Hid (stB (m + 1) (.mk 4 name args body els) = false) := st_no (hd_name (by unfold nmB; rw [if_neg (by omega), hem])) _
      go_wp2_with fail
      go_ret
      exact RetV.mk (by rw [E.out] <;> rfl) rfl hb0
    have HN : Hid (nmB 4 name = true) := by show _ = _; unfold nmB; rw [if_neg (by omega), hem]
    by_cases hb0' : 0 < body.length
    case pos =>
      have qb : (0 : Int) < (body.length : Int) := by omega
      have E : Hid (stB (m + 1) (.mk 4 name args body els) = false) := st_no (hd_body hb0' (by omega) (by omega)) _
      go_wp2_with fail
      go_ret
      exact RetV.mk (by rw [E.out] <;> rfl) rfl hb0
    have qb : decide ((0 : Int) < (body.length : Int)) = false := decide_eq_false (by omega)
    by_cases he0 : 0 < els.length
    case pos =>
      have qe : (0 : Int) < (els.length : Int) := by omega
      have E : Hid (stB (m + 1) (.mk 4 name args body els) = false) := st_no (hd_els he0 (by omega)) _
      go_wp2_with fail
      go_ret
      exact RetV.mk (by rw [E.out] <;> rfl) rfl hb0
    have qe : decide ((0 : Int) < (els.length : Int)) = false := decide_eq_false (by omega)
    have HD : Hid (args.all (fun e => decide ((4 : Int) = 8 → e.op = 13)) = true) := by show _ = _; rw [List.all_eq_true]; intro x _; exact decide_eq_true (by intro h; omega)
    go_wp2_with fail
    go_loopw [71] (fun i wr => ∃ k : Nat, k ≤ args.length ∧ i = .int .i64 k ∧ Hid (args.all valE = (args.drop k).all valE) ∧ Row wr w.heap.size 76 #[.int .i64 4, .string name, .slice A2 args.length p2, .slice A3 body.length p3, .slice A4 els.length p4] ∧ Below w.heap.size w wr) (fun i _ => args.length - (intOf i).toNat)
    case atStart => exact ⟨0, by omega, rfl, (show _ = _ from rfl), R0, hb0⟩
    case round =>
      obtain ⟨k, hk, rfl, HA, R, hb⟩ := hrel
      have hsz := hb.size
      have y0 : wr.cell? ⟨w.heap.size, 0, none⟩ = some (.int .i64 4) := R.cell 0
      have y1 : wr.cell? ⟨w.heap.size, 1, none⟩ = some (.string name) := R.cell 1
      have y2 : wr.cell? ⟨w.heap.size, 2, none⟩ = some (.slice A2 args.length p2) := R.cell 2
      have y3 : wr.cell? ⟨w.heap.size, 3, none⟩ = some (.slice A3 body.length p3) := R.cell 3
      have y4 : wr.cell? ⟨w.heap.size, 4, none⟩ = some (.slice A4 els.length p4) := R.cell 4
      by_cases hkl' : k < args.length
      · obtain ⟨d', rfl⟩ := exS_pos h2 (by omega)
        obtain ⟨b2, o2, op2, n2, name2, kids2, v2', hA, _, hbB2, HL2, g0_, g1_, g2_, g3_, e0, e1, e2, e3⟩ := ex_get d' (h2.below hb hB) hkl'
        subst hA
        obtain ⟨A', p', hf', _, _⟩ := g3_.form
        change _ = Value.slice A' kids2.length p' at hf'
        subst hf'
        have hkn : (k : Int) < (args.length : Int) := by omega
        have hki : (0 : Int) ≤ (k : Int) := by omega
        go_wp2_with fail
        have xk := (Below.refl _ wr).alloc (Nat.le_refl _) (.cells #[.int .i64 op2, .int .i64 n2, .string name2, .slice A' kids2.length p'] 90)
        have hbk : Below w.heap.size w _ := hb.trans (xk.mono hsz)
        refine (impl_ExprValid d' op2 n2 name2 kids2 (.slice A' kids2.length p') _ lo B (Nat.le_trans hB hbk.size) g0_ g1_ g2_ (g3_.below xk (Nat.le_trans hB hsz)) (ht.below hbk (Nat.le_refl _))).mono ?_
        rintro e w3 ⟨rfl, x3⟩
        have hb3 : Below w.heap.size w w3 := hbk.trans (x3.mono hbk.size)
        cases he : valE (.mk op2 n2 name2 kids2)
        case true =>
          have E3 : Hid (args.all valE = (args.drop (k + 1)).all valE) := by
            have h1 := HA.out
            rw [drop_cons hkl' HL2.out, List.all_cons, he, Bool.true_and] at h1
            exact h1
          clear HA
          go_wp2_with fail
          go_roundw
          case rel => exact ⟨k + 1, by omega, by go_num, E3, (R.below xk R.lt).below x3 (Nat.lt_of_lt_of_le R.lt xk.size), hb3⟩
          case measure => simp [intOf]; omega
        case false =>
          have E : Hid (stB (m + 1) (.mk 4 name args body els) = false) := st_no (hd_args (by have h1 := HA.out; rw [drop_cons hkl' HL2.out, List.all_cons, he, Bool.false_and] at h1; exact h1)) _
          clear HA
          go_wp2_with fail
          go_ret
          exact RetV.mk (by rw [E.out] <;> rfl) rfl hb3
      · have HV : Hid (args.all valE = true) := by
          have h1 := HA.out
          rw [List.drop_eq_nil_of_le (by omega)] at h1
          exact h1
        clear HA
        have HH : Hid (hdB 4 name args body.length els.length = true) := hd_yes (by omega) HKL.out HN.out HV.out (by first | exact HD.out | (have h := HD.out; simpa using h)) (by omega) (by omega)
        go_wp2_with fail
        refine (ih d body _ _ _ lo B (Nat.le_trans hB hb.size) (h3.below hb hB) (by first | omega | go_num) (ht.below hb (Nat.le_refl _))).mono ?_
        rintro e w4 ⟨rfl, x4⟩
        have hb4 : Below w.heap.size w w4 := hb.trans (x4.mono hb.size)
        have R4 := R.below x4 R.lt
        have z0 : w4.cell? ⟨w.heap.size, 0, none⟩ = some (.int .i64 4) := R4.cell 0
        have z1 : w4.cell? ⟨w.heap.size, 1, none⟩ = some (.string name) := R4.cell 1
        have z2 : w4.cell? ⟨w.heap.size, 2, none⟩ = some (.slice A2 args.length p2) := R4.cell 2
        have z3 : w4.cell? ⟨w.heap.size, 3, none⟩ = some (.slice A3 body.length p3) := R4.cell 3
        have z4 : w4.cell? ⟨w.heap.size, 4, none⟩ = some (.slice A4 els.length p4) := R4.cell 4
        cases hB1 : body.all (stB m)
        case false =>
          have E : Hid (stB (m + 1) (.mk 4 name args body els) = false) := by show _ = _; rw [stB, HH.out, hB1]; rfl
          go_wp2_with fail
          go_ret
          exact RetV.mk (by rw [E.out] <;> rfl) rfl hb4
        go_wp2_with fail
        refine (ih d els _ _ _ lo B (Nat.le_trans hB hb4.size) (h4.below hb4 hB) (by first | omega | go_num) (ht.below hb4 (Nat.le_refl _))).mono ?_
        rintro e w5 ⟨rfl, x5⟩
        have hb5 : Below w.heap.size w w5 := hb4.trans (x5.mono hb4.size)
        have E : Hid (stB (m + 1) (.mk 4 name args body els) = els.all (stB m)) := by show _ = _; rw [stB, HH.out, hB1, Bool.true_and, Bool.true_and]
        go_wp2_with fail
        go_ret
        exact RetV.mk (by rw [E.out] <;> rfl) rfl hb5
  · have hb0 : Below w.heap.size w (w.alloc (.cells #[.int .i64 5, .string name, .slice A2 args.length p2, .slice A3 body.length p3, .slice A4 els.length p4] 76)) := (Below.refl _ _).alloc (Nat.le_refl _) _
    have R0 : Row (w.alloc (.cells #[.int .i64 5, .string name, .slice A2 args.length p2, .slice A3 body.length p3, .slice A4 els.length p4] 76)) w.heap.size 76 #[.int .i64 5, .string name, .slice A2 args.length p2, .slice A3 body.length p3, .slice A4 els.length p4] := Row.new w _ _
    go_enter Tryz.func56, Tryz.ntmps56
    go_wp2_with fail
    refine (impl_argCount5 _).mono ?_
    rintro e w' ⟨rfl, rfl⟩
    by_cases hkl : args.length = 1
    case neg =>
      have q0 : ((args.length : Int) != 1) = true := by simp; omega
      have E : Hid (stB (m + 1) (.mk 5 name args body els) = false) := st_no (hd_len (by rw [show stK 5 = 1 from rfl]; exact hkl)) _
      go_wp2_with fail
      go_ret
      exact RetV.mk (by rw [E.out] <;> rfl) rfl hb0
    have q0 : ((args.length : Int) != 1) = false := by simp; omega
    have HKL := Lib.hid hkl
    clear hkl
    cases hem : name.toList.isEmpty
    case false =>
      have hem2 : (!name.toList.isEmpty) = true := by rw [hem]; rfl
      have E : Hid (stB (m + 1) (.mk 5 name args body els) = false) := st_no (hd_name (by unfold nmB; rw [if_neg (by omega), hem])) _
      go_wp2_with fail
      go_ret
      exact RetV.mk (by rw [E.out] <;> rfl) rfl hb0
    have HN : Hid (nmB 5 name = true) := by show _ = _; unfold nmB; rw [if_neg (by omega), hem]
    have HD : Hid (args.all (fun e => decide ((5 : Int) = 8 → e.op = 13)) = true) := by show _ = _; rw [List.all_eq_true]; intro x _; exact decide_eq_true (by intro h; omega)
    go_wp2_with fail
    go_loopw [71] (fun i wr => ∃ k : Nat, k ≤ args.length ∧ i = .int .i64 k ∧ Hid (args.all valE = (args.drop k).all valE) ∧ Row wr w.heap.size 76 #[.int .i64 5, .string name, .slice A2 args.length p2, .slice A3 body.length p3, .slice A4 els.length p4] ∧ Below w.heap.size w wr) (fun i _ => args.length - (intOf i).toNat)
    case atStart => exact ⟨0, by omega, rfl, (show _ = _ from rfl), R0, hb0⟩
    case round =>
      obtain ⟨k, hk, rfl, HA, R, hb⟩ := hrel
      have hsz := hb.size
      have y0 : wr.cell? ⟨w.heap.size, 0, none⟩ = some (.int .i64 5) := R.cell 0
      have y1 : wr.cell? ⟨w.heap.size, 1, none⟩ = some (.string name) := R.cell 1
      have y2 : wr.cell? ⟨w.heap.size, 2, none⟩ = some (.slice A2 args.length p2) := R.cell 2
      have y3 : wr.cell? ⟨w.heap.size, 3, none⟩ = some (.slice A3 body.length p3) := R.cell 3
      have y4 : wr.cell? ⟨w.heap.size, 4, none⟩ = some (.slice A4 els.length p4) := R.cell 4
      by_cases hkl' : k < args.length
      · obtain ⟨d', rfl⟩ := exS_pos h2 (by omega)
        obtain ⟨b2, o2, op2, n2, name2, kids2, v2', hA, _, hbB2, HL2, g0_, g1_, g2_, g3_, e0, e1, e2, e3⟩ := ex_get d' (h2.below hb hB) hkl'
        subst hA
        obtain ⟨A', p', hf', _, _⟩ := g3_.form
        change _ = Value.slice A' kids2.length p' at hf'
        subst hf'
        have hkn : (k : Int) < (args.length : Int) := by omega
        have hki : (0 : Int) ≤ (k : Int) := by omega
        go_wp2_with fail
        have xk := (Below.refl _ wr).alloc (Nat.le_refl _) (.cells #[.int .i64 op2, .int .i64 n2, .string name2, .slice A' kids2.length p'] 90)
        have hbk : Below w.heap.size w _ := hb.trans (xk.mono hsz)
        refine (impl_ExprValid d' op2 n2 name2 kids2 (.slice A' kids2.length p') _ lo B (Nat.le_trans hB hbk.size) g0_ g1_ g2_ (g3_.below xk (Nat.le_trans hB hsz)) (ht.below hbk (Nat.le_refl _))).mono ?_
        rintro e w3 ⟨rfl, x3⟩
        have hb3 : Below w.heap.size w w3 := hbk.trans (x3.mono hbk.size)
        cases he : valE (.mk op2 n2 name2 kids2)
        case true =>
          have E3 : Hid (args.all valE = (args.drop (k + 1)).all valE) := by
            have h1 := HA.out
            rw [drop_cons hkl' HL2.out, List.all_cons, he, Bool.true_and] at h1
            exact h1
          clear HA
          go_wp2_with fail
          go_roundw
          case rel => exact ⟨k + 1, by omega, by go_num, E3, (R.below xk R.lt).below x3 (Nat.lt_of_lt_of_le R.lt xk.size), hb3⟩
          case measure => simp [intOf]; omega
        case false =>
          have E : Hid (stB (m + 1) (.mk 5 name args body els) = false) := st_no (hd_args (by have h1 := HA.out; rw [drop_cons hkl' HL2.out, List.all_cons, he, Bool.false_and] at h1; exact h1)) _
          clear HA
          go_wp2_with fail
          go_ret
          exact RetV.mk (by rw [E.out] <;> rfl) rfl hb3
      · have HV : Hid (args.all valE = true) := by
          have h1 := HA.out
          rw [List.drop_eq_nil_of_le (by omega)] at h1
          exact h1
        clear HA
        have HH : Hid (hdB 5 name args body.length els.length = true) := hd_yes (by omega) HKL.out HN.out HV.out (by first | exact HD.out | (have h := HD.out; simpa using h)) (by omega) (by omega)
        go_wp2_with fail
        refine (ih d body _ _ _ lo B (Nat.le_trans hB hb.size) (h3.below hb hB) (by first | omega | go_num) (ht.below hb (Nat.le_refl _))).mono ?_
        rintro e w4 ⟨rfl, x4⟩
        have hb4 : Below w.heap.size w w4 := hb.trans (x4.mono hb.size)
        have R4 := R.below x4 R.lt
        have z0 : w4.cell? ⟨w.heap.size, 0, none⟩ = some (.int .i64 5) := R4.cell 0
        have z1 : w4.cell? ⟨w.heap.size, 1, none⟩ = some (.string name) := R4.cell 1
        have z2 : w4.cell? ⟨w.heap.size, 2, none⟩ = some (.slice A2 args.length p2) := R4.cell 2
        have z3 : w4.cell? ⟨w.heap.size, 3, none⟩ = some (.slice A3 body.length p3) := R4.cell 3
        have z4 : w4.cell? ⟨w.heap.size, 4, none⟩ = some (.slice A4 els.length p4) := R4.cell 4
        cases hB1 : body.all (stB m)
        case false =>
          have E : Hid (stB (m + 1) (.mk 5 name args body els) = false) := by show _ = _; rw [stB, HH.out, hB1]; rfl
          go_wp2_with fail
          go_ret
          exact RetV.mk (by rw [E.out] <;> rfl) rfl hb4
        go_wp2_with fail
        refine (ih d els _ _ _ lo B (Nat.le_trans hB hb4.size) (h4.below hb4 hB) (by first | omega | go_num) (ht.below hb4 (Nat.le_refl _))).mono ?_
        rintro e w5 ⟨rfl, x5⟩
        have hb5 : Below w.heap.size w w5 := hb4.trans (x5.mono hb4.size)
        have E : Hid (stB (m + 1) (.mk 5 name args body els) = els.all (stB m)) := by show _ = _; rw [stB, HH.out, hB1, Bool.true_and, Bool.true_and]
        go_wp2_with fail
        go_ret
        exact RetV.mk (by rw [E.out] <;> rfl) rfl hb5
  · have hb0 : Below w.heap.size w (w.alloc (.cells #[.int .i64 6, .string name, .slice A2 args.length p2, .slice A3 body.length p3, .slice A4 els.length p4] 76)) := (Below.refl _ _).alloc (Nat.le_refl _) _
    have R0 : Row (w.alloc (.cells #[.int .i64 6, .string name, .slice A2 args.length p2, .slice A3 body.length p3, .slice A4 els.length p4] 76)) w.heap.size 76 #[.int .i64 6, .string name, .slice A2 args.length p2, .slice A3 body.length p3, .slice A4 els.length p4] := Row.new w _ _
    go_enter Tryz.func56, Tryz.ntmps56
    go_wp2_with fail
    refine (impl_argCount6 _).mono ?_
    rintro e w' ⟨rfl, rfl⟩
    by_cases hkl : args.length = 1
    case neg =>
      have q0 : ((args.length : Int) != 1) = true := by simp; omega
      have E : Hid (stB (m + 1) (.mk 6 name args body els) = false) := st_no (hd_len (by rw [show stK 6 = 1 from rfl]; exact hkl)) _
      go_wp2_with fail
      go_ret
      exact RetV.mk (by rw [E.out] <;> rfl) rfl hb0
    have q0 : ((args.length : Int) != 1) = false := by simp; omega
    have HKL := Lib.hid hkl
    clear hkl
    cases hem : name.toList.isEmpty
    case false =>
      have hem2 : (!name.toList.isEmpty) = true := by rw [hem]; rfl
      have E : Hid (stB (m + 1) (.mk 6 name args body els) = false) := st_no (hd_name (by unfold nmB; rw [if_neg (by omega), hem])) _
      go_wp2_with fail
      go_ret
      exact RetV.mk (by rw [E.out] <;> rfl) rfl hb0
    have HN : Hid (nmB 6 name = true) := by show _ = _; unfold nmB; rw [if_neg (by omega), hem]
    by_cases he0 : 0 < els.length
    case pos =>
      have qe : (0 : Int) < (els.length : Int) := by omega
      have E : Hid (stB (m + 1) (.mk 6 name args body els) = false) := st_no (hd_els he0 (by omega)) _
      go_wp2_with fail
      go_ret
      exact RetV.mk (by rw [E.out] <;> rfl) rfl hb0
    have qe : decide ((0 : Int) < (els.length : Int)) = false := decide_eq_false (by omega)
    have HD : Hid (args.all (fun e => decide ((6 : Int) = 8 → e.op = 13)) = true) := by show _ = _; rw [List.all_eq_true]; intro x _; exact decide_eq_true (by intro h; omega)
    go_wp2_with fail
    go_loopw [71] (fun i wr => ∃ k : Nat, k ≤ args.length ∧ i = .int .i64 k ∧ Hid (args.all valE = (args.drop k).all valE) ∧ Row wr w.heap.size 76 #[.int .i64 6, .string name, .slice A2 args.length p2, .slice A3 body.length p3, .slice A4 els.length p4] ∧ Below w.heap.size w wr) (fun i _ => args.length - (intOf i).toNat)
    case atStart => exact ⟨0, by omega, rfl, (show _ = _ from rfl), R0, hb0⟩
    case round =>
      obtain ⟨k, hk, rfl, HA, R, hb⟩ := hrel
      have hsz := hb.size
      have y0 : wr.cell? ⟨w.heap.size, 0, none⟩ = some (.int .i64 6) := R.cell 0
      have y1 : wr.cell? ⟨w.heap.size, 1, none⟩ = some (.string name) := R.cell 1
      have y2 : wr.cell? ⟨w.heap.size, 2, none⟩ = some (.slice A2 args.length p2) := R.cell 2
      have y3 : wr.cell? ⟨w.heap.size, 3, none⟩ = some (.slice A3 body.length p3) := R.cell 3
      have y4 : wr.cell? ⟨w.heap.size, 4, none⟩ = some (.slice A4 els.length p4) := R.cell 4
      by_cases hkl' : k < args.length
      · obtain ⟨d', rfl⟩ := exS_pos h2 (by omega)
        obtain ⟨b2, o2, op2, n2, name2, kids2, v2', hA, _, hbB2, HL2, g0_, g1_, g2_, g3_, e0, e1, e2, e3⟩ := ex_get d' (h2.below hb hB) hkl'
        subst hA
        obtain ⟨A', p', hf', _, _⟩ := g3_.form
        change _ = Value.slice A' kids2.length p' at hf'
        subst hf'
        have hkn : (k : Int) < (args.length : Int) := by omega
        have hki : (0 : Int) ≤ (k : Int) := by omega
        go_wp2_with fail
        have xk := (Below.refl _ wr).alloc (Nat.le_refl _) (.cells #[.int .i64 op2, .int .i64 n2, .string name2, .slice A' kids2.length p'] 90)
        have hbk : Below w.heap.size w _ := hb.trans (xk.mono hsz)
        refine (impl_ExprValid d' op2 n2 name2 kids2 (.slice A' kids2.length p') _ lo B (Nat.le_trans hB hbk.size) g0_ g1_ g2_ (g3_.below xk (Nat.le_trans hB hsz)) (ht.below hbk (Nat.le_refl _))).mono ?_
        rintro e w3 ⟨rfl, x3⟩
        have hb3 : Below w.heap.size w w3 := hbk.trans (x3.mono hbk.size)
        cases he : valE (.mk op2 n2 name2 kids2)
        case true =>
          have E3 : Hid (args.all valE = (args.drop (k + 1)).all valE) := by
            have h1 := HA.out
            rw [drop_cons hkl' HL2.out, List.all_cons, he, Bool.true_and] at h1
            exact h1
          clear HA
          go_wp2_with fail
          go_roundw
          case rel => exact ⟨k + 1, by omega, by go_num, E3, (R.below xk R.lt).below x3 (Nat.lt_of_lt_of_le R.lt xk.size), hb3⟩
          case measure => simp [intOf]; omega
        case false =>
          have E : Hid (stB (m + 1) (.mk 6 name args body els) = false) := st_no (hd_args (by have h1 := HA.out; rw [drop_cons hkl' HL2.out, List.all_cons, he, Bool.false_and] at h1; exact h1)) _
          clear HA
          go_wp2_with fail
          go_ret
          exact RetV.mk (by rw [E.out] <;> rfl) rfl hb3
      · have HV : Hid (args.all valE = true) := by
          have h1 := HA.out
          rw [List.drop_eq_nil_of_le (by omega)] at h1
          exact h1
        clear HA
        have HH : Hid (hdB 6 name args body.length els.length = true) := hd_yes (by omega) HKL.out HN.out HV.out (by first | exact HD.out | (have h := HD.out; simpa using h)) (by omega) (by omega)
        go_wp2_with fail
        refine (ih d body _ _ _ lo B (Nat.le_trans hB hb.size) (h3.below hb hB) (by first | omega | go_num) (ht.below hb (Nat.le_refl _))).mono ?_
        rintro e w4 ⟨rfl, x4⟩
        have hb4 : Below w.heap.size w w4 := hb.trans (x4.mono hb.size)
        have R4 := R.below x4 R.lt
        have z0 : w4.cell? ⟨w.heap.size, 0, none⟩ = some (.int .i64 6) := R4.cell 0
        have z1 : w4.cell? ⟨w.heap.size, 1, none⟩ = some (.string name) := R4.cell 1
        have z2 : w4.cell? ⟨w.heap.size, 2, none⟩ = some (.slice A2 args.length p2) := R4.cell 2
        have z3 : w4.cell? ⟨w.heap.size, 3, none⟩ = some (.slice A3 body.length p3) := R4.cell 3
        have z4 : w4.cell? ⟨w.heap.size, 4, none⟩ = some (.slice A4 els.length p4) := R4.cell 4
        cases hB1 : body.all (stB m)
        case false =>
          have E : Hid (stB (m + 1) (.mk 6 name args body els) = false) := by show _ = _; rw [stB, HH.out, hB1]; rfl
          go_wp2_with fail
          go_ret
          exact RetV.mk (by rw [E.out] <;> rfl) rfl hb4
        go_wp2_with fail
        refine (ih d els _ _ _ lo B (Nat.le_trans hB hb4.size) (h4.below hb4 hB) (by first | omega | go_num) (ht.below hb4 (Nat.le_refl _))).mono ?_
        rintro e w5 ⟨rfl, x5⟩
        have hb5 : Below w.heap.size w w5 := hb4.trans (x5.mono hb4.size)
        have E : Hid (stB (m + 1) (.mk 6 name args body els) = els.all (stB m)) := by show _ = _; rw [stB, HH.out, hB1, Bool.true_and, Bool.true_and]
        go_wp2_with fail
        go_ret
        exact RetV.mk (by rw [E.out] <;> rfl) rfl hb5
  · have hb0 : Below w.heap.size w (w.alloc (.cells #[.int .i64 7, .string name, .slice A2 args.length p2, .slice A3 body.length p3, .slice A4 els.length p4] 76)) := (Below.refl _ _).alloc (Nat.le_refl _) _
    have R0 : Row (w.alloc (.cells #[.int .i64 7, .string name, .slice A2 args.length p2, .slice A3 body.length p3, .slice A4 els.length p4] 76)) w.heap.size 76 #[.int .i64 7, .string name, .slice A2 args.length p2, .slice A3 body.length p3, .slice A4 els.length p4] := Row.new w _ _
    go_enter Tryz.func56, Tryz.ntmps56
    go_wp2_with fail
    refine (impl_argCount7 _).mono ?_
    rintro e w' ⟨rfl, rfl⟩
    by_cases hkl : args.length = 1
    case neg =>
      have q0 : ((args.length : Int) != 1) = true := by simp; omega
      have E : Hid (stB (m + 1) (.mk 7 name args body els) = false) := st_no (hd_len (by rw [show stK 7 = 1 from rfl]; exact hkl)) _
      go_wp2_with fail
      go_ret
      exact RetV.mk (by rw [E.out] <;> rfl) rfl hb0
    have q0 : ((args.length : Int) != 1) = false := by simp; omega
    have HKL := Lib.hid hkl
    clear hkl
    cases hem : name.toList.isEmpty
    case false =>
      have hem2 : (!name.toList.isEmpty) = true := by rw [hem]; rfl
      have E : Hid (stB (m + 1) (.mk 7 name args body els) = false) := st_no (hd_name (by unfold nmB; rw [if_neg (by omega), hem])) _
      go_wp2_with fail
      go_ret
      exact RetV.mk (by rw [E.out] <;> rfl) rfl hb0
    have HN : Hid (nmB 7 name = true) := by show _ = _; unfold nmB; rw [if_neg (by omega), hem]
    by_cases hb0' : 0 < body.length
    case pos =>
      have qb : (0 : Int) < (body.length : Int) := by omega
      have E : Hid (stB (m + 1) (.mk 7 name args body els) = false) := st_no (hd_body hb0' (by omega) (by omega)) _
      go_wp2_with fail
      go_ret
      exact RetV.mk (by rw [E.out] <;> rfl) rfl hb0
    have qb : decide ((0 : Int) < (body.length : Int)) = false := decide_eq_false (by omega)
    by_cases he0 : 0 < els.length
    case pos =>
      have qe : (0 : Int) < (els.length : Int) := by omega
      have E : Hid (stB (m + 1) (.mk 7 name args body els) = false) := st_no (hd_els he0 (by omega)) _
      go_wp2_with fail
      go_ret
      exact RetV.mk (by rw [E.out] <;> rfl) rfl hb0
    have qe : decide ((0 : Int) < (els.length : Int)) = false := decide_eq_false (by omega)
    have HD : Hid (args.all (fun e => decide ((7 : Int) = 8 → e.op = 13)) = true) := by show _ = _; rw [List.all_eq_true]; intro x _; exact decide_eq_true (by intro h; omega)
    go_wp2_with fail
    go_loopw [71] (fun i wr => ∃ k : Nat, k ≤ args.length ∧ i = .int .i64 k ∧ Hid (args.all valE = (args.drop k).all valE) ∧ Row wr w.heap.size 76 #[.int .i64 7, .string name, .slice A2 args.length p2, .slice A3 body.length p3, .slice A4 els.length p4] ∧ Below w.heap.size w wr) (fun i _ => args.length - (intOf i).toNat)
    case atStart => exact ⟨0, by omega, rfl, (show _ = _ from rfl), R0, hb0⟩
    case round =>
      obtain ⟨k, hk, rfl, HA, R, hb⟩ := hrel
      have hsz := hb.size
      have y0 : wr.cell? ⟨w.heap.size, 0, none⟩ = some (.int .i64 7) := R.cell 0
      have y1 : wr.cell? ⟨w.heap.size, 1, none⟩ = some (.string name) := R.cell 1
      have y2 : wr.cell? ⟨w.heap.size, 2, none⟩ = some (.slice A2 args.length p2) := R.cell 2
      have y3 : wr.cell? ⟨w.heap.size, 3, none⟩ = some (.slice A3 body.length p3) := R.cell 3
      have y4 : wr.cell? ⟨w.heap.size, 4, none⟩ = some (.slice A4 els.length p4) := R.cell 4
      by_cases hkl' : k < args.length
      · obtain ⟨d', rfl⟩ := exS_pos h2 (by omega)
        obtain ⟨b2, o2, op2, n2, name2, kids2, v2', hA, _, hbB2, HL2, g0_, g1_, g2_, g3_, e0, e1, e2, e3⟩ := ex_get d' (h2.below hb hB) hkl'
        subst hA
        obtain ⟨A', p', hf', _, _⟩ := g3_.form
        change _ = Value.slice A' kids2.length p' at hf'
        subst hf'
        have hkn : (k : Int) < (args.length : Int) := by omega
        have hki : (0 : Int) ≤ (k : Int) := by omega
        go_wp2_with fail
        have xk := (Below.refl _ wr).alloc (Nat.le_refl _) (.cells #[.int .i64 op2, .int .i64 n2, .string name2, .slice A' kids2.length p'] 90)
        have hbk : Below w.heap.size w _ := hb.trans (xk.mono hsz)
        refine (impl_ExprValid d' op2 n2 name2 kids2 (.slice A' kids2.length p') _ lo B (Nat.le_trans hB hbk.size) g0_ g1_ g2_ (g3_.below xk (Nat.le_trans hB hsz)) (ht.below hbk (Nat.le_refl _))).mono ?_
        rintro e w3 ⟨rfl, x3⟩
        have hb3 : Below w.heap.size w w3 := hbk.trans (x3.mono hbk.size)
        cases he : valE (.mk op2 n2 name2 kids2)
        case true =>
          have E3 : Hid (args.all valE = (args.drop (k + 1)).all valE) := by
            have h1 := HA.out
            rw [drop_cons hkl' HL2.out, List.all_cons, he, Bool.true_and] at h1
            exact h1
          clear HA
          go_wp2_with fail
          go_roundw
          case rel => exact ⟨k + 1, by omega, by go_num, E3, (R.below xk R.lt).below x3 (Nat.lt_of_lt_of_le R.lt xk.size), hb3⟩
          case measure => simp [intOf]; omega
        case false =>
          have E : Hid (stB (m + 1) (.mk 7 name args body els) = false) := st_no (hd_args (by have h1 := HA.out; rw [drop_cons hkl' HL2.out, List.all_cons, he, Bool.false_and] at h1; exact h1)) _
          clear HA
          go_wp2_with fail
          go_ret
          exact RetV.mk (by rw [E.out] <;> rfl) rfl hb3
      · have HV : Hid (args.all valE = true) := by
          have h1 := HA.out
          rw [List.drop_eq_nil_of_le (by omega)] at h1
          exact h1
        clear HA
        have HH : Hid (hdB 7 name args body.length els.length = true) := hd_yes (by omega) HKL.out HN.out HV.out (by first | exact HD.out | (have h := HD.out; simpa using h)) (by omega) (by omega)
        go_wp2_with fail
        refine (ih d body _ _ _ lo B (Nat.le_trans hB hb.size) (h3.below hb hB) (by first | omega | go_num) (ht.below hb (Nat.le_refl _))).mono ?_
        rintro e w4 ⟨rfl, x4⟩
        have hb4 : Below w.heap.size w w4 := hb.trans (x4.mono hb.size)
        have R4 := R.below x4 R.lt
        have z0 : w4.cell? ⟨w.heap.size, 0, none⟩ = some (.int .i64 7) := R4.cell 0
        have z1 : w4.cell? ⟨w.heap.size, 1, none⟩ = some (.string name) := R4.cell 1
        have z2 : w4.cell? ⟨w.heap.size, 2, none⟩ = some (.slice A2 args.length p2) := R4.cell 2
        have z3 : w4.cell? ⟨w.heap.size, 3, none⟩ = some (.slice A3 body.length p3) := R4.cell 3
        have z4 : w4.cell? ⟨w.heap.size, 4, none⟩ = some (.slice A4 els.length p4) := R4.cell 4
        cases hB1 : body.all (stB m)
        case false =>
          have E : Hid (stB (m + 1) (.mk 7 name args body els) = false) := by show _ = _; rw [stB, HH.out, hB1]; rfl
          go_wp2_with fail
          go_ret
          exact RetV.mk (by rw [E.out] <;> rfl) rfl hb4
        go_wp2_with fail
        refine (ih d els _ _ _ lo B (Nat.le_trans hB hb4.size) (h4.below hb4 hB) (by first | omega | go_num) (ht.below hb4 (Nat.le_refl _))).mono ?_
        rintro e w5 ⟨rfl, x5⟩
        have hb5 : Below w.heap.size w w5 := hb4.trans (x5.mono hb4.size)
        have E : Hid (stB (m + 1) (.mk 7 name args body els) = els.all (stB m)) := by show _ = _; rw [stB, HH.out, hB1, Bool.true_and, Bool.true_and]
        go_wp2_with fail
        go_ret
        exact RetV.mk (by rw [E.out] <;> rfl) rfl hb5
  · have hb0 : Below w.heap.size w (w.alloc (.cells #[.int .i64 8, .string name, .slice A2 args.length p2, .slice A3 body.length p3, .slice A4 els.length p4] 76)) := (Below.refl _ _).alloc (Nat.le_refl _) _
    have R0 : Row (w.alloc (.cells #[.int .i64 8, .string name, .slice A2 args.length p2, .slice A3 body.length p3, .slice A4 els.length p4] 76)) w.heap.size 76 #[.int .i64 8, .string name, .slice A2 args.length p2, .slice A3 body.length p3, .slice A4 els.length p4] := Row.new w _ _
    go_enter Tryz.func56, Tryz.ntmps56
    go_wp2_with fail
    refine (impl_argCount8 _).mono ?_
    rintro e w' ⟨rfl, rfl⟩
    by_cases hkl : args.length = 1
    case neg =>
      have q0 : ((args.length : Int) != 1) = true := by simp; omega
      have E : Hid (stB (m + 1) (.mk 8 name args body els) = false) := st_no (hd_len (by rw [show stK 8 = 1 from rfl]; exact hkl)) _
      go_wp2_with fail
      go_ret
      exact RetV.mk (by rw [E.out] <;> rfl) rfl hb0
    have q0 : ((args.length : Int) != 1) = false := by simp; omega
    have HKL := Lib.hid hkl
    clear hkl
    cases hem : name.toList.isEmpty
    case false =>
      have hem2 : (!name.toList.isEmpty) = true := by rw [hem]; rfl
      have E : Hid (stB (m + 1) (.mk 8 name args body els) = false) := st_no (hd_name (by unfold nmB; rw [if_neg (by omega), hem])) _
      go_wp2_with fail
      go_ret
      exact RetV.mk (by rw [E.out] <;> rfl) rfl hb0
    have HN : Hid (nmB 8 name = true) := by show _ = _; unfold nmB; rw [if_neg (by omega), hem]
    by_cases hb0' : 0 < body.length
    case pos =>
      have qb : (0 : Int) < (body.length : Int) := by omega
      have E : Hid (stB (m + 1) (.mk 8 name args body els) = false) := st_no (hd_body hb0' (by omega) (by omega)) _
      go_wp2_with fail
      go_ret
      exact RetV.mk (by rw [E.out] <;> rfl) rfl hb0
    have qb : decide ((0 : Int) < (body.length : Int)) = false := decide_eq_false (by omega)
    by_cases he0 : 0 < els.length
    case pos =>
      have qe : (0 : Int) < (els.length : Int) := by omega
      have E : Hid (stB (m + 1) (.mk 8 name args body els) = false) := st_no (hd_els he0 (by omega)) _
      go_wp2_with fail
      go_ret
      exact RetV.mk (by rw [E.out] <;> rfl) rfl hb0
    have qe : decide ((0 : Int) < (els.length : Int)) = false := decide_eq_false (by omega)
    obtain ⟨d', rfl⟩ := exS_pos h2 (by have := HKL.out; omega)
    obtain ⟨b, oo, op', n', name', kids', v', hA2, _, hbB, HL, g0, g1, g2, g3, c0, c1, c2, c3⟩ := ex_get d' (h2.below hb0 hB) (show 0 < args.length by have := HKL.out; omega)
    subst hA2
    have c0' : (w.alloc (.cells #[.int .i64 8, .string name, .slice (some ⟨b, oo, none⟩) args.length p2, .slice A3 body.length p3, .slice A4 els.length p4] 76)).cell? ⟨b, oo, none⟩ = some (.int .i64 op') := by simpa using c0
    have hlen0 : (0 : Int) < (args.length : Int) := by have := HKL.out; omega
    have hae : args = [.mk op' n' name' kids'] := by
      obtain ⟨a, ha⟩ : ∃ a, args = [a] := by
        match args, HKL.out with
        | [a], _ => exact ⟨a, rfl⟩
      have h1 := HL.out
      simp only [ha, List.getElem_cons_zero] at h1
      rw [ha, h1]
    have HAE := Lib.hid hae
    clear hae HL c0 c1 c2 c3
    by_cases h13 : op' = 13
    case neg =>
      have q13 : (op' != 13) = true := by simpa using h13
      have E : Hid (stB (m + 1) (.mk 8 name args body els) = false) := st_no (hd_do (by rw [HAE.out]; simp [Ex.op, h13])) _
      go_wp2_with fail
      go_ret
      exact RetV.mk (by rw [E.out] <;> rfl) rfl hb0
    have q13 : (op' != 13) = false := by simpa using h13
    have HD : Hid (args.all (fun e => decide ((8 : Int) = 8 → e.op = 13)) = true) := by show _ = _; rw [HAE.out]; simp [Ex.op, h13]
    go_wp2_with fail
    go_loopw [71] (fun i wr => ∃ k : Nat, k ≤ args.length ∧ i = .int .i64 k ∧ Hid (args.all valE = (args.drop k).all valE) ∧ Row wr w.heap.size 76 #[.int .i64 8, .string name, .slice (some ⟨b, oo, none⟩) args.length p2, .slice A3 body.length p3, .slice A4 els.length p4] ∧ Below w.heap.size w wr) (fun i _ => args.length - (intOf i).toNat)
    case atStart => exact ⟨0, by omega, rfl, (show _ = _ from rfl), R0, hb0⟩
    case round =>
      clear c0'
      obtain ⟨k, hk, rfl, HA, R, hb⟩ := hrel
      have hsz := hb.size
      have y0 : wr.cell? ⟨w.heap.size, 0, none⟩ = some (.int .i64 8) := R.cell 0
      have y1 : wr.cell? ⟨w.heap.size, 1, none⟩ = some (.string name) := R.cell 1
      have y2 : wr.cell? ⟨w.heap.size, 2, none⟩ = some (.slice (some ⟨b, oo, none⟩) args.length p2) := R.cell 2
      have y3 : wr.cell? ⟨w.heap.size, 3, none⟩ = some (.slice A3 body.length p3) := R.cell 3
      have y4 : wr.cell? ⟨w.heap.size, 4, none⟩ = some (.slice A4 els.length p4) := R.cell 4
      by_cases hkl' : k < args.length
      · obtain ⟨b2, o2, op2, n2, name2, kids2, v2', hA, _, hbB2, HL2, g0_, g1_, g2_, g3_, e0, e1, e2, e3⟩ := ex_get d' (h2.below hb hB) hkl'
        injection hA with hA
        injection hA with e4 e5
        subst e4 e5
        obtain ⟨A', p', hf', _, _⟩ := g3_.form
        change _ = Value.slice A' kids2.length p' at hf'
        subst hf'
        have hkn : (k : Int) < (args.length : Int) := by omega
        have hki : (0 : Int) ≤ (k : Int) := by omega
        go_wp2_with fail
        have xk := (Below.refl _ wr).alloc (Nat.le_refl _) (.cells #[.int .i64 op2, .int .i64 n2, .string name2, .slice A' kids2.length p'] 90)
        have hbk : Below w.heap.size w _ := hb.trans (xk.mono hsz)
        refine (impl_ExprValid d' op2 n2 name2 kids2 (.slice A' kids2.length p') _ lo B (Nat.le_trans hB hbk.size) g0_ g1_ g2_ (g3_.below xk (Nat.le_trans hB hsz)) (ht.below hbk (Nat.le_refl _))).mono ?_
        rintro e w3 ⟨rfl, x3⟩
        have hb3 : Below w.heap.size w w3 := hbk.trans (x3.mono hbk.size)
        cases he : valE (.mk op2 n2 name2 kids2)
        case true =>
          have E3 : Hid (args.all valE = (args.drop (k + 1)).all valE) := by
            have h1 := HA.out
            rw [drop_cons hkl' HL2.out, List.all_cons, he, Bool.true_and] at h1
            exact h1
          clear HA
          go_wp2_with fail
          go_roundw
          case rel => exact ⟨k + 1, by omega, by go_num, E3, (R.below xk R.lt).below x3 (Nat.lt_of_lt_of_le R.lt xk.size), hb3⟩
          case measure => simp [intOf]; omega
        case false =>
          have E : Hid (stB (m + 1) (.mk 8 name args body els) = false) := st_no (hd_args (by have h1 := HA.out; rw [drop_cons hkl' HL2.out, List.all_cons, he, Bool.false_and] at h1; exact h1)) _
          clear HA
          go_wp2_with fail
          go_ret
          exact RetV.mk (by rw [E.out] <;> rfl) rfl hb3
      · have HV : Hid (args.all valE = true) := by
          have h1 := HA.out
          rw [List.drop_eq_nil_of_le (by omega)] at h1
          exact h1
        clear HA
        have HH : Hid (hdB 8 name args body.length els.length = true) := hd_yes (by omega) HKL.out HN.out HV.out (by first | exact HD.out | (have h := HD.out; simpa using h)) (by omega) (by omega)
        go_wp2_with fail
        refine (ih (d' + 1) body _ _ _ lo B (Nat.le_trans hB hb.size) (h3.below hb hB) (by first | omega | go_num) (ht.below hb (Nat.le_refl _))).mono ?_
        rintro e w4 ⟨rfl, x4⟩
        have hb4 : Below w.heap.size w w4 := hb.trans (x4.mono hb.size)
        have R4 := R.below x4 R.lt
        have z0 : w4.cell? ⟨w.heap.size, 0, none⟩ = some (.int .i64 8) := R4.cell 0
        have z1 : w4.cell? ⟨w.heap.size, 1, none⟩ = some (.string name) := R4.cell 1
        have z2 : w4.cell? ⟨w.heap.size, 2, none⟩ = some (.slice (some ⟨b, oo, none⟩) args.length p2) := R4.cell 2
        have z3 : w4.cell? ⟨w.heap.size, 3, none⟩ = some (.slice A3 body.length p3) := R4.cell 3
        have z4 : w4.cell? ⟨w.heap.size, 4, none⟩ = some (.slice A4 els.length p4) := R4.cell 4
        cases hB1 : body.all (stB m)
        case false =>
          have E : Hid (stB (m + 1) (.mk 8 name args body els) = false) := by show _ = _; rw [stB, HH.out, hB1]; rfl
          go_wp2_with fail
          go_ret
          exact RetV.mk (by rw [E.out] <;> rfl) rfl hb4
        go_wp2_with fail
        refine (ih (d' + 1) els _ _ _ lo B (Nat.le_trans hB hb4.size) (h4.below hb4 hB) (by first | omega | go_num) (ht.below hb4 (Nat.le_refl _))).mono ?_
        rintro e w5 ⟨rfl, x5⟩
        have hb5 : Below w.heap.size w w5 := hb4.trans (x5.mono hb4.size)
        have E : Hid (stB (m + 1) (.mk 8 name args body els) = els.all (stB m)) := by show _ = _; rw [stB, HH.out, hB1, Bool.true_and, Bool.true_and]
        go_wp2_with fail
        go_ret
        exact RetV.mk (by rw [E.out] <;> rfl) rfl hb5
theorem ok_pair : ∀ m : Nat, m ≤ 5 → OkAt m
  | 0, _ => ok_zero
  | m + 1, h => ok_step m (by omega) (blk_of m (ok_pair m (by omega)))
theorem impl_blockOk (m : Nat) (h : m ≤ 5) : BkAt m := blk_of m (ok_pair m h)
end Go.Proofs.YtbikgakoeheahaaGreatDoor
