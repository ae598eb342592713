/-
  Programs, by the reference: is a program one, how many statements it has, how deep they lie. Conditions: the argument reads as data of size at most 1048576.
-/
import Derived.Test.YtbikgakoeheahaaGreatDoorPr1
import Derived.Test.YtbikgakoeheahaaGreatDoorSt1
namespace Go.Proofs.YtbikgakoeheahaaGreatDoor
open Go.RowKit Go.ChangeShapes Go.WideShapes Go.Deep
set_option linter.unusedVariables false
set_option linter.unusedSimpArgs false
theorem cnP_cons (f : FnD) (l : List FnD) : cnP (f :: l) = cnL f.body + cnP l := by unfold cnP; rw [List.map_cons, List.sum_cons]
theorem cnP_size (l : List FnD) : cnP l ≤ sumBy fnN l := by
  induction l with
  | nil => exact Nat.le_refl _
  | cons f r ih =>
    have h1 := cnL_size f.body
    rw [stNs_eq] at h1
    have h2 : sumBy fnN (f :: r) = fnN f + sumBy fnN r := by simp [sumBy]
    have h3 : fnN f = f.name.size + (f.params.length + sumBy ByteArray.size f.params) + (f.body.length + sumBy stN f.body) := rfl
    rw [cnP_cons, h2, h3]
    omega
theorem cnP_mem {f : FnD} {l : List FnD} (h : f ∈ l) : cnL f.body ≤ cnP l := by
  induction l with
  | nil => cases h
  | cons a r ih =>
    rw [cnP_cons]
    rcases List.mem_cons.1 h with rfl | h
    · omega
    · have := ih h; omega
theorem nsP_fold : ∀ (l : List FnD) (c : Nat), l.foldl (fun n f => max n (nsL f.body)) c = max c (nsP l)
  | [], c => by simp [nsP]
  | f :: r, c => by
    have h : nsP (f :: r) = max (max 0 (nsL f.body)) (nsP r) := nsP_fold r (max 0 (nsL f.body))
    rw [List.foldl_cons, nsP_fold r, h]
    omega
theorem nsP_cons (f : FnD) (l : List FnD) : nsP (f :: l) = max (nsL f.body) (nsP l) := by
  show List.foldl _ _ _ = _
  rw [List.foldl_cons, nsP_fold]
  omega
theorem nsP_cn (l : List FnD) : nsP l ≤ cnP l := by
  induction l with
  | nil => exact Nat.le_refl _
  | cons f r ih =>
    have := nsL_cn f.body
    rw [nsP_cons, cnP_cons]
    omega

set_option maxRecDepth 100000 in
set_option maxHeartbeats 4000000 in
theorem spec_l3Fn (d : Nat) (name : ByteArray) (params : List ByteArray) (v1 : Value) (body : List St) (v2 : Value) (w : World) (lo B : Nat) (hB : B ≤ w.heap.size) (hnm : name.size ≤ maxLen) (h1 : Sl false (strS false) w lo B params v1) (h2 : Sl false (stS false d) w lo B body v2) :
    Calls Tryz.prog 23 #[.agg #[.string name, v1, v2]] w (RetV (.bool (fnB ⟨name, params, body⟩)) w) := by
  obtain ⟨A1, p1, hf, _, _⟩ := h1.form
  subst hf
  obtain ⟨A2, p2, hf, _, _⟩ := h2.form
  subst hf
  have hb0 : Below w.heap.size w (w.alloc (.cells #[.string name, .slice A1 params.length p1, .slice A2 body.length p2] 43)) := (Below.refl _ _).alloc (Nat.le_refl _) _
  have R0 : Row (w.alloc (.cells #[.string name, .slice A1 params.length p1, .slice A2 body.length p2] 43)) w.heap.size 43 #[.string name, .slice A1 params.length p1, .slice A2 body.length p2] := Row.new w _ _
  go_enter Tryz.func23, Tryz.ntmps23
  go_wp2_with fail
  go_loopw [3] (fun i wr => ∃ k : Nat, k ≤ params.length ∧ i = .int .i64 k ∧ Hid (params.all isName = (params.drop k).all isName) ∧ Row wr w.heap.size 43 #[.string name, .slice A1 params.length p1, .slice A2 body.length p2] ∧ Below w.heap.size w wr) (fun i _ => params.length - (intOf i).toNat)
  case atStart => exact ⟨0, by omega, rfl, (show _ = _ from rfl), R0, hb0⟩
  case round =>
    obtain ⟨k, hk, rfl, HA, R, hb⟩ := hrel
    have hsz := hb.size
    have y0 : wr.cell? ⟨w.heap.size, 0, none⟩ = some (.string name) := R.cell 0
    have y1 : wr.cell? ⟨w.heap.size, 1, none⟩ = some (.slice A1 params.length p1) := R.cell 1
    have y2 : wr.cell? ⟨w.heap.size, 2, none⟩ = some (.slice A2 body.length p2) := R.cell 2
    by_cases hkl : k < params.length
    · obtain ⟨b, o, a, rfl, _, hbB, HL, ga, c0⟩ := str_get (h1.below hb hB) hkl
      have hkn : (k : Int) < (params.length : Int) := by omega
      have hki : (0 : Int) ≤ (k : Int) := by omega
      go_wp2_with fail
      refine (spec_IsName a _ ga).mono ?_
      rintro e w3 ⟨rfl, x3⟩
      have hb3 : Below w.heap.size w w3 := hb.trans (x3.mono hsz)
      have R3 := R.below x3 R.lt
      cases he : isName a
      case true =>
        have E3 : Hid (params.all isName = (params.drop (k + 1)).all isName) := by
          have h1 := HA.out
          rw [drop_cons hkl HL.out, List.all_cons, he, Bool.true_and] at h1
          exact h1
        clear HA
        go_wp2_with fail
        go_roundw
        case rel => exact ⟨k + 1, by omega, by go_num, E3, R3, hb3⟩
        case measure => simp [intOf]; omega
      case false =>
        have E : Hid (fnB ⟨name, params, body⟩ = false) := by
          have h1 := HA.out
          rw [drop_cons hkl HL.out, List.all_cons, he, Bool.false_and] at h1
          show (params.all isName && _) = _
          rw [h1]
          rfl
        clear HA
        go_wp2_with fail
        go_ret
        exact RetV.mk (by rw [E.out] <;> rfl) rfl hb3
    · have E0 : Hid (fnB ⟨name, params, body⟩ = (isName name && (decide (params.length ≤ 3) && body.all (stB 4)))) := by
        have h1 := HA.out
        rw [List.drop_eq_nil_of_le (by omega), List.all_nil] at h1
        show (params.all isName && _) = _
        rw [h1]
        rfl
      clear HA
      go_wp2_with fail
      refine (spec_IsName name _ hnm).mono ?_
      rintro e w3 ⟨rfl, x3⟩
      have hb3 : Below w.heap.size w w3 := hb.trans (x3.mono hsz)
      have R3 := R.below x3 R.lt
      have z0 : w3.cell? ⟨w.heap.size, 0, none⟩ = some (.string name) := R3.cell 0
      have z1 : w3.cell? ⟨w.heap.size, 1, none⟩ = some (.slice A1 params.length p1) := R3.cell 1
      have z2 : w3.cell? ⟨w.heap.size, 2, none⟩ = some (.slice A2 body.length p2) := R3.cell 2
      clear y0 y1 y2
      cases hi : isName name
      case false =>
        have E : Hid (fnB ⟨name, params, body⟩ = false) := by show _ = _; rw [E0.out, hi]; rfl
        go_wp2_with fail
        go_ret
        exact RetV.mk (by rw [E.out] <;> rfl) rfl hb3
      by_cases hp : params.length ≤ 3
      case neg =>
        have E : Hid (fnB ⟨name, params, body⟩ = false) := by show _ = _; rw [E0.out, decide_eq_false hp]; simp
        have q : decide ((params.length : Int) ≤ 3) = false := decide_eq_false (by omega)
        go_wp2_with fail
        go_ret
        exact RetV.mk (by rw [E.out] <;> rfl) rfl hb3
      have E : Hid (fnB ⟨name, params, body⟩ = body.all (stB 4)) := by show _ = _; rw [E0.out, hi, decide_eq_true hp]; rfl
      have q : (params.length : Int) ≤ 3 := by omega
      have HPL := Lib.hid hp
      clear hp
      go_wp2_with fail
      refine (spec_l3Stmts 4 (by omega) d body _ _ lo B (Nat.le_trans hB hb3.size) (h2.below hb3 hB)).mono ?_
      rintro e w4 ⟨rfl, x4⟩
      have hb4 : Below w.heap.size w w4 := hb3.trans (x4.mono hb3.size)
      go_wp2_with fail
      go_ret
      exact RetV.mk (by rw [E.out] <;> rfl) rfl hb4

set_option maxRecDepth 100000 in
set_option maxHeartbeats 4000000 in
theorem spec_l3All (d : Nat) (fns : List FnD) (v0 : Value) (w : World) (lo B : Nat) (hB : B ≤ w.heap.size) (hN : fns.length + sumBy fnN fns ≤ 1048576) (h0 : Sl false (fnS false d) w lo B fns v0) :
    Calls Tryz.prog 24 #[.agg #[v0]] w (RetV (.int .i64 (cnP fns : Nat)) w) := by
  obtain ⟨A, p, hf, hl1, hl2⟩ := h0.form
  subst hf
  have hb0 : Below w.heap.size w (w.alloc (.cells #[.slice A fns.length p] 30)) := (Below.refl _ _).alloc (Nat.le_refl _) _
  have R0 : Row (w.alloc (.cells #[.slice A fns.length p] 30)) w.heap.size 30 #[.slice A fns.length p] := Row.new w _ _
  have hcs := cnP_size fns
  go_enter Tryz.func24, Tryz.ntmps24
  go_wp2_with fail
  go_loopw [3, 4] (fun n i wr => ∃ k c : Nat, k ≤ fns.length ∧ n = .int .i64 (c : Int) ∧ i = .int .i64 (k : Int) ∧ c + cnP (fns.drop k) = cnP fns ∧ Row wr w.heap.size 30 #[.slice A fns.length p] ∧ Below w.heap.size w wr) (fun _ i _ => fns.length - (intOf i).toNat)
  case atStart => exact ⟨0, 0, by omega, rfl, rfl, by rw [List.drop_zero]; omega, R0, hb0⟩
  case round =>
    obtain ⟨k, c, hk, rfl, rfl, HC, R, hb⟩ := hrel
    have hsz := hb.size
    have y0 : wr.cell? ⟨w.heap.size, 0, none⟩ = some (.slice A fns.length p) := R.cell 0
    by_cases hkl : k < fns.length
    · obtain ⟨b, o, name, params, v1, body, v2, rfl, _, hbB, HL, g0, g1, g2, c0, c1, c2⟩ := fn_get d (h0.below hb hB) hkl
      obtain ⟨A1, p1, hf, _, _⟩ := g1.form
      change _ = Value.slice A1 params.length p1 at hf
      subst hf
      obtain ⟨A2, p2, hf, _, _⟩ := g2.form
      change _ = Value.slice A2 body.length p2 at hf
      subst hf
      have hkn : (k : Int) < (fns.length : Int) := by omega
      have hki : (0 : Int) ≤ (k : Int) := by omega
      rw [drop_cons hkl HL.out, cnP_cons] at HC
      obtain ⟨cb, hcb⟩ : ∃ x, cnL body = x := ⟨_, rfl⟩
      rw [show (FnD.mk name params body).body = body from rfl, hcb] at HC
      have HB := Lib.hid hcb
      clear hcb
      go_wp2_with fail
      refine (count_ok d body _ _ lo B (Nat.le_trans hB hsz) g2 (by rw [HB.out]; omega)).mono ?_
      rw [HB.out]
      rintro e w3 ⟨rfl, x3⟩
      have hb3 : Below w.heap.size w w3 := hb.trans (x3.mono hsz)
      go_wp2_with fail
      go_roundw
      case rel => exact ⟨k + 1, c + cb, by omega, by go_num, by go_num, by omega, R.below x3 R.lt, hb3⟩
      case measure => simp [intOf]; omega
    · have E : Hid (c = cnP fns) := by
        rw [List.drop_eq_nil_of_le (by omega)] at HC
        show _ = _
        rw [← HC]
        rfl
      clear HC hcs
      go_wp2_with fail
      go_ret
      exact RetV.mk (by rw [E.out] <;> rfl) rfl hb

set_option maxRecDepth 100000 in
set_option maxHeartbeats 4000000 in
theorem spec_ProgramValid (d : Nat) (fns : List FnD) (v0 : Value) (w : World) (lo B : Nat) (hB : B ≤ w.heap.size) (hN : fns.length + sumBy fnN fns ≤ 1048576) (h0 : Sl false (fnS false d) w lo B fns v0) :
    Calls Tryz.prog 10 #[.agg #[v0]] w (RetV (.bool (prB ⟨fns⟩)) w) := by
  obtain ⟨A, p, hf, hl1, hl2⟩ := h0.form
  subst hf
  have hb0 : Below w.heap.size w (w.alloc (.cells #[.slice A fns.length p] 30)) := (Below.refl _ _).alloc (Nat.le_refl _) _
  have R0 : Row (w.alloc (.cells #[.slice A fns.length p] 30)) w.heap.size 30 #[.slice A fns.length p] := Row.new w _ _
  go_enter Tryz.func10, Tryz.ntmps10
  go_wp2_with fail
  refine (spec_l1In (fns.length : Int) 1 4 _).mono ?_
  rintro e w1 ⟨rfl, hw⟩
  subst hw
  by_cases hr : 1 ≤ fns.length ∧ fns.length ≤ 4
  case neg =>
    have q : inB (fns.length : Int) 1 4 = false := decide_eq_false (by omega)
    have E : Hid (prB ⟨fns⟩ = false) := by show _ = _; unfold prB; rw [decide_eq_false hr]; rfl
    rw [q]
    go_wp2_with fail
    go_ret
    exact RetV.mk (by rw [E.out] <;> rfl) rfl hb0
  have q : inB (fns.length : Int) 1 4 = true := decide_eq_true (by omega)
  rw [q]
  have HR := Lib.hid hr
  have E0 : Hid (prB ⟨fns⟩ = (fns.all fnB && decide (cnP fns ≤ 40))) := by show _ = _; unfold prB; rw [decide_eq_true hr]; rfl
  clear hr q
  go_wp2_with fail
  go_loopw [3] (fun i wr => ∃ k : Nat, k ≤ fns.length ∧ i = .int .i64 k ∧ Hid (fns.all fnB = (fns.drop k).all fnB) ∧ Row wr w.heap.size 30 #[.slice A fns.length p] ∧ Below w.heap.size w wr) (fun i _ => fns.length - (intOf i).toNat)
  case atStart => exact ⟨0, by omega, rfl, (show _ = _ from rfl), R0, hb0⟩
  case round =>
    obtain ⟨k, hk, rfl, HA, R, hb⟩ := hrel
    have hsz := hb.size
    have y0 : wr.cell? ⟨w.heap.size, 0, none⟩ = some (.slice A fns.length p) := R.cell 0
    by_cases hkl : k < fns.length
    · obtain ⟨b, o, name, params, v1, body, v2, rfl, _, hbB, HL, g0, g1, g2, c0, c1, c2⟩ := fn_get d (h0.below hb hB) hkl
      obtain ⟨A1, p1, hf, _, _⟩ := g1.form
      change _ = Value.slice A1 params.length p1 at hf
      subst hf
      obtain ⟨A2, p2, hf, _, _⟩ := g2.form
      change _ = Value.slice A2 body.length p2 at hf
      subst hf
      have hkn : (k : Int) < (fns.length : Int) := by omega
      have hki : (0 : Int) ≤ (k : Int) := by omega
      go_wp2_with fail
      refine (spec_l3Fn d name params _ body _ _ lo B (Nat.le_trans hB hsz) g0 g1 g2).mono ?_
      rintro e w3 ⟨rfl, x3⟩
      have hb3 : Below w.heap.size w w3 := hb.trans (x3.mono hsz)
      cases he : fnB ⟨name, params, body⟩
      case true =>
        have E3 : Hid (fns.all fnB = (fns.drop (k + 1)).all fnB) := by
          have h1 := HA.out
          rw [drop_cons hkl HL.out, List.all_cons, he, Bool.true_and] at h1
          exact h1
        clear HA
        go_wp2_with fail
        go_roundw
        case rel => exact ⟨k + 1, by omega, by go_num, E3, R.below x3 R.lt, hb3⟩
        case measure => simp [intOf]; omega
      case false =>
        have E : Hid (prB ⟨fns⟩ = false) := by
          have h1 := HA.out
          rw [drop_cons hkl HL.out, List.all_cons, he, Bool.false_and] at h1
          show _ = _
          rw [E0.out, h1]
          rfl
        clear HA
        go_wp2_with fail
        go_ret
        exact RetV.mk (by rw [E.out] <;> rfl) rfl hb3
    · have E : Hid (prB ⟨fns⟩ = decide ((cnP fns : Int) ≤ 40)) := by
        have h1 := HA.out
        rw [List.drop_eq_nil_of_le (by omega), List.all_nil] at h1
        show _ = _
        rw [E0.out, h1, Bool.true_and]
        by_cases h : cnP fns ≤ 40
        · rw [decide_eq_true h, decide_eq_true (by omega)]
        · rw [decide_eq_false h, decide_eq_false (by omega)]
      clear HA
      go_wp2_with fail
      refine (spec_l3All d fns _ _ lo B (Nat.le_trans hB hsz) hN (h0.below hb hB)).mono ?_
      rintro e w3 ⟨rfl, x3⟩
      have hb3 : Below w.heap.size w w3 := hb.trans (x3.mono hsz)
      go_wp2_with fail
      go_ret
      exact RetV.mk (by rw [E.out] <;> rfl) rfl hb3

end Go.Proofs.YtbikgakoeheahaaGreatDoor
