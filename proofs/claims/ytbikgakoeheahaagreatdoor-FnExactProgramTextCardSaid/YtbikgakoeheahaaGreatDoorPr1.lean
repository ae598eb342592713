/-
  Programs, by the reference: how many statements there are, how deep they lie. Conditions: the argument reads as data; it is no great one.
-/
import Derived.Test.YtbikgakoeheahaaGreatDoorStP
import Derived.Test.YtbikgakoeheahaaGreatDoorReg
import Derived.Deep.RegionHeld3
namespace Go.Proofs.YtbikgakoeheahaaGreatDoor
open Go.RowKit Go.ChangeShapes Go.WideShapes Go.Deep
set_option linter.unusedVariables false
set_option linter.unusedSimpArgs false
theorem wrapP {x : Int} (h1 : -9223372036854775808 ≤ x) (h2 : x ≤ 9223372036854775807) : IntKind.i64.wrap x = x := by rw [IntKind.wrap_i64]; omega
/-- the statements in these, these aside -/
def rsL (l : List St) : Nat := (l.map fun s => cnS s - 1).sum
theorem rsL_cons (op : Int) (name : ByteArray) (args : List Ex) (body els : List St) (r : List St) : rsL (.mk op name args body els :: r) = (cnL body + cnL els) + rsL r := by
  unfold rsL
  rw [List.map_cons, List.sum_cons, cnS]
  omega
theorem cnL_rs (l : List St) : cnL l = l.length + rsL l := cnL_le l
theorem nsS_mk (op : Int) (name : ByteArray) (args : List Ex) (body els : List St) : nsS (.mk op name args body els) = 1 + max (nsL body) (nsL els) := by rw [nsS]
theorem nsL_cons (s : St) (r : List St) : nsL (s :: r) = max (nsS s) (nsL r) := by rw [nsL]
theorem nsL_le (l : List St) : nsL l ≤ cnL l := nsL_cn l
theorem cnL_mem {s : St} {l : List St} (h : s ∈ l) : cnS s ≤ cnL l := by
  induction l with
  | nil => cases h
  | cons a r ih =>
    rw [cnL]
    rcases List.mem_cons.1 h with rfl | h
    · omega
    · have := ih h; omega
def CountAt (d : Nat) : Prop := ∀ (l : List St) (v : Value) (w : World) (lo B : Nat) (_ : B ≤ w.heap.size) (_ : Sl false (stS false d) w lo B l v) (_ : cnL l ≤ 4194304), Calls Tryz.prog 43 #[v] w (RetV (.int .i64 (cnL l : Nat)) w)
set_option maxRecDepth 100000 in
set_option maxHeartbeats 4000000 in
theorem count_step (d : Nat) (ih : ∀ d', d = d' + 1 → CountAt d') : CountAt d := by
  intro l v w lo B hB hv hc
  obtain ⟨A, p, hf, hl1, hl2⟩ := hv.form
  subst hf
  have hcl := cnL_rs l
  go_enter Tryz.func43, Tryz.ntmps43
  go_wp2_with fail
  go_loopw [3, 4] (fun n i wr => ∃ k c : Nat, k ≤ l.length ∧ n = .int .i64 (c : Int) ∧ i = .int .i64 (k : Int) ∧ c + rsL (l.drop k) = cnL l ∧ Below w.heap.size w wr) (fun _ i _ => l.length - (intOf i).toNat)
  case atStart => exact ⟨0, l.length, by omega, rfl, rfl, by rw [List.drop_zero]; omega, Below.refl _ _⟩
  case round =>
    obtain ⟨k, c, hk, rfl, rfl, HC, hb⟩ := hrel
    have hsz := hb.size
    by_cases hkl : k < l.length
    · obtain ⟨d', rfl⟩ := stS_pos hv (by omega)
      obtain ⟨b, o, op, name, args, v2, body, v3, els, v4, rfl, _, hbB, HL, g0, g1, g2, g3, g4, c0, c1, c2, c3, c4⟩ := st_get d' (hv.below hb hB) hkl
      obtain ⟨A2, p2, hf, _, _⟩ := g2.form
      change _ = Value.slice A2 args.length p2 at hf
      subst hf
      obtain ⟨A3, p3, hf, _, _⟩ := g3.form
      change _ = Value.slice A3 body.length p3 at hf
      subst hf
      obtain ⟨A4, p4, hf, _, _⟩ := g4.form
      change _ = Value.slice A4 els.length p4 at hf
      subst hf
      have hkn : (k : Int) < (l.length : Int) := by omega
      have hki : (0 : Int) ≤ (k : Int) := by omega
      rw [drop_cons hkl HL.out, rsL_cons] at HC
      obtain ⟨cb, hcb⟩ : ∃ x, cnL body = x := ⟨_, rfl⟩
      obtain ⟨ce, hce⟩ : ∃ x, cnL els = x := ⟨_, rfl⟩
      rw [hcb, hce] at HC
      have HB := Lib.hid hcb
      have HE := Lib.hid hce
      clear hcb hce hcl
      go_wp2_with fail
      have s3 : wr.drew.cell? ⟨b, o + k * 5 + 3, none⟩ = some (.slice A3 body.length p3) := c3
      have s4 : wr.drew.cell? ⟨b, o + k * 5 + 4, none⟩ = some (.slice A4 els.length p4) := c4
      have e0 : Below w.heap.size w wr.drew := hb.drew
      have e0w : Below wr.heap.size wr wr.drew := (Below.refl _ _).drew
      refine wp_region_held_drew (S := fun w' => (w'.cell? ⟨b, o + k * 5 + 3, none⟩ = some (.slice A3 body.length p3) ∧ w'.cell? ⟨b, o + k * 5 + 4, none⟩ = some (.slice A4 els.length p4))) (by kernel_rfl) ?_ (fun hHeld => ?_)
      · exact ⟨s3, s4⟩
      generalize wr.drew = wd at hHeld s3 s4 e0 e0w ⊢
      refine reg_take (i := 0) (v := ?v1) rfl (by kernel_rfl) (by kernel_rfl) (by kernel_rfl) (fun _ _ _ h => h) (Or.inl ⟨by kernel_rfl, ?h1⟩) (by assumption) ?r1
      case h1 => (intro w hSw; (try dsimp only at hSw); go_simp; try with_reducible rfl)
      try simp only [Act.put, List.setIfInBounds_toArray, List.set_cons_zero, List.set_cons_succ]
      refine reg_take (i := 1) (v := ?v2) rfl (by kernel_rfl) (by kernel_rfl) (by kernel_rfl) (fun _ _ _ h => h) (Or.inl ⟨by kernel_rfl, ?h2⟩) (by assumption) ?r2
      case h2 => (intro w hSw; (try dsimp only at hSw); go_simp; try with_reducible rfl)
      try simp only [Act.put, List.setIfInBounds_toArray, List.set_cons_zero, List.set_cons_succ]
      refine reg_take (i := 2) (v := ?v3) rfl (by kernel_rfl) (by kernel_rfl) (by kernel_rfl) (fun _ _ _ h => h) (Or.inl ⟨by kernel_rfl, ?h3⟩) (by assumption) ?r3
      case h3 => (intro w hSw; (try dsimp only at hSw); go_simp; try with_reducible rfl)
      try simp only [Act.put, List.setIfInBounds_toArray, List.set_cons_zero, List.set_cons_succ]
      refine reg_take (i := 3) (v := ?v4) rfl (by kernel_rfl) (by kernel_rfl) (by kernel_rfl) (fun _ _ _ h => h) (Or.inl ⟨by kernel_rfl, ?h4⟩) (by assumption) ?r4
      case h4 => (intro w hSw; (try dsimp only at hSw); go_simp; try with_reducible rfl)
      try simp only [Act.put, List.setIfInBounds_toArray, List.set_cons_zero, List.set_cons_succ]
      refine reg_take (i := 4) (v := ?v5) rfl (by kernel_rfl) (by kernel_rfl) (by kernel_rfl) (fun _ _ _ h => h) (Or.inl ⟨by kernel_rfl, ?h5⟩) (by assumption) ?r5
      case h5 => (intro w hSw; (try dsimp only at hSw); go_simp; try with_reducible rfl)
      try simp only [Act.put, List.setIfInBounds_toArray, List.set_cons_zero, List.set_cons_succ]
      refine reg_take (i := 5) (v := ?v6) rfl (by kernel_rfl) (by kernel_rfl) (by kernel_rfl) (fun _ _ _ h => h) (Or.inl ⟨by kernel_rfl, ?h6⟩) (by assumption) ?r6
      case h6 => (intro w hSw; (try dsimp only at hSw); go_simp; try with_reducible rfl)
      try simp only [Act.put, List.setIfInBounds_toArray, List.set_cons_zero, List.set_cons_succ]
      refine reg_take (i := 8) (v := ?v7) rfl (by kernel_rfl) (by kernel_rfl) (by kernel_rfl) (fun _ _ _ h => h) (Or.inl ⟨by kernel_rfl, ?h7⟩) (by assumption) ?r7
      case h7 => (intro w hSw; (try dsimp only at hSw); go_simp; try with_reducible rfl)
      try simp only [Act.put, List.setIfInBounds_toArray, List.set_cons_zero, List.set_cons_succ]
      refine reg_take (i := 9) (v := ?v8) rfl (by kernel_rfl) (by kernel_rfl) (by kernel_rfl) (fun _ _ _ h => h) (Or.inl ⟨by kernel_rfl, ?h8⟩) (by assumption) ?r8
      case h8 => (intro w hSw; (try dsimp only at hSw); go_simp; try with_reducible rfl)
      try simp only [Act.put, List.setIfInBounds_toArray, List.set_cons_zero, List.set_cons_succ]
      refine reg_take (i := 10) (v := ?v9) rfl (by kernel_rfl) (by kernel_rfl) (by kernel_rfl) (fun _ _ _ h => h) (Or.inl ⟨by kernel_rfl, ?h9⟩) (by assumption) ?r9
      case h9 => (intro w hSw; (try dsimp only at hSw); go_simp; try with_reducible rfl)
      try simp only [Act.put, List.setIfInBounds_toArray, List.set_cons_zero, List.set_cons_succ]
      refine reg_take (i := 11) (v := ?v10) rfl (by kernel_rfl) (by kernel_rfl) (by kernel_rfl) (fun _ _ _ h => h) (Or.inl ⟨by kernel_rfl, ?h10⟩) (by assumption) ?r10
      case h10 => (intro w hSw; (try dsimp only at hSw); go_simp; try with_reducible rfl)
      try simp only [Act.put, List.setIfInBounds_toArray, List.set_cons_zero, List.set_cons_succ]
      refine reg_take (i := 12) (v := ?v11) rfl (by kernel_rfl) (by kernel_rfl) (by kernel_rfl) (fun _ _ _ h => h) (Or.inl ⟨by kernel_rfl, ?h11⟩) (by assumption) ?r11
      case h11 => (intro w hSw; (try dsimp only at hSw); go_simp; try with_reducible rfl)
      try simp only [Act.put, List.setIfInBounds_toArray, List.set_cons_zero, List.set_cons_succ]
      refine reg_call (i := 6) (by kernel_rfl) rfl (fun K hK => ?_)
      go_simp
      refine (ih d' rfl body (.slice A3 body.length p3) _ lo B (Nat.le_trans hB e0.size) (g3.below e0w (Nat.le_trans hB hsz)) (by rw [HB.out]; omega)).mono ?_
      rw [HB.out]
      rintro e v1 ⟨rfl, x1⟩
      have e1 := e0.trans (x1.mono e0.size)
      have e1w := e0w.trans (x1.mono e0w.size)
      have s3 : v1.cell? ⟨b, o + k * 5 + 3, none⟩ = some (.slice A3 body.length p3) := (x1.cell (p := ⟨b, o + k * 5 + 3, none⟩) (Nat.lt_of_lt_of_le hbB (Nat.le_trans hB e0.size))).trans s3
      have s4 : v1.cell? ⟨b, o + k * 5 + 4, none⟩ = some (.slice A4 els.length p4) := (x1.cell (p := ⟨b, o + k * 5 + 4, none⟩) (Nat.lt_of_lt_of_le hbB (Nat.le_trans hB e0.size))).trans s4
      refine hK.out _ _ ?_ (fun hHeld => ?_)
      · exact ⟨s3, s4⟩
      clear hK K
      try simp only [Act.put, List.setIfInBounds_toArray, List.set_cons_zero, List.set_cons_succ]
      refine reg_take (i := 7) (v := ?v13) rfl (by kernel_rfl) (by kernel_rfl) (by kernel_rfl) (fun _ _ _ h => h) (Or.inl ⟨by kernel_rfl, ?h13⟩) (by assumption) ?r13
      case h13 => (intro w hSw; (try dsimp only at hSw); go_simp; try with_reducible rfl)
      try simp only [Act.put, List.setIfInBounds_toArray, List.set_cons_zero, List.set_cons_succ]
      refine reg_call (i := 13) (by kernel_rfl) rfl (fun K hK => ?_)
      go_simp
      refine (ih d' rfl els (.slice A4 els.length p4) _ lo B (Nat.le_trans hB e1.size) (g4.below e1w (Nat.le_trans hB hsz)) (by rw [HE.out]; omega)).mono ?_
      rw [HE.out]
      rintro e v2 ⟨rfl, x2⟩
      have e2 := e1.trans (x2.mono e1.size)
      have s3 : v2.cell? ⟨b, o + k * 5 + 3, none⟩ = some (.slice A3 body.length p3) := (x2.cell (p := ⟨b, o + k * 5 + 3, none⟩) (Nat.lt_of_lt_of_le hbB (Nat.le_trans hB e1.size))).trans s3
      have s4 : v2.cell? ⟨b, o + k * 5 + 4, none⟩ = some (.slice A4 els.length p4) := (x2.cell (p := ⟨b, o + k * 5 + 4, none⟩) (Nat.lt_of_lt_of_le hbB (Nat.le_trans hB e1.size))).trans s4
      refine hK.out _ _ ?_ (fun hHeld => ?_)
      · exact ⟨s3, s4⟩
      clear hK K
      try simp only [Act.put, List.setIfInBounds_toArray, List.set_cons_zero, List.set_cons_succ]
      refine reg_take (i := 14) (v := ?v15) rfl (by kernel_rfl) (by kernel_rfl) (by kernel_rfl) (fun _ _ _ h => h) (Or.inl ⟨by kernel_rfl, ?h15⟩) (by assumption) ?r15
      case h15 => (intro w hSw; (try dsimp only at hSw); go_simp; try with_reducible rfl)
      try simp only [Act.put, List.setIfInBounds_toArray, List.set_cons_zero, List.set_cons_succ]
      refine reg_take (i := 15) (v := ?v16) rfl (by kernel_rfl) (by kernel_rfl) (by kernel_rfl) (fun _ _ _ h => h) (Or.inl ⟨by kernel_rfl, ?h16⟩) (by assumption) ?r16
      case h16 => (intro w hSw; (try dsimp only at hSw); go_simp; try with_reducible rfl)
      try simp only [Act.put, List.setIfInBounds_toArray, List.set_cons_zero, List.set_cons_succ]
      refine wpAnyH_done (by kernel_rfl) ?_ _
      go_wp2_with fail
      go_roundw
      case rel => exact ⟨k + 1, c + cb + ce, by omega, by (rw [wrapP (x := (c : Int) + (cb : Int)) (by omega) (by omega), wrapP (by omega) (by omega)]; go_num), by go_num, by omega, e2⟩
      case measure => simp [intOf]; omega
    · have E : Hid (c = cnL l) := by
        rw [List.drop_eq_nil_of_le (by omega)] at HC
        show _ = _
        rw [← HC]
        rfl
      clear HC hcl
      go_wp2_with fail
      go_ret
      exact RetV.mk (by rw [E.out] <;> rfl) rfl hb
theorem count_ok : ∀ d : Nat, CountAt d
  | 0 => count_step 0 (fun _ h => by cases h)
  | d + 1 => count_step (d + 1) (fun d' h => by obtain rfl : d = d' := by omega
                                                exact count_ok d)
end Go.Proofs.YtbikgakoeheahaaGreatDoor

