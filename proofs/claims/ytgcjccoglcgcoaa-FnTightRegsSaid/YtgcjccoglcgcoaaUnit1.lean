/-
  The small functions behind UnitValid. Conditions stand at each.
-/
import Derived.Test.YtgcjccoglcgcoaaUnit
import Derived.Test.YtgcjccoglcgcoaaHeldA
import Derived.Deep.QuietTactic
import Derived.BigQuiet
import Derived.IntWalk
namespace Go.Proofs.Ytgcjccoglcgcoaa
open Go.RowKit Go.ChangeShapes Go.WideShapes Go.Deep
set_option linter.unusedVariables false
set_option linter.unusedSimpArgs false
theorem impl_isIns (op : Int) (w : World) : Calls Try.prog 90 #[.int .i64 op] w (RetW (.bool (inB op 1 14)) w) := by
  go_enter Try.func90, Try.ntmps90
  go_wp2_with fail
  refine (impl_within op 1 14 _).mono ?_
  rintro e w' ⟨rfl, rfl⟩
  go_wp2_with fail
  go_ret
  exact ⟨rfl, rfl⟩
theorem impl_isByte (n : Int) (w : World) : Calls Try.prog 92 #[.int .i64 n] w (RetW (.bool (inB n 0 255)) w) := by
  go_enter Try.func92, Try.ntmps92
  go_wp2_with fail
  refine (impl_within n 0 255 _).mono ?_
  rintro e w' ⟨rfl, rfl⟩
  go_wp2_with fail
  go_ret
  exact ⟨rfl, rfl⟩
theorem setsB_in {op : Int} (h : inB op 1 14 = false) : setsB op = false := by unfold setsB; rw [h]; rfl
theorem setsB_yes {op : Int} (h : inB op 1 14 = true) (h1 : op ≠ 12) (h2 : op ≠ 13) : setsB op = true := by unfold setsB; rw [h, decide_eq_true h1, decide_eq_true h2]; rfl
theorem impl_sets (op : Int) (w : World) : Calls Try.prog 72 #[.int .i64 op] w (RetW (.bool (setsB op)) w) := by
  go_enter Try.func72, Try.ntmps72
  go_wp2_with fail
  refine (impl_isIns op _).mono ?_
  rintro e w' ⟨rfl, rfl⟩
  cases hi : inB op 1 14
  · go_wp2_with fail
    go_ret
    exact RetW.mk (by rw [setsB_in hi]; rfl) rfl
  · by_cases h12 : op = 12
    · subst h12
      go_wp2_with fail
      go_ret
      exact RetW.mk rfl rfl
    · have n12 : (op != 12) = true := by simpa using h12
      by_cases h13 : op = 13
      · subst h13
        go_wp2_with fail
        go_ret
        exact RetW.mk rfl rfl
      · have n13 : (op != 13) = true := by simpa using h13
        go_wp2_with fail
        go_ret
        exact RetW.mk (by rw [setsB_yes hi h12 h13]; rfl) rfl
theorem spec_l7Makes (op : Int) (w : World) : Calls Try.prog 38 #[.int .i64 op] w (RetW (.bool (setsB op)) w) := by
  go_enter Try.func38, Try.ntmps38
  go_wp2_with fail
  refine (spec_l1In op 1 14 _).mono ?_
  rintro e w' ⟨rfl, rfl⟩
  cases hi : inB op 1 14
  · go_wp2_with fail
    go_ret
    exact RetW.mk (by rw [setsB_in hi]; rfl) rfl
  · by_cases h12 : op = 12
    · subst h12
      go_wp2_with fail
      go_ret
      exact RetW.mk rfl rfl
    · have n12 : (op != 12) = true := by simpa using h12
      by_cases h13 : op = 13
      · subst h13
        go_wp2_with fail
        go_ret
        exact RetW.mk rfl rfl
      · have n13 : (op != 13) = true := by simpa using h13
        go_wp2_with fail
        go_ret
        exact RetW.mk (by rw [setsB_yes hi h12 h13]; rfl) rfl
theorem impl_insArgs (op : Int) (w : World) : Calls Try.prog 93 #[.int .i64 op] w (RetW (.int .i64 (argsN op)) w) := by
  by_cases h1 : op = 1
  · subst h1
    go_enter Try.func93, Try.ntmps93
    go_wp2_with fail
    go_ret
    exact RetW.mk rfl rfl
  · have e1 : (op == 1) = false := by simpa using h1
    have n1 : (op != 1) = true := by simpa using h1
    by_cases h2 : op = 2
    · subst h2
      go_enter Try.func93, Try.ntmps93
      go_wp2_with fail
      go_ret
      exact RetW.mk rfl rfl
    · have e2 : (op == 2) = false := by simpa using h2
      have n2 : (op != 2) = true := by simpa using h2
      by_cases h10 : op = 10
      · subst h10
        go_enter Try.func93, Try.ntmps93
        go_wp2_with fail
        go_ret
        exact RetW.mk rfl rfl
      · have e10 : (op == 10) = false := by simpa using h10
        have n10 : (op != 10) = true := by simpa using h10
        by_cases h11 : op = 11
        · subst h11
          go_enter Try.func93, Try.ntmps93
          go_wp2_with fail
          go_ret
          exact RetW.mk rfl rfl
        · have e11 : (op == 11) = false := by simpa using h11
          have n11 : (op != 11) = true := by simpa using h11
          by_cases h13 : op = 13
          · subst h13
            go_enter Try.func93, Try.ntmps93
            go_wp2_with fail
            go_ret
            exact RetW.mk rfl rfl
          · have e13 : (op == 13) = false := by simpa using h13
            have n13 : (op != 13) = true := by simpa using h13
            go_enter Try.func93, Try.ntmps93
            go_wp2_with fail
            go_ret
            exact RetW.mk (by unfold argsN; rw [if_neg h1, if_neg (by omega)]; rfl) rfl
theorem impl_nextCount (j : Int) (w : World) : Calls Try.prog 55 #[.int .i64 j] w (RetW (.int .i64 (nextN j)) w) := by
  by_cases h1 : j = 1
  · subst h1
    go_enter Try.func55, Try.ntmps55
    go_wp2_with fail
    go_ret
    exact RetW.mk rfl rfl
  · have e1 : (j == 1) = false := by simpa using h1
    have n1 : (j != 1) = true := by simpa using h1
    by_cases h2 : j = 2
    · subst h2
      go_enter Try.func55, Try.ntmps55
      go_wp2_with fail
      go_ret
      exact RetW.mk rfl rfl
    · have e2 : (j == 2) = false := by simpa using h2
      have n2 : (j != 2) = true := by simpa using h2
      by_cases h3 : j = 3
      · subst h3
        go_enter Try.func55, Try.ntmps55
        go_wp2_with fail
        go_ret
        exact RetW.mk rfl rfl
      · have e3 : (j == 3) = false := by simpa using h3
        have n3 : (j != 3) = true := by simpa using h3
        go_enter Try.func55, Try.ntmps55
        go_wp2_with fail
        go_ret
        exact RetW.mk (by unfold nextN; rw [if_neg h1, if_neg h2, if_neg h3]; rfl) rfl
theorem impl_usesOn (j : Int) (w : World) : Calls Try.prog 56 #[.int .i64 j] w (RetW (.bool (usesOnB j)) w) := by
  by_cases h2 : j = 2
  · subst h2
    go_enter Try.func56, Try.ntmps56
    go_wp2_with fail
    go_ret
    exact RetW.mk rfl rfl
  · have e2 : (j == 2) = false := by simpa using h2
    have n2 : (j != 2) = true := by simpa using h2
    by_cases h3 : j = 3
    · subst h3
      go_enter Try.func56, Try.ntmps56
      go_wp2_with fail
      go_ret
      exact RetW.mk rfl rfl
    · have e3 : (j == 3) = false := by simpa using h3
      have n3 : (j != 3) = true := by simpa using h3
      go_enter Try.func56, Try.ntmps56
      go_wp2_with fail
      go_ret
      exact RetW.mk (by unfold usesOnB; rw [decide_eq_false h2, decide_eq_false h3]; rfl) rfl
theorem drop_allI {l : List Int} {p : Int → Bool} {k : Nat} {a : Int} (h : k < l.length) (ha : l[k] = a) : (l.drop k).all p = (p a && (l.drop (k + 1)).all p) := by rw [drop_cons h ha, List.all_cons]
set_option maxRecDepth 100000 in
/-- are all registers? (the model's loop) -/
theorem spec_l7Regs (params regs : Int) (vb : Value) (l : List Int) (v : Value) (w : World) (lo B : Nat) (hB : B ≤ w.heap.size) (hr : 0 ≤ regs ∧ regs ≤ 300) (hv : Sl false (intS false) w lo B l v) :
    Calls Try.prog 67 #[.agg #[.int .i64 params, .int .i64 regs, vb], v] w (RetV (.bool (l.all (regB regs))) w) := by
  obtain ⟨A, cap, rfl, hlc, hcm⟩ := hv.form
  have hb0 : Below w.heap.size w (w.alloc (.cells #[.int .i64 params, .int .i64 regs, vb] 39)) := (Below.refl _ _).alloc (Nat.le_refl _) _
  have P0 : Row (w.alloc (.cells #[.int .i64 params, .int .i64 regs, vb] 39)) w.heap.size 39 #[.int .i64 params, .int .i64 regs, vb] := Row.new w _ _
  go_enter Try.func67, Try.ntmps67
  go_wp2_with fail
  go_loopw [5] (fun i wr => ∃ k : Nat, k ≤ l.length ∧ i = .int .i64 k ∧ Hid (l.all (regB regs) = (l.drop k).all (regB regs)) ∧ Below w.heap.size w wr ∧ Row wr w.heap.size 39 #[.int .i64 params, .int .i64 regs, vb]) (fun i _ => l.length - (intOf i).toNat)
  case atStart => exact ⟨0, by omega, rfl, (show _ = _ from rfl), hb0, P0⟩
  case round =>
    obtain ⟨k, hk, rfl, HT, hb, P⟩ := hrel
    have y1 : wr.cell? ⟨w.heap.size, 1, none⟩ = some (.int .i64 regs) := P.cell 1
    by_cases hkl : k < l.length
    · obtain ⟨b, o, a, rfl, _, _, HL, _, c0⟩ := int_get (hv.below hb hB) hkl
      have hkn : (k : Int) < (l.length : Int) := by omega
      have hki : (0 : Int) ≤ (k : Int) := by omega
      have E : Hid (l.all (regB regs) = (inB a 0 (regs - 1) && (l.drop (k + 1)).all (regB regs))) := HT.out.trans (drop_allI hkl HL.out)
      clear HT
      have hwr : IntKind.i64.wrap (regs - 1) = regs - 1 := IntWalk.i64_in _ (by omega)
      cases hi : inB a 0 (regs - 1)
      · rw [hi, Bool.false_and] at E
        go_wp2_with fail
        go_quiet ((go_at_call 35; exact Calls.quiet_of_same ((spec_l1In a 0 (regs - 1) _).mono fun e w' h => ⟨h.1, h.2.symm⟩)))
        rw [hi]
        go_wp2_with fail
        go_ret
        exact RetV.mk (by rw [E.out] <;> rfl) rfl (below_drewN hb _)
      · rw [hi, Bool.true_and] at E
        go_wp2_with fail
        go_quiet ((go_at_call 35; exact Calls.quiet_of_same ((spec_l1In a 0 (regs - 1) _).mono fun e w' h => ⟨h.1, h.2.symm⟩)))
        rw [hi]
        go_wp2_with fail
        go_roundw
        case rel => exact ⟨k + 1, by omega, by go_num, E, below_drewN hb _, P⟩
        case measure => simp [intOf]; omega
    · have E : Hid (l.all (regB regs) = true) := HT.out.trans (by rw [List.drop_of_length_le (by omega)]; rfl)
      clear HT
      go_wp2_with fail
      go_ret
      exact RetV.mk (by rw [E.out] <;> rfl) rfl hb
/-- the closure reg of a code: captures the code's place -/
theorem reg_1 (f : Nat) (hf : f = 89 ∨ f = 54) (r params regs : Int) (vb : Value) (gc : Nat) (w : World) (hr : 0 ≤ regs ∧ regs ≤ 300) (hc : w.cell? ⟨gc, 1, none⟩ = some (.int .i64 regs)) :
    Calls Try.prog f #[.int .i64 r, .pointer (some ⟨gc, 0, none⟩)] w (RetV (.bool (regB regs r)) w) := by
  rcases hf with rfl | rfl
  · go_enter Try.func89, Try.ntmps89
    go_wp2_with fail
    refine (impl_within r 0 _ _).mono ?_
    rintro e w1 ⟨rfl, rfl⟩
    go_wp2_with fail
    go_ret
    exact ⟨rfl, Below.refl _ _⟩
  · go_enter Try.func54, Try.ntmps54
    go_wp2_with fail
    refine (impl_within r 0 _ _).mono ?_
    rintro e w1 ⟨rfl, rfl⟩
    go_wp2_with fail
    go_ret
    exact ⟨rfl, Below.refl _ _⟩
/-- the closure that asks whether a number is no register: captures the place of reg -/
theorem noreg_2 (f f1 : Nat) (hf : f = 91 ∧ f1 = 89 ∨ f = 63 ∧ f1 = 54) (r params regs : Int) (vb : Value) (gc gr : Nat) (w : World) (hr : 0 ≤ regs ∧ regs ≤ 300) (hc : w.cell? ⟨gc, 1, none⟩ = some (.int .i64 regs)) (hg : w.cell? ⟨gr, 0, none⟩ = some (.func (.func f1) #[] #[.pointer (some ⟨gc, 0, none⟩)])) :
    Calls Try.prog f #[.int .i64 r, .pointer (some ⟨gr, 0, none⟩)] w (RetV (.bool (!regB regs r)) w) := by
  rcases hf with ⟨rfl, rfl⟩ | ⟨rfl, rfl⟩
  · go_enter Try.func91, Try.ntmps91
    go_wp2_with fail
    refine (reg_1 _ (Or.inl rfl) r params regs vb gc _ hr hc).mono ?_
    rintro e w1 ⟨rfl, b1⟩
    go_wp2_with fail
    go_ret
    exact ⟨rfl, b1⟩
  · go_enter Try.func63, Try.ntmps63
    go_wp2_with fail
    refine (reg_1 _ (Or.inr rfl) r params regs vb gc _ hr hc).mono ?_
    rintro e w1 ⟨rfl, b1⟩
    go_wp2_with fail
    go_ret
    exact ⟨rfl, b1⟩
set_option maxRecDepth 100000 in
/-- slices.IndexFunc over numbers, at a closure of one captured place -/
theorem ints_IndexFunc_ins (g : Nat) (p : Int → Bool) (l : List Int) (v : Value) (w : World) (lo B : Nat) (hB : B ≤ w.heap.size) (hv : Sl false (intS false) w lo B l v)
    (HP : Hid (∀ (wr : World) (a : Int), Below w.heap.size w wr → I64 a → Calls Try.prog 91 #[.int .i64 a, .pointer (some ⟨g, 0, none⟩)] wr (RetV (.bool (p a)) wr))) :
    Calls Try.prog 87 #[v, .func (.func 91) #[] #[.pointer (some ⟨g, 0, none⟩)]] w (RetV (.int .i64 (firstIdx p l)) w) := by
  obtain ⟨A, cap, rfl, hlc, hcm⟩ := hv.form
  go_enter Try.func87, Try.ntmps87
  go_wp2_with fail
  go_loopw [8] (fun i wr => ∃ k : Nat, k ≤ l.length ∧ i = .int .i64 k ∧ Hid (firstIdx p l = firstFrom p k (l.drop k)) ∧ Below w.heap.size w wr) (fun i _ => l.length - (intOf i).toNat)
  case atStart => exact ⟨0, by omega, rfl, (show _ = _ from rfl), Below.refl _ _⟩
  case round =>
    obtain ⟨k, hk, rfl, HT, hb⟩ := hrel
    by_cases hkl : k < l.length
    · obtain ⟨b, o, a, rfl, _, _, HL, ha, c0⟩ := int_get (hv.below hb hB) hkl
      have hkn : (k : Int) < (l.length : Int) := by omega
      have hki : (0 : Int) ≤ (k : Int) := by omega
      go_wp2_with fail
      refine (HP.out _ a hb ha).mono ?_
      rintro e w3 ⟨rfl, x3⟩
      have hb3 : Below w.heap.size w w3 := hb.trans (x3.mono hb.size)
      cases he : p a
      · have E : Hid (firstIdx p l = firstFrom p (k + 1) (l.drop (k + 1))) := HT.out.trans (firstFrom_miss hkl HL.out he)
        clear HT
        go_wp2_with fail
        go_roundw
        case rel => exact ⟨k + 1, by omega, by go_num, E, hb3⟩
        case measure => simp [intOf]; omega
      · have E : Hid (firstIdx p l = k) := HT.out.trans (firstFrom_hit hkl HL.out he)
        clear HT
        go_wp2_with fail
        go_ret
        exact RetV.mk (by rw [E.out] <;> rfl) rfl hb3
    · have E : Hid (firstIdx p l = -1) := HT.out.trans (firstFrom_end (by omega))
      clear HT
      go_wp2_with fail
      go_ret
      exact RetV.mk (by rw [E.out] <;> rfl) rfl hb
theorem ints_ContainsFunc_ins (g : Nat) (p : Int → Bool) (l : List Int) (v : Value) (w : World) (lo B : Nat) (hB : B ≤ w.heap.size) (hv : Sl false (intS false) w lo B l v)
    (HP : Hid (∀ (wr : World) (a : Int), Below w.heap.size w wr → I64 a → Calls Try.prog 91 #[.int .i64 a, .pointer (some ⟨g, 0, none⟩)] wr (RetV (.bool (p a)) wr))) :
    Calls Try.prog 57 #[v, .func (.func 91) #[] #[.pointer (some ⟨g, 0, none⟩)]] w (RetV (.bool (l.any p)) w) := by
  have E : Hid (decide (0 ≤ firstIdx p l) = l.any p) := firstIdx_any _ _
  go_enter Try.func57, Try.ntmps57
  go_wp2_with fail
  refine (ints_IndexFunc_ins g p l v _ lo B hB hv HP).mono ?_
  rintro e w1 ⟨rfl, b1⟩
  go_wp2_with fail
  go_ret
  exact RetV.mk (by rw [← E.out] <;> rfl) rfl b1
set_option maxRecDepth 100000 in
/-- slices.IndexFunc over numbers, at a closure of one captured place -/
theorem ints_IndexFunc_phi (g : Nat) (p : Int → Bool) (l : List Int) (v : Value) (w : World) (lo B : Nat) (hB : B ≤ w.heap.size) (hv : Sl false (intS false) w lo B l v)
    (HP : Hid (∀ (wr : World) (a : Int), Below w.heap.size w wr → I64 a → Calls Try.prog 63 #[.int .i64 a, .pointer (some ⟨g, 0, none⟩)] wr (RetV (.bool (p a)) wr))) :
    Calls Try.prog 87 #[v, .func (.func 63) #[] #[.pointer (some ⟨g, 0, none⟩)]] w (RetV (.int .i64 (firstIdx p l)) w) := by
  obtain ⟨A, cap, rfl, hlc, hcm⟩ := hv.form
  go_enter Try.func87, Try.ntmps87
  go_wp2_with fail
  go_loopw [8] (fun i wr => ∃ k : Nat, k ≤ l.length ∧ i = .int .i64 k ∧ Hid (firstIdx p l = firstFrom p k (l.drop k)) ∧ Below w.heap.size w wr) (fun i _ => l.length - (intOf i).toNat)
  case atStart => exact ⟨0, by omega, rfl, (show _ = _ from rfl), Below.refl _ _⟩
  case round =>
    obtain ⟨k, hk, rfl, HT, hb⟩ := hrel
    by_cases hkl : k < l.length
    · obtain ⟨b, o, a, rfl, _, _, HL, ha, c0⟩ := int_get (hv.below hb hB) hkl
      have hkn : (k : Int) < (l.length : Int) := by omega
      have hki : (0 : Int) ≤ (k : Int) := by omega
      go_wp2_with fail
      refine (HP.out _ a hb ha).mono ?_
      rintro e w3 ⟨rfl, x3⟩
      have hb3 : Below w.heap.size w w3 := hb.trans (x3.mono hb.size)
      cases he : p a
      · have E : Hid (firstIdx p l = firstFrom p (k + 1) (l.drop (k + 1))) := HT.out.trans (firstFrom_miss hkl HL.out he)
        clear HT
        go_wp2_with fail
        go_roundw
        case rel => exact ⟨k + 1, by omega, by go_num, E, hb3⟩
        case measure => simp [intOf]; omega
      · have E : Hid (firstIdx p l = k) := HT.out.trans (firstFrom_hit hkl HL.out he)
        clear HT
        go_wp2_with fail
        go_ret
        exact RetV.mk (by rw [E.out] <;> rfl) rfl hb3
    · have E : Hid (firstIdx p l = -1) := HT.out.trans (firstFrom_end (by omega))
      clear HT
      go_wp2_with fail
      go_ret
      exact RetV.mk (by rw [E.out] <;> rfl) rfl hb
theorem ints_ContainsFunc_phi (g : Nat) (p : Int → Bool) (l : List Int) (v : Value) (w : World) (lo B : Nat) (hB : B ≤ w.heap.size) (hv : Sl false (intS false) w lo B l v)
    (HP : Hid (∀ (wr : World) (a : Int), Below w.heap.size w wr → I64 a → Calls Try.prog 63 #[.int .i64 a, .pointer (some ⟨g, 0, none⟩)] wr (RetV (.bool (p a)) wr))) :
    Calls Try.prog 57 #[v, .func (.func 63) #[] #[.pointer (some ⟨g, 0, none⟩)]] w (RetV (.bool (l.any p)) w) := by
  have E : Hid (decide (0 ≤ firstIdx p l) = l.any p) := firstIdx_any _ _
  go_enter Try.func57, Try.ntmps57
  go_wp2_with fail
  refine (ints_IndexFunc_phi g p l v _ lo B hB hv HP).mono ?_
  rintro e w1 ⟨rfl, b1⟩
  go_wp2_with fail
  go_ret
  exact RetV.mk (by rw [← E.out] <;> rfl) rfl b1
set_option maxRecDepth 100000 in
/-- slices.IndexFunc over numbers, at a closure of one captured place -/
theorem ints_IndexFunc_next (g : Nat) (p : Int → Bool) (l : List Int) (v : Value) (w : World) (lo B : Nat) (hB : B ≤ w.heap.size) (hv : Sl false (intS false) w lo B l v)
    (HP : Hid (∀ (wr : World) (a : Int), Below w.heap.size w wr → I64 a → Calls Try.prog 58 #[.int .i64 a, .pointer (some ⟨g, 0, none⟩)] wr (RetV (.bool (p a)) wr))) :
    Calls Try.prog 87 #[v, .func (.func 58) #[] #[.pointer (some ⟨g, 0, none⟩)]] w (RetV (.int .i64 (firstIdx p l)) w) := by
  obtain ⟨A, cap, rfl, hlc, hcm⟩ := hv.form
  go_enter Try.func87, Try.ntmps87
  go_wp2_with fail
  go_loopw [8] (fun i wr => ∃ k : Nat, k ≤ l.length ∧ i = .int .i64 k ∧ Hid (firstIdx p l = firstFrom p k (l.drop k)) ∧ Below w.heap.size w wr) (fun i _ => l.length - (intOf i).toNat)
  case atStart => exact ⟨0, by omega, rfl, (show _ = _ from rfl), Below.refl _ _⟩
  case round =>
    obtain ⟨k, hk, rfl, HT, hb⟩ := hrel
    by_cases hkl : k < l.length
    · obtain ⟨b, o, a, rfl, _, _, HL, ha, c0⟩ := int_get (hv.below hb hB) hkl
      have hkn : (k : Int) < (l.length : Int) := by omega
      have hki : (0 : Int) ≤ (k : Int) := by omega
      go_wp2_with fail
      refine (HP.out _ a hb ha).mono ?_
      rintro e w3 ⟨rfl, x3⟩
      have hb3 : Below w.heap.size w w3 := hb.trans (x3.mono hb.size)
      cases he : p a
      · have E : Hid (firstIdx p l = firstFrom p (k + 1) (l.drop (k + 1))) := HT.out.trans (firstFrom_miss hkl HL.out he)
        clear HT
        go_wp2_with fail
        go_roundw
        case rel => exact ⟨k + 1, by omega, by go_num, E, hb3⟩
        case measure => simp [intOf]; omega
      · have E : Hid (firstIdx p l = k) := HT.out.trans (firstFrom_hit hkl HL.out he)
        clear HT
        go_wp2_with fail
        go_ret
        exact RetV.mk (by rw [E.out] <;> rfl) rfl hb3
    · have E : Hid (firstIdx p l = -1) := HT.out.trans (firstFrom_end (by omega))
      clear HT
      go_wp2_with fail
      go_ret
      exact RetV.mk (by rw [E.out] <;> rfl) rfl hb
theorem ints_ContainsFunc_next (g : Nat) (p : Int → Bool) (l : List Int) (v : Value) (w : World) (lo B : Nat) (hB : B ≤ w.heap.size) (hv : Sl false (intS false) w lo B l v)
    (HP : Hid (∀ (wr : World) (a : Int), Below w.heap.size w wr → I64 a → Calls Try.prog 58 #[.int .i64 a, .pointer (some ⟨g, 0, none⟩)] wr (RetV (.bool (p a)) wr))) :
    Calls Try.prog 57 #[v, .func (.func 58) #[] #[.pointer (some ⟨g, 0, none⟩)]] w (RetV (.bool (l.any p)) w) := by
  have E : Hid (decide (0 ≤ firstIdx p l) = l.any p) := firstIdx_any _ _
  go_enter Try.func57, Try.ntmps57
  go_wp2_with fail
  refine (ints_IndexFunc_next g p l v _ lo B hB hv HP).mono ?_
  rintro e w1 ⟨rfl, b1⟩
  go_wp2_with fail
  go_ret
  exact RetV.mk (by rw [← E.out] <;> rfl) rfl b1
end Go.Proofs.Ytgcjccoglcgcoaa
