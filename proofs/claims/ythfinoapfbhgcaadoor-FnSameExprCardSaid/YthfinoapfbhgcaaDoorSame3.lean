/-
  Sameness of expressions. Conditions: the arguments read as data.
-/
import Derived.Test.YthfinoapfbhgcaaDoorSame
namespace Go.Proofs.YthfinoapfbhgcaaDoor
open Go.RowKit Go.ChangeShapes Go.WideShapes Go.Deep

set_option linter.unusedVariables false
def SpecSameExprAt (d : Nat) : Prop := ∀ (op : Int) (n : Int) (name : ByteArray) (kids : List Ex) (v3 : Value) (d' : Nat) (op' : Int) (n' : Int) (name' : ByteArray) (kids' : List Ex) (v3' : Value) (w : World) (lo B lo' B' : Nat) (hB : B ≤ w.heap.size) (hC : B' ≤ w.heap.size) (h3 : Sl false (exS false d) w lo B kids v3) (h3' : Sl false (exS false d') w lo' B' kids' v3'), Calls Tryd.prog 7 #[.agg #[.int .i64 op, .int .i64 n, .string name, v3], .agg #[.int .i64 op', .int .i64 n', .string name', v3']] w (Same2 (Ex.mk op n name kids) (Ex.mk op' n' name' kids') w)

set_option maxRecDepth 100000 in
theorem spec_SameExpr_step (d : Nat) (ih : ∀ d0, d = d0 + 1 → SpecSameExprAt d0) (op : Int) (n : Int) (name : ByteArray) (kids : List Ex) (v3 : Value) (d' : Nat) (op' : Int) (n' : Int) (name' : ByteArray) (kids' : List Ex) (v3' : Value) (w : World) (lo B lo' B' : Nat) (hB : B ≤ w.heap.size) (hC : B' ≤ w.heap.size) (h3 : Sl false (exS false d) w lo B kids v3) (h3' : Sl false (exS false d') w lo' B' kids' v3') :
    Calls Tryd.prog 7 #[.agg #[.int .i64 op, .int .i64 n, .string name, v3], .agg #[.int .i64 op', .int .i64 n', .string name', v3']] w (Same2 (Ex.mk op n name kids) (Ex.mk op' n' name' kids') w) := by
  obtain ⟨A_3, p_3, hf, hl_3, hm_3⟩ := h3.form
  change _ = Value.slice A_3 kids.length p_3 at hf
  subst hf
  obtain ⟨A'_3, p'_3, hf, hl'_3, hm'_3⟩ := h3'.form
  change _ = Value.slice A'_3 kids'.length p'_3 at hf
  subst hf
  have hb0 : Below w.heap.size w ((w.alloc (.cells #[.int .i64 op, .int .i64 n, .string name, .slice A_3 kids.length p_3] 25)).alloc (.cells #[.int .i64 op', .int .i64 n', .string name', .slice A'_3 kids'.length p'_3] 25)) := ((Below.refl _ _).alloc (Nat.le_refl _) _).alloc (by simp) _
  have P0 : Row ((w.alloc (.cells #[.int .i64 op, .int .i64 n, .string name, .slice A_3 kids.length p_3] 25)).alloc (.cells #[.int .i64 op', .int .i64 n', .string name', .slice A'_3 kids'.length p'_3] 25)) w.heap.size 25 #[.int .i64 op, .int .i64 n, .string name, .slice A_3 kids.length p_3] := (Row.new w _ _).alloc _
  have Q0 : Row ((w.alloc (.cells #[.int .i64 op, .int .i64 n, .string name, .slice A_3 kids.length p_3] 25)).alloc (.cells #[.int .i64 op', .int .i64 n', .string name', .slice A'_3 kids'.length p'_3] 25)) (w.heap.size + 1) 25 #[.int .i64 op', .int .i64 n', .string name', .slice A'_3 kids'.length p'_3] := by simpa using Row.new (w.alloc (.cells #[.int .i64 op, .int .i64 n, .string name, .slice A_3 kids.length p_3] 25)) 25 #[.int .i64 op', .int .i64 n', .string name', .slice A'_3 kids'.length p'_3]
  by_cases e_op : op = op'
  · subst e_op
    by_cases e_n : n = n'
    · subst e_n
      by_cases e_name : name = name'
      · subst e_name
        by_cases hlen : kids.length = kids'.length
        · have n_ : ((kids.length : Int) != (kids'.length : Int)) = false := by rw [hlen]; simp
          have HL0 : Hid (kids.length = kids'.length) := hlen
          have hle1 : kids.length ≤ kids'.length := by omega
          have hle2 : kids'.length ≤ kids.length := by omega
          clear hlen
          go_enter Tryd.func7, Tryd.ntmps7
          go_wp2_with fail
          go_loopw [5] (fun i wr => ∃ k : Nat, k ≤ kids.length ∧ i = .int .i64 k ∧ Hid (kids.take k = kids'.take k) ∧ Below w.heap.size w wr ∧ Row wr w.heap.size 25 #[.int .i64 op, .int .i64 n, .string name, .slice A_3 kids.length p_3] ∧ Row wr (w.heap.size + 1) 25 #[.int .i64 op, .int .i64 n, .string name, .slice A'_3 kids'.length p'_3]) (fun i _ => kids.length - (intOf i).toNat)
          case atStart => exact ⟨0, by omega, rfl, (show _ = _ by simp), hb0, P0, Q0⟩
          case round =>
            obtain ⟨k, hk, rfl, HT, hb, P, Q⟩ := hrel
            have hsz := hb.size
            have y0 : wr.cell? ⟨w.heap.size, 3, none⟩ = some (.slice A_3 kids.length p_3) := P.cell 3
            have y1 : wr.cell? ⟨w.heap.size + 1, 3, none⟩ = some (.slice A'_3 kids'.length p'_3) := Q.cell 3
            by_cases hkl : k < kids.length
            · obtain ⟨d0, rfl⟩ := exS_pos h3 (by omega)
              obtain ⟨d0', rfl⟩ := exS_pos h3' (by omega)
              obtain ⟨b, o, op_e, n_e, name_e, kids_e, v3_e, rfl, _, hbB, HL, g0, g1, g2, g3, c0, c1, c2, c3⟩ := ex_get d0 (h3.below hb hB) hkl
              obtain ⟨b2, o2, op_e', n_e', name_e', kids_e', v3_e', rfl, _, hbB2, HL2, g0', g1', g2', g3', t0, t1, t2, t3⟩ := ex_get d0' (h3'.below hb hC) (show k < kids'.length by omega)
              have hkl' : k < kids'.length := by omega
              have hki : (0 : Int) ≤ (k : Int) := by omega
              have hkn : (k : Int) < (kids.length : Int) := by omega
              have hkn' : (k : Int) < (kids'.length : Int) := by omega
              go_wp2_with fail
              go_still_tail 10, (by kernel_rfl)
              have hbd : Below w.heap.size w wr.drew := hb.drew
              have Pd : Row wr.drew w.heap.size 25 _ := P
              have Qd : Row wr.drew (w.heap.size + 1) 25 _ := Q
              have gd3 : Sl false (exS false d0) wr.drew lo B kids_e v3_e := g3.keep (Nat.le_refl _) (Nat.le_refl _) (fun _ _ _ => rfl)
              have gd3' : Sl false (exS false d0') wr.drew lo' B' kids_e' v3_e' := g3'.keep (Nat.le_refl _) (Nat.le_refl _) (fun _ _ _ => rfl)
              change wpList _ _ _ _ _ wr.drew
              generalize wr.drew = w2 at hbd Pd Qd gd3 gd3' ⊢
              have hsz2 := hbd.size
              go_wp2_with fail
              refine (ih d0 rfl op_e n_e name_e kids_e v3_e d0' op_e' n_e' name_e' kids_e' v3_e' _ lo B lo' B' (Nat.le_trans hB hsz2) (Nat.le_trans hC hsz2) gd3 gd3').mono ?_
              rintro e w3 ⟨rfl, x3⟩
              have hb3 : Below w.heap.size w w3 := hbd.trans (x3.mono hsz2)
              have P3 := Pd.below x3 Pd.lt
              have Q3 := Qd.below x3 Qd.lt
              by_cases he : (Ex.mk op_e n_e name_e kids_e) = (Ex.mk op_e' n_e' name_e' kids_e')
              · rw [eqB_true he]
                have HE : Hid ((Ex.mk op_e n_e name_e kids_e) = (Ex.mk op_e' n_e' name_e' kids_e')) := he
                clear he
                go_wp2_with fail
                go_roundw
                case rel => exact ⟨k + 1, by omega, by go_num, take_succ_eq HT.out hkl hkl' (HL.out.trans (HE.out.trans HL2.out.symm)), hb3, P3, Q3⟩
                case measure => simp [intOf]; omega
              · rw [eqB_false he]
                have HE : Hid (¬ (Ex.mk op_e n_e name_e kids_e) = (Ex.mk op_e' n_e' name_e' kids_e')) := he
                clear he
                go_wp2_with fail
                go_ret
                exact Same2.mk_false (fun h => (ne_of_at hkl hkl' HL.out HL2.out HE.out) (congrArg Ex.kids h)) rfl hb3
            · go_wp2_with fail
              go_ret
              exact Same2.mk_true (by rw [take_all_eq HT.out (by omega) (by omega)]) rfl hb
        · have n_ : ((kids.length : Int) != (kids'.length : Int)) = true := by simpa using fun h : (kids.length : Int) = kids'.length => hlen (by omega)
          have E_kids : Hid (¬ kids = kids') := fun h => hlen (by rw [h])
          clear hlen
          go_enter Tryd.func7, Tryd.ntmps7
          go_wp2_with fail
          go_ret
          exact Same2.mk_false (fun h => E_kids.out (congrArg Ex.kids h)) rfl hb0
      · have n_ : (name.toList == name'.toList) = false := str_ne e_name
        have E_name : Hid (¬ name = name') := e_name
        clear e_name
        go_enter Tryd.func7, Tryd.ntmps7
        go_wp2_with fail
        go_ret
        exact Same2.mk_false (fun h => E_name.out (congrArg Ex.name h)) rfl hb0
    · have n_ : (n != n') = true := by simpa using e_n
      have E_n : Hid (¬ n = n') := e_n
      clear e_n
      go_enter Tryd.func7, Tryd.ntmps7
      go_wp2_with fail
      go_ret
      exact Same2.mk_false (fun h => E_n.out (congrArg Ex.n h)) rfl hb0
  · have n_ : (op != op') = true := by simpa using e_op
    have E_op : Hid (¬ op = op') := e_op
    clear e_op
    go_enter Tryd.func7, Tryd.ntmps7
    go_wp2_with fail
    go_ret
    exact Same2.mk_false (fun h => E_op.out (congrArg Ex.op h)) rfl hb0

theorem spec_SameExpr : ∀ d, SpecSameExprAt d
  | 0 => spec_SameExpr_step 0 (fun d0 h => by omega)
  | d + 1 => spec_SameExpr_step (d + 1) (fun d0 h => by obtain rfl : d0 = d := (by omega); exact spec_SameExpr d0)

def ImplSameExprAt (d : Nat) : Prop := ∀ (op : Int) (n : Int) (name : ByteArray) (kids : List Ex) (v3 : Value) (d' : Nat) (op' : Int) (n' : Int) (name' : ByteArray) (kids' : List Ex) (v3' : Value) (w : World) (lo B lo' B' : Nat) (hB : B ≤ w.heap.size) (hC : B' ≤ w.heap.size) (h3 : Sl false (exS false d) w lo B kids v3) (h3' : Sl false (exS false d') w lo' B' kids' v3'), Calls Tryd.prog 6 #[.agg #[.int .i64 op, .int .i64 n, .string name, v3], .agg #[.int .i64 op', .int .i64 n', .string name', v3']] w (Same2 (Ex.mk op n name kids) (Ex.mk op' n' name' kids') w)

set_option maxRecDepth 100000 in
theorem impl_SameExprS_step (D D' : Nat) (ih : ∀ d0, D = d0 + 1 → ImplSameExprAt d0) (l l' : List Ex) (v u : Value) (w : World) (lo B lo' B' : Nat) (hB : B ≤ w.heap.size) (hC : B' ≤ w.heap.size) (hv : Sl false (exS false D) w lo B l v) (hu : Sl false (exS false D') w lo' B' l' u) :
    Calls Tryd.prog 22 #[v, u, .func (.func 6) #[] #[]] w (Same2 l l' w) := by
  obtain ⟨A, cap, rfl, hlc, hcm⟩ := hv.form
  obtain ⟨A2, cap2, rfl, hlc2, hcm2⟩ := hu.form
  by_cases hlen : l.length = l'.length
  · have hnb : ((l.length : Int) != (l'.length : Int)) = false := by rw [hlen]; simp
    have HL0 : Hid (l.length = l'.length) := hlen
    have hle1 : l.length ≤ l'.length := by omega
    have hle2 : l'.length ≤ l.length := by omega
    clear hlen
    go_enter Tryd.func22, Tryd.ntmps22
    go_wp2_with fail
    go_loopw [17] (fun i wr => ∃ k : Nat, k ≤ l.length ∧ i = .int .i64 k ∧ Hid (l.take k = l'.take k) ∧ Below w.heap.size w wr) (fun i _ => l.length - (intOf i).toNat)
    case atStart => exact ⟨0, by omega, rfl, (show _ = _ by simp), Below.refl _ _⟩
    case round =>
      obtain ⟨k, hk, rfl, HT, hb⟩ := hrel
      have hsz := hb.size
      by_cases hkl : k < l.length
      · obtain ⟨d, rfl⟩ := exS_pos hv (by omega)
        obtain ⟨d', rfl⟩ := exS_pos hu (by omega)
        obtain ⟨b, o, op, n, name, kids, v3, rfl, _, hbB, HL, g0, g1, g2, g3, c0, c1, c2, c3⟩ := ex_get d (hv.below hb hB) hkl
        obtain ⟨b2, o2, op', n', name', kids', v3', rfl, _, hbB2, HL2, g0', g1', g2', g3', t0, t1, t2, t3⟩ := ex_get d' (hu.below hb hC) (show k < l'.length by omega)
        obtain ⟨A_3, p_3, hf, _, _⟩ := g3.form
        change _ = Value.slice A_3 kids.length p_3 at hf
        subst hf
        obtain ⟨A'_3, p'_3, hf, _, _⟩ := g3'.form
        change _ = Value.slice A'_3 kids'.length p'_3 at hf
        subst hf
        have hw1 : Below w.heap.size w ((wr.alloc (.cells #[.int .i64 op, .int .i64 n, .string name, .slice A_3 kids.length p_3] 25)).alloc (.cells #[.int .i64 op', .int .i64 n', .string name', .slice A'_3 kids'.length p'_3] 25)) := (hb.alloc hsz _).alloc (by simp; omega) _
        have hkl' : k < l'.length := by omega
        have u0 : (wr.alloc (.cells #[.int .i64 op, .int .i64 n, .string name, .slice A_3 kids.length p_3] 25)).cell? ⟨b2, o2 + k * 4, none⟩ = some (.int .i64 op') := (World.cell?_of_block (Below.heap_alloc _ _ _ (by simp only; omega))).trans t0
        have u1 : (wr.alloc (.cells #[.int .i64 op, .int .i64 n, .string name, .slice A_3 kids.length p_3] 25)).cell? ⟨b2, o2 + k * 4 + 1, none⟩ = some (.int .i64 n') := (World.cell?_of_block (Below.heap_alloc _ _ _ (by simp only; omega))).trans t1
        have u2 : (wr.alloc (.cells #[.int .i64 op, .int .i64 n, .string name, .slice A_3 kids.length p_3] 25)).cell? ⟨b2, o2 + k * 4 + 2, none⟩ = some (.string name') := (World.cell?_of_block (Below.heap_alloc _ _ _ (by simp only; omega))).trans t2
        have u3 : (wr.alloc (.cells #[.int .i64 op, .int .i64 n, .string name, .slice A_3 kids.length p_3] 25)).cell? ⟨b2, o2 + k * 4 + 3, none⟩ = some (.slice A'_3 kids'.length p'_3) := (World.cell?_of_block (Below.heap_alloc _ _ _ (by simp only; omega))).trans t3
        go_wp2_with fail
        refine (ih d rfl op n name kids (.slice A_3 kids.length p_3) d' op' n' name' kids' (.slice A'_3 kids'.length p'_3) _ lo B lo' B' (by simp; omega) (by simp; omega) (g3.keep (Nat.le_refl _) (Nat.le_refl _) (fun x _ hx => (Below.heap_alloc _ _ x (by simp; omega)).trans (Below.heap_alloc _ _ x (by omega)))) (g3'.keep (Nat.le_refl _) (Nat.le_refl _) (fun x _ hx => (Below.heap_alloc _ _ x (by simp; omega)).trans (Below.heap_alloc _ _ x (by omega))))).mono ?_
        rintro e w3 ⟨rfl, x3⟩
        have hb3 : Below w.heap.size w w3 := hw1.trans (x3.mono hw1.size)
        by_cases he : (Ex.mk op n name kids) = (Ex.mk op' n' name' kids')
        · rw [eqB_true he]
          have HE : Hid ((Ex.mk op n name kids) = (Ex.mk op' n' name' kids')) := he
          clear he
          go_wp2_with fail
          go_roundw
          case rel => exact ⟨k + 1, by omega, by go_num, take_succ_eq HT.out hkl hkl' (HL.out.trans (HE.out.trans HL2.out.symm)), hb3⟩
          case measure => simp [intOf]; omega
        · rw [eqB_false he]
          have HE : Hid (¬ (Ex.mk op n name kids) = (Ex.mk op' n' name' kids')) := he
          clear he
          go_wp2_with fail
          go_ret
          exact Same2.mk_false (ne_of_at hkl hkl' HL.out HL2.out HE.out) rfl hb3
      · go_wp2_with fail
        go_ret
        exact Same2.mk_true (take_all_eq HT.out (by omega) (by omega)) rfl hb
  · have hnb : ((l.length : Int) != (l'.length : Int)) = true := by simpa using fun h : (l.length : Int) = l'.length => hlen (by omega)
    have HL0 : Hid (¬ l.length = l'.length) := hlen
    clear hlen
    go_enter Tryd.func22, Tryd.ntmps22
    go_wp2_with fail
    go_ret
    exact Same2.mk_false (ne_of_len HL0.out) rfl (Below.refl _ _)

theorem impl_SameExpr_step (d : Nat) (ih : ∀ d0, d = d0 + 1 → ImplSameExprAt d0) (op : Int) (n : Int) (name : ByteArray) (kids : List Ex) (v3 : Value) (d' : Nat) (op' : Int) (n' : Int) (name' : ByteArray) (kids' : List Ex) (v3' : Value) (w : World) (lo B lo' B' : Nat) (hB : B ≤ w.heap.size) (hC : B' ≤ w.heap.size) (h3 : Sl false (exS false d) w lo B kids v3) (h3' : Sl false (exS false d') w lo' B' kids' v3') :
    Calls Tryd.prog 6 #[.agg #[.int .i64 op, .int .i64 n, .string name, v3], .agg #[.int .i64 op', .int .i64 n', .string name', v3']] w (Same2 (Ex.mk op n name kids) (Ex.mk op' n' name' kids') w) := by
  have hb0 : Below w.heap.size w ((w.alloc (.cells #[.int .i64 op, .int .i64 n, .string name, v3] 25)).alloc (.cells #[.int .i64 op', .int .i64 n', .string name', v3'] 25)) := ((Below.refl _ _).alloc (Nat.le_refl _) _).alloc (by simp) _
  have P0 : Row ((w.alloc (.cells #[.int .i64 op, .int .i64 n, .string name, v3] 25)).alloc (.cells #[.int .i64 op', .int .i64 n', .string name', v3'] 25)) w.heap.size 25 #[.int .i64 op, .int .i64 n, .string name, v3] := (Row.new w _ _).alloc _
  have Q0 : Row ((w.alloc (.cells #[.int .i64 op, .int .i64 n, .string name, v3] 25)).alloc (.cells #[.int .i64 op', .int .i64 n', .string name', v3'] 25)) (w.heap.size + 1) 25 #[.int .i64 op', .int .i64 n', .string name', v3'] := by simpa using Row.new (w.alloc (.cells #[.int .i64 op, .int .i64 n, .string name, v3] 25)) 25 #[.int .i64 op', .int .i64 n', .string name', v3']
  by_cases e0 : op = op'
  · subst e0
    by_cases e1 : n = n'
    · subst e1
      by_cases e2 : name = name'
      · subst e2
        go_enter Tryd.func6, Tryd.ntmps6
        go_wp2_with fail
        refine (impl_SameExprS_step d d' ih kids kids' v3 v3' _ lo B lo' B' (Nat.le_trans hB hb0.size) (Nat.le_trans hC hb0.size) (h3.below hb0 hB) (h3'.below hb0 hC)).mono ?_
        rintro e w1 ⟨rfl, x1⟩
        have hb1 : Below w.heap.size w w1 := hb0.trans (x1.mono hb0.size)
        have P1 := P0.below x1 P0.lt
        have Q1 := Q0.below x1 Q0.lt
        by_cases e3 : kids = kids'
        · rw [eqB_true e3]
          subst e3
          go_wp2_with fail
          go_ret
          exact Same2.mk_true rfl rfl hb1
        · have E3 : Hid (¬ kids = kids') := e3
          rw [eqB_false e3]
          clear e3
          go_wp2_with fail
          go_ret
          exact Same2.mk_false (fun h => E3.out (congrArg Ex.kids h)) rfl hb1
      · have n2 : (name.toList == name'.toList) = false := str_ne e2
        have E2 : Hid (¬ name = name') := e2
        clear e2
        go_enter Tryd.func6, Tryd.ntmps6
        go_wp2_with fail
        go_ret
        exact Same2.mk_false (fun h => E2.out (congrArg Ex.name h)) rfl hb0
    · have n1 : (n == n') = false := by simpa using e1
      have m1 : (n != n') = true := by simpa using e1
      have E1 : Hid (¬ n = n') := e1
      clear e1
      go_enter Tryd.func6, Tryd.ntmps6
      go_wp2_with fail
      go_ret
      exact Same2.mk_false (fun h => E1.out (congrArg Ex.n h)) rfl hb0
  · have n0 : (op == op') = false := by simpa using e0
    have m0 : (op != op') = true := by simpa using e0
    have E0 : Hid (¬ op = op') := e0
    clear e0
    go_enter Tryd.func6, Tryd.ntmps6
    go_wp2_with fail
    go_ret
    exact Same2.mk_false (fun h => E0.out (congrArg Ex.op h)) rfl hb0

theorem impl_SameExpr : ∀ d, ImplSameExprAt d
  | 0 => impl_SameExpr_step 0 (fun d0 h => by omega)
  | d + 1 => impl_SameExpr_step (d + 1) (fun d0 h => by obtain rfl : d0 = d := (by omega); exact impl_SameExpr d0)

end Go.Proofs.YthfinoapfbhgcaaDoor

