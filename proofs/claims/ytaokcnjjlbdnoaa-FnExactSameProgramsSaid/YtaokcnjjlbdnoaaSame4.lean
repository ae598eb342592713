/-
  Sameness of programs, by the program. Conditions: the arguments read as data.
-/
import Derived.Test.YtaokcnjjlbdnoaaSame3
namespace Go.Proofs.Ytaokcnjjlbdnoaa
open Go.RowKit Go.ChangeShapes Go.WideShapes Go.Deep

set_option linter.unusedVariables false
theorem spec_l3Texts (l l' : List ByteArray) (v u : Value) (w : World) (lo B lo' B' : Nat) (hB : B ≤ w.heap.size) (hC : B' ≤ w.heap.size) (hv : Sl false (strS false) w lo B l v) (hu : Sl false (strS false) w lo' B' l' u) :
    Calls Try.prog 107 #[v, u] w (Same2 l l' w) := by
  obtain ⟨A, cap, rfl, hlc, hcm⟩ := hv.form
  obtain ⟨A2, cap2, rfl, hlc2, hcm2⟩ := hu.form
  by_cases hlen : l.length = l'.length
  · have hnb : ((l.length : Int) != (l'.length : Int)) = false := by rw [hlen]; simp
    have HL0 : Hid (l.length = l'.length) := hlen
    have hle1 : l.length ≤ l'.length := by omega
    have hle2 : l'.length ≤ l.length := by omega
    clear hlen
    go_enter Try.func107, Try.ntmps107
    go_wp2_with fail
    go_loopw [5] (fun i wr => ∃ k : Nat, k ≤ l.length ∧ i = .int .i64 k ∧ Hid (l.take k = l'.take k) ∧ Below w.heap.size w wr) (fun i _ => l.length - (intOf i).toNat)
    case atStart => exact ⟨0, by omega, rfl, (show _ = _ by simp), Below.refl _ _⟩
    case round =>
      obtain ⟨k, hk, rfl, HT, hb⟩ := hrel
      have hsz := hb.size
      by_cases hkl : k < l.length
      · obtain ⟨b, o, a, rfl, _, _, HL, _, c0⟩ := str_get (hv.below hb hB) hkl
        obtain ⟨b2, o2, a2, rfl, _, _, HL2, _, c1⟩ := str_get (hu.below hb hC) (show k < l'.length by omega)
        have hki : (0 : Int) ≤ (k : Int) := by omega
        have hkn : (k : Int) < (l.length : Int) := by omega
        have hkn' : (k : Int) < (l'.length : Int) := by omega
        by_cases he : a = a2
        · subst he
          go_wp2_with fail
          go_quiet (fail)
          go_wp2_with fail
          go_roundw
          case rel => exact ⟨k + 1, by omega, by go_num, take_succ_eq HT.out hkl (by omega) (HL.out.trans HL2.out.symm), below_drewN hb _⟩
          case measure => simp [intOf]; omega
        · have hne : (a.toList == a2.toList) = false := str_ne he
          have HE : Hid (¬ a = a2) := he
          clear he
          go_wp2_with fail
          go_quiet (fail)
          go_wp2_with fail
          go_ret
          exact Same2.mk_false (ne_of_at hkl (by omega) HL.out HL2.out HE.out) rfl (below_drewN hb _)
      · go_wp2_with fail
        go_ret
        exact Same2.mk_true (take_all_eq HT.out (by omega) (by omega)) rfl hb
  · have hnb : ((l.length : Int) != (l'.length : Int)) = true := by simpa using fun h : (l.length : Int) = l'.length => hlen (by omega)
    have HL0 : Hid (¬ l.length = l'.length) := hlen
    clear hlen
    go_enter Try.func107, Try.ntmps107
    go_wp2_with fail
    go_ret
    exact Same2.mk_false (ne_of_len HL0.out) rfl (Below.refl _ _)

theorem strs_Equal (l l' : List ByteArray) (v u : Value) (w : World) (lo B lo' B' : Nat) (hB : B ≤ w.heap.size) (hC : B' ≤ w.heap.size) (hv : Sl false (strS false) w lo B l v) (hu : Sl false (strS false) w lo' B' l' u) :
    Calls Try.prog 111 #[v, u] w (Same2 l l' w) := by
  obtain ⟨A, cap, rfl, hlc, hcm⟩ := hv.form
  obtain ⟨A2, cap2, rfl, hlc2, hcm2⟩ := hu.form
  by_cases hlen : l.length = l'.length
  · have hnb : ((l.length : Int) != (l'.length : Int)) = false := by rw [hlen]; simp
    have HL0 : Hid (l.length = l'.length) := hlen
    have hle1 : l.length ≤ l'.length := by omega
    have hle2 : l'.length ≤ l.length := by omega
    clear hlen
    go_enter Try.func111, Try.ntmps111
    go_wp2_with fail
    go_loopw [5, 13] (fun _ i wr => ∃ k : Nat, k ≤ l.length ∧ i = .int .i64 k ∧ Hid (l.take k = l'.take k) ∧ Below w.heap.size w wr) (fun _ i _ => l.length - (intOf i).toNat)
    case atStart => exact ⟨0, by omega, rfl, (show _ = _ by simp), Below.refl _ _⟩
    case round =>
      obtain ⟨k, hk, rfl, HT, hb⟩ := hrel
      have hsz := hb.size
      by_cases hkl : k < l.length
      · obtain ⟨b, o, a, rfl, _, _, HL, _, c0⟩ := str_get (hv.below hb hB) hkl
        obtain ⟨b2, o2, a2, rfl, _, _, HL2, _, c1⟩ := str_get (hu.below hb hC) (show k < l'.length by omega)
        have hki : (0 : Int) ≤ (k : Int) := by omega
        have hkn : (k : Int) < (l.length : Int) := by omega
        have hkn' : (k : Int) < (l'.length : Int) := by omega
        by_cases he : a = a2
        · subst he
          go_wp2_with fail
          go_quiet (fail)
          go_wp2_with fail
          go_roundw
          case rel => exact ⟨k + 1, by omega, by go_num, take_succ_eq HT.out hkl (by omega) (HL.out.trans HL2.out.symm), below_drewN hb _⟩
          case measure => simp [intOf]; omega
        · have hne : (a.toList == a2.toList) = false := str_ne he
          have HE : Hid (¬ a = a2) := he
          clear he
          go_wp2_with fail
          go_quiet (fail)
          go_wp2_with fail
          go_ret
          exact Same2.mk_false (ne_of_at hkl (by omega) HL.out HL2.out HE.out) rfl (below_drewN hb _)
      · go_wp2_with fail
        go_ret
        exact Same2.mk_true (take_all_eq HT.out (by omega) (by omega)) rfl hb
  · have hnb : ((l.length : Int) != (l'.length : Int)) = true := by simpa using fun h : (l.length : Int) = l'.length => hlen (by omega)
    have HL0 : Hid (¬ l.length = l'.length) := hlen
    clear hlen
    go_enter Try.func111, Try.ntmps111
    go_wp2_with fail
    go_ret
    exact Same2.mk_false (ne_of_len HL0.out) rfl (Below.refl _ _)

def ImplSameStmtAt (d : Nat) : Prop := ∀ (op : Int) (name : ByteArray) (args : List Ex) (v2 : Value) (body : List St) (v3 : Value) (els : List St) (v4 : Value) (d' : Nat) (op' : Int) (name' : ByteArray) (args' : List Ex) (v2' : Value) (body' : List St) (v3' : Value) (els' : List St) (v4' : Value) (w : World) (lo B lo' B' : Nat) (hB : B ≤ w.heap.size) (hC : B' ≤ w.heap.size) (h2 : Sl false (exS false d) w lo B args v2) (h3 : Sl false (stS false d) w lo B body v3) (h4 : Sl false (stS false d) w lo B els v4) (h2' : Sl false (exS false d') w lo' B' args' v2') (h3' : Sl false (stS false d') w lo' B' body' v3') (h4' : Sl false (stS false d') w lo' B' els' v4'), Calls Try.prog 113 #[.agg #[.int .i64 op, .string name, v2, v3, v4], .agg #[.int .i64 op', .string name', v2', v3', v4']] w (Same2 (St.mk op name args body els) (St.mk op' name' args' body' els') w)

set_option maxRecDepth 100000 in
theorem impl_sameStmtS_step (D D' : Nat) (ih : ∀ d0, D = d0 + 1 → ImplSameStmtAt d0) (l l' : List St) (v u : Value) (w : World) (lo B lo' B' : Nat) (hB : B ≤ w.heap.size) (hC : B' ≤ w.heap.size) (hv : Sl false (stS false D) w lo B l v) (hu : Sl false (stS false D') w lo' B' l' u) :
    Calls Try.prog 112 #[v, u, .func (.func 113) #[] #[]] w (Same2 l l' w) := by
  obtain ⟨A, cap, rfl, hlc, hcm⟩ := hv.form
  obtain ⟨A2, cap2, rfl, hlc2, hcm2⟩ := hu.form
  by_cases hlen : l.length = l'.length
  · have hnb : ((l.length : Int) != (l'.length : Int)) = false := by rw [hlen]; simp
    have HL0 : Hid (l.length = l'.length) := hlen
    have hle1 : l.length ≤ l'.length := by omega
    have hle2 : l'.length ≤ l.length := by omega
    clear hlen
    go_enter Try.func112, Try.ntmps112
    go_wp2_with fail
    go_loopw [17] (fun i wr => ∃ k : Nat, k ≤ l.length ∧ i = .int .i64 k ∧ Hid (l.take k = l'.take k) ∧ Below w.heap.size w wr) (fun i _ => l.length - (intOf i).toNat)
    case atStart => exact ⟨0, by omega, rfl, (show _ = _ by simp), Below.refl _ _⟩
    case round =>
      obtain ⟨k, hk, rfl, HT, hb⟩ := hrel
      have hsz := hb.size
      by_cases hkl : k < l.length
      · obtain ⟨d, rfl⟩ := stS_pos hv (by omega)
        obtain ⟨d', rfl⟩ := stS_pos hu (by omega)
        obtain ⟨b, o, op, name, args, v2, body, v3, els, v4, rfl, _, hbB, HL, g0, g1, g2, g3, g4, c0, c1, c2, c3, c4⟩ := st_get d (hv.below hb hB) hkl
        obtain ⟨b2, o2, op', name', args', v2', body', v3', els', v4', rfl, _, hbB2, HL2, g0', g1', g2', g3', g4', t0, t1, t2, t3, t4⟩ := st_get d' (hu.below hb hC) (show k < l'.length by omega)
        obtain ⟨A_2, p_2, hf, _, _⟩ := g2.form
        change _ = Value.slice A_2 args.length p_2 at hf
        subst hf
        obtain ⟨A_3, p_3, hf, _, _⟩ := g3.form
        change _ = Value.slice A_3 body.length p_3 at hf
        subst hf
        obtain ⟨A_4, p_4, hf, _, _⟩ := g4.form
        change _ = Value.slice A_4 els.length p_4 at hf
        subst hf
        obtain ⟨A'_2, p'_2, hf, _, _⟩ := g2'.form
        change _ = Value.slice A'_2 args'.length p'_2 at hf
        subst hf
        obtain ⟨A'_3, p'_3, hf, _, _⟩ := g3'.form
        change _ = Value.slice A'_3 body'.length p'_3 at hf
        subst hf
        obtain ⟨A'_4, p'_4, hf, _, _⟩ := g4'.form
        change _ = Value.slice A'_4 els'.length p'_4 at hf
        subst hf
        have hw1 : Below w.heap.size w ((wr.alloc (.cells #[.int .i64 op, .string name, .slice A_2 args.length p_2, .slice A_3 body.length p_3, .slice A_4 els.length p_4] 137)).alloc (.cells #[.int .i64 op', .string name', .slice A'_2 args'.length p'_2, .slice A'_3 body'.length p'_3, .slice A'_4 els'.length p'_4] 137)) := (hb.alloc hsz _).alloc (by simp; omega) _
        have hkl' : k < l'.length := by omega
        have u0 : (wr.alloc (.cells #[.int .i64 op, .string name, .slice A_2 args.length p_2, .slice A_3 body.length p_3, .slice A_4 els.length p_4] 137)).cell? ⟨b2, o2 + k * 5, none⟩ = some (.int .i64 op') := (World.cell?_of_block (Below.heap_alloc _ _ _ (by simp only; omega))).trans t0
        have u1 : (wr.alloc (.cells #[.int .i64 op, .string name, .slice A_2 args.length p_2, .slice A_3 body.length p_3, .slice A_4 els.length p_4] 137)).cell? ⟨b2, o2 + k * 5 + 1, none⟩ = some (.string name') := (World.cell?_of_block (Below.heap_alloc _ _ _ (by simp only; omega))).trans t1
        have u2 : (wr.alloc (.cells #[.int .i64 op, .string name, .slice A_2 args.length p_2, .slice A_3 body.length p_3, .slice A_4 els.length p_4] 137)).cell? ⟨b2, o2 + k * 5 + 2, none⟩ = some (.slice A'_2 args'.length p'_2) := (World.cell?_of_block (Below.heap_alloc _ _ _ (by simp only; omega))).trans t2
        have u3 : (wr.alloc (.cells #[.int .i64 op, .string name, .slice A_2 args.length p_2, .slice A_3 body.length p_3, .slice A_4 els.length p_4] 137)).cell? ⟨b2, o2 + k * 5 + 3, none⟩ = some (.slice A'_3 body'.length p'_3) := (World.cell?_of_block (Below.heap_alloc _ _ _ (by simp only; omega))).trans t3
        have u4 : (wr.alloc (.cells #[.int .i64 op, .string name, .slice A_2 args.length p_2, .slice A_3 body.length p_3, .slice A_4 els.length p_4] 137)).cell? ⟨b2, o2 + k * 5 + 4, none⟩ = some (.slice A'_4 els'.length p'_4) := (World.cell?_of_block (Below.heap_alloc _ _ _ (by simp only; omega))).trans t4
        go_wp2_with fail
        refine (ih d rfl op name args (.slice A_2 args.length p_2) body (.slice A_3 body.length p_3) els (.slice A_4 els.length p_4) d' op' name' args' (.slice A'_2 args'.length p'_2) body' (.slice A'_3 body'.length p'_3) els' (.slice A'_4 els'.length p'_4) _ lo B lo' B' (by simp; omega) (by simp; omega) (g2.keep (Nat.le_refl _) (Nat.le_refl _) (fun x _ hx => (Below.heap_alloc _ _ x (by simp; omega)).trans (Below.heap_alloc _ _ x (by omega)))) (g3.keep (Nat.le_refl _) (Nat.le_refl _) (fun x _ hx => (Below.heap_alloc _ _ x (by simp; omega)).trans (Below.heap_alloc _ _ x (by omega)))) (g4.keep (Nat.le_refl _) (Nat.le_refl _) (fun x _ hx => (Below.heap_alloc _ _ x (by simp; omega)).trans (Below.heap_alloc _ _ x (by omega)))) (g2'.keep (Nat.le_refl _) (Nat.le_refl _) (fun x _ hx => (Below.heap_alloc _ _ x (by simp; omega)).trans (Below.heap_alloc _ _ x (by omega)))) (g3'.keep (Nat.le_refl _) (Nat.le_refl _) (fun x _ hx => (Below.heap_alloc _ _ x (by simp; omega)).trans (Below.heap_alloc _ _ x (by omega)))) (g4'.keep (Nat.le_refl _) (Nat.le_refl _) (fun x _ hx => (Below.heap_alloc _ _ x (by simp; omega)).trans (Below.heap_alloc _ _ x (by omega))))).mono ?_
        rintro e w3 ⟨rfl, x3⟩
        have hb3 : Below w.heap.size w w3 := hw1.trans (x3.mono hw1.size)
        by_cases he : (St.mk op name args body els) = (St.mk op' name' args' body' els')
        · rw [eqB_true he]
          have HE : Hid ((St.mk op name args body els) = (St.mk op' name' args' body' els')) := he
          clear he
          go_wp2_with fail
          go_roundw
          case rel => exact ⟨k + 1, by omega, by go_num, take_succ_eq HT.out hkl hkl' (HL.out.trans (HE.out.trans HL2.out.symm)), hb3⟩
          case measure => simp [intOf]; omega
        · rw [eqB_false he]
          have HE : Hid (¬ (St.mk op name args body els) = (St.mk op' name' args' body' els')) := he
          clear he
          go_wp2_with fail
          go_ret
          exact Same2.mk_false (ne_of_at hkl hkl' HL.out HL2.out HE.out) rfl hb3
      · go_wp2_with fail
        go_ret
        exact Same2.mk_true (take_all_eq HT.out (by omega) (by omega)) rfl hb
  · have hnb : ((l.length : Int) != (l'.length : Int)) = true := by simpa using fun h : (l.length : Int) = l'.length => hlen (by omega)
    have HL0 : Hid (¬ l.length = l'.length) := hlen
    clear hlen
    go_enter Try.func112, Try.ntmps112
    go_wp2_with fail
    go_ret
    exact Same2.mk_false (ne_of_len HL0.out) rfl (Below.refl _ _)

theorem impl_sameStmt_step (d : Nat) (ih : ∀ d0, d = d0 + 1 → ImplSameStmtAt d0) (op : Int) (name : ByteArray) (args : List Ex) (v2 : Value) (body : List St) (v3 : Value) (els : List St) (v4 : Value) (d' : Nat) (op' : Int) (name' : ByteArray) (args' : List Ex) (v2' : Value) (body' : List St) (v3' : Value) (els' : List St) (v4' : Value) (w : World) (lo B lo' B' : Nat) (hB : B ≤ w.heap.size) (hC : B' ≤ w.heap.size) (h2 : Sl false (exS false d) w lo B args v2) (h3 : Sl false (stS false d) w lo B body v3) (h4 : Sl false (stS false d) w lo B els v4) (h2' : Sl false (exS false d') w lo' B' args' v2') (h3' : Sl false (stS false d') w lo' B' body' v3') (h4' : Sl false (stS false d') w lo' B' els' v4') :
    Calls Try.prog 113 #[.agg #[.int .i64 op, .string name, v2, v3, v4], .agg #[.int .i64 op', .string name', v2', v3', v4']] w (Same2 (St.mk op name args body els) (St.mk op' name' args' body' els') w) := by
  have hb0 : Below w.heap.size w ((w.alloc (.cells #[.int .i64 op, .string name, v2, v3, v4] 137)).alloc (.cells #[.int .i64 op', .string name', v2', v3', v4'] 137)) := ((Below.refl _ _).alloc (Nat.le_refl _) _).alloc (by simp) _
  have P0 : Row ((w.alloc (.cells #[.int .i64 op, .string name, v2, v3, v4] 137)).alloc (.cells #[.int .i64 op', .string name', v2', v3', v4'] 137)) w.heap.size 137 #[.int .i64 op, .string name, v2, v3, v4] := (Row.new w _ _).alloc _
  have Q0 : Row ((w.alloc (.cells #[.int .i64 op, .string name, v2, v3, v4] 137)).alloc (.cells #[.int .i64 op', .string name', v2', v3', v4'] 137)) (w.heap.size + 1) 137 #[.int .i64 op', .string name', v2', v3', v4'] := by simpa using Row.new (w.alloc (.cells #[.int .i64 op, .string name, v2, v3, v4] 137)) 137 #[.int .i64 op', .string name', v2', v3', v4']
  by_cases e0 : op = op'
  · subst e0
    by_cases e1 : name = name'
    · subst e1
      go_enter Try.func113, Try.ntmps113
      go_wp2_with fail
      refine (impl_SameExprS d d' args args' v2 v2' _ lo B lo' B' (Nat.le_trans hB hb0.size) (Nat.le_trans hC hb0.size) (h2.below hb0 hB) (h2'.below hb0 hC)).mono ?_
      rintro e w1 ⟨rfl, x1⟩
      have hb1 : Below w.heap.size w w1 := hb0.trans (x1.mono hb0.size)
      have P1 := P0.below x1 P0.lt
      have Q1 := Q0.below x1 Q0.lt
      have y1_3 : w1.cell? ⟨w.heap.size, 3, none⟩ = some (v3) := P1.cell 3
      have z1_3 : w1.cell? ⟨w.heap.size + 1, 3, none⟩ = some (v3') := Q1.cell 3
      have y1_4 : w1.cell? ⟨w.heap.size, 4, none⟩ = some (v4) := P1.cell 4
      have z1_4 : w1.cell? ⟨w.heap.size + 1, 4, none⟩ = some (v4') := Q1.cell 4
      by_cases e2 : args = args'
      · rw [eqB_true e2]
        subst e2
        go_wp2_with fail
        refine (impl_sameStmtS_step d d' ih body body' v3 v3' _ lo B lo' B' (Nat.le_trans hB hb1.size) (Nat.le_trans hC hb1.size) (h3.below hb1 hB) (h3'.below hb1 hC)).mono ?_
        rintro e w2 ⟨rfl, x2⟩
        have hb2 : Below w.heap.size w w2 := hb1.trans (x2.mono hb1.size)
        have P2 := P1.below x2 P1.lt
        have Q2 := Q1.below x2 Q1.lt
        have y2_4 : w2.cell? ⟨w.heap.size, 4, none⟩ = some (v4) := P2.cell 4
        have z2_4 : w2.cell? ⟨w.heap.size + 1, 4, none⟩ = some (v4') := Q2.cell 4
        by_cases e3 : body = body'
        · rw [eqB_true e3]
          subst e3
          go_wp2_with fail
          refine (impl_sameStmtS_step d d' ih els els' v4 v4' _ lo B lo' B' (Nat.le_trans hB hb2.size) (Nat.le_trans hC hb2.size) (h4.below hb2 hB) (h4'.below hb2 hC)).mono ?_
          rintro e w3 ⟨rfl, x3⟩
          have hb3 : Below w.heap.size w w3 := hb2.trans (x3.mono hb2.size)
          have P3 := P2.below x3 P2.lt
          have Q3 := Q2.below x3 Q2.lt
          by_cases e4 : els = els'
          · rw [eqB_true e4]
            subst e4
            go_wp2_with fail
            go_ret
            exact Same2.mk_true rfl rfl hb3
          · have E4 : Hid (¬ els = els') := e4
            rw [eqB_false e4]
            clear e4
            go_wp2_with fail
            go_ret
            exact Same2.mk_false (fun h => E4.out (congrArg St.els h)) rfl hb3
        · have E3 : Hid (¬ body = body') := e3
          rw [eqB_false e3]
          clear e3
          go_wp2_with fail
          go_ret
          exact Same2.mk_false (fun h => E3.out (congrArg St.body h)) rfl hb2
      · have E2 : Hid (¬ args = args') := e2
        rw [eqB_false e2]
        clear e2
        go_wp2_with fail
        go_ret
        exact Same2.mk_false (fun h => E2.out (congrArg St.args h)) rfl hb1
    · have n1 : (name.toList == name'.toList) = false := str_ne e1
      have E1 : Hid (¬ name = name') := e1
      clear e1
      go_enter Try.func113, Try.ntmps113
      go_wp2_with fail
      go_ret
      exact Same2.mk_false (fun h => E1.out (congrArg St.name h)) rfl hb0
  · have n0 : (op == op') = false := by simpa using e0
    have m0 : (op != op') = true := by simpa using e0
    have E0 : Hid (¬ op = op') := e0
    clear e0
    go_enter Try.func113, Try.ntmps113
    go_wp2_with fail
    go_ret
    exact Same2.mk_false (fun h => E0.out (congrArg St.op h)) rfl hb0

theorem impl_sameStmt : ∀ d, ImplSameStmtAt d
  | 0 => impl_sameStmt_step 0 (fun d0 h => by omega)
  | d + 1 => impl_sameStmt_step (d + 1) (fun d0 h => by obtain rfl : d0 = d := (by omega); exact impl_sameStmt d0)

theorem impl_sameStmtS (D D' : Nat) : ∀ (l l' : List St) (v u : Value) (w : World) (lo B lo' B' : Nat) (hB : B ≤ w.heap.size) (hC : B' ≤ w.heap.size) (hv : Sl false (stS false D) w lo B l v) (hu : Sl false (stS false D') w lo' B' l' u), Calls Try.prog 112 #[v, u, .func (.func 113) #[] #[]] w (Same2 l l' w) := impl_sameStmtS_step D D' (fun d0 _ => impl_sameStmt d0)

theorem impl_sameFn (d : Nat) (name : ByteArray) (params : List ByteArray) (v1 : Value) (body : List St) (v2 : Value) (d' : Nat) (name' : ByteArray) (params' : List ByteArray) (v1' : Value) (body' : List St) (v2' : Value) (w : World) (lo B lo' B' : Nat) (hB : B ≤ w.heap.size) (hC : B' ≤ w.heap.size) (h1 : Sl false (strS false) w lo B params v1) (h2 : Sl false (stS false d) w lo B body v2) (h1' : Sl false (strS false) w lo' B' params' v1') (h2' : Sl false (stS false d') w lo' B' body' v2') :
    Calls Try.prog 110 #[.agg #[.string name, v1, v2], .agg #[.string name', v1', v2']] w (Same2 (⟨name, params, body⟩ : FnD) (⟨name', params', body'⟩ : FnD) w) := by
  have hb0 : Below w.heap.size w ((w.alloc (.cells #[.string name, v1, v2] 123)).alloc (.cells #[.string name', v1', v2'] 123)) := ((Below.refl _ _).alloc (Nat.le_refl _) _).alloc (by simp) _
  have P0 : Row ((w.alloc (.cells #[.string name, v1, v2] 123)).alloc (.cells #[.string name', v1', v2'] 123)) w.heap.size 123 #[.string name, v1, v2] := (Row.new w _ _).alloc _
  have Q0 : Row ((w.alloc (.cells #[.string name, v1, v2] 123)).alloc (.cells #[.string name', v1', v2'] 123)) (w.heap.size + 1) 123 #[.string name', v1', v2'] := by simpa using Row.new (w.alloc (.cells #[.string name, v1, v2] 123)) 123 #[.string name', v1', v2']
  by_cases e0 : name = name'
  · subst e0
    go_enter Try.func110, Try.ntmps110
    go_wp2_with fail
    refine (strs_Equal params params' v1 v1' _ lo B lo' B' (Nat.le_trans hB hb0.size) (Nat.le_trans hC hb0.size) (h1.below hb0 hB) (h1'.below hb0 hC)).mono ?_
    rintro e w1 ⟨rfl, x1⟩
    have hb1 : Below w.heap.size w w1 := hb0.trans (x1.mono hb0.size)
    have P1 := P0.below x1 P0.lt
    have Q1 := Q0.below x1 Q0.lt
    have y1_2 : w1.cell? ⟨w.heap.size, 2, none⟩ = some (v2) := P1.cell 2
    have z1_2 : w1.cell? ⟨w.heap.size + 1, 2, none⟩ = some (v2') := Q1.cell 2
    by_cases e1 : params = params'
    · rw [eqB_true e1]
      subst e1
      go_wp2_with fail
      refine (impl_sameStmtS d d' body body' v2 v2' _ lo B lo' B' (Nat.le_trans hB hb1.size) (Nat.le_trans hC hb1.size) (h2.below hb1 hB) (h2'.below hb1 hC)).mono ?_
      rintro e w2 ⟨rfl, x2⟩
      have hb2 : Below w.heap.size w w2 := hb1.trans (x2.mono hb1.size)
      have P2 := P1.below x2 P1.lt
      have Q2 := Q1.below x2 Q1.lt
      by_cases e2 : body = body'
      · rw [eqB_true e2]
        subst e2
        go_wp2_with fail
        go_ret
        exact Same2.mk_true rfl rfl hb2
      · have E2 : Hid (¬ body = body') := e2
        rw [eqB_false e2]
        clear e2
        go_wp2_with fail
        go_ret
        exact Same2.mk_false (fun h => E2.out (congrArg FnD.body h)) rfl hb2
    · have E1 : Hid (¬ params = params') := e1
      rw [eqB_false e1]
      clear e1
      go_wp2_with fail
      go_ret
      exact Same2.mk_false (fun h => E1.out (congrArg FnD.params h)) rfl hb1
  · have n0 : (name.toList == name'.toList) = false := str_ne e0
    have E0 : Hid (¬ name = name') := e0
    clear e0
    go_enter Try.func110, Try.ntmps110
    go_wp2_with fail
    go_ret
    exact Same2.mk_false (fun h => E0.out (congrArg FnD.name h)) rfl hb0

set_option maxRecDepth 100000 in
theorem impl_sameFnS (d d' : Nat) (l l' : List FnD) (v u : Value) (w : World) (lo B lo' B' : Nat) (hB : B ≤ w.heap.size) (hC : B' ≤ w.heap.size) (hv : Sl false (fnS false d) w lo B l v) (hu : Sl false (fnS false d') w lo' B' l' u) :
    Calls Try.prog 109 #[v, u, .func (.func 110) #[] #[]] w (Same2 l l' w) := by
  obtain ⟨A, cap, rfl, hlc, hcm⟩ := hv.form
  obtain ⟨A2, cap2, rfl, hlc2, hcm2⟩ := hu.form
  by_cases hlen : l.length = l'.length
  · have hnb : ((l.length : Int) != (l'.length : Int)) = false := by rw [hlen]; simp
    have HL0 : Hid (l.length = l'.length) := hlen
    have hle1 : l.length ≤ l'.length := by omega
    have hle2 : l'.length ≤ l.length := by omega
    clear hlen
    go_enter Try.func109, Try.ntmps109
    go_wp2_with fail
    go_loopw [17] (fun i wr => ∃ k : Nat, k ≤ l.length ∧ i = .int .i64 k ∧ Hid (l.take k = l'.take k) ∧ Below w.heap.size w wr) (fun i _ => l.length - (intOf i).toNat)
    case atStart => exact ⟨0, by omega, rfl, (show _ = _ by simp), Below.refl _ _⟩
    case round =>
      obtain ⟨k, hk, rfl, HT, hb⟩ := hrel
      have hsz := hb.size
      by_cases hkl : k < l.length
      · obtain ⟨b, o, name, params, v1, body, v2, rfl, _, hbB, HL, g0, g1, g2, c0, c1, c2⟩ := fn_get d (hv.below hb hB) hkl
        obtain ⟨b2, o2, name', params', v1', body', v2', rfl, _, hbB2, HL2, g0', g1', g2', t0, t1, t2⟩ := fn_get d' (hu.below hb hC) (show k < l'.length by omega)
        obtain ⟨A_1, p_1, hf, _, _⟩ := g1.form
        change _ = Value.slice A_1 params.length p_1 at hf
        subst hf
        obtain ⟨A_2, p_2, hf, _, _⟩ := g2.form
        change _ = Value.slice A_2 body.length p_2 at hf
        subst hf
        obtain ⟨A'_1, p'_1, hf, _, _⟩ := g1'.form
        change _ = Value.slice A'_1 params'.length p'_1 at hf
        subst hf
        obtain ⟨A'_2, p'_2, hf, _, _⟩ := g2'.form
        change _ = Value.slice A'_2 body'.length p'_2 at hf
        subst hf
        have hw1 : Below w.heap.size w ((wr.alloc (.cells #[.string name, .slice A_1 params.length p_1, .slice A_2 body.length p_2] 123)).alloc (.cells #[.string name', .slice A'_1 params'.length p'_1, .slice A'_2 body'.length p'_2] 123)) := (hb.alloc hsz _).alloc (by simp; omega) _
        have hkl' : k < l'.length := by omega
        have u0 : (wr.alloc (.cells #[.string name, .slice A_1 params.length p_1, .slice A_2 body.length p_2] 123)).cell? ⟨b2, o2 + k * 3, none⟩ = some (.string name') := (World.cell?_of_block (Below.heap_alloc _ _ _ (by simp only; omega))).trans t0
        have u1 : (wr.alloc (.cells #[.string name, .slice A_1 params.length p_1, .slice A_2 body.length p_2] 123)).cell? ⟨b2, o2 + k * 3 + 1, none⟩ = some (.slice A'_1 params'.length p'_1) := (World.cell?_of_block (Below.heap_alloc _ _ _ (by simp only; omega))).trans t1
        have u2 : (wr.alloc (.cells #[.string name, .slice A_1 params.length p_1, .slice A_2 body.length p_2] 123)).cell? ⟨b2, o2 + k * 3 + 2, none⟩ = some (.slice A'_2 body'.length p'_2) := (World.cell?_of_block (Below.heap_alloc _ _ _ (by simp only; omega))).trans t2
        go_wp2_with fail
        refine (impl_sameFn d name params (.slice A_1 params.length p_1) body (.slice A_2 body.length p_2) d' name' params' (.slice A'_1 params'.length p'_1) body' (.slice A'_2 body'.length p'_2) _ lo B lo' B' (by simp; omega) (by simp; omega) (g1.keep (Nat.le_refl _) (Nat.le_refl _) (fun x _ hx => (Below.heap_alloc _ _ x (by simp; omega)).trans (Below.heap_alloc _ _ x (by omega)))) (g2.keep (Nat.le_refl _) (Nat.le_refl _) (fun x _ hx => (Below.heap_alloc _ _ x (by simp; omega)).trans (Below.heap_alloc _ _ x (by omega)))) (g1'.keep (Nat.le_refl _) (Nat.le_refl _) (fun x _ hx => (Below.heap_alloc _ _ x (by simp; omega)).trans (Below.heap_alloc _ _ x (by omega)))) (g2'.keep (Nat.le_refl _) (Nat.le_refl _) (fun x _ hx => (Below.heap_alloc _ _ x (by simp; omega)).trans (Below.heap_alloc _ _ x (by omega))))).mono ?_
        rintro e w3 ⟨rfl, x3⟩
        have hb3 : Below w.heap.size w w3 := hw1.trans (x3.mono hw1.size)
        by_cases he : (⟨name, params, body⟩ : FnD) = (⟨name', params', body'⟩ : FnD)
        · rw [eqB_true he]
          have HE : Hid ((⟨name, params, body⟩ : FnD) = (⟨name', params', body'⟩ : FnD)) := he
          clear he
          go_wp2_with fail
          go_roundw
          case rel => exact ⟨k + 1, by omega, by go_num, take_succ_eq HT.out hkl hkl' (HL.out.trans (HE.out.trans HL2.out.symm)), hb3⟩
          case measure => simp [intOf]; omega
        · rw [eqB_false he]
          have HE : Hid (¬ (⟨name, params, body⟩ : FnD) = (⟨name', params', body'⟩ : FnD)) := he
          clear he
          go_wp2_with fail
          go_ret
          exact Same2.mk_false (ne_of_at hkl hkl' HL.out HL2.out HE.out) rfl hb3
      · go_wp2_with fail
        go_ret
        exact Same2.mk_true (take_all_eq HT.out (by omega) (by omega)) rfl hb
  · have hnb : ((l.length : Int) != (l'.length : Int)) = true := by simpa using fun h : (l.length : Int) = l'.length => hlen (by omega)
    have HL0 : Hid (¬ l.length = l'.length) := hlen
    clear hlen
    go_enter Try.func109, Try.ntmps109
    go_wp2_with fail
    go_ret
    exact Same2.mk_false (ne_of_len HL0.out) rfl (Below.refl _ _)

theorem impl_SamePrograms (d : Nat) (fns : List FnD) (v0 : Value) (d' : Nat) (fns' : List FnD) (v0' : Value) (w : World) (lo B lo' B' : Nat) (hB : B ≤ w.heap.size) (hC : B' ≤ w.heap.size) (h0 : Sl false (fnS false d) w lo B fns v0) (h0' : Sl false (fnS false d') w lo' B' fns' v0') :
    Calls Try.prog 55 #[.agg #[v0], .agg #[v0']] w (Same2 (⟨fns⟩ : ProgD) (⟨fns'⟩ : ProgD) w) := by
  have hb0 : Below w.heap.size w ((w.alloc (.cells #[v0] 72)).alloc (.cells #[v0'] 72)) := ((Below.refl _ _).alloc (Nat.le_refl _) _).alloc (by simp) _
  have P0 : Row ((w.alloc (.cells #[v0] 72)).alloc (.cells #[v0'] 72)) w.heap.size 72 #[v0] := (Row.new w _ _).alloc _
  have Q0 : Row ((w.alloc (.cells #[v0] 72)).alloc (.cells #[v0'] 72)) (w.heap.size + 1) 72 #[v0'] := by simpa using Row.new (w.alloc (.cells #[v0] 72)) 72 #[v0']
  go_enter Try.func55, Try.ntmps55
  go_wp2_with fail
  refine (impl_sameFnS d d' fns fns' v0 v0' _ lo B lo' B' (Nat.le_trans hB hb0.size) (Nat.le_trans hC hb0.size) (h0.below hb0 hB) (h0'.below hb0 hC)).mono ?_
  rintro e w1 ⟨rfl, x1⟩
  have hb1 : Below w.heap.size w w1 := hb0.trans (x1.mono hb0.size)
  have P1 := P0.below x1 P0.lt
  have Q1 := Q0.below x1 Q0.lt
  by_cases e0 : fns = fns'
  · rw [eqB_true e0]
    subst e0
    go_wp2_with fail
    go_ret
    exact Same2.mk_true rfl rfl hb1
  · have E0 : Hid (¬ fns = fns') := e0
    rw [eqB_false e0]
    clear e0
    go_wp2_with fail
    go_ret
    exact Same2.mk_false (fun h => E0.out (congrArg ProgD.fns h)) rfl hb1

end Go.Proofs.Ytaokcnjjlbdnoaa

