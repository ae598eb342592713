/-
  Sameness of programs, by the reference. Conditions: the arguments read as data.
-/
import Derived.Test.YtaokcnjjlbdnoaaSame4
import Derived.Test.YtaokcnjjlbdnoaaReg
namespace Go.Proofs.Ytaokcnjjlbdnoaa
open Go.RowKit Go.ChangeShapes Go.WideShapes Go.Deep

set_option linter.unusedVariables false
set_option linter.unusedSimpArgs false
def SpecSameListAt (D : Nat) : Prop := ∀ (D' : Nat) (l l' : List St) (v u : Value) (w : World) (lo B lo' B' : Nat) (hB : B ≤ w.heap.size) (hC : B' ≤ w.heap.size) (hv : Sl false (stS false D) w lo B l v) (hu : Sl false (stS false D') w lo' B' l' u), Calls Try.prog 108 #[v, u] w (Same2 l l' w)
set_option maxRecDepth 100000 in
set_option maxHeartbeats 8000000 in
theorem spec_l3SameList_step (D : Nat) (ih : ∀ d0, D = d0 + 1 → SpecSameListAt d0) (D' : Nat) (l l' : List St) (v u : Value) (w : World) (lo B lo' B' : Nat) (hB : B ≤ w.heap.size) (hC : B' ≤ w.heap.size) (hv : Sl false (stS false D) w lo B l v) (hu : Sl false (stS false D') w lo' B' l' u) :
    Calls Try.prog 108 #[v, u] w (Same2 l l' w) := by
  obtain ⟨A, cap, rfl, hlc, hcm⟩ := hv.form
  obtain ⟨A2, cap2, rfl, hlc2, hcm2⟩ := hu.form
  by_cases hlen : l.length = l'.length
  case neg =>
    have hnb : ((l.length : Int) != (l'.length : Int)) = true := by simpa using fun h : (l.length : Int) = l'.length => hlen (by omega)
    have HL0 : Hid (¬ l.length = l'.length) := hlen
    clear hlen
    go_enter Try.func108, Try.ntmps108
    go_wp2_with fail
    go_ret
    exact Same2.mk_false (ne_of_len HL0.out) rfl (Below.refl _ _)
  have hnb : ((l.length : Int) != (l'.length : Int)) = false := by rw [hlen]; simp
  have HL0 : Hid (l.length = l'.length) := hlen
  have hle1 : l.length ≤ l'.length := by omega
  have hle2 : l'.length ≤ l.length := by omega
  clear hlen
  go_enter Try.func108, Try.ntmps108
  go_wp2_with fail
  go_loopw [5] (fun i wr => ∃ k : Nat, k ≤ l.length ∧ i = .int .i64 k ∧ Hid (l.take k = l'.take k) ∧ Below w.heap.size w wr) (fun i _ => l.length - (intOf i).toNat)
  case atStart => exact ⟨0, by omega, rfl, (show _ = _ by simp), Below.refl _ _⟩
  case round =>
    obtain ⟨k, hk, rfl, HT, hb⟩ := hrel
    have hsz := hb.size
    by_cases hkl : k < l.length
    case neg =>
      go_wp2_with fail
      go_ret
      exact Same2.mk_true (take_all_eq HT.out (by omega) (by omega)) rfl hb
    case pos =>
      obtain ⟨d, rfl⟩ := stS_pos hv (by omega)
      obtain ⟨d', rfl⟩ := stS_pos hu (by omega)
      have hkl' : k < l'.length := by omega
      obtain ⟨b, o, op, name, args, v2, body, v3, els, v4, rfl, _, hbB, HL, g0, g1, g2, g3, g4, c0, c1, c2, c3, c4⟩ := st_get d hv hkl
      obtain ⟨b2, o2, op2, name2, args2, u2, body2, u3, els2, u4, rfl, _, hbB2, HL2, g0', g1', g2', g3', g4', t0, t1, t2, t3, t4⟩ := st_get d' hu hkl'
      obtain ⟨A_2, p_2, hf, hl_A_2, hm_A_2⟩ := g2.form
      change _ = Value.slice A_2 args.length p_2 at hf
      subst hf
      obtain ⟨A_3, p_3, hf, hl_A_3, hm_A_3⟩ := g3.form
      change _ = Value.slice A_3 body.length p_3 at hf
      subst hf
      obtain ⟨A_4, p_4, hf, hl_A_4, hm_A_4⟩ := g4.form
      change _ = Value.slice A_4 els.length p_4 at hf
      subst hf
      obtain ⟨E_2, q_2, hf, hl_E_2, hm_E_2⟩ := g2'.form
      change _ = Value.slice E_2 args2.length q_2 at hf
      subst hf
      obtain ⟨E_3, q_3, hf, hl_E_3, hm_E_3⟩ := g3'.form
      change _ = Value.slice E_3 body2.length q_3 at hf
      subst hf
      obtain ⟨E_4, q_4, hf, hl_E_4, hm_E_4⟩ := g4'.form
      change _ = Value.slice E_4 els2.length q_4 at hf
      subst hf
      replace c0 := Lib.hid c0
      replace t0 := Lib.hid t0
      replace c1 := Lib.hid c1
      replace t1 := Lib.hid t1
      replace c2 := Lib.hid c2
      replace t2 := Lib.hid t2
      replace c3 := Lib.hid c3
      replace t3 := Lib.hid t3
      replace c4 := Lib.hid c4
      replace t4 := Lib.hid t4
      have hltb : b < w.heap.size := Nat.lt_of_lt_of_le hbB hB
      have hltb2 : b2 < w.heap.size := Nat.lt_of_lt_of_le hbB2 hC
      have hki : (0 : Int) ≤ (k : Int) := by omega
      have hkn : (k : Int) < (l.length : Int) := by omega
      have hkn' : (k : Int) < (l'.length : Int) := by omega
      have m0 : wr.cell? ⟨b, o + k * 5, none⟩ = some (.int .i64 op) := (hb.cell hltb).trans c0.out
      have m1 : wr.cell? ⟨b, o + k * 5 + 1, none⟩ = some (.string name) := (hb.cell hltb).trans c1.out
      have m2 : wr.cell? ⟨b, o + k * 5 + 2, none⟩ = some (.slice A_2 args.length p_2) := (hb.cell hltb).trans c2.out
      have m3 : wr.cell? ⟨b, o + k * 5 + 3, none⟩ = some (.slice A_3 body.length p_3) := (hb.cell hltb).trans c3.out
      have m4 : wr.cell? ⟨b, o + k * 5 + 4, none⟩ = some (.slice A_4 els.length p_4) := (hb.cell hltb).trans c4.out
      have m0' : wr.cell? ⟨b2, o2 + k * 5, none⟩ = some (.int .i64 op2) := (hb.cell hltb2).trans t0.out
      have m1' : wr.cell? ⟨b2, o2 + k * 5 + 1, none⟩ = some (.string name2) := (hb.cell hltb2).trans t1.out
      have m2' : wr.cell? ⟨b2, o2 + k * 5 + 2, none⟩ = some (.slice E_2 args2.length q_2) := (hb.cell hltb2).trans t2.out
      have m3' : wr.cell? ⟨b2, o2 + k * 5 + 3, none⟩ = some (.slice E_3 body2.length q_3) := (hb.cell hltb2).trans t3.out
      have m4' : wr.cell? ⟨b2, o2 + k * 5 + 4, none⟩ = some (.slice E_4 els2.length q_4) := (hb.cell hltb2).trans t4.out
      by_cases he : op = op2
      case neg =>
        have n_ : (op != op2) = true := by simpa using he
        have HE : Hid (¬ op = op2) := he
        clear he
        go_wp2_with fail
        go_big_quiet (fail)
        go_wp2_with fail
        go_ret
        exact Same2.mk_false (ne_of_at hkl hkl' HL.out HL2.out (fun h' => HE.out (congrArg St.op h'))) rfl (below_drewN hb _)
      subst he
      have n_op : (op != op) = false := by simp
      by_cases he : name = name2
      case neg =>
        have n_ : (name.toList == name2.toList) = false := str_ne he
        have HE : Hid (¬ name = name2) := he
        clear he
        go_wp2_with fail
        go_big_quiet (fail)
        go_wp2_with fail
        go_ret
        exact Same2.mk_false (ne_of_at hkl hkl' HL.out HL2.out (fun h' => HE.out (congrArg St.name h'))) rfl (below_drewN hb _)
      subst he
      have n_name : (name.toList == name.toList) = true := by simp
      by_cases he : args.length = args2.length
      case neg =>
        have n_ : ((args.length : Int) != (args2.length : Int)) = true := by simpa using fun h : (args.length : Int) = args2.length => he (by omega)
        have HE : Hid (¬ args.length = args2.length) := he
        clear he
        go_wp2_with fail
        go_big_quiet (fail)
        go_wp2_with fail
        go_ret
        exact Same2.mk_false (ne_of_at hkl hkl' HL.out HL2.out (fun h' => HE.out (congrArg (fun s => (St.args s).length) h'))) rfl (below_drewN hb _)
      have n_len : ((args.length : Int) != (args2.length : Int)) = false := by rw [he]; simp
      have HLA : Hid (args.length = args2.length) := he
      have hla1 : args.length ≤ args2.length := by omega
      have hla2 : args2.length ≤ args.length := by omega
      clear he
      go_wp2_with fail
      go_big_quiet (fail)
      go_wp2_with fail
      go_loopw [6] (fun i wr => ∃ j : Nat, j ≤ args.length ∧ i = .int .i64 j ∧ Hid (args.take j = args2.take j) ∧ Below w.heap.size w wr) (fun i _ => args.length - (intOf i).toNat)
      case atStart => exact ⟨0, by omega, rfl, (show _ = _ by simp), below_drewN hb _⟩
      case round =>
        clear m0 m1 m2 m3 m4 m0' m1' m2' m3' m4' hb hsz
        obtain ⟨j, hj, rfl, HA, hb⟩ := hrel
        have hsz := hb.size
        have m0 : wr.cell? ⟨b, o + k * 5, none⟩ = some (.int .i64 op) := (hb.cell hltb).trans c0.out
        have m1 : wr.cell? ⟨b, o + k * 5 + 1, none⟩ = some (.string name) := (hb.cell hltb).trans c1.out
        have m2 : wr.cell? ⟨b, o + k * 5 + 2, none⟩ = some (.slice A_2 args.length p_2) := (hb.cell hltb).trans c2.out
        have m3 : wr.cell? ⟨b, o + k * 5 + 3, none⟩ = some (.slice A_3 body.length p_3) := (hb.cell hltb).trans c3.out
        have m4 : wr.cell? ⟨b, o + k * 5 + 4, none⟩ = some (.slice A_4 els.length p_4) := (hb.cell hltb).trans c4.out
        have m0' : wr.cell? ⟨b2, o2 + k * 5, none⟩ = some (.int .i64 op) := (hb.cell hltb2).trans t0.out
        have m1' : wr.cell? ⟨b2, o2 + k * 5 + 1, none⟩ = some (.string name) := (hb.cell hltb2).trans t1.out
        have m2' : wr.cell? ⟨b2, o2 + k * 5 + 2, none⟩ = some (.slice E_2 args2.length q_2) := (hb.cell hltb2).trans t2.out
        have m3' : wr.cell? ⟨b2, o2 + k * 5 + 3, none⟩ = some (.slice E_3 body2.length q_3) := (hb.cell hltb2).trans t3.out
        have m4' : wr.cell? ⟨b2, o2 + k * 5 + 4, none⟩ = some (.slice E_4 els2.length q_4) := (hb.cell hltb2).trans t4.out
        by_cases hjl : j < args.length
        case pos =>
          obtain ⟨d1, rfl⟩ := exS_pos g2 (by omega)
          obtain ⟨d1', rfl⟩ := exS_pos g2' (by omega)
          have hjl' : j < args2.length := by omega
          obtain ⟨f, p, xop, xn, xname, xkids, xv, rfl, _, hfB, HX, k0, k1, k2, k3, z0, z1, z2, z3⟩ := ex_get d1 g2 hjl
          obtain ⟨f2, p2, yop, yn, yname, ykids, yv, rfl, _, hfB2, HY, k0', k1', k2', k3', z0', z1', z2', z3'⟩ := ex_get d1' g2' hjl'
          have hltf : f < w.heap.size := Nat.lt_of_lt_of_le hfB hB
          have hltf2 : f2 < w.heap.size := Nat.lt_of_lt_of_le hfB2 hC
          have hji : (0 : Int) ≤ (j : Int) := by omega
          have hjn : (j : Int) < (args.length : Int) := by omega
          have hjn' : (j : Int) < (args2.length : Int) := by omega
          replace z0 := Lib.hid z0
          replace z0' := Lib.hid z0'
          replace z1 := Lib.hid z1
          replace z1' := Lib.hid z1'
          replace z2 := Lib.hid z2
          replace z2' := Lib.hid z2'
          replace z3 := Lib.hid z3
          replace z3' := Lib.hid z3'
          go_wp2_with fail
          clear m0 m0' m1 m1' m2 m2' m3 m3' m4 m4'
          have y0 : wr.cell? ⟨b, o + k * 5 + 2, none⟩ = some (.slice (some ⟨f, p, none⟩) args.length p_2) := (hb.cell hltb).trans c2.out
          have y1 : wr.cell? ⟨b2, o2 + k * 5 + 2, none⟩ = some (.slice (some ⟨f2, p2, none⟩) args2.length q_2) := (hb.cell hltb2).trans t2.out
          have y2 : wr.cell? ⟨f, p + j * 4, none⟩ = some (.int .i64 xop) := (hb.cell hltf).trans z0.out
          have y3 : wr.cell? ⟨f, p + j * 4 + 1, none⟩ = some (.int .i64 xn) := (hb.cell hltf).trans z1.out
          have y4 : wr.cell? ⟨f, p + j * 4 + 2, none⟩ = some (.string xname) := (hb.cell hltf).trans z2.out
          have y5 : wr.cell? ⟨f, p + j * 4 + 3, none⟩ = some (xv) := (hb.cell hltf).trans z3.out
          have y6 : wr.cell? ⟨f2, p2 + j * 4, none⟩ = some (.int .i64 yop) := (hb.cell hltf2).trans z0'.out
          have y7 : wr.cell? ⟨f2, p2 + j * 4 + 1, none⟩ = some (.int .i64 yn) := (hb.cell hltf2).trans z1'.out
          have y8 : wr.cell? ⟨f2, p2 + j * 4 + 2, none⟩ = some (.string yname) := (hb.cell hltf2).trans z2'.out
          have y9 : wr.cell? ⟨f2, p2 + j * 4 + 3, none⟩ = some (yv) := (hb.cell hltf2).trans z3'.out
          have hbd : Below w.heap.size w wr.drew := hb.drew
          have hsz2 := hbd.size
          have gk := k3.below hbd hB
          have gk' := k3'.below hbd hC
          go_region_held3 (fun w' => w'.cell? ⟨b, o + k * 5 + 2, none⟩ = some (.slice (some ⟨f, p, none⟩) args.length p_2) ∧ w'.cell? ⟨b2, o2 + k * 5 + 2, none⟩ = some (.slice (some ⟨f2, p2, none⟩) args2.length q_2) ∧ w'.cell? ⟨f, p + j * 4, none⟩ = some (.int .i64 xop) ∧ w'.cell? ⟨f, p + j * 4 + 1, none⟩ = some (.int .i64 xn) ∧ w'.cell? ⟨f, p + j * 4 + 2, none⟩ = some (.string xname) ∧ w'.cell? ⟨f, p + j * 4 + 3, none⟩ = some (xv) ∧ w'.cell? ⟨f2, p2 + j * 4, none⟩ = some (.int .i64 yop) ∧ w'.cell? ⟨f2, p2 + j * 4 + 1, none⟩ = some (.int .i64 yn) ∧ w'.cell? ⟨f2, p2 + j * 4 + 2, none⟩ = some (.string yname) ∧ w'.cell? ⟨f2, p2 + j * 4 + 3, none⟩ = some (yv)) (refine ⟨?_, ?_, ?_, ?_, ?_, ?_, ?_, ?_, ?_, ?_⟩ <;> assumption) (first | (go_at_call 31; refine (spec_SameExpr d1 xop xn xname xkids xv d1' yop yn yname ykids yv _ lo B lo' B' (Nat.le_trans hB hsz2) (Nat.le_trans hC hsz2) gk gk').mono ?_; rintro e w3 ⟨rfl, x3⟩; have hb3 : Below w.heap.size w w3 := hbd.trans (x3.mono hsz2); have s0 : w3.cell? ⟨b, o + k * 5 + 2, none⟩ = some (.slice (some ⟨f, p, none⟩) args.length p_2) := (hb3.cell hltb).trans c2.out; have s1 : w3.cell? ⟨b2, o2 + k * 5 + 2, none⟩ = some (.slice (some ⟨f2, p2, none⟩) args2.length q_2) := (hb3.cell hltb2).trans t2.out; have s2 : w3.cell? ⟨f, p + j * 4, none⟩ = some (.int .i64 xop) := (hb3.cell hltf).trans z0.out; have s3 : w3.cell? ⟨f, p + j * 4 + 1, none⟩ = some (.int .i64 xn) := (hb3.cell hltf).trans z1.out; have s4 : w3.cell? ⟨f, p + j * 4 + 2, none⟩ = some (.string xname) := (hb3.cell hltf).trans z2.out; have s5 : w3.cell? ⟨f, p + j * 4 + 3, none⟩ = some (xv) := (hb3.cell hltf).trans z3.out; have s6 : w3.cell? ⟨f2, p2 + j * 4, none⟩ = some (.int .i64 yop) := (hb3.cell hltf2).trans z0'.out; have s7 : w3.cell? ⟨f2, p2 + j * 4 + 1, none⟩ = some (.int .i64 yn) := (hb3.cell hltf2).trans z1'.out; have s8 : w3.cell? ⟨f2, p2 + j * 4 + 2, none⟩ = some (.string yname) := (hb3.cell hltf2).trans z2'.out; have s9 : w3.cell? ⟨f2, p2 + j * 4 + 3, none⟩ = some (yv) := (hb3.cell hltf2).trans z3'.out))
          by_cases he : Ex.mk xop xn xname xkids = Ex.mk yop yn yname ykids
          case neg =>
            rw [eqB_false he]
            have HE : Hid (¬ Ex.mk xop xn xname xkids = Ex.mk yop yn yname ykids) := he
            clear he
            go_wp2_with fail
            go_ret
            exact Same2.mk_false (ne_of_at hkl hkl' HL.out HL2.out (fun h' => ne_of_at hjl hjl' HX.out HY.out HE.out (congrArg St.args h'))) rfl hb3
          rw [eqB_true he]
          have HE : Hid (Ex.mk xop xn xname xkids = Ex.mk yop yn yname ykids) := he
          clear he
          go_wp2_with fail
          go_roundw
          case rel => exact ⟨j + 1, by omega, by go_num, take_succ_eq HA.out hjl hjl' (HX.out.trans (HE.out.trans HY.out.symm)), hb3⟩
          case measure => simp [intOf]; omega
        case neg =>
          have HAE : Hid (args = args2) := take_all_eq HA.out (by omega) (by omega)
          clear HA
          go_wp2_with fail
          have hbd : Below w.heap.size w wr.drew := hb.drew
          have hsz2 := hbd.size
          have gb := g3.below hbd hB
          have gb' := g3'.below hbd hC
          by_cases heb : body = body2
          case neg =>
            have HB : Hid (¬ body = body2) := heb
            clear heb
            refine wp_region_held_drew (S := fun w' => w'.cell? ⟨b, o + k * 5 + 3, none⟩ = some (.slice A_3 body.length p_3) ∧ w'.cell? ⟨b, o + k * 5 + 4, none⟩ = some (.slice A_4 els.length p_4) ∧ w'.cell? ⟨b2, o2 + k * 5 + 3, none⟩ = some (.slice E_3 body2.length q_3) ∧ w'.cell? ⟨b2, o2 + k * 5 + 4, none⟩ = some (.slice E_4 els2.length q_4)) (by kernel_rfl) ?_ (fun hHeld => ?_)
            · ((try dsimp only); refine ⟨?_, ?_, ?_, ?_⟩ <;> assumption)
            refine reg_take (i := 0) (v := ?v1) rfl (by kernel_rfl) (by kernel_rfl) (by kernel_rfl) (fun _ _ _ h => h) (Or.inl ⟨by kernel_rfl, ?h1⟩) (by assumption) ?r1
            case h1 => (intro w hSw; (try dsimp only at hSw); go_simp; try with_reducible rfl)
            try simp only [Act.put, List.setIfInBounds_toArray, List.set_cons_zero, List.set_cons_succ]
            refine reg_take (i := 1) (v := ?v2) rfl (by kernel_rfl) (by kernel_rfl) (by kernel_rfl) (fun _ _ _ h => h) (Or.inl ⟨by kernel_rfl, ?h2⟩) (by assumption) ?r2
            case h2 => (intro w hSw; (try dsimp only at hSw); go_simp; try with_reducible rfl)
            try simp only [Act.put, List.setIfInBounds_toArray, List.set_cons_zero, List.set_cons_succ]
            refine reg_take (i := 2) (v := ?v3) rfl (by kernel_rfl) (by kernel_rfl) (by kernel_rfl) (fun _ _ _ h => h) (Or.inl ⟨by kernel_rfl, ?h3⟩) (by assumption) ?r3
            case h3 => (intro w hSw; (try dsimp only at hSw); go_simp; try with_reducible rfl)
            try simp only [Act.put, List.setIfInBounds_toArray, List.set_cons_zero, List.set_cons_succ]
            refine reg_take (i := 3) (v := ?v4) rfl (by kernel_rfl) (by kernel_rfl) (by kernel_rfl) (fun _ _ _ h => h) (Or.inl ⟨by kernel_rfl, ?h4⟩) (by assumption) ?r4
            case h4 => (intro w hSw; (try dsimp only at hSw); go_simp; try with_reducible rfl)
            try simp only [Act.put, List.setIfInBounds_toArray, List.set_cons_zero, List.set_cons_succ]
            refine reg_take (i := 4) (v := ?v5) rfl (by kernel_rfl) (by kernel_rfl) (by kernel_rfl) (fun _ _ _ h => h) (Or.inl ⟨by kernel_rfl, ?h5⟩) (by assumption) ?r5
            case h5 => (intro w hSw; (try dsimp only at hSw); go_simp; try with_reducible rfl)
            try simp only [Act.put, List.setIfInBounds_toArray, List.set_cons_zero, List.set_cons_succ]
            refine reg_take (i := 5) (v := ?v6) rfl (by kernel_rfl) (by kernel_rfl) (by kernel_rfl) (fun _ _ _ h => h) (Or.inl ⟨by kernel_rfl, ?h6⟩) (by assumption) ?r6
            case h6 => (intro w hSw; (try dsimp only at hSw); go_simp; try with_reducible rfl)
            try simp only [Act.put, List.setIfInBounds_toArray, List.set_cons_zero, List.set_cons_succ]
            refine reg_take (i := 6) (v := ?v7) rfl (by kernel_rfl) (by kernel_rfl) (by kernel_rfl) (fun _ _ _ h => h) (Or.inl ⟨by kernel_rfl, ?h7⟩) (by assumption) ?r7
            case h7 => (intro w hSw; (try dsimp only at hSw); go_simp; try with_reducible rfl)
            try simp only [Act.put, List.setIfInBounds_toArray, List.set_cons_zero, List.set_cons_succ]
            refine reg_take (i := 7) (v := ?v8) rfl (by kernel_rfl) (by kernel_rfl) (by kernel_rfl) (fun _ _ _ h => h) (Or.inl ⟨by kernel_rfl, ?h8⟩) (by assumption) ?r8
            case h8 => (intro w hSw; (try dsimp only at hSw); go_simp; try with_reducible rfl)
            try simp only [Act.put, List.setIfInBounds_toArray, List.set_cons_zero, List.set_cons_succ]
            refine reg_take (i := 8) (v := ?v9) rfl (by kernel_rfl) (by kernel_rfl) (by kernel_rfl) (fun _ _ _ h => h) (Or.inl ⟨by kernel_rfl, ?h9⟩) (by assumption) ?r9
            case h9 => (intro w hSw; (try dsimp only at hSw); go_simp; try with_reducible rfl)
            try simp only [Act.put, List.setIfInBounds_toArray, List.set_cons_zero, List.set_cons_succ]
            refine reg_take (i := 9) (v := ?v10) rfl (by kernel_rfl) (by kernel_rfl) (by kernel_rfl) (fun _ _ _ h => h) (Or.inl ⟨by kernel_rfl, ?h10⟩) (by assumption) ?r10
            case h10 => (intro w hSw; (try dsimp only at hSw); go_simp; try with_reducible rfl)
            try simp only [Act.put, List.setIfInBounds_toArray, List.set_cons_zero, List.set_cons_succ]
            refine reg_call (i := 10) (by kernel_rfl) rfl (fun K hK => ?_)
            go_simp
            (go_at_call 108; refine (ih d rfl d' body body2 _ _ _ lo B lo' B' (Nat.le_trans hB hsz2) (Nat.le_trans hC hsz2) gb gb').mono ?_; rintro e w3 ⟨he3, x3⟩; rw [eqB_false HB.out] at he3; subst he3; have hb3 : Below w.heap.size w w3 := hbd.trans (x3.mono hsz2); have s0 : w3.cell? ⟨b, o + k * 5 + 3, none⟩ = some (.slice A_3 body.length p_3) := (hb3.cell hltb).trans c3.out; have s1 : w3.cell? ⟨b, o + k * 5 + 4, none⟩ = some (.slice A_4 els.length p_4) := (hb3.cell hltb).trans c4.out; have s2 : w3.cell? ⟨b2, o2 + k * 5 + 3, none⟩ = some (.slice E_3 body2.length q_3) := (hb3.cell hltb2).trans t3.out; have s3 : w3.cell? ⟨b2, o2 + k * 5 + 4, none⟩ = some (.slice E_4 els2.length q_4) := (hb3.cell hltb2).trans t4.out)
            refine hK.out _ _ ?_ (fun hHeld => ?_)
            · ((try dsimp only); refine ⟨?_, ?_, ?_, ?_⟩ <;> assumption)
            clear hK K
            try simp only [Act.put, List.setIfInBounds_toArray, List.set_cons_zero, List.set_cons_succ]
            refine reg_take (i := 11) (v := ?v12) rfl (by kernel_rfl) (by kernel_rfl) (by kernel_rfl) (fun _ _ _ h => h) (Or.inl ⟨by kernel_rfl, ?h12⟩) (by assumption) ?r12
            case h12 => (intro w hSw; (try dsimp only at hSw); go_simp; try with_reducible rfl)
            try simp only [Act.put, List.setIfInBounds_toArray, List.set_cons_zero, List.set_cons_succ]
            refine reg_take (i := 12) (v := ?v13) rfl (by kernel_rfl) (by kernel_rfl) (by kernel_rfl) (fun _ _ _ h => h) (Or.inl ⟨by kernel_rfl, ?h13⟩) (by assumption) ?r13
            case h13 => (intro w hSw; (try dsimp only at hSw); go_simp; try with_reducible rfl)
            try simp only [Act.put, List.setIfInBounds_toArray, List.set_cons_zero, List.set_cons_succ]
            refine reg_take (i := 13) (v := undef) rfl (by kernel_rfl) (by kernel_rfl) (by kernel_rfl) (fun _ _ _ h => h) (Or.inr ⟨by kernel_rfl, rfl⟩) (by assumption) ?_
            try simp only [Act.put, List.setIfInBounds_toArray, List.set_cons_zero, List.set_cons_succ]
            refine reg_take (i := 14) (v := undef) rfl (by kernel_rfl) (by kernel_rfl) (by kernel_rfl) (fun _ _ _ h => h) (Or.inr ⟨by kernel_rfl, rfl⟩) (by assumption) ?_
            try simp only [Act.put, List.setIfInBounds_toArray, List.set_cons_zero, List.set_cons_succ]
            refine reg_take (i := 15) (v := undef) rfl (by kernel_rfl) (by kernel_rfl) (by kernel_rfl) (fun _ _ _ h => h) (Or.inr ⟨by kernel_rfl, rfl⟩) (by assumption) ?_
            try simp only [Act.put, List.setIfInBounds_toArray, List.set_cons_zero, List.set_cons_succ]
            refine reg_take (i := 16) (v := undef) rfl (by kernel_rfl) (by kernel_rfl) (by kernel_rfl) (fun _ _ _ h => h) (Or.inr ⟨by kernel_rfl, rfl⟩) (by assumption) ?_
            try simp only [Act.put, List.setIfInBounds_toArray, List.set_cons_zero, List.set_cons_succ]
            refine reg_take (i := 17) (v := undef) rfl (by kernel_rfl) (by kernel_rfl) (by kernel_rfl) (fun _ _ _ h => h) (Or.inr ⟨by kernel_rfl, rfl⟩) (by assumption) ?_
            try simp only [Act.put, List.setIfInBounds_toArray, List.set_cons_zero, List.set_cons_succ]
            refine reg_take (i := 18) (v := undef) rfl (by kernel_rfl) (by kernel_rfl) (by kernel_rfl) (fun _ _ _ h => h) (Or.inr ⟨by kernel_rfl, rfl⟩) (by assumption) ?_
            try simp only [Act.put, List.setIfInBounds_toArray, List.set_cons_zero, List.set_cons_succ]
            refine reg_take (i := 19) (v := undef) rfl (by kernel_rfl) (by kernel_rfl) (by kernel_rfl) (fun _ _ _ h => h) (Or.inr ⟨by kernel_rfl, rfl⟩) (by assumption) ?_
            try simp only [Act.put, List.setIfInBounds_toArray, List.set_cons_zero, List.set_cons_succ]
            refine reg_take (i := 20) (v := undef) rfl (by kernel_rfl) (by kernel_rfl) (by kernel_rfl) (fun _ _ _ h => h) (Or.inr ⟨by kernel_rfl, rfl⟩) (by assumption) ?_
            try simp only [Act.put, List.setIfInBounds_toArray, List.set_cons_zero, List.set_cons_succ]
            refine reg_take (i := 21) (v := undef) rfl (by kernel_rfl) (by kernel_rfl) (by kernel_rfl) (fun _ _ _ h => h) (Or.inr ⟨by kernel_rfl, rfl⟩) (by assumption) ?_
            try simp only [Act.put, List.setIfInBounds_toArray, List.set_cons_zero, List.set_cons_succ]
            refine reg_take (i := 22) (v := undef) rfl (by kernel_rfl) (by kernel_rfl) (by kernel_rfl) (fun _ _ _ h => h) (Or.inr ⟨by kernel_rfl, rfl⟩) (by assumption) ?_
            try simp only [Act.put, List.setIfInBounds_toArray, List.set_cons_zero, List.set_cons_succ]
            refine reg_take (i := 23) (v := undef) rfl (by kernel_rfl) (by kernel_rfl) (by kernel_rfl) (fun _ _ _ h => h) (Or.inr ⟨by kernel_rfl, rfl⟩) (by assumption) ?_
            try simp only [Act.put, List.setIfInBounds_toArray, List.set_cons_zero, List.set_cons_succ]
            refine reg_take (i := 24) (v := undef) rfl (by kernel_rfl) (by kernel_rfl) (by kernel_rfl) (fun _ _ _ h => h) (Or.inr ⟨by kernel_rfl, rfl⟩) (by assumption) ?_
            try simp only [Act.put, List.setIfInBounds_toArray, List.set_cons_zero, List.set_cons_succ]
            refine reg_take (i := 25) (v := ?v26) rfl (by kernel_rfl) (by kernel_rfl) (by kernel_rfl) (fun _ _ _ h => h) (Or.inl ⟨by kernel_rfl, ?h26⟩) (by assumption) ?r26
            case h26 => (intro w hSw; (try dsimp only at hSw); go_simp; try with_reducible rfl)
            try simp only [Act.put, List.setIfInBounds_toArray, List.set_cons_zero, List.set_cons_succ]
            refine wpAnyH_done (by kernel_rfl) ?_ _
            go_wp2_with fail
            go_ret
            exact Same2.mk_false (ne_of_at hkl hkl' HL.out HL2.out (fun h' => HB.out (congrArg St.body h'))) rfl hb3
          have HB : Hid (body = body2) := heb
          clear heb
          by_cases hee : els = els2
          case neg =>
            have HE : Hid (¬ els = els2) := hee
            clear hee
            refine wp_region_held_drew (S := fun w' => w'.cell? ⟨b, o + k * 5 + 3, none⟩ = some (.slice A_3 body.length p_3) ∧ w'.cell? ⟨b, o + k * 5 + 4, none⟩ = some (.slice A_4 els.length p_4) ∧ w'.cell? ⟨b2, o2 + k * 5 + 3, none⟩ = some (.slice E_3 body2.length q_3) ∧ w'.cell? ⟨b2, o2 + k * 5 + 4, none⟩ = some (.slice E_4 els2.length q_4)) (by kernel_rfl) ?_ (fun hHeld => ?_)
            · ((try dsimp only); refine ⟨?_, ?_, ?_, ?_⟩ <;> assumption)
            refine reg_take (i := 0) (v := ?v27) rfl (by kernel_rfl) (by kernel_rfl) (by kernel_rfl) (fun _ _ _ h => h) (Or.inl ⟨by kernel_rfl, ?h27⟩) (by assumption) ?r27
            case h27 => (intro w hSw; (try dsimp only at hSw); go_simp; try with_reducible rfl)
            try simp only [Act.put, List.setIfInBounds_toArray, List.set_cons_zero, List.set_cons_succ]
            refine reg_take (i := 1) (v := ?v28) rfl (by kernel_rfl) (by kernel_rfl) (by kernel_rfl) (fun _ _ _ h => h) (Or.inl ⟨by kernel_rfl, ?h28⟩) (by assumption) ?r28
            case h28 => (intro w hSw; (try dsimp only at hSw); go_simp; try with_reducible rfl)
            try simp only [Act.put, List.setIfInBounds_toArray, List.set_cons_zero, List.set_cons_succ]
            refine reg_take (i := 2) (v := ?v29) rfl (by kernel_rfl) (by kernel_rfl) (by kernel_rfl) (fun _ _ _ h => h) (Or.inl ⟨by kernel_rfl, ?h29⟩) (by assumption) ?r29
            case h29 => (intro w hSw; (try dsimp only at hSw); go_simp; try with_reducible rfl)
            try simp only [Act.put, List.setIfInBounds_toArray, List.set_cons_zero, List.set_cons_succ]
            refine reg_take (i := 3) (v := ?v30) rfl (by kernel_rfl) (by kernel_rfl) (by kernel_rfl) (fun _ _ _ h => h) (Or.inl ⟨by kernel_rfl, ?h30⟩) (by assumption) ?r30
            case h30 => (intro w hSw; (try dsimp only at hSw); go_simp; try with_reducible rfl)
            try simp only [Act.put, List.setIfInBounds_toArray, List.set_cons_zero, List.set_cons_succ]
            refine reg_take (i := 4) (v := ?v31) rfl (by kernel_rfl) (by kernel_rfl) (by kernel_rfl) (fun _ _ _ h => h) (Or.inl ⟨by kernel_rfl, ?h31⟩) (by assumption) ?r31
            case h31 => (intro w hSw; (try dsimp only at hSw); go_simp; try with_reducible rfl)
            try simp only [Act.put, List.setIfInBounds_toArray, List.set_cons_zero, List.set_cons_succ]
            refine reg_take (i := 5) (v := ?v32) rfl (by kernel_rfl) (by kernel_rfl) (by kernel_rfl) (fun _ _ _ h => h) (Or.inl ⟨by kernel_rfl, ?h32⟩) (by assumption) ?r32
            case h32 => (intro w hSw; (try dsimp only at hSw); go_simp; try with_reducible rfl)
            try simp only [Act.put, List.setIfInBounds_toArray, List.set_cons_zero, List.set_cons_succ]
            refine reg_take (i := 6) (v := ?v33) rfl (by kernel_rfl) (by kernel_rfl) (by kernel_rfl) (fun _ _ _ h => h) (Or.inl ⟨by kernel_rfl, ?h33⟩) (by assumption) ?r33
            case h33 => (intro w hSw; (try dsimp only at hSw); go_simp; try with_reducible rfl)
            try simp only [Act.put, List.setIfInBounds_toArray, List.set_cons_zero, List.set_cons_succ]
            refine reg_take (i := 7) (v := ?v34) rfl (by kernel_rfl) (by kernel_rfl) (by kernel_rfl) (fun _ _ _ h => h) (Or.inl ⟨by kernel_rfl, ?h34⟩) (by assumption) ?r34
            case h34 => (intro w hSw; (try dsimp only at hSw); go_simp; try with_reducible rfl)
            try simp only [Act.put, List.setIfInBounds_toArray, List.set_cons_zero, List.set_cons_succ]
            refine reg_take (i := 8) (v := ?v35) rfl (by kernel_rfl) (by kernel_rfl) (by kernel_rfl) (fun _ _ _ h => h) (Or.inl ⟨by kernel_rfl, ?h35⟩) (by assumption) ?r35
            case h35 => (intro w hSw; (try dsimp only at hSw); go_simp; try with_reducible rfl)
            try simp only [Act.put, List.setIfInBounds_toArray, List.set_cons_zero, List.set_cons_succ]
            refine reg_take (i := 9) (v := ?v36) rfl (by kernel_rfl) (by kernel_rfl) (by kernel_rfl) (fun _ _ _ h => h) (Or.inl ⟨by kernel_rfl, ?h36⟩) (by assumption) ?r36
            case h36 => (intro w hSw; (try dsimp only at hSw); go_simp; try with_reducible rfl)
            try simp only [Act.put, List.setIfInBounds_toArray, List.set_cons_zero, List.set_cons_succ]
            refine reg_call (i := 10) (by kernel_rfl) rfl (fun K hK => ?_)
            go_simp
            (go_at_call 108; refine (ih d rfl d' body body2 _ _ _ lo B lo' B' (Nat.le_trans hB hsz2) (Nat.le_trans hC hsz2) gb gb').mono ?_; rintro e w3 ⟨he3, x3⟩; rw [eqB_true HB.out] at he3; subst he3; have hb3 : Below w.heap.size w w3 := hbd.trans (x3.mono hsz2); have s0 : w3.cell? ⟨b, o + k * 5 + 3, none⟩ = some (.slice A_3 body.length p_3) := (hb3.cell hltb).trans c3.out; have s1 : w3.cell? ⟨b, o + k * 5 + 4, none⟩ = some (.slice A_4 els.length p_4) := (hb3.cell hltb).trans c4.out; have s2 : w3.cell? ⟨b2, o2 + k * 5 + 3, none⟩ = some (.slice E_3 body2.length q_3) := (hb3.cell hltb2).trans t3.out; have s3 : w3.cell? ⟨b2, o2 + k * 5 + 4, none⟩ = some (.slice E_4 els2.length q_4) := (hb3.cell hltb2).trans t4.out)
            refine hK.out _ _ ?_ (fun hHeld => ?_)
            · ((try dsimp only); refine ⟨?_, ?_, ?_, ?_⟩ <;> assumption)
            clear hK K
            try simp only [Act.put, List.setIfInBounds_toArray, List.set_cons_zero, List.set_cons_succ]
            refine reg_take (i := 11) (v := ?v38) rfl (by kernel_rfl) (by kernel_rfl) (by kernel_rfl) (fun _ _ _ h => h) (Or.inl ⟨by kernel_rfl, ?h38⟩) (by assumption) ?r38
            case h38 => (intro w hSw; (try dsimp only at hSw); go_simp; try with_reducible rfl)
            try simp only [Act.put, List.setIfInBounds_toArray, List.set_cons_zero, List.set_cons_succ]
            refine reg_take (i := 12) (v := ?v39) rfl (by kernel_rfl) (by kernel_rfl) (by kernel_rfl) (fun _ _ _ h => h) (Or.inl ⟨by kernel_rfl, ?h39⟩) (by assumption) ?r39
            case h39 => (intro w hSw; (try dsimp only at hSw); go_simp; try with_reducible rfl)
            try simp only [Act.put, List.setIfInBounds_toArray, List.set_cons_zero, List.set_cons_succ]
            refine reg_take (i := 13) (v := ?v40) rfl (by kernel_rfl) (by kernel_rfl) (by kernel_rfl) (fun _ _ _ h => h) (Or.inl ⟨by kernel_rfl, ?h40⟩) (by assumption) ?r40
            case h40 => (intro w hSw; (try dsimp only at hSw); go_simp; try with_reducible rfl)
            try simp only [Act.put, List.setIfInBounds_toArray, List.set_cons_zero, List.set_cons_succ]
            refine reg_take (i := 14) (v := ?v41) rfl (by kernel_rfl) (by kernel_rfl) (by kernel_rfl) (fun _ _ _ h => h) (Or.inl ⟨by kernel_rfl, ?h41⟩) (by assumption) ?r41
            case h41 => (intro w hSw; (try dsimp only at hSw); go_simp; try with_reducible rfl)
            try simp only [Act.put, List.setIfInBounds_toArray, List.set_cons_zero, List.set_cons_succ]
            refine reg_take (i := 15) (v := ?v42) rfl (by kernel_rfl) (by kernel_rfl) (by kernel_rfl) (fun _ _ _ h => h) (Or.inl ⟨by kernel_rfl, ?h42⟩) (by assumption) ?r42
            case h42 => (intro w hSw; (try dsimp only at hSw); go_simp; try with_reducible rfl)
            try simp only [Act.put, List.setIfInBounds_toArray, List.set_cons_zero, List.set_cons_succ]
            refine reg_take (i := 16) (v := ?v43) rfl (by kernel_rfl) (by kernel_rfl) (by kernel_rfl) (fun _ _ _ h => h) (Or.inl ⟨by kernel_rfl, ?h43⟩) (by assumption) ?r43
            case h43 => (intro w hSw; (try dsimp only at hSw); go_simp; try with_reducible rfl)
            try simp only [Act.put, List.setIfInBounds_toArray, List.set_cons_zero, List.set_cons_succ]
            refine reg_take (i := 17) (v := ?v44) rfl (by kernel_rfl) (by kernel_rfl) (by kernel_rfl) (fun _ _ _ h => h) (Or.inl ⟨by kernel_rfl, ?h44⟩) (by assumption) ?r44
            case h44 => (intro w hSw; (try dsimp only at hSw); go_simp; try with_reducible rfl)
            try simp only [Act.put, List.setIfInBounds_toArray, List.set_cons_zero, List.set_cons_succ]
            refine reg_take (i := 18) (v := ?v45) rfl (by kernel_rfl) (by kernel_rfl) (by kernel_rfl) (fun _ _ _ h => h) (Or.inl ⟨by kernel_rfl, ?h45⟩) (by assumption) ?r45
            case h45 => (intro w hSw; (try dsimp only at hSw); go_simp; try with_reducible rfl)
            try simp only [Act.put, List.setIfInBounds_toArray, List.set_cons_zero, List.set_cons_succ]
            refine reg_take (i := 19) (v := ?v46) rfl (by kernel_rfl) (by kernel_rfl) (by kernel_rfl) (fun _ _ _ h => h) (Or.inl ⟨by kernel_rfl, ?h46⟩) (by assumption) ?r46
            case h46 => (intro w hSw; (try dsimp only at hSw); go_simp; try with_reducible rfl)
            try simp only [Act.put, List.setIfInBounds_toArray, List.set_cons_zero, List.set_cons_succ]
            refine reg_take (i := 20) (v := ?v47) rfl (by kernel_rfl) (by kernel_rfl) (by kernel_rfl) (fun _ _ _ h => h) (Or.inl ⟨by kernel_rfl, ?h47⟩) (by assumption) ?r47
            case h47 => (intro w hSw; (try dsimp only at hSw); go_simp; try with_reducible rfl)
            try simp only [Act.put, List.setIfInBounds_toArray, List.set_cons_zero, List.set_cons_succ]
            refine reg_take (i := 21) (v := ?v48) rfl (by kernel_rfl) (by kernel_rfl) (by kernel_rfl) (fun _ _ _ h => h) (Or.inl ⟨by kernel_rfl, ?h48⟩) (by assumption) ?r48
            case h48 => (intro w hSw; (try dsimp only at hSw); go_simp; try with_reducible rfl)
            try simp only [Act.put, List.setIfInBounds_toArray, List.set_cons_zero, List.set_cons_succ]
            refine reg_take (i := 22) (v := ?v49) rfl (by kernel_rfl) (by kernel_rfl) (by kernel_rfl) (fun _ _ _ h => h) (Or.inl ⟨by kernel_rfl, ?h49⟩) (by assumption) ?r49
            case h49 => (intro w hSw; (try dsimp only at hSw); go_simp; try with_reducible rfl)
            try simp only [Act.put, List.setIfInBounds_toArray, List.set_cons_zero, List.set_cons_succ]
            refine reg_call (i := 23) (by kernel_rfl) rfl (fun K hK => ?_)
            go_simp
            (go_at_call 108; have hsz3 := hb3.size; refine (ih d rfl d' els els2 _ _ _ lo B lo' B' (Nat.le_trans hB hsz3) (Nat.le_trans hC hsz3) (g4.below hb3 hB) (g4'.below hb3 hC)).mono ?_; rintro e w4 ⟨he3, x3⟩; rw [eqB_false HE.out] at he3; subst he3; have hb4 : Below w.heap.size w w4 := hb3.trans (x3.mono hsz3); have v0 : w4.cell? ⟨b, o + k * 5 + 3, none⟩ = some (.slice A_3 body.length p_3) := (hb4.cell hltb).trans c3.out; have v1 : w4.cell? ⟨b, o + k * 5 + 4, none⟩ = some (.slice A_4 els.length p_4) := (hb4.cell hltb).trans c4.out; have v2 : w4.cell? ⟨b2, o2 + k * 5 + 3, none⟩ = some (.slice E_3 body2.length q_3) := (hb4.cell hltb2).trans t3.out; have v3 : w4.cell? ⟨b2, o2 + k * 5 + 4, none⟩ = some (.slice E_4 els2.length q_4) := (hb4.cell hltb2).trans t4.out)
            refine hK.out _ _ ?_ (fun hHeld => ?_)
            · ((try dsimp only); refine ⟨?_, ?_, ?_, ?_⟩ <;> assumption)
            clear hK K
            try simp only [Act.put, List.setIfInBounds_toArray, List.set_cons_zero, List.set_cons_succ]
            refine reg_take (i := 24) (v := ?v51) rfl (by kernel_rfl) (by kernel_rfl) (by kernel_rfl) (fun _ _ _ h => h) (Or.inl ⟨by kernel_rfl, ?h51⟩) (by assumption) ?r51
            case h51 => (intro w hSw; (try dsimp only at hSw); go_simp; try with_reducible rfl)
            try simp only [Act.put, List.setIfInBounds_toArray, List.set_cons_zero, List.set_cons_succ]
            refine reg_take (i := 25) (v := ?v52) rfl (by kernel_rfl) (by kernel_rfl) (by kernel_rfl) (fun _ _ _ h => h) (Or.inl ⟨by kernel_rfl, ?h52⟩) (by assumption) ?r52
            case h52 => (intro w hSw; (try dsimp only at hSw); go_simp; try with_reducible rfl)
            try simp only [Act.put, List.setIfInBounds_toArray, List.set_cons_zero, List.set_cons_succ]
            refine wpAnyH_done (by kernel_rfl) ?_ _
            go_wp2_with fail
            go_ret
            exact Same2.mk_false (ne_of_at hkl hkl' HL.out HL2.out (fun h' => HE.out (congrArg St.els h'))) rfl hb4
          have HE : Hid (els = els2) := hee
          clear hee
          refine wp_region_held_drew (S := fun w' => w'.cell? ⟨b, o + k * 5 + 3, none⟩ = some (.slice A_3 body.length p_3) ∧ w'.cell? ⟨b, o + k * 5 + 4, none⟩ = some (.slice A_4 els.length p_4) ∧ w'.cell? ⟨b2, o2 + k * 5 + 3, none⟩ = some (.slice E_3 body2.length q_3) ∧ w'.cell? ⟨b2, o2 + k * 5 + 4, none⟩ = some (.slice E_4 els2.length q_4)) (by kernel_rfl) ?_ (fun hHeld => ?_)
          · ((try dsimp only); refine ⟨?_, ?_, ?_, ?_⟩ <;> assumption)
          refine reg_take (i := 0) (v := ?v53) rfl (by kernel_rfl) (by kernel_rfl) (by kernel_rfl) (fun _ _ _ h => h) (Or.inl ⟨by kernel_rfl, ?h53⟩) (by assumption) ?r53
          case h53 => (intro w hSw; (try dsimp only at hSw); go_simp; try with_reducible rfl)
          try simp only [Act.put, List.setIfInBounds_toArray, List.set_cons_zero, List.set_cons_succ]
          refine reg_take (i := 1) (v := ?v54) rfl (by kernel_rfl) (by kernel_rfl) (by kernel_rfl) (fun _ _ _ h => h) (Or.inl ⟨by kernel_rfl, ?h54⟩) (by assumption) ?r54
          case h54 => (intro w hSw; (try dsimp only at hSw); go_simp; try with_reducible rfl)
          try simp only [Act.put, List.setIfInBounds_toArray, List.set_cons_zero, List.set_cons_succ]
          refine reg_take (i := 2) (v := ?v55) rfl (by kernel_rfl) (by kernel_rfl) (by kernel_rfl) (fun _ _ _ h => h) (Or.inl ⟨by kernel_rfl, ?h55⟩) (by assumption) ?r55
          case h55 => (intro w hSw; (try dsimp only at hSw); go_simp; try with_reducible rfl)
          try simp only [Act.put, List.setIfInBounds_toArray, List.set_cons_zero, List.set_cons_succ]
          refine reg_take (i := 3) (v := ?v56) rfl (by kernel_rfl) (by kernel_rfl) (by kernel_rfl) (fun _ _ _ h => h) (Or.inl ⟨by kernel_rfl, ?h56⟩) (by assumption) ?r56
          case h56 => (intro w hSw; (try dsimp only at hSw); go_simp; try with_reducible rfl)
          try simp only [Act.put, List.setIfInBounds_toArray, List.set_cons_zero, List.set_cons_succ]
          refine reg_take (i := 4) (v := ?v57) rfl (by kernel_rfl) (by kernel_rfl) (by kernel_rfl) (fun _ _ _ h => h) (Or.inl ⟨by kernel_rfl, ?h57⟩) (by assumption) ?r57
          case h57 => (intro w hSw; (try dsimp only at hSw); go_simp; try with_reducible rfl)
          try simp only [Act.put, List.setIfInBounds_toArray, List.set_cons_zero, List.set_cons_succ]
          refine reg_take (i := 5) (v := ?v58) rfl (by kernel_rfl) (by kernel_rfl) (by kernel_rfl) (fun _ _ _ h => h) (Or.inl ⟨by kernel_rfl, ?h58⟩) (by assumption) ?r58
          case h58 => (intro w hSw; (try dsimp only at hSw); go_simp; try with_reducible rfl)
          try simp only [Act.put, List.setIfInBounds_toArray, List.set_cons_zero, List.set_cons_succ]
          refine reg_take (i := 6) (v := ?v59) rfl (by kernel_rfl) (by kernel_rfl) (by kernel_rfl) (fun _ _ _ h => h) (Or.inl ⟨by kernel_rfl, ?h59⟩) (by assumption) ?r59
          case h59 => (intro w hSw; (try dsimp only at hSw); go_simp; try with_reducible rfl)
          try simp only [Act.put, List.setIfInBounds_toArray, List.set_cons_zero, List.set_cons_succ]
          refine reg_take (i := 7) (v := ?v60) rfl (by kernel_rfl) (by kernel_rfl) (by kernel_rfl) (fun _ _ _ h => h) (Or.inl ⟨by kernel_rfl, ?h60⟩) (by assumption) ?r60
          case h60 => (intro w hSw; (try dsimp only at hSw); go_simp; try with_reducible rfl)
          try simp only [Act.put, List.setIfInBounds_toArray, List.set_cons_zero, List.set_cons_succ]
          refine reg_take (i := 8) (v := ?v61) rfl (by kernel_rfl) (by kernel_rfl) (by kernel_rfl) (fun _ _ _ h => h) (Or.inl ⟨by kernel_rfl, ?h61⟩) (by assumption) ?r61
          case h61 => (intro w hSw; (try dsimp only at hSw); go_simp; try with_reducible rfl)
          try simp only [Act.put, List.setIfInBounds_toArray, List.set_cons_zero, List.set_cons_succ]
          refine reg_take (i := 9) (v := ?v62) rfl (by kernel_rfl) (by kernel_rfl) (by kernel_rfl) (fun _ _ _ h => h) (Or.inl ⟨by kernel_rfl, ?h62⟩) (by assumption) ?r62
          case h62 => (intro w hSw; (try dsimp only at hSw); go_simp; try with_reducible rfl)
          try simp only [Act.put, List.setIfInBounds_toArray, List.set_cons_zero, List.set_cons_succ]
          refine reg_call (i := 10) (by kernel_rfl) rfl (fun K hK => ?_)
          go_simp
          (go_at_call 108; refine (ih d rfl d' body body2 _ _ _ lo B lo' B' (Nat.le_trans hB hsz2) (Nat.le_trans hC hsz2) gb gb').mono ?_; rintro e w3 ⟨he3, x3⟩; rw [eqB_true HB.out] at he3; subst he3; have hb3 : Below w.heap.size w w3 := hbd.trans (x3.mono hsz2); have s0 : w3.cell? ⟨b, o + k * 5 + 3, none⟩ = some (.slice A_3 body.length p_3) := (hb3.cell hltb).trans c3.out; have s1 : w3.cell? ⟨b, o + k * 5 + 4, none⟩ = some (.slice A_4 els.length p_4) := (hb3.cell hltb).trans c4.out; have s2 : w3.cell? ⟨b2, o2 + k * 5 + 3, none⟩ = some (.slice E_3 body2.length q_3) := (hb3.cell hltb2).trans t3.out; have s3 : w3.cell? ⟨b2, o2 + k * 5 + 4, none⟩ = some (.slice E_4 els2.length q_4) := (hb3.cell hltb2).trans t4.out)
          refine hK.out _ _ ?_ (fun hHeld => ?_)
          · ((try dsimp only); refine ⟨?_, ?_, ?_, ?_⟩ <;> assumption)
          clear hK K
          try simp only [Act.put, List.setIfInBounds_toArray, List.set_cons_zero, List.set_cons_succ]
          refine reg_take (i := 11) (v := ?v64) rfl (by kernel_rfl) (by kernel_rfl) (by kernel_rfl) (fun _ _ _ h => h) (Or.inl ⟨by kernel_rfl, ?h64⟩) (by assumption) ?r64
          case h64 => (intro w hSw; (try dsimp only at hSw); go_simp; try with_reducible rfl)
          try simp only [Act.put, List.setIfInBounds_toArray, List.set_cons_zero, List.set_cons_succ]
          refine reg_take (i := 12) (v := ?v65) rfl (by kernel_rfl) (by kernel_rfl) (by kernel_rfl) (fun _ _ _ h => h) (Or.inl ⟨by kernel_rfl, ?h65⟩) (by assumption) ?r65
          case h65 => (intro w hSw; (try dsimp only at hSw); go_simp; try with_reducible rfl)
          try simp only [Act.put, List.setIfInBounds_toArray, List.set_cons_zero, List.set_cons_succ]
          refine reg_take (i := 13) (v := ?v66) rfl (by kernel_rfl) (by kernel_rfl) (by kernel_rfl) (fun _ _ _ h => h) (Or.inl ⟨by kernel_rfl, ?h66⟩) (by assumption) ?r66
          case h66 => (intro w hSw; (try dsimp only at hSw); go_simp; try with_reducible rfl)
          try simp only [Act.put, List.setIfInBounds_toArray, List.set_cons_zero, List.set_cons_succ]
          refine reg_take (i := 14) (v := ?v67) rfl (by kernel_rfl) (by kernel_rfl) (by kernel_rfl) (fun _ _ _ h => h) (Or.inl ⟨by kernel_rfl, ?h67⟩) (by assumption) ?r67
          case h67 => (intro w hSw; (try dsimp only at hSw); go_simp; try with_reducible rfl)
          try simp only [Act.put, List.setIfInBounds_toArray, List.set_cons_zero, List.set_cons_succ]
          refine reg_take (i := 15) (v := ?v68) rfl (by kernel_rfl) (by kernel_rfl) (by kernel_rfl) (fun _ _ _ h => h) (Or.inl ⟨by kernel_rfl, ?h68⟩) (by assumption) ?r68
          case h68 => (intro w hSw; (try dsimp only at hSw); go_simp; try with_reducible rfl)
          try simp only [Act.put, List.setIfInBounds_toArray, List.set_cons_zero, List.set_cons_succ]
          refine reg_take (i := 16) (v := ?v69) rfl (by kernel_rfl) (by kernel_rfl) (by kernel_rfl) (fun _ _ _ h => h) (Or.inl ⟨by kernel_rfl, ?h69⟩) (by assumption) ?r69
          case h69 => (intro w hSw; (try dsimp only at hSw); go_simp; try with_reducible rfl)
          try simp only [Act.put, List.setIfInBounds_toArray, List.set_cons_zero, List.set_cons_succ]
          refine reg_take (i := 17) (v := ?v70) rfl (by kernel_rfl) (by kernel_rfl) (by kernel_rfl) (fun _ _ _ h => h) (Or.inl ⟨by kernel_rfl, ?h70⟩) (by assumption) ?r70
          case h70 => (intro w hSw; (try dsimp only at hSw); go_simp; try with_reducible rfl)
          try simp only [Act.put, List.setIfInBounds_toArray, List.set_cons_zero, List.set_cons_succ]
          refine reg_take (i := 18) (v := ?v71) rfl (by kernel_rfl) (by kernel_rfl) (by kernel_rfl) (fun _ _ _ h => h) (Or.inl ⟨by kernel_rfl, ?h71⟩) (by assumption) ?r71
          case h71 => (intro w hSw; (try dsimp only at hSw); go_simp; try with_reducible rfl)
          try simp only [Act.put, List.setIfInBounds_toArray, List.set_cons_zero, List.set_cons_succ]
          refine reg_take (i := 19) (v := ?v72) rfl (by kernel_rfl) (by kernel_rfl) (by kernel_rfl) (fun _ _ _ h => h) (Or.inl ⟨by kernel_rfl, ?h72⟩) (by assumption) ?r72
          case h72 => (intro w hSw; (try dsimp only at hSw); go_simp; try with_reducible rfl)
          try simp only [Act.put, List.setIfInBounds_toArray, List.set_cons_zero, List.set_cons_succ]
          refine reg_take (i := 20) (v := ?v73) rfl (by kernel_rfl) (by kernel_rfl) (by kernel_rfl) (fun _ _ _ h => h) (Or.inl ⟨by kernel_rfl, ?h73⟩) (by assumption) ?r73
          case h73 => (intro w hSw; (try dsimp only at hSw); go_simp; try with_reducible rfl)
          try simp only [Act.put, List.setIfInBounds_toArray, List.set_cons_zero, List.set_cons_succ]
          refine reg_take (i := 21) (v := ?v74) rfl (by kernel_rfl) (by kernel_rfl) (by kernel_rfl) (fun _ _ _ h => h) (Or.inl ⟨by kernel_rfl, ?h74⟩) (by assumption) ?r74
          case h74 => (intro w hSw; (try dsimp only at hSw); go_simp; try with_reducible rfl)
          try simp only [Act.put, List.setIfInBounds_toArray, List.set_cons_zero, List.set_cons_succ]
          refine reg_take (i := 22) (v := ?v75) rfl (by kernel_rfl) (by kernel_rfl) (by kernel_rfl) (fun _ _ _ h => h) (Or.inl ⟨by kernel_rfl, ?h75⟩) (by assumption) ?r75
          case h75 => (intro w hSw; (try dsimp only at hSw); go_simp; try with_reducible rfl)
          try simp only [Act.put, List.setIfInBounds_toArray, List.set_cons_zero, List.set_cons_succ]
          refine reg_call (i := 23) (by kernel_rfl) rfl (fun K hK => ?_)
          go_simp
          (go_at_call 108; have hsz3 := hb3.size; refine (ih d rfl d' els els2 _ _ _ lo B lo' B' (Nat.le_trans hB hsz3) (Nat.le_trans hC hsz3) (g4.below hb3 hB) (g4'.below hb3 hC)).mono ?_; rintro e w4 ⟨he3, x3⟩; rw [eqB_true HE.out] at he3; subst he3; have hb4 : Below w.heap.size w w4 := hb3.trans (x3.mono hsz3); have v0 : w4.cell? ⟨b, o + k * 5 + 3, none⟩ = some (.slice A_3 body.length p_3) := (hb4.cell hltb).trans c3.out; have v1 : w4.cell? ⟨b, o + k * 5 + 4, none⟩ = some (.slice A_4 els.length p_4) := (hb4.cell hltb).trans c4.out; have v2 : w4.cell? ⟨b2, o2 + k * 5 + 3, none⟩ = some (.slice E_3 body2.length q_3) := (hb4.cell hltb2).trans t3.out; have v3 : w4.cell? ⟨b2, o2 + k * 5 + 4, none⟩ = some (.slice E_4 els2.length q_4) := (hb4.cell hltb2).trans t4.out)
          refine hK.out _ _ ?_ (fun hHeld => ?_)
          · ((try dsimp only); refine ⟨?_, ?_, ?_, ?_⟩ <;> assumption)
          clear hK K
          try simp only [Act.put, List.setIfInBounds_toArray, List.set_cons_zero, List.set_cons_succ]
          refine reg_take (i := 24) (v := ?v77) rfl (by kernel_rfl) (by kernel_rfl) (by kernel_rfl) (fun _ _ _ h => h) (Or.inl ⟨by kernel_rfl, ?h77⟩) (by assumption) ?r77
          case h77 => (intro w hSw; (try dsimp only at hSw); go_simp; try with_reducible rfl)
          try simp only [Act.put, List.setIfInBounds_toArray, List.set_cons_zero, List.set_cons_succ]
          refine reg_take (i := 25) (v := ?v78) rfl (by kernel_rfl) (by kernel_rfl) (by kernel_rfl) (fun _ _ _ h => h) (Or.inl ⟨by kernel_rfl, ?h78⟩) (by assumption) ?r78
          case h78 => (intro w hSw; (try dsimp only at hSw); go_simp; try with_reducible rfl)
          try simp only [Act.put, List.setIfInBounds_toArray, List.set_cons_zero, List.set_cons_succ]
          refine wpAnyH_done (by kernel_rfl) ?_ _
          go_wp2_with fail
          go_roundw
          case rel => exact ⟨k + 1, by omega, by go_num, take_succ_eq HT.out hkl hkl' (HL.out.trans ((show St.mk op name args body els = St.mk op name args2 body2 els2 by rw [HAE.out, HB.out, HE.out]).trans HL2.out.symm)), hb4⟩
          case measure => simp [intOf]; omega
theorem spec_l3SameList : ∀ D, SpecSameListAt D
  | 0 => spec_l3SameList_step 0 (fun d0 h => by omega)
  | d + 1 => spec_l3SameList_step (d + 1) (fun d0 h => by obtain rfl : d0 = d := (by omega); exact spec_l3SameList d0)

end Go.Proofs.Ytaokcnjjlbdnoaa

