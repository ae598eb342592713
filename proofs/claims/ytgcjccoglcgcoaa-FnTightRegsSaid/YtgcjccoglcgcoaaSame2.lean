/-
  Sameness by loops in the reference. Conditions: the arguments read as data.
-/
import Derived.Test.YtgcjccoglcgcoaaSame
namespace Go.Proofs.Ytgcjccoglcgcoaa
open Go.RowKit Go.ChangeShapes Go.WideShapes Go.Deep

set_option linter.unusedVariables false
set_option maxRecDepth 100000 in
set_option maxHeartbeats 8000000 in
theorem spec_l7SameBlock (phis : List PhiD) (v0 : Value) (ins : List InsD) (v1 : Value) (jump : Int) (on : Int) (next : List Int) (v4 : Value) (phis' : List PhiD) (v0' : Value) (ins' : List InsD) (v1' : Value) (jump' : Int) (on' : Int) (next' : List Int) (v4' : Value) (w : World) (lo B lo' B' : Nat) (hB : B ≤ w.heap.size) (hC : B' ≤ w.heap.size) (h0 : Sl false (phiS false) w lo B phis v0) (h1 : Sl false (insS false) w lo B ins v1) (h4 : Sl false (intS false) w lo B next v4) (h0' : Sl false (phiS false) w lo' B' phis' v0') (h1' : Sl false (insS false) w lo' B' ins' v1') (h4' : Sl false (intS false) w lo' B' next' v4') :
    Calls Try.prog 51 #[.agg #[v0, v1, .int .i64 jump, .int .i64 on, v4], .agg #[v0', v1', .int .i64 jump', .int .i64 on', v4']] w (Same2 (⟨phis, ins, jump, on, next⟩ : BlkD) (⟨phis', ins', jump', on', next'⟩ : BlkD) w) := by
  obtain ⟨A_0, p_0, hf, hl_0, hm_0⟩ := h0.form
  change _ = Value.slice A_0 phis.length p_0 at hf
  subst hf
  obtain ⟨A_1, p_1, hf, hl_1, hm_1⟩ := h1.form
  change _ = Value.slice A_1 ins.length p_1 at hf
  subst hf
  obtain ⟨A_4, p_4, hf, hl_4, hm_4⟩ := h4.form
  change _ = Value.slice A_4 next.length p_4 at hf
  subst hf
  obtain ⟨A'_0, p'_0, hf, hl'_0, hm'_0⟩ := h0'.form
  change _ = Value.slice A'_0 phis'.length p'_0 at hf
  subst hf
  obtain ⟨A'_1, p'_1, hf, hl'_1, hm'_1⟩ := h1'.form
  change _ = Value.slice A'_1 ins'.length p'_1 at hf
  subst hf
  obtain ⟨A'_4, p'_4, hf, hl'_4, hm'_4⟩ := h4'.form
  change _ = Value.slice A'_4 next'.length p'_4 at hf
  subst hf
  have hb0 : Below w.heap.size w ((w.alloc (.cells #[.slice A_0 phis.length p_0, .slice A_1 ins.length p_1, .int .i64 jump, .int .i64 on, .slice A_4 next.length p_4] 65)).alloc (.cells #[.slice A'_0 phis'.length p'_0, .slice A'_1 ins'.length p'_1, .int .i64 jump', .int .i64 on', .slice A'_4 next'.length p'_4] 65)) := ((Below.refl _ _).alloc (Nat.le_refl _) _).alloc (by simp) _
  have P0 : Row ((w.alloc (.cells #[.slice A_0 phis.length p_0, .slice A_1 ins.length p_1, .int .i64 jump, .int .i64 on, .slice A_4 next.length p_4] 65)).alloc (.cells #[.slice A'_0 phis'.length p'_0, .slice A'_1 ins'.length p'_1, .int .i64 jump', .int .i64 on', .slice A'_4 next'.length p'_4] 65)) w.heap.size 65 #[.slice A_0 phis.length p_0, .slice A_1 ins.length p_1, .int .i64 jump, .int .i64 on, .slice A_4 next.length p_4] := (Row.new w _ _).alloc _
  have Q0 : Row ((w.alloc (.cells #[.slice A_0 phis.length p_0, .slice A_1 ins.length p_1, .int .i64 jump, .int .i64 on, .slice A_4 next.length p_4] 65)).alloc (.cells #[.slice A'_0 phis'.length p'_0, .slice A'_1 ins'.length p'_1, .int .i64 jump', .int .i64 on', .slice A'_4 next'.length p'_4] 65)) (w.heap.size + 1) 65 #[.slice A'_0 phis'.length p'_0, .slice A'_1 ins'.length p'_1, .int .i64 jump', .int .i64 on', .slice A'_4 next'.length p'_4] := by simpa using Row.new (w.alloc (.cells #[.slice A_0 phis.length p_0, .slice A_1 ins.length p_1, .int .i64 jump, .int .i64 on, .slice A_4 next.length p_4] 65)) 65 #[.slice A'_0 phis'.length p'_0, .slice A'_1 ins'.length p'_1, .int .i64 jump', .int .i64 on', .slice A'_4 next'.length p'_4]
  by_cases hlen_phis : phis.length = phis'.length
  · have n_phis : ((phis.length : Int) != (phis'.length : Int)) = false := by rw [hlen_phis]; simp
    have HL_phis : Hid (phis.length = phis'.length) := hlen_phis
    have hle1_phis : phis.length ≤ phis'.length := by omega
    have hle2_phis : phis'.length ≤ phis.length := by omega
    clear hlen_phis
    by_cases hlen_ins : ins.length = ins'.length
    · have n_ins : ((ins.length : Int) != (ins'.length : Int)) = false := by rw [hlen_ins]; simp
      have HL_ins : Hid (ins.length = ins'.length) := hlen_ins
      have hle1_ins : ins.length ≤ ins'.length := by omega
      have hle2_ins : ins'.length ≤ ins.length := by omega
      clear hlen_ins
      by_cases e_jump : jump = jump'
      · subst e_jump
        by_cases e_on : on = on'
        · subst e_on
          go_enter Try.func51, Try.ntmps51
          go_wp2_with fail
          refine (spec_l5Ints next next' _ _ _ lo B lo' B' (Nat.le_trans hB hb0.size) (Nat.le_trans hC hb0.size) (h4.below hb0 hB) (h4'.below hb0 hC)).mono ?_
          rintro e w1 ⟨rfl, x1⟩
          have hb1 : Below w.heap.size w w1 := hb0.trans (x1.mono hb0.size)
          have P1 := P0.below x1 P0.lt
          have Q1 := Q0.below x1 Q0.lt
          by_cases e_next : next = next'
          case neg =>
            rw [eqB_false e_next]
            have E_next : Hid (¬ next = next') := e_next
            clear e_next
            go_wp2_with fail
            go_ret
            exact Same2.mk_false (fun h => E_next.out (congrArg BlkD.next h)) rfl hb1
          rw [eqB_true e_next]
          subst e_next
          go_wp2_with fail
          go_loopw [5] (fun i wr => ∃ k : Nat, k ≤ phis.length ∧ i = .int .i64 k ∧ Hid (phis.take k = phis'.take k) ∧ Below w.heap.size w wr ∧ Row wr w.heap.size 65 #[.slice A_0 phis.length p_0, .slice A_1 ins.length p_1, .int .i64 jump, .int .i64 on, .slice A_4 next.length p_4] ∧ Row wr (w.heap.size + 1) 65 #[.slice A'_0 phis'.length p'_0, .slice A'_1 ins'.length p'_1, .int .i64 jump, .int .i64 on, .slice A'_4 next.length p'_4]) (fun i _ => phis.length - (intOf i).toNat)
          case atStart => exact ⟨0, by omega, rfl, (show _ = _ by simp), hb1, P1, Q1⟩
          case round =>
            obtain ⟨k, hk, rfl, HT, hb, P, Q⟩ := hrel
            have hsz := hb.size
            have y0 : wr.cell? ⟨w.heap.size, 0, none⟩ = some (.slice A_0 phis.length p_0) := P.cell 0
            have y1 : wr.cell? ⟨w.heap.size + 1, 0, none⟩ = some (.slice A'_0 phis'.length p'_0) := Q.cell 0
            have y2 : wr.cell? ⟨w.heap.size, 1, none⟩ = some (.slice A_1 ins.length p_1) := P.cell 1
            have y3 : wr.cell? ⟨w.heap.size + 1, 1, none⟩ = some (.slice A'_1 ins'.length p'_1) := Q.cell 1
            by_cases hkl : k < phis.length
            case pos =>
              obtain ⟨b, o, to_e, args_e, v_e, rfl, _, hbB, HL, g0, g1, c0, c1⟩ := phi_get (h0.below hb hB) hkl
              obtain ⟨b2, o2, to_f, args_f, v_f, rfl, _, hbB2, HL2, g0', g1', t0, t1⟩ := phi_get (h0'.below hb hC) (show k < phis'.length by omega)
              have hkl' : k < phis'.length := by omega
              have hki : (0 : Int) ≤ (k : Int) := by omega
              have hkn : (k : Int) < (phis.length : Int) := by omega
              have hkn' : (k : Int) < (phis'.length : Int) := by omega
              by_cases he : to_e = to_f
              case neg =>
                have n_ : (to_e != to_f) = true := by simpa using he
                have HE : Hid (¬ to_e = to_f) := he
                clear he
                go_wp2_with fail
                go_big_quiet (fail)
                go_wp2_with fail
                go_ret
                exact Same2.mk_false (fun h => (ne_of_at hkl hkl' HL.out HL2.out (fun h' => HE.out (congrArg PhiD.to h'))) (congrArg BlkD.phis h)) rfl (below_drewN hb _)
              subst he
              go_wp2_with fail
              have hbd : Below w.heap.size w wr.drew := hb.drew
              have Pd : Row wr.drew w.heap.size 65 _ := P
              have Qd : Row wr.drew (w.heap.size + 1) 65 _ := Q
              have gd1 : Sl false (intS false) wr.drew lo B args_e v_e := g1.keep (Nat.le_refl _) (Nat.le_refl _) (fun _ _ _ => rfl)
              have gd1' : Sl false (intS false) wr.drew lo' B' args_f v_f := g1'.keep (Nat.le_refl _) (Nat.le_refl _) (fun _ _ _ => rfl)
              have hsz2 := hbd.size
              have n_ : (to_e != to_e) = false := by simp
              have hlt : b < wr.drew.heap.size := Nat.lt_of_lt_of_le hbB (Nat.le_trans hB hsz2)
              have hlt2 : b2 < wr.drew.heap.size := Nat.lt_of_lt_of_le hbB2 (Nat.le_trans hC hsz2)
              go_region_held3 (fun w' => w'.cell? ⟨w.heap.size, 0, none⟩ = some (.slice (some ⟨b, o, none⟩) phis.length p_0) ∧ w'.cell? ⟨w.heap.size + 1, 0, none⟩ = some (.slice (some ⟨b2, o2, none⟩) phis'.length p'_0) ∧ w'.cell? ⟨b, o + k * 2, none⟩ = some (.int .i64 to_e) ∧ w'.cell? ⟨b, o + k * 2 + 1, none⟩ = some v_e ∧ w'.cell? ⟨b2, o2 + k * 2, none⟩ = some (.int .i64 to_e) ∧ w'.cell? ⟨b2, o2 + k * 2 + 1, none⟩ = some v_f) (refine ⟨?_, ?_, ?_, ?_, ?_, ?_⟩ <;> assumption) (first | (go_at_call 81; refine (spec_l5Ints args_e args_f _ _ _ lo B lo' B' (Nat.le_trans hB hsz2) (Nat.le_trans hC hsz2) gd1 gd1').mono ?_; rintro e w3 ⟨rfl, x3⟩; have hb3 : Below w.heap.size w w3 := hbd.trans (x3.mono hsz2); have P3 := Pd.below x3 Pd.lt; have Q3 := Qd.below x3 Qd.lt; have y3_0 : w3.cell? ⟨w.heap.size, 0, none⟩ = some (.slice (some ⟨b, o, none⟩) phis.length p_0) := P3.cell 0; have y3_1 : w3.cell? ⟨w.heap.size + 1, 0, none⟩ = some (.slice (some ⟨b2, o2, none⟩) phis'.length p'_0) := Q3.cell 0; have k0 : w3.cell? ⟨b, o + k * 2, none⟩ = some (.int .i64 to_e) := (x3.cell hlt).trans c0; have k1 : w3.cell? ⟨b, o + k * 2 + 1, none⟩ = some v_e := (x3.cell hlt).trans c1; have k2 : w3.cell? ⟨b2, o2 + k * 2, none⟩ = some (.int .i64 to_e) := (x3.cell hlt2).trans t0; have k3 : w3.cell? ⟨b2, o2 + k * 2 + 1, none⟩ = some v_f := (x3.cell hlt2).trans t1))
              clear y0 y1 y2 y3
              by_cases he : args_e = args_f
              case neg =>
                rw [eqB_false he]
                have HE : Hid (¬ args_e = args_f) := he
                clear he
                go_wp2_with fail
                go_ret
                exact Same2.mk_false (fun h => (ne_of_at hkl hkl' HL.out HL2.out (fun h' => HE.out (congrArg PhiD.args h'))) (congrArg BlkD.phis h)) rfl hb3
              rw [eqB_true he]
              have HE : Hid (args_e = args_f) := he
              clear he
              go_wp2_with fail
              go_roundw
              case rel => exact ⟨k + 1, by omega, by go_num, take_succ_eq HT.out hkl hkl' (HL.out.trans ((show (⟨to_e, args_e⟩ : PhiD) = ⟨to_e, args_f⟩ by rw [HE.out]).trans HL2.out.symm)), hb3, P3, Q3⟩
              case measure => simp [intOf]; omega
            have HP : Hid (phis = phis') := take_all_eq HT.out (by omega) (by omega)
            clear HT
            go_wp2_with fail
            clear y0 y1 y2 y3
            go_loopw [6] (fun i wr => ∃ k : Nat, k ≤ ins.length ∧ i = .int .i64 k ∧ Hid (ins.take k = ins'.take k) ∧ Below w.heap.size w wr ∧ Row wr w.heap.size 65 #[.slice A_0 phis.length p_0, .slice A_1 ins.length p_1, .int .i64 jump, .int .i64 on, .slice A_4 next.length p_4] ∧ Row wr (w.heap.size + 1) 65 #[.slice A'_0 phis'.length p'_0, .slice A'_1 ins'.length p'_1, .int .i64 jump, .int .i64 on, .slice A'_4 next.length p'_4]) (fun i _ => ins.length - (intOf i).toNat)
            case atStart => exact ⟨0, by omega, rfl, (show _ = _ by simp), hb, P, Q⟩
            case round =>
              clear P Q hb hsz
              obtain ⟨k, hk, rfl, HT, hb, P, Q⟩ := hrel
              have hsz := hb.size
              have y2 : wr.cell? ⟨w.heap.size, 1, none⟩ = some (.slice A_1 ins.length p_1) := P.cell 1
              have y3 : wr.cell? ⟨w.heap.size + 1, 1, none⟩ = some (.slice A'_1 ins'.length p'_1) := Q.cell 1
              by_cases hkl : k < ins.length
              case pos =>
                obtain ⟨b, o, op_e, to_e, args_e, v_e, n_e, rfl, _, hbB, HL, g0, g1, g2, g3, c0, c1, c2, c3⟩ := ins_get (h1.below hb hB) hkl
                obtain ⟨b2, o2, op_f, to_f, args_f, v_f, n_f, rfl, _, hbB2, HL2, g0', g1', g2', g3', t0, t1, t2, t3⟩ := ins_get (h1'.below hb hC) (show k < ins'.length by omega)
                obtain ⟨A_e, p_e, hf, _, _⟩ := g2.form
                change _ = Value.slice A_e args_e.length p_e at hf
                subst hf
                obtain ⟨A_f, p_f, hf, _, _⟩ := g2'.form
                change _ = Value.slice A_f args_f.length p_f at hf
                subst hf
                have hkl' : k < ins'.length := by omega
                have hki : (0 : Int) ≤ (k : Int) := by omega
                have hkn : (k : Int) < (ins.length : Int) := by omega
                have hkn' : (k : Int) < (ins'.length : Int) := by omega
                have hA : Below wr.heap.size wr (wr.alloc (.cells #[.int .i64 op_e, .int .i64 to_e, .slice A_e args_e.length p_e, .int .i64 n_e] 72)) := (Below.refl _ _).alloc (Nat.le_refl _) _
                have hA2 : Below wr.heap.size wr ((wr.alloc (.cells #[.int .i64 op_e, .int .i64 to_e, .slice A_e args_e.length p_e, .int .i64 n_e] 72)).alloc (.cells #[.int .i64 op_f, .int .i64 to_f, .slice A_f args_f.length p_f, .int .i64 n_f] 72)) := hA.alloc (by simp) _
                have hlt1 : w.heap.size + 1 < wr.heap.size := Q.lt
                have hltb : b < wr.heap.size := Nat.lt_of_lt_of_le hbB (Nat.le_trans hB hsz)
                have hltb2 : b2 < wr.heap.size := Nat.lt_of_lt_of_le hbB2 (Nat.le_trans hC hsz)
                have m3 : (wr.alloc (.cells #[.int .i64 op_e, .int .i64 to_e, .slice A_e args_e.length p_e, .int .i64 n_e] 72)).cell? ⟨w.heap.size + 1, 1, none⟩ = some (.slice (some ⟨b2, o2, none⟩) ins'.length p'_1) := (hA.cell hlt1).trans y3
                have m4 : (wr.alloc (.cells #[.int .i64 op_e, .int .i64 to_e, .slice A_e args_e.length p_e, .int .i64 n_e] 72)).cell? ⟨b2, o2 + k * 4, none⟩ = some (.int .i64 op_f) := (hA.cell hltb2).trans t0
                have m5 : (wr.alloc (.cells #[.int .i64 op_e, .int .i64 to_e, .slice A_e args_e.length p_e, .int .i64 n_e] 72)).cell? ⟨b2, o2 + k * 4 + 1, none⟩ = some (.int .i64 to_f) := (hA.cell hltb2).trans t1
                have m6 : (wr.alloc (.cells #[.int .i64 op_e, .int .i64 to_e, .slice A_e args_e.length p_e, .int .i64 n_e] 72)).cell? ⟨b2, o2 + k * 4 + 2, none⟩ = some (.slice A_f args_f.length p_f) := (hA.cell hltb2).trans t2
                have m7 : (wr.alloc (.cells #[.int .i64 op_e, .int .i64 to_e, .slice A_e args_e.length p_e, .int .i64 n_e] 72)).cell? ⟨b2, o2 + k * 4 + 3, none⟩ = some (.int .i64 n_f) := (hA.cell hltb2).trans t3
                have hb2' : Below w.heap.size w ((wr.alloc (.cells #[.int .i64 op_e, .int .i64 to_e, .slice A_e args_e.length p_e, .int .i64 n_e] 72)).alloc (.cells #[.int .i64 op_f, .int .i64 to_f, .slice A_f args_f.length p_f, .int .i64 n_f] 72)) := hb.trans (hA2.mono hsz)
                have BX : Row ((wr.alloc (.cells #[.int .i64 op_e, .int .i64 to_e, .slice A_e args_e.length p_e, .int .i64 n_e] 72)).alloc (.cells #[.int .i64 op_f, .int .i64 to_f, .slice A_f args_f.length p_f, .int .i64 n_f] 72)) wr.heap.size 72 #[.int .i64 op_e, .int .i64 to_e, .slice A_e args_e.length p_e, .int .i64 n_e] := (Row.new wr _ _).alloc _
                have BY : Row ((wr.alloc (.cells #[.int .i64 op_e, .int .i64 to_e, .slice A_e args_e.length p_e, .int .i64 n_e] 72)).alloc (.cells #[.int .i64 op_f, .int .i64 to_f, .slice A_f args_f.length p_f, .int .i64 n_f] 72)) (wr.heap.size + 1) 72 #[.int .i64 op_f, .int .i64 to_f, .slice A_f args_f.length p_f, .int .i64 n_f] := by simpa using Row.new (wr.alloc (.cells #[.int .i64 op_e, .int .i64 to_e, .slice A_e args_e.length p_e, .int .i64 n_e] 72)) 72 #[.int .i64 op_f, .int .i64 to_f, .slice A_f args_f.length p_f, .int .i64 n_f]
                by_cases he : op_e = op_f
                case neg =>
                  have n_ : (op_e != op_f) = true := by simpa using he
                  have HE : Hid (¬ op_e = op_f) := he
                  clear he
                  go_wp2_with fail
                  go_ret
                  exact Same2.mk_false (fun h => (ne_of_at hkl hkl' HL.out HL2.out (fun h' => HE.out (congrArg InsD.op h'))) (congrArg BlkD.ins h)) rfl hb2'
                subst he
                have n_op : (op_e != op_e) = false := by simp
                by_cases he : to_e = to_f
                case neg =>
                  have n_ : (to_e != to_f) = true := by simpa using he
                  have HE : Hid (¬ to_e = to_f) := he
                  clear he
                  go_wp2_with fail
                  go_ret
                  exact Same2.mk_false (fun h => (ne_of_at hkl hkl' HL.out HL2.out (fun h' => HE.out (congrArg InsD.to h'))) (congrArg BlkD.ins h)) rfl hb2'
                subst he
                have n_to : (to_e != to_e) = false := by simp
                by_cases he : n_e = n_f
                case neg =>
                  have n_ : (n_e != n_f) = true := by simpa using he
                  have HE : Hid (¬ n_e = n_f) := he
                  clear he
                  go_wp2_with fail
                  go_ret
                  exact Same2.mk_false (fun h => (ne_of_at hkl hkl' HL.out HL2.out (fun h' => HE.out (congrArg InsD.n h'))) (congrArg BlkD.ins h)) rfl hb2'
                subst he
                have n_n : (n_e != n_e) = false := by simp
                have hsz2 := hb2'.size
                have gd : Sl false (intS false) ((wr.alloc (.cells #[.int .i64 op_e, .int .i64 to_e, .slice A_e args_e.length p_e, .int .i64 n_e] 72)).alloc (.cells #[.int .i64 op_e, .int .i64 to_e, .slice A_f args_f.length p_f, .int .i64 n_e] 72)) lo B args_e (.slice A_e args_e.length p_e) := g2.below hA2 (Nat.le_trans hB hsz)
                have gd' : Sl false (intS false) ((wr.alloc (.cells #[.int .i64 op_e, .int .i64 to_e, .slice A_e args_e.length p_e, .int .i64 n_e] 72)).alloc (.cells #[.int .i64 op_e, .int .i64 to_e, .slice A_f args_f.length p_f, .int .i64 n_e] 72)) lo' B' args_f (.slice A_f args_f.length p_f) := g2'.below hA2 (Nat.le_trans hC hsz)
                go_wp2_with fail
                refine (spec_l5Ints args_e args_f _ _ _ lo B lo' B' (Nat.le_trans hB hsz2) (Nat.le_trans hC hsz2) gd gd').mono ?_
                rintro e w3 ⟨rfl, x3⟩
                have hb3 : Below w.heap.size w w3 := hb2'.trans (x3.mono hsz2)
                have P3 := (P.below hA2 P.lt).below x3 (P.below hA2 P.lt).lt
                have Q3 := (Q.below hA2 Q.lt).below x3 (Q.below hA2 Q.lt).lt
                by_cases he : args_e = args_f
                case neg =>
                  rw [eqB_false he]
                  have HE : Hid (¬ args_e = args_f) := he
                  clear he
                  go_wp2_with fail
                  go_ret
                  exact Same2.mk_false (fun h => (ne_of_at hkl hkl' HL.out HL2.out (fun h' => HE.out (congrArg InsD.args h'))) (congrArg BlkD.ins h)) rfl hb3
                rw [eqB_true he]
                have HE : Hid (args_e = args_f) := he
                clear he
                go_wp2_with fail
                go_roundw
                case rel => exact ⟨k + 1, by omega, by go_num, take_succ_eq HT.out hkl hkl' (HL.out.trans ((show (⟨op_e, to_e, args_e, n_e⟩ : InsD) = ⟨op_e, to_e, args_f, n_e⟩ by rw [HE.out]).trans HL2.out.symm)), hb3, P3, Q3⟩
                case measure => simp [intOf]; omega
              go_wp2_with fail
              go_ret
              exact Same2.mk_true (by rw [take_all_eq HT.out (by omega) (by omega), HP.out]) rfl hb
        · have n_ : (on != on') = true := by simpa using e_on
          have E_on : Hid (¬ on = on') := e_on
          clear e_on
          go_enter Try.func51, Try.ntmps51
          go_wp2_with fail
          go_ret
          exact Same2.mk_false (fun h => E_on.out (congrArg BlkD.on h)) rfl hb0
      · have n_ : (jump != jump') = true := by simpa using e_jump
        have E_jump : Hid (¬ jump = jump') := e_jump
        clear e_jump
        go_enter Try.func51, Try.ntmps51
        go_wp2_with fail
        go_ret
        exact Same2.mk_false (fun h => E_jump.out (congrArg BlkD.jump h)) rfl hb0
    · have n_ : ((ins.length : Int) != (ins'.length : Int)) = true := by simpa using fun h : (ins.length : Int) = ins'.length => hlen_ins (by omega)
      have E_ins : Hid (¬ ins = ins') := fun h => hlen_ins (by rw [h])
      clear hlen_ins
      go_enter Try.func51, Try.ntmps51
      go_wp2_with fail
      go_ret
      exact Same2.mk_false (fun h => E_ins.out (congrArg BlkD.ins h)) rfl hb0
  · have n_ : ((phis.length : Int) != (phis'.length : Int)) = true := by simpa using fun h : (phis.length : Int) = phis'.length => hlen_phis (by omega)
    have E_phis : Hid (¬ phis = phis') := fun h => hlen_phis (by rw [h])
    clear hlen_phis
    go_enter Try.func51, Try.ntmps51
    go_wp2_with fail
    go_ret
    exact Same2.mk_false (fun h => E_phis.out (congrArg BlkD.phis h)) rfl hb0

set_option maxRecDepth 100000 in
theorem spec_l7SameCode (params : Int) (regs : Int) (blocks : List BlkD) (v2 : Value) (params' : Int) (regs' : Int) (blocks' : List BlkD) (v2' : Value) (w : World) (lo B lo' B' : Nat) (hB : B ≤ w.heap.size) (hC : B' ≤ w.heap.size) (h2 : Sl false (blkS false) w lo B blocks v2) (h2' : Sl false (blkS false) w lo' B' blocks' v2') :
    Calls Try.prog 28 #[.agg #[.int .i64 params, .int .i64 regs, v2], .agg #[.int .i64 params', .int .i64 regs', v2']] w (Same2 (⟨params, regs, blocks⟩ : CodeD) (⟨params', regs', blocks'⟩ : CodeD) w) := by
  obtain ⟨A_2, p_2, hf, hl_2, hm_2⟩ := h2.form
  change _ = Value.slice A_2 blocks.length p_2 at hf
  subst hf
  obtain ⟨A'_2, p'_2, hf, hl'_2, hm'_2⟩ := h2'.form
  change _ = Value.slice A'_2 blocks'.length p'_2 at hf
  subst hf
  have hb0 : Below w.heap.size w ((w.alloc (.cells #[.int .i64 params, .int .i64 regs, .slice A_2 blocks.length p_2] 39)).alloc (.cells #[.int .i64 params', .int .i64 regs', .slice A'_2 blocks'.length p'_2] 39)) := ((Below.refl _ _).alloc (Nat.le_refl _) _).alloc (by simp) _
  have P0 : Row ((w.alloc (.cells #[.int .i64 params, .int .i64 regs, .slice A_2 blocks.length p_2] 39)).alloc (.cells #[.int .i64 params', .int .i64 regs', .slice A'_2 blocks'.length p'_2] 39)) w.heap.size 39 #[.int .i64 params, .int .i64 regs, .slice A_2 blocks.length p_2] := (Row.new w _ _).alloc _
  have Q0 : Row ((w.alloc (.cells #[.int .i64 params, .int .i64 regs, .slice A_2 blocks.length p_2] 39)).alloc (.cells #[.int .i64 params', .int .i64 regs', .slice A'_2 blocks'.length p'_2] 39)) (w.heap.size + 1) 39 #[.int .i64 params', .int .i64 regs', .slice A'_2 blocks'.length p'_2] := by simpa using Row.new (w.alloc (.cells #[.int .i64 params, .int .i64 regs, .slice A_2 blocks.length p_2] 39)) 39 #[.int .i64 params', .int .i64 regs', .slice A'_2 blocks'.length p'_2]
  by_cases e_params : params = params'
  · subst e_params
    by_cases e_regs : regs = regs'
    · subst e_regs
      by_cases hlen : blocks.length = blocks'.length
      · have n_ : ((blocks.length : Int) != (blocks'.length : Int)) = false := by rw [hlen]; simp
        have HL0 : Hid (blocks.length = blocks'.length) := hlen
        have hle1 : blocks.length ≤ blocks'.length := by omega
        have hle2 : blocks'.length ≤ blocks.length := by omega
        clear hlen
        go_enter Try.func28, Try.ntmps28
        go_wp2_with fail
        go_loopw [5] (fun i wr => ∃ k : Nat, k ≤ blocks.length ∧ i = .int .i64 k ∧ Hid (blocks.take k = blocks'.take k) ∧ Below w.heap.size w wr ∧ Row wr w.heap.size 39 #[.int .i64 params, .int .i64 regs, .slice A_2 blocks.length p_2] ∧ Row wr (w.heap.size + 1) 39 #[.int .i64 params, .int .i64 regs, .slice A'_2 blocks'.length p'_2]) (fun i _ => blocks.length - (intOf i).toNat)
        case atStart => exact ⟨0, by omega, rfl, (show _ = _ by simp), hb0, P0, Q0⟩
        case round =>
          obtain ⟨k, hk, rfl, HT, hb, P, Q⟩ := hrel
          have hsz := hb.size
          have y0 : wr.cell? ⟨w.heap.size, 2, none⟩ = some (.slice A_2 blocks.length p_2) := P.cell 2
          have y1 : wr.cell? ⟨w.heap.size + 1, 2, none⟩ = some (.slice A'_2 blocks'.length p'_2) := Q.cell 2
          by_cases hkl : k < blocks.length
          · obtain ⟨b, o, phis_e, v0_e, ins_e, v1_e, jump_e, on_e, next_e, v4_e, rfl, _, hbB, HL, g0, g1, g2, g3, g4, c0, c1, c2, c3, c4⟩ := blk_get (h2.below hb hB) hkl
            obtain ⟨b2, o2, phis_e', v0_e', ins_e', v1_e', jump_e', on_e', next_e', v4_e', rfl, _, hbB2, HL2, g0', g1', g2', g3', g4', t0, t1, t2, t3, t4⟩ := blk_get (h2'.below hb hC) (show k < blocks'.length by omega)
            have hkl' : k < blocks'.length := by omega
            have hki : (0 : Int) ≤ (k : Int) := by omega
            have hkn : (k : Int) < (blocks.length : Int) := by omega
            have hkn' : (k : Int) < (blocks'.length : Int) := by omega
            go_wp2_with fail
            go_still_tail 10, (by kernel_rfl)
            have hbd : Below w.heap.size w wr.drew := hb.drew
            have Pd : Row wr.drew w.heap.size 39 _ := P
            have Qd : Row wr.drew (w.heap.size + 1) 39 _ := Q
            have gd0 : Sl false (phiS false) wr.drew lo B phis_e v0_e := g0.keep (Nat.le_refl _) (Nat.le_refl _) (fun _ _ _ => rfl)
            have gd1 : Sl false (insS false) wr.drew lo B ins_e v1_e := g1.keep (Nat.le_refl _) (Nat.le_refl _) (fun _ _ _ => rfl)
            have gd4 : Sl false (intS false) wr.drew lo B next_e v4_e := g4.keep (Nat.le_refl _) (Nat.le_refl _) (fun _ _ _ => rfl)
            have gd0' : Sl false (phiS false) wr.drew lo' B' phis_e' v0_e' := g0'.keep (Nat.le_refl _) (Nat.le_refl _) (fun _ _ _ => rfl)
            have gd1' : Sl false (insS false) wr.drew lo' B' ins_e' v1_e' := g1'.keep (Nat.le_refl _) (Nat.le_refl _) (fun _ _ _ => rfl)
            have gd4' : Sl false (intS false) wr.drew lo' B' next_e' v4_e' := g4'.keep (Nat.le_refl _) (Nat.le_refl _) (fun _ _ _ => rfl)
            change wpList _ _ _ _ _ wr.drew
            generalize wr.drew = w2 at hbd Pd Qd gd0 gd0' gd1 gd1' gd4 gd4' ⊢
            have hsz2 := hbd.size
            go_wp2_with fail
            refine (spec_l7SameBlock phis_e v0_e ins_e v1_e jump_e on_e next_e v4_e phis_e' v0_e' ins_e' v1_e' jump_e' on_e' next_e' v4_e' _ lo B lo' B' (Nat.le_trans hB hsz2) (Nat.le_trans hC hsz2) gd0 gd1 gd4 gd0' gd1' gd4').mono ?_
            rintro e w3 ⟨rfl, x3⟩
            have hb3 : Below w.heap.size w w3 := hbd.trans (x3.mono hsz2)
            have P3 := Pd.below x3 Pd.lt
            have Q3 := Qd.below x3 Qd.lt
            by_cases he : (⟨phis_e, ins_e, jump_e, on_e, next_e⟩ : BlkD) = (⟨phis_e', ins_e', jump_e', on_e', next_e'⟩ : BlkD)
            · rw [eqB_true he]
              have HE : Hid ((⟨phis_e, ins_e, jump_e, on_e, next_e⟩ : BlkD) = (⟨phis_e', ins_e', jump_e', on_e', next_e'⟩ : BlkD)) := he
              clear he
              go_wp2_with fail
              go_roundw
              case rel => exact ⟨k + 1, by omega, by go_num, take_succ_eq HT.out hkl hkl' (HL.out.trans (HE.out.trans HL2.out.symm)), hb3, P3, Q3⟩
              case measure => simp [intOf]; omega
            · rw [eqB_false he]
              have HE : Hid (¬ (⟨phis_e, ins_e, jump_e, on_e, next_e⟩ : BlkD) = (⟨phis_e', ins_e', jump_e', on_e', next_e'⟩ : BlkD)) := he
              clear he
              go_wp2_with fail
              go_ret
              exact Same2.mk_false (fun h => (ne_of_at hkl hkl' HL.out HL2.out HE.out) (congrArg CodeD.blocks h)) rfl hb3
          · go_wp2_with fail
            go_ret
            exact Same2.mk_true (by rw [take_all_eq HT.out (by omega) (by omega)]) rfl hb
      · have n_ : ((blocks.length : Int) != (blocks'.length : Int)) = true := by simpa using fun h : (blocks.length : Int) = blocks'.length => hlen (by omega)
        have E_blocks : Hid (¬ blocks = blocks') := fun h => hlen (by rw [h])
        clear hlen
        go_enter Try.func28, Try.ntmps28
        go_wp2_with fail
        go_ret
        exact Same2.mk_false (fun h => E_blocks.out (congrArg CodeD.blocks h)) rfl hb0
    · have n_ : (regs != regs') = true := by simpa using e_regs
      have E_regs : Hid (¬ regs = regs') := e_regs
      clear e_regs
      go_enter Try.func28, Try.ntmps28
      go_wp2_with fail
      go_ret
      exact Same2.mk_false (fun h => E_regs.out (congrArg CodeD.regs h)) rfl hb0
  · have n_ : (params != params') = true := by simpa using e_params
    have E_params : Hid (¬ params = params') := e_params
    clear e_params
    go_enter Try.func28, Try.ntmps28
    go_wp2_with fail
    go_ret
    exact Same2.mk_false (fun h => E_params.out (congrArg CodeD.params h)) rfl hb0

set_option maxRecDepth 100000 in
theorem spec_SameUnits (codes : List CodeD) (v0 : Value) (codes' : List CodeD) (v0' : Value) (w : World) (lo B lo' B' : Nat) (hB : B ≤ w.heap.size) (hC : B' ≤ w.heap.size) (h0 : Sl false (codeS false) w lo B codes v0) (h0' : Sl false (codeS false) w lo' B' codes' v0') :
    Calls Try.prog 13 #[.agg #[v0], .agg #[v0']] w (Same2 (⟨codes⟩ : UnitD) (⟨codes'⟩ : UnitD) w) := by
  obtain ⟨A_0, p_0, hf, hl_0, hm_0⟩ := h0.form
  change _ = Value.slice A_0 codes.length p_0 at hf
  subst hf
  obtain ⟨A'_0, p'_0, hf, hl'_0, hm'_0⟩ := h0'.form
  change _ = Value.slice A'_0 codes'.length p'_0 at hf
  subst hf
  have hb0 : Below w.heap.size w ((w.alloc (.cells #[.slice A_0 codes.length p_0] 28)).alloc (.cells #[.slice A'_0 codes'.length p'_0] 28)) := ((Below.refl _ _).alloc (Nat.le_refl _) _).alloc (by simp) _
  have P0 : Row ((w.alloc (.cells #[.slice A_0 codes.length p_0] 28)).alloc (.cells #[.slice A'_0 codes'.length p'_0] 28)) w.heap.size 28 #[.slice A_0 codes.length p_0] := (Row.new w _ _).alloc _
  have Q0 : Row ((w.alloc (.cells #[.slice A_0 codes.length p_0] 28)).alloc (.cells #[.slice A'_0 codes'.length p'_0] 28)) (w.heap.size + 1) 28 #[.slice A'_0 codes'.length p'_0] := by simpa using Row.new (w.alloc (.cells #[.slice A_0 codes.length p_0] 28)) 28 #[.slice A'_0 codes'.length p'_0]
  by_cases hlen : codes.length = codes'.length
  · have n_ : ((codes.length : Int) != (codes'.length : Int)) = false := by rw [hlen]; simp
    have HL0 : Hid (codes.length = codes'.length) := hlen
    have hle1 : codes.length ≤ codes'.length := by omega
    have hle2 : codes'.length ≤ codes.length := by omega
    clear hlen
    go_enter Try.func13, Try.ntmps13
    go_wp2_with fail
    go_loopw [5] (fun i wr => ∃ k : Nat, k ≤ codes.length ∧ i = .int .i64 k ∧ Hid (codes.take k = codes'.take k) ∧ Below w.heap.size w wr ∧ Row wr w.heap.size 28 #[.slice A_0 codes.length p_0] ∧ Row wr (w.heap.size + 1) 28 #[.slice A'_0 codes'.length p'_0]) (fun i _ => codes.length - (intOf i).toNat)
    case atStart => exact ⟨0, by omega, rfl, (show _ = _ by simp), hb0, P0, Q0⟩
    case round =>
      obtain ⟨k, hk, rfl, HT, hb, P, Q⟩ := hrel
      have hsz := hb.size
      have y0 : wr.cell? ⟨w.heap.size, 0, none⟩ = some (.slice A_0 codes.length p_0) := P.cell 0
      have y1 : wr.cell? ⟨w.heap.size + 1, 0, none⟩ = some (.slice A'_0 codes'.length p'_0) := Q.cell 0
      by_cases hkl : k < codes.length
      · obtain ⟨b, o, params_e, regs_e, blocks_e, v2_e, rfl, _, hbB, HL, g0, g1, g2, c0, c1, c2⟩ := code_get (h0.below hb hB) hkl
        obtain ⟨b2, o2, params_e', regs_e', blocks_e', v2_e', rfl, _, hbB2, HL2, g0', g1', g2', t0, t1, t2⟩ := code_get (h0'.below hb hC) (show k < codes'.length by omega)
        have hkl' : k < codes'.length := by omega
        have hki : (0 : Int) ≤ (k : Int) := by omega
        have hkn : (k : Int) < (codes.length : Int) := by omega
        have hkn' : (k : Int) < (codes'.length : Int) := by omega
        go_wp2_with fail
        go_still_tail 10, (by kernel_rfl)
        have hbd : Below w.heap.size w wr.drew := hb.drew
        have Pd : Row wr.drew w.heap.size 28 _ := P
        have Qd : Row wr.drew (w.heap.size + 1) 28 _ := Q
        have gd2 : Sl false (blkS false) wr.drew lo B blocks_e v2_e := g2.keep (Nat.le_refl _) (Nat.le_refl _) (fun _ _ _ => rfl)
        have gd2' : Sl false (blkS false) wr.drew lo' B' blocks_e' v2_e' := g2'.keep (Nat.le_refl _) (Nat.le_refl _) (fun _ _ _ => rfl)
        change wpList _ _ _ _ _ wr.drew
        generalize wr.drew = w2 at hbd Pd Qd gd2 gd2' ⊢
        have hsz2 := hbd.size
        go_wp2_with fail
        refine (spec_l7SameCode params_e regs_e blocks_e v2_e params_e' regs_e' blocks_e' v2_e' _ lo B lo' B' (Nat.le_trans hB hsz2) (Nat.le_trans hC hsz2) gd2 gd2').mono ?_
        rintro e w3 ⟨rfl, x3⟩
        have hb3 : Below w.heap.size w w3 := hbd.trans (x3.mono hsz2)
        have P3 := Pd.below x3 Pd.lt
        have Q3 := Qd.below x3 Qd.lt
        by_cases he : (⟨params_e, regs_e, blocks_e⟩ : CodeD) = (⟨params_e', regs_e', blocks_e'⟩ : CodeD)
        · rw [eqB_true he]
          have HE : Hid ((⟨params_e, regs_e, blocks_e⟩ : CodeD) = (⟨params_e', regs_e', blocks_e'⟩ : CodeD)) := he
          clear he
          go_wp2_with fail
          go_roundw
          case rel => exact ⟨k + 1, by omega, by go_num, take_succ_eq HT.out hkl hkl' (HL.out.trans (HE.out.trans HL2.out.symm)), hb3, P3, Q3⟩
          case measure => simp [intOf]; omega
        · rw [eqB_false he]
          have HE : Hid (¬ (⟨params_e, regs_e, blocks_e⟩ : CodeD) = (⟨params_e', regs_e', blocks_e'⟩ : CodeD)) := he
          clear he
          go_wp2_with fail
          go_ret
          exact Same2.mk_false (fun h => (ne_of_at hkl hkl' HL.out HL2.out HE.out) (congrArg UnitD.codes h)) rfl hb3
      · go_wp2_with fail
        go_ret
        exact Same2.mk_true (by rw [take_all_eq HT.out (by omega) (by omega)]) rfl hb
  · have n_ : ((codes.length : Int) != (codes'.length : Int)) = true := by simpa using fun h : (codes.length : Int) = codes'.length => hlen (by omega)
    have E_codes : Hid (¬ codes = codes') := fun h => hlen (by rw [h])
    clear hlen
    go_enter Try.func13, Try.ntmps13
    go_wp2_with fail
    go_ret
    exact Same2.mk_false (fun h => E_codes.out (congrArg UnitD.codes h)) rfl hb0

end Go.Proofs.Ytgcjccoglcgcoaa

