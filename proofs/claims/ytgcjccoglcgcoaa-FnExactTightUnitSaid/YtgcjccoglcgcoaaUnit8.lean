/-
  spec.l7Block. Condition: the codes read as data, the code's place and the block's place are such, the code has at most 300 registers.
-/
import Derived.Test.YtgcjccoglcgcoaaRegT
import Derived.Test.YtgcjccoglcgcoaaUnit7
import Derived.Deep.Cut
import Derived.Deep.CutBlock
namespace Go.Proofs.Ytgcjccoglcgcoaa
open Go.RowKit Go.ChangeShapes Go.WideShapes Go.Deep
set_option linter.unusedVariables false
set_option linter.unusedSimpArgs false
theorem next_bad {jump : Int} {l : List Int} (h1 : jump ≠ 1) (h2 : jump ≠ 2) (h3 : jump ≠ 3) : ((l.length : Int) != nextN jump) = true := by
  unfold nextN
  rw [if_neg h1, if_neg h2, if_neg h3]
  simp
set_option maxRecDepth 100000 in
set_option maxHeartbeats 4000000 in
theorem spec_l7Block (us : List CodeD) (v0 : Value) (k j : Nat) (params regs : Int) (blocks : List BlkD) (phis : List PhiD) (ins : List InsD) (jump on : Int) (next : List Int) (w : World) (lo B : Nat) (hB : B ≤ w.heap.size) (hN : us.length ≤ 1048576) (hNb : blocks.length ≤ 1048576) (hu : Sl false (codeS false) w lo B us v0)
    (hk : k < us.length) (hL : us[k] = ⟨params, regs, blocks⟩) (hr : 0 ≤ regs ∧ regs ≤ 300) (hj : j < blocks.length) (hLx : blocks[j] = ⟨phis, ins, jump, on, next⟩) :
    Calls Try.prog 36 #[.agg #[v0], .int .i64 k, .int .i64 j] w (RetV (.bool (blkB us ⟨params, regs, blocks⟩ k j ⟨phis, ins, jump, on, next⟩)) w) := by
  obtain ⟨A, cap, rfl, hlc, hcm⟩ := hu.form
  obtain ⟨b, o, params', regs', blocks', u2, rfl, _, hbB, HL, g0, g1, g2, c0, c1, c2⟩ := code_get hu hk
  have e := HL.out
  rw [hL] at e
  injection e with e1 e2 e3
  subst e1
  subst e2
  subst e3
  clear hL
  obtain ⟨A2, p2, hf, hl2, hm2⟩ := g2.form
  change _ = Value.slice A2 blocks.length p2 at hf
  subst hf
  obtain ⟨b5, o5, phis', u0, ins', u1, jump', on', next', u4, rfl, _, hb5, HLx, f0, f1, f2, f3, f4, q0, q1, q2, q3, q4⟩ := blk_get g2 hj
  have e := HLx.out
  rw [hLx] at e
  injection e with e1 e2 e3 e4 e5
  subst e1
  subst e2
  subst e3
  subst e4
  subst e5
  clear hLx
  obtain ⟨A4, p4, hf, _, _⟩ := f4.form
  change _ = Value.slice A4 next.length p4 at hf
  subst hf
  obtain ⟨A0, p0, hf, _, _⟩ := f0.form
  change _ = Value.slice A0 phis.length p0 at hf
  subst hf
  obtain ⟨A1, p1, hf, _, _⟩ := f1.form
  change _ = Value.slice A1 ins.length p1 at hf
  subst hf
  have hkn : (k : Int) < (us.length : Int) := by omega
  have hki : (0 : Int) ≤ (k : Int) := by omega
  have hjn : (j : Int) < (blocks.length : Int) := by omega
  have hji : (0 : Int) ≤ (j : Int) := by omega
  have hbw : b < w.heap.size := by omega
  have hb5w : b5 < w.heap.size := by omega
  have hwr : IntKind.i64.wrap (regs - 1) = regs - 1 := IntWalk.i64_in _ (by omega)
  have d0 := cell_two (o1 := .cells #[.slice (some ⟨b, o, none⟩) us.length cap] 28) (o2 := .cells #[.int .i64 params, .int .i64 regs, .slice (some ⟨b5, o5, none⟩) blocks.length p2] 39) q0 hb5w
  have d1 := cell_two (o1 := .cells #[.slice (some ⟨b, o, none⟩) us.length cap] 28) (o2 := .cells #[.int .i64 params, .int .i64 regs, .slice (some ⟨b5, o5, none⟩) blocks.length p2] 39) q1 hb5w
  have d2 := cell_two (o1 := .cells #[.slice (some ⟨b, o, none⟩) us.length cap] 28) (o2 := .cells #[.int .i64 params, .int .i64 regs, .slice (some ⟨b5, o5, none⟩) blocks.length p2] 39) q2 hb5w
  have d3 := cell_two (o1 := .cells #[.slice (some ⟨b, o, none⟩) us.length cap] 28) (o2 := .cells #[.int .i64 params, .int .i64 regs, .slice (some ⟨b5, o5, none⟩) blocks.length p2] 39) q3 hb5w
  have d4 := cell_two (o1 := .cells #[.slice (some ⟨b, o, none⟩) us.length cap] 28) (o2 := .cells #[.int .i64 params, .int .i64 regs, .slice (some ⟨b5, o5, none⟩) blocks.length p2] 39) q4 hb5w
  go_enter Try.func36, Try.ntmps36
  go_upto_region 4 with fail
  obtain ⟨R0, R1, R2, hb, hsz⟩ := boxes3 w #[.slice (some ⟨b, o, none⟩) us.length cap] #[.int .i64 params, .int .i64 regs, .slice (some ⟨b5, o5, none⟩) blocks.length p2] #[.slice A0 phis.length p0, .slice A1 ins.length p1, .int .i64 jump, .int .i64 on, .slice A4 next.length p4] 28 39 65
  generalize hW : ((w.alloc (.cells #[.slice (some ⟨b, o, none⟩) us.length cap] 28)).alloc (.cells #[.int .i64 params, .int .i64 regs, .slice (some ⟨b5, o5, none⟩) blocks.length p2] 39)).alloc (.cells #[.slice A0 phis.length p0, .slice A1 ins.length p1, .int .i64 jump, .int .i64 on, .slice A4 next.length p4] 65) = wk at R0 R1 R2 hb hsz ⊢
  clear hW d0 d1 d2 d3 d4
  have x2 : wk.cell? ⟨w.heap.size + 1 + 1, 2, none⟩ = some (.int .i64 jump) := R2.cell 2
  have x3 : wk.cell? ⟨w.heap.size + 1 + 1, 3, none⟩ = some (.int .i64 on) := R2.cell 3
  have x4 : wk.cell? ⟨w.heap.size + 1 + 1, 4, none⟩ = some (.slice A4 next.length p4) := R2.cell 4
  have xc : wk.cell? ⟨w.heap.size + 1, 1, none⟩ = some (.int .i64 regs) := R1.cell 1
  go_upto_block 0 with fail
  go_cut [9] from 24 (fun a wx => a = .int .i64 (nextN jump) ∧ wx = wk ∧ Hid (jump = 1 ∧ on = 0 ∨ jump = 2 ∨ jump = 3))
  case first =>
    by_cases h1 : jump = 1
    · subst h1
      by_cases ho : on = 0
      · subst ho
        go_wp2_with fail
        go_meet
        exact ⟨rfl, rfl, (by show _ ∨ _; simp)⟩
      · have o0 : (on != 0) = true := by simpa using ho
        have E : Hid (blkB us ⟨params, regs, blocks⟩ k j ⟨phis, ins, 1, on, next⟩ = false) := blkB_on (by unfold onB; simp [ho, usesOnB])
        go_wp2_with fail
        go_ret
        exact RetV.mk (by rw [E.out] <;> rfl) rfl hb
    · have n1 : (jump == 1) = false := by simpa using h1
      by_cases h2 : jump = 2
      · subst h2
        go_wp2_with fail
        go_meet
        exact ⟨rfl, rfl, (by show _ ∨ _; simp)⟩
      · have n2 : (jump == 2) = false := by simpa using h2
        by_cases h3 : jump = 3
        · subst h3
          go_wp2_with fail
          go_meet
          exact ⟨rfl, rfl, (by show _ ∨ _; simp)⟩
        · have n3 : (jump == 3) = false := by simpa using h3
          have E : Hid (blkB us ⟨params, regs, blocks⟩ k j ⟨phis, ins, jump, on, next⟩ = false) := blkB_next (next_bad h1 h2 h3)
          go_wp2_with fail
          go_ret
          exact RetV.mk (by rw [E.out] <;> rfl) rfl hb
  case rest =>
    obtain ⟨rfl, rfl, JOK⟩ := hcut
    obtain ⟨BAD, hBAD⟩ : ∃ BAD : Bool, Hid (BAD = !(!((next.length : Int) != nextN jump) && onB regs ⟨phis, ins, jump, on, next⟩)) := ⟨_, rfl⟩
    go_upto_region 13 with fail
    go_cut [53] from 24 (fun c wx => wx = wc ∧ c = .bool BAD)
    case first =>
      cases hn : ((next.length : Int) != nextN jump)
      case true =>
        have q : BAD = true := by rw [hBAD.out, hn]; rfl
        subst q
        clear hBAD
        go_wp2_with fail
        go_meet
        exact ⟨rfl, rfl⟩
      by_cases h1 : jump = 1
      · subst h1
        have q : BAD = false := by
          have ho : on = 0 := by
            have := JOK.out
            omega
          rw [hBAD.out, hn]
          simp [onB, ho, usesOnB]
        subst q
        clear hBAD JOK
        go_wp2_with fail
        go_meet
        exact ⟨rfl, rfl⟩
      · have n1 : (jump != 1) = true := by simpa using h1
        have hs : usesOnB jump = true := by
          have := JOK.out
          unfold usesOnB
          rcases this with h | h | h
          · exact absurd h.1 h1
          · rw [h]; rfl
          · rw [h]; rfl
        have EO : BAD = !inB on 0 (regs - 1) := by
          rw [hBAD.out, hn]
          unfold onB
          rw [if_pos hs]
          rfl
        subst EO
        clear hBAD JOK hs
        go_wp2_with fail
        refine (spec_l1In on 0 (regs - 1) _).mono ?_
        rintro e w' ⟨rfl, rfl⟩
        cases ht : inB on 0 (regs - 1)
        · replace ht := Lib.hid ht
          go_wp2_with fail
          go_meet
          exact ⟨rfl, by rw [ht.out] <;> rfl⟩
        · replace ht := Lib.hid ht
          go_wp2_with fail
          go_meet
          exact ⟨rfl, by rw [ht.out] <;> rfl⟩
    case rest =>
      obtain ⟨rfl, rfl⟩ := hcut
      clear JOK
      have hBAD2 := hBAD.out
      cases BAD
      case true =>
        have E : Hid (blkB us ⟨params, regs, blocks⟩ k j ⟨phis, ins, jump, on, next⟩ = false) := by
          show _ = _
          cases hn : ((next.length : Int) != nextN jump)
          · rw [hn] at hBAD2
            exact blkB_on (by simpa using hBAD2.symm)
          · exact blkB_next hn
        clear hBAD hBAD2
        go_wp2_with fail
        go_ret
        exact RetV.mk (by rw [E.out] <;> rfl) rfl hb
      have HNO : Hid (((next.length : Int) != nextN jump) = false ∧ onB regs ⟨phis, ins, jump, on, next⟩ = true) := by
        show _ ∧ _
        revert hBAD2
        cases ((next.length : Int) != nextN jump) <;> cases onB regs ⟨phis, ins, jump, on, next⟩ <;> simp
      clear hBAD hBAD2
      obtain ⟨NP, hNP⟩ : ∃ NP : Nat, Hid ((predsFrom (j : Int) 0 blocks).length = NP) := ⟨_, rfl⟩
      obtain ⟨PH, hPH⟩ : ∃ PH : Bool, Hid (PH = phis.all (phiB regs NP j)) := ⟨_, rfl⟩
      obtain ⟨Q2, hQ2⟩ : ∃ Q2 : Bool, Hid (Q2 = (ins.all (insB us regs k) && PH)) := ⟨_, rfl⟩
      have hwl : IntKind.i64.wrap ((blocks.length : Int) - 1) = (blocks.length : Int) - 1 := IntWalk.i64_in _ (by omega)
      have H0 : Hid (blkB us ⟨params, regs, blocks⟩ k j ⟨phis, ins, jump, on, next⟩ = ((next.drop 0).all (fun n => inB n 1 ((blocks.length : Int) - 1)) && Q2)) := by
        have h1 := HNO.out.1
        show _ = _
        rw [hQ2.out, hPH.out, List.drop_zero, ← hNP.out]
        unfold blkB
        rw [decide_eq_true (show (next.length : Int) = nextN jump by simpa using h1), show onB regs ⟨phis, ins, jump, on, next⟩ = true from HNO.out.2]
        rfl
      clear HNO x2 x3 x4 xc
      go_wp2_with fail
      go_loopw [10] (fun i wr => ∃ q : Nat, q ≤ next.length ∧ i = .int .i64 q ∧ Hid (blkB us ⟨params, regs, blocks⟩ k j ⟨phis, ins, jump, on, next⟩ = ((next.drop q).all (fun n => inB n 1 ((blocks.length : Int) - 1)) && Q2)) ∧ Below w.heap.size w wr ∧ Row wr w.heap.size 28 #[.slice (some ⟨b, o, none⟩) us.length cap] ∧ Row wr (w.heap.size + 1) 39 #[.int .i64 params, .int .i64 regs, .slice (some ⟨b5, o5, none⟩) blocks.length p2] ∧ Row wr (w.heap.size + 1 + 1) 65 #[.slice A0 phis.length p0, .slice A1 ins.length p1, .int .i64 jump, .int .i64 on, .slice A4 next.length p4]) (fun i _ => next.length - (intOf i).toNat)
      case atStart => exact ⟨0, by omega, rfl, H0, hb, R0, R1, R2⟩
      case round =>
        clear H0 hb R0 R1 R2 hsz
        obtain ⟨q, hq, rfl, HT, hb, R0, R1, R2⟩ := hrel
        have hsz := hb.size
        have y4 : wr.cell? ⟨w.heap.size + 1 + 1, 4, none⟩ = some (.slice A4 next.length p4) := R2.cell 4
        have yc : wr.cell? ⟨w.heap.size + 1, 2, none⟩ = some (.slice (some ⟨b5, o5, none⟩) blocks.length p2) := R1.cell 2
        by_cases hql : q < next.length
        case pos =>
          obtain ⟨b4, o4, a, rfl, _, _, HLa, _, t0⟩ := int_get (f4.below hb hB) hql
          have hqn : (q : Int) < (next.length : Int) := by omega
          have hqi : (0 : Int) ≤ (q : Int) := by omega
          have HT1 : blkB us ⟨params, regs, blocks⟩ k j ⟨phis, ins, jump, on, next⟩ = ((inB a 1 ((blocks.length : Int) - 1) && (next.drop (q + 1)).all (fun n => inB n 1 ((blocks.length : Int) - 1))) && Q2) := HT.out.trans (by rw [drop_allI hql HLa.out])
          clear HT
          cases ht : inB a 1 ((blocks.length : Int) - 1)
          · have E : Hid (blkB us ⟨params, regs, blocks⟩ k j ⟨phis, ins, jump, on, next⟩ = false) := HT1.trans (by rw [ht]; rfl)
            clear HT1
            replace ht := Lib.hid ht
            go_wp2_with fail
            refine wp_region_held_drew (S := fun w' => (w'.cell? ⟨w.heap.size + 1 + 1, 4, none⟩ = some (.slice (some ⟨b4, o4, none⟩) next.length p4) ∧ w'.cell? ⟨w.heap.size + 1, 2, none⟩ = some (.slice (some ⟨b5, o5, none⟩) blocks.length p2) ∧ w'.cell? ⟨b4, o4 + q, none⟩ = some (.int .i64 a))) (by kernel_rfl) ?_ (fun hHeld => ?_)
            · exact ⟨y4, yc, t0⟩
            refine tk (i := 0) ?_
            try simp only [ap]
            refine tk (i := 1) ?_
            try simp only [ap]
            refine tk (i := 2) ?_
            try simp only [ap]
            refine tk (i := 3) ?_
            try simp only [ap]
            refine tk (i := 4) ?_
            try simp only [ap]
            refine tk (i := 5) ?_
            try simp only [ap]
            refine tk (i := 6) ?_
            try simp only [ap]
            refine tk (i := 7) ?_
            try simp only [ap]
            refine tk (i := 8) ?_
            try simp only [ap]
            refine reg_call (i := 9) (by kernel_rfl) rfl (fun K hK => ?_)
            go_simp
            (go_at_call 35; refine (spec_l1In a 1 ((blocks.length : Int) - 1) _).mono ?_; rintro e w' ⟨he_, rfl⟩; rw [ht.out] at he_; subst he_)
            refine hK.out _ _ ?_ (fun hHeld => ?_)
            · exact ⟨y4, yc, t0⟩
            clear hK K
            try simp only [ap]
            refine tk (i := 10) ?_
            try simp only [ap]
            refine wpAnyH_done (by kernel_rfl) ?_ _
            go_wp2_with fail
            go_ret
            exact RetV.mk (by rw [E.out] <;> rfl) rfl hb.drew
          · have E : Hid (blkB us ⟨params, regs, blocks⟩ k j ⟨phis, ins, jump, on, next⟩ = ((next.drop (q + 1)).all (fun n => inB n 1 ((blocks.length : Int) - 1)) && Q2)) := HT1.trans (by rw [ht]; rfl)
            clear HT1
            replace ht := Lib.hid ht
            go_wp2_with fail
            refine wp_region_held_drew (S := fun w' => (w'.cell? ⟨w.heap.size + 1 + 1, 4, none⟩ = some (.slice (some ⟨b4, o4, none⟩) next.length p4) ∧ w'.cell? ⟨w.heap.size + 1, 2, none⟩ = some (.slice (some ⟨b5, o5, none⟩) blocks.length p2) ∧ w'.cell? ⟨b4, o4 + q, none⟩ = some (.int .i64 a))) (by kernel_rfl) ?_ (fun hHeld => ?_)
            · exact ⟨y4, yc, t0⟩
            refine tk (i := 0) ?_
            try simp only [ap]
            refine tk (i := 1) ?_
            try simp only [ap]
            refine tk (i := 2) ?_
            try simp only [ap]
            refine tk (i := 3) ?_
            try simp only [ap]
            refine tk (i := 4) ?_
            try simp only [ap]
            refine tk (i := 5) ?_
            try simp only [ap]
            refine tk (i := 6) ?_
            try simp only [ap]
            refine tk (i := 7) ?_
            try simp only [ap]
            refine tk (i := 8) ?_
            try simp only [ap]
            refine reg_call (i := 9) (by kernel_rfl) rfl (fun K hK => ?_)
            go_simp
            (go_at_call 35; refine (spec_l1In a 1 ((blocks.length : Int) - 1) _).mono ?_; rintro e w' ⟨he_, rfl⟩; rw [ht.out] at he_; subst he_)
            refine hK.out _ _ ?_ (fun hHeld => ?_)
            · exact ⟨y4, yc, t0⟩
            clear hK K
            try simp only [ap]
            refine tk (i := 10) ?_
            try simp only [ap]
            refine wpAnyH_done (by kernel_rfl) ?_ _
            go_wp2_with fail
            go_roundw
            case rel => exact ⟨q + 1, by omega, by go_num, E, hb.drew, R0.drew, R1.drew, R2.drew⟩
            case measure => simp [intOf]; omega
        have H1 : Hid (blkB us ⟨params, regs, blocks⟩ k j ⟨phis, ins, jump, on, next⟩ = ((ins.drop 0).all (insB us regs k) && PH)) := HT.out.trans (by rw [List.drop_of_length_le (by omega), hQ2.out, List.drop_zero]; rfl)
        clear HT hQ2
        go_wp2_with fail
        clear y4 yc
        go_loopw [11] (fun i wr => ∃ q : Nat, q ≤ ins.length ∧ i = .int .i64 q ∧ Hid (blkB us ⟨params, regs, blocks⟩ k j ⟨phis, ins, jump, on, next⟩ = ((ins.drop q).all (insB us regs k) && PH)) ∧ Below w.heap.size w wr ∧ Row wr w.heap.size 28 #[.slice (some ⟨b, o, none⟩) us.length cap] ∧ Row wr (w.heap.size + 1) 39 #[.int .i64 params, .int .i64 regs, .slice (some ⟨b5, o5, none⟩) blocks.length p2] ∧ Row wr (w.heap.size + 1 + 1) 65 #[.slice A0 phis.length p0, .slice A1 ins.length p1, .int .i64 jump, .int .i64 on, .slice A4 next.length p4]) (fun i _ => ins.length - (intOf i).toNat)
        case atStart => exact ⟨0, by omega, rfl, H1, hb, R0, R1, R2⟩
        case round =>
          clear H1 hb R0 R1 R2 hsz
          obtain ⟨q, hq, rfl, HT, hb, R0, R1, R2⟩ := hrel
          have hsz := hb.size
          have yu : wr.cell? ⟨w.heap.size, 0, none⟩ = some (.slice (some ⟨b, o, none⟩) us.length cap) := R0.cell 0
          have y1 : wr.cell? ⟨w.heap.size + 1 + 1, 1, none⟩ = some (.slice A1 ins.length p1) := R2.cell 1
          by_cases hql : q < ins.length
          case pos =>
            obtain ⟨b7, o7, op, tg, args, u8, n, rfl, _, hb7, HLa, _, _, fa, _, t0, t1, t2, t3⟩ := ins_get (f1.below hb hB) hql
            obtain ⟨A8, p8, hf, _, _⟩ := fa.form
            change _ = Value.slice A8 args.length p8 at hf
            subst hf
            have hqn : (q : Int) < (ins.length : Int) := by omega
            have hqi : (0 : Int) ≤ (q : Int) := by omega
            have HT1 : blkB us ⟨params, regs, blocks⟩ k j ⟨phis, ins, jump, on, next⟩ = ((insB us regs k ⟨op, tg, args, n⟩ && (ins.drop (q + 1)).all (insB us regs k)) && PH) := HT.out.trans (by rw [drop_cons hql HLa.out, List.all_cons])
            clear HT
            cases ht : insB us regs k ⟨op, tg, args, n⟩
            · have E : Hid (blkB us ⟨params, regs, blocks⟩ k j ⟨phis, ins, jump, on, next⟩ = false) := HT1.trans (by rw [ht]; rfl)
              clear HT1
              replace ht := Lib.hid ht
              go_wp2_with fail
              refine wp_region_held_drew (S := fun w' => (w'.cell? ⟨w.heap.size, 0, none⟩ = some (.slice (some ⟨b, o, none⟩) us.length cap) ∧ w'.cell? ⟨w.heap.size + 1 + 1, 1, none⟩ = some (.slice (some ⟨b7, o7, none⟩) ins.length p1) ∧ w'.cell? ⟨b7, o7 + q * 4, none⟩ = some (.int .i64 op) ∧ w'.cell? ⟨b7, o7 + q * 4 + 1, none⟩ = some (.int .i64 tg) ∧ w'.cell? ⟨b7, o7 + q * 4 + 2, none⟩ = some (.slice A8 args.length p8) ∧ w'.cell? ⟨b7, o7 + q * 4 + 3, none⟩ = some (.int .i64 n))) (by kernel_rfl) ?_ (fun hHeld => ?_)
              · first | exact ⟨yu, y1, t0, t1, t2, t3⟩ | exact ⟨s0, s1, s2, s3, s4, s5⟩
              refine tk (i := 0) ?_
              try simp only [ap]
              refine tk (i := 1) ?_
              try simp only [ap]
              refine tk (i := 2) ?_
              try simp only [ap]
              refine tk (i := 3) ?_
              try simp only [ap]
              refine tk (i := 4) ?_
              try simp only [ap]
              refine tk (i := 5) ?_
              try simp only [ap]
              refine tk (i := 6) ?_
              try simp only [ap]
              refine reg_call (i := 7) (by kernel_rfl) rfl (fun K hK => ?_)
              go_simp
              (go_at_call 65; refine (spec_l7Ins us _ k op tg n args _ params regs blocks wr.drew lo B (Nat.le_trans hB hb.size) hN (hu.below hb.drew hB) fa hk HL.out hr).mono ?_; rintro e w3 ⟨he_, x3⟩; rw [ht.out] at he_; subst he_; have hb3 : Below w.heap.size w w3 := hb.drew.trans (x3.mono hb.size); have s0 : w3.cell? ⟨w.heap.size, 0, none⟩ = some (.slice (some ⟨b, o, none⟩) us.length cap) := (R0.drew.below x3 R0.lt).cell 0; have s1 : w3.cell? ⟨w.heap.size + 1 + 1, 1, none⟩ = some (.slice (some ⟨b7, o7, none⟩) ins.length p1) := (R2.drew.below x3 R2.lt).cell 1; have s2 : w3.cell? ⟨b7, o7 + q * 4, none⟩ = some (.int .i64 op) := (x3.cell (show b7 < wr.heap.size by omega)).trans t0; have s3 : w3.cell? ⟨b7, o7 + q * 4 + 1, none⟩ = some (.int .i64 tg) := (x3.cell (show b7 < wr.heap.size by omega)).trans t1; have s4 : w3.cell? ⟨b7, o7 + q * 4 + 2, none⟩ = some (.slice A8 args.length p8) := (x3.cell (show b7 < wr.heap.size by omega)).trans t2; have s5 : w3.cell? ⟨b7, o7 + q * 4 + 3, none⟩ = some (.int .i64 n) := (x3.cell (show b7 < wr.heap.size by omega)).trans t3)
              refine hK.out _ _ ?_ (fun hHeld => ?_)
              · first | exact ⟨yu, y1, t0, t1, t2, t3⟩ | exact ⟨s0, s1, s2, s3, s4, s5⟩
              clear hK K
              try simp only [ap]
              refine tk (i := 8) ?_
              try simp only [ap]
              refine wpAnyH_done (by kernel_rfl) ?_ _
              go_wp2_with fail
              go_ret
              exact RetV.mk (by rw [E.out] <;> rfl) rfl hb3
            · have E : Hid (blkB us ⟨params, regs, blocks⟩ k j ⟨phis, ins, jump, on, next⟩ = ((ins.drop (q + 1)).all (insB us regs k) && PH)) := HT1.trans (by rw [ht]; rfl)
              clear HT1
              replace ht := Lib.hid ht
              go_wp2_with fail
              refine wp_region_held_drew (S := fun w' => (w'.cell? ⟨w.heap.size, 0, none⟩ = some (.slice (some ⟨b, o, none⟩) us.length cap) ∧ w'.cell? ⟨w.heap.size + 1 + 1, 1, none⟩ = some (.slice (some ⟨b7, o7, none⟩) ins.length p1) ∧ w'.cell? ⟨b7, o7 + q * 4, none⟩ = some (.int .i64 op) ∧ w'.cell? ⟨b7, o7 + q * 4 + 1, none⟩ = some (.int .i64 tg) ∧ w'.cell? ⟨b7, o7 + q * 4 + 2, none⟩ = some (.slice A8 args.length p8) ∧ w'.cell? ⟨b7, o7 + q * 4 + 3, none⟩ = some (.int .i64 n))) (by kernel_rfl) ?_ (fun hHeld => ?_)
              · first | exact ⟨yu, y1, t0, t1, t2, t3⟩ | exact ⟨s0, s1, s2, s3, s4, s5⟩
              refine tk (i := 0) ?_
              try simp only [ap]
              refine tk (i := 1) ?_
              try simp only [ap]
              refine tk (i := 2) ?_
              try simp only [ap]
              refine tk (i := 3) ?_
              try simp only [ap]
              refine tk (i := 4) ?_
              try simp only [ap]
              refine tk (i := 5) ?_
              try simp only [ap]
              refine tk (i := 6) ?_
              try simp only [ap]
              refine reg_call (i := 7) (by kernel_rfl) rfl (fun K hK => ?_)
              go_simp
              (go_at_call 65; refine (spec_l7Ins us _ k op tg n args _ params regs blocks wr.drew lo B (Nat.le_trans hB hb.size) hN (hu.below hb.drew hB) fa hk HL.out hr).mono ?_; rintro e w3 ⟨he_, x3⟩; rw [ht.out] at he_; subst he_; have hb3 : Below w.heap.size w w3 := hb.drew.trans (x3.mono hb.size); have s0 : w3.cell? ⟨w.heap.size, 0, none⟩ = some (.slice (some ⟨b, o, none⟩) us.length cap) := (R0.drew.below x3 R0.lt).cell 0; have s1 : w3.cell? ⟨w.heap.size + 1 + 1, 1, none⟩ = some (.slice (some ⟨b7, o7, none⟩) ins.length p1) := (R2.drew.below x3 R2.lt).cell 1; have s2 : w3.cell? ⟨b7, o7 + q * 4, none⟩ = some (.int .i64 op) := (x3.cell (show b7 < wr.heap.size by omega)).trans t0; have s3 : w3.cell? ⟨b7, o7 + q * 4 + 1, none⟩ = some (.int .i64 tg) := (x3.cell (show b7 < wr.heap.size by omega)).trans t1; have s4 : w3.cell? ⟨b7, o7 + q * 4 + 2, none⟩ = some (.slice A8 args.length p8) := (x3.cell (show b7 < wr.heap.size by omega)).trans t2; have s5 : w3.cell? ⟨b7, o7 + q * 4 + 3, none⟩ = some (.int .i64 n) := (x3.cell (show b7 < wr.heap.size by omega)).trans t3)
              refine hK.out _ _ ?_ (fun hHeld => ?_)
              · first | exact ⟨yu, y1, t0, t1, t2, t3⟩ | exact ⟨s0, s1, s2, s3, s4, s5⟩
              clear hK K
              try simp only [ap]
              refine tk (i := 8) ?_
              try simp only [ap]
              refine wpAnyH_done (by kernel_rfl) ?_ _
              go_wp2_with fail
              go_roundw
              case rel => exact ⟨q + 1, by omega, by go_num, E, hb3, R0.drew.below x3 R0.lt, R1.drew.below x3 R1.lt, R2.drew.below x3 R2.lt⟩
              case measure => simp [intOf]; omega
          have H2 : Hid (blkB us ⟨params, regs, blocks⟩ k j ⟨phis, ins, jump, on, next⟩ = (phis.drop 0).all (phiB regs NP j)) := HT.out.trans (by rw [List.drop_of_length_le (by omega), hPH.out, List.drop_zero]; rfl)
          clear HT hPH
          have z0 : wr.cell? ⟨w.heap.size + 1, 0, none⟩ = some (.int .i64 params) := R1.cell 0
          have z1 : wr.cell? ⟨w.heap.size + 1, 1, none⟩ = some (.int .i64 regs) := R1.cell 1
          have z2 : wr.cell? ⟨w.heap.size + 1, 2, none⟩ = some (.slice (some ⟨b5, o5, none⟩) blocks.length p2) := R1.cell 2
          go_wp2_with fail
          refine (spec_l7Preds params regs blocks _ (j : Int) wr lo B (Nat.le_trans hB hb.size) hNb (g2.below hb hB)).mono ?_
          rintro e v3 ⟨pv, rfl, hpv, b3⟩
          obtain ⟨A6, p6, hf, _, _⟩ := (hpv false).form
          rw [hNP.out] at hf
          subst hf
          have hb3 : Below w.heap.size w v3 := hb.trans (b3.mono hb.size)
          replace R0 := R0.below b3 R0.lt
          replace R1 := R1.below b3 R1.lt
          replace R2 := R2.below b3 R2.lt
          clear z0 z1 z2 b3 hb yu y1
          go_wp2_with fail
          go_loopw [13] (fun i wr => ∃ q : Nat, q ≤ phis.length ∧ i = .int .i64 q ∧ Hid (blkB us ⟨params, regs, blocks⟩ k j ⟨phis, ins, jump, on, next⟩ = (phis.drop q).all (phiB regs NP j)) ∧ Below w.heap.size w wr ∧ Row wr w.heap.size 28 #[.slice (some ⟨b, o, none⟩) us.length cap] ∧ Row wr (w.heap.size + 1) 39 #[.int .i64 params, .int .i64 regs, .slice (some ⟨b5, o5, none⟩) blocks.length p2] ∧ Row wr (w.heap.size + 1 + 1) 65 #[.slice A0 phis.length p0, .slice A1 ins.length p1, .int .i64 jump, .int .i64 on, .slice A4 next.length p4]) (fun i _ => phis.length - (intOf i).toNat)
          case atStart => exact ⟨0, by omega, rfl, H2, hb3, R0, R1, R2⟩
          case round =>
            clear H2 hb3 R0 R1 R2 hsz
            obtain ⟨q, hq, rfl, HT, hb, R0, R1, R2⟩ := hrel
            have hsz := hb.size
            have y0 : wr.cell? ⟨w.heap.size + 1 + 1, 0, none⟩ = some (.slice A0 phis.length p0) := R2.cell 0
            have z0 : wr.cell? ⟨w.heap.size + 1, 0, none⟩ = some (.int .i64 params) := R1.cell 0
            have z1 : wr.cell? ⟨w.heap.size + 1, 1, none⟩ = some (.int .i64 regs) := R1.cell 1
            have z2 : wr.cell? ⟨w.heap.size + 1, 2, none⟩ = some (.slice (some ⟨b5, o5, none⟩) blocks.length p2) := R1.cell 2
            by_cases hql : q < phis.length
            case neg =>
              have E : Hid (blkB us ⟨params, regs, blocks⟩ k j ⟨phis, ins, jump, on, next⟩ = true) := HT.out.trans (by rw [List.drop_of_length_le (by omega)]; rfl)
              clear HT
              go_wp2_with fail
              go_ret
              exact RetV.mk (by rw [E.out] <;> rfl) rfl hb
            obtain ⟨b7, o7, tg, args, u8, rfl, _, hb7, HLa, _, fa, t0, t1⟩ := phi_get (f0.below hb hB) hql
            obtain ⟨A8, p8, hf, _, _⟩ := fa.form
            change _ = Value.slice A8 args.length p8 at hf
            subst hf
            have hqn : (q : Int) < (phis.length : Int) := by omega
            have hqi : (0 : Int) ≤ (q : Int) := by omega
            have HT1 : blkB us ⟨params, regs, blocks⟩ k j ⟨phis, ins, jump, on, next⟩ = (phiB regs NP j ⟨tg, args⟩ && (phis.drop (q + 1)).all (phiB regs NP j)) := HT.out.trans (by rw [drop_phis hql HLa.out])
            have NO : phiB regs NP j ⟨tg, args⟩ = false → blkB us ⟨params, regs, blocks⟩ k j ⟨phis, ins, jump, on, next⟩ = false := fun h => HT1.trans (by rw [h]; rfl)
            have GO : phiB regs NP j ⟨tg, args⟩ = true → blkB us ⟨params, regs, blocks⟩ k j ⟨phis, ins, jump, on, next⟩ = (phis.drop (q + 1)).all (phiB regs NP j) := fun h => HT1.trans (by rw [h]; rfl)
            clear HT HT1
            by_cases hj0 : j = 0
            · have E : Hid (blkB us ⟨params, regs, blocks⟩ k j ⟨phis, ins, jump, on, next⟩ = false) := NO (by unfold phiB; rw [hj0]; rfl)
              have ej : ((j : Int) == 0) = true := by rw [hj0]; rfl
              replace hj0 := Lib.hid hj0
              clear NO GO
              go_wp2_with fail
              refine wp_region_held_drew (S := fun w' => (w'.cell? ⟨w.heap.size + 1, 0, none⟩ = some (.int .i64 params) ∧ w'.cell? ⟨w.heap.size + 1, 1, none⟩ = some (.int .i64 regs) ∧ w'.cell? ⟨w.heap.size + 1, 2, none⟩ = some (.slice (some ⟨b5, o5, none⟩) blocks.length p2) ∧ w'.cell? ⟨w.heap.size + 1 + 1, 0, none⟩ = some (.slice (some ⟨b7, o7, none⟩) phis.length p0) ∧ w'.cell? ⟨b7, o7 + q * 2, none⟩ = some (.int .i64 tg) ∧ w'.cell? ⟨b7, o7 + q * 2 + 1, none⟩ = some (.slice A8 args.length p8))) (by kernel_rfl) ?_ (fun hHeld => ?_)
              · exact ⟨z0, z1, z2, y0, t0, t1⟩
              refine tk (i := 0) ?_
              try simp only [ap]
              refine tk (i := 1) ?_
              try simp only [ap]
              refine tk (i := 2) ?_
              try simp only [ap]
              refine reg_take (i := 3) (v := undef) rfl (by kernel_rfl) (by kernel_rfl) (by kernel_rfl) (fun _ _ _ h => h) (Or.inr ⟨by kernel_rfl, rfl⟩) (by assumption) ?_
              try simp only [ap]
              refine reg_take (i := 4) (v := undef) rfl (by kernel_rfl) (by kernel_rfl) (by kernel_rfl) (fun _ _ _ h => h) (Or.inr ⟨by kernel_rfl, rfl⟩) (by assumption) ?_
              try simp only [ap]
              refine reg_take (i := 5) (v := undef) rfl (by kernel_rfl) (by kernel_rfl) (by kernel_rfl) (fun _ _ _ h => h) (Or.inr ⟨by kernel_rfl, rfl⟩) (by assumption) ?_
              try simp only [ap]
              refine reg_take (i := 6) (v := undef) rfl (by kernel_rfl) (by kernel_rfl) (by kernel_rfl) (fun _ _ _ h => h) (Or.inr ⟨by kernel_rfl, rfl⟩) (by assumption) ?_
              try simp only [ap]
              refine reg_take (i := 7) (v := undef) rfl (by kernel_rfl) (by kernel_rfl) (by kernel_rfl) (fun _ _ _ h => h) (Or.inr ⟨by kernel_rfl, rfl⟩) (by assumption) ?_
              try simp only [ap]
              refine reg_take (i := 8) (v := undef) rfl (by kernel_rfl) (by kernel_rfl) (by kernel_rfl) (fun _ _ _ h => h) (Or.inr ⟨by kernel_rfl, rfl⟩) (by assumption) ?_
              try simp only [ap]
              refine reg_take (i := 9) (v := undef) rfl (by kernel_rfl) (by kernel_rfl) (by kernel_rfl) (fun _ _ _ h => h) (Or.inr ⟨by kernel_rfl, rfl⟩) (by assumption) ?_
              try simp only [ap]
              refine reg_take (i := 10) (v := undef) rfl (by kernel_rfl) (by kernel_rfl) (by kernel_rfl) (fun _ _ _ h => h) (Or.inr ⟨by kernel_rfl, rfl⟩) (by assumption) ?_
              try simp only [ap]
              refine reg_take (i := 11) (v := undef) rfl (by kernel_rfl) (by kernel_rfl) (by kernel_rfl) (fun _ _ _ h => h) (Or.inr ⟨by kernel_rfl, rfl⟩) (by assumption) ?_
              try simp only [ap]
              refine reg_take (i := 12) (v := undef) rfl (by kernel_rfl) (by kernel_rfl) (by kernel_rfl) (fun _ _ _ h => h) (Or.inr ⟨by kernel_rfl, rfl⟩) (by assumption) ?_
              try simp only [ap]
              refine tk (i := 13) ?_
              try simp only [ap]
              refine tk (i := 14) ?_
              try simp only [ap]
              refine reg_take (i := 15) (v := undef) rfl (by kernel_rfl) (by kernel_rfl) (by kernel_rfl) (fun _ _ _ h => h) (Or.inr ⟨by kernel_rfl, rfl⟩) (by assumption) ?_
              try simp only [ap]
              refine reg_take (i := 16) (v := undef) rfl (by kernel_rfl) (by kernel_rfl) (by kernel_rfl) (fun _ _ _ h => h) (Or.inr ⟨by kernel_rfl, rfl⟩) (by assumption) ?_
              try simp only [ap]
              refine reg_take (i := 17) (v := undef) rfl (by kernel_rfl) (by kernel_rfl) (by kernel_rfl) (fun _ _ _ h => h) (Or.inr ⟨by kernel_rfl, rfl⟩) (by assumption) ?_
              try simp only [ap]
              refine reg_take (i := 18) (v := undef) rfl (by kernel_rfl) (by kernel_rfl) (by kernel_rfl) (fun _ _ _ h => h) (Or.inr ⟨by kernel_rfl, rfl⟩) (by assumption) ?_
              try simp only [ap]
              refine reg_take (i := 19) (v := undef) rfl (by kernel_rfl) (by kernel_rfl) (by kernel_rfl) (fun _ _ _ h => h) (Or.inr ⟨by kernel_rfl, rfl⟩) (by assumption) ?_
              try simp only [ap]
              refine reg_take (i := 20) (v := undef) rfl (by kernel_rfl) (by kernel_rfl) (by kernel_rfl) (fun _ _ _ h => h) (Or.inr ⟨by kernel_rfl, rfl⟩) (by assumption) ?_
              try simp only [ap]
              refine reg_take (i := 21) (v := undef) rfl (by kernel_rfl) (by kernel_rfl) (by kernel_rfl) (fun _ _ _ h => h) (Or.inr ⟨by kernel_rfl, rfl⟩) (by assumption) ?_
              try simp only [ap]
              refine reg_take (i := 22) (v := undef) rfl (by kernel_rfl) (by kernel_rfl) (by kernel_rfl) (fun _ _ _ h => h) (Or.inr ⟨by kernel_rfl, rfl⟩) (by assumption) ?_
              try simp only [ap]
              refine reg_take (i := 23) (v := undef) rfl (by kernel_rfl) (by kernel_rfl) (by kernel_rfl) (fun _ _ _ h => h) (Or.inr ⟨by kernel_rfl, rfl⟩) (by assumption) ?_
              try simp only [ap]
              refine tk (i := 24) ?_
              try simp only [ap]
              refine tk (i := 25) ?_
              try simp only [ap]
              refine reg_take (i := 26) (v := undef) rfl (by kernel_rfl) (by kernel_rfl) (by kernel_rfl) (fun _ _ _ h => h) (Or.inr ⟨by kernel_rfl, rfl⟩) (by assumption) ?_
              try simp only [ap]
              refine reg_take (i := 27) (v := undef) rfl (by kernel_rfl) (by kernel_rfl) (by kernel_rfl) (fun _ _ _ h => h) (Or.inr ⟨by kernel_rfl, rfl⟩) (by assumption) ?_
              try simp only [ap]
              refine reg_take (i := 28) (v := undef) rfl (by kernel_rfl) (by kernel_rfl) (by kernel_rfl) (fun _ _ _ h => h) (Or.inr ⟨by kernel_rfl, rfl⟩) (by assumption) ?_
              try simp only [ap]
              refine reg_take (i := 29) (v := undef) rfl (by kernel_rfl) (by kernel_rfl) (by kernel_rfl) (fun _ _ _ h => h) (Or.inr ⟨by kernel_rfl, rfl⟩) (by assumption) ?_
              try simp only [ap]
              refine reg_take (i := 30) (v := undef) rfl (by kernel_rfl) (by kernel_rfl) (by kernel_rfl) (fun _ _ _ h => h) (Or.inr ⟨by kernel_rfl, rfl⟩) (by assumption) ?_
              try simp only [ap]
              refine reg_take (i := 31) (v := undef) rfl (by kernel_rfl) (by kernel_rfl) (by kernel_rfl) (fun _ _ _ h => h) (Or.inr ⟨by kernel_rfl, rfl⟩) (by assumption) ?_
              try simp only [ap]
              refine reg_take (i := 32) (v := undef) rfl (by kernel_rfl) (by kernel_rfl) (by kernel_rfl) (fun _ _ _ h => h) (Or.inr ⟨by kernel_rfl, rfl⟩) (by assumption) ?_
              try simp only [ap]
              refine reg_take (i := 33) (v := undef) rfl (by kernel_rfl) (by kernel_rfl) (by kernel_rfl) (fun _ _ _ h => h) (Or.inr ⟨by kernel_rfl, rfl⟩) (by assumption) ?_
              try simp only [ap]
              refine reg_take (i := 34) (v := undef) rfl (by kernel_rfl) (by kernel_rfl) (by kernel_rfl) (fun _ _ _ h => h) (Or.inr ⟨by kernel_rfl, rfl⟩) (by assumption) ?_
              try simp only [ap]
              refine reg_take (i := 35) (v := undef) rfl (by kernel_rfl) (by kernel_rfl) (by kernel_rfl) (fun _ _ _ h => h) (Or.inr ⟨by kernel_rfl, rfl⟩) (by assumption) ?_
              try simp only [ap]
              refine reg_take (i := 36) (v := undef) rfl (by kernel_rfl) (by kernel_rfl) (by kernel_rfl) (fun _ _ _ h => h) (Or.inr ⟨by kernel_rfl, rfl⟩) (by assumption) ?_
              try simp only [ap]
              refine tk (i := 37) ?_
              try simp only [ap]
              refine wpAnyH_done (by kernel_rfl) ?_ _
              go_wp2_with fail
              go_ret
              exact RetV.mk (by rw [E.out] <;> rfl) rfl hb.drew
            have ej : ((j : Int) == 0) = false := by simpa using hj0
            have hj1 : ¬ (j : Int) = 0 := by omega
            cases hl : ((args.length : Int) != (NP : Int))
            case true =>
              have hl' : ¬ (args.length : Int) = (NP : Int) := by simpa using hl
              have hl2 : ¬ args.length = NP := by omega
              have E : Hid (blkB us ⟨params, regs, blocks⟩ k j ⟨phis, ins, jump, on, next⟩ = false) := NO (by unfold phiB; simp [hl2])
              clear NO GO hl' hl2
              go_wp2_with fail
              refine wp_region_held_drew (S := fun w' => (w'.cell? ⟨w.heap.size + 1, 0, none⟩ = some (.int .i64 params) ∧ w'.cell? ⟨w.heap.size + 1, 1, none⟩ = some (.int .i64 regs) ∧ w'.cell? ⟨w.heap.size + 1, 2, none⟩ = some (.slice (some ⟨b5, o5, none⟩) blocks.length p2) ∧ w'.cell? ⟨w.heap.size + 1 + 1, 0, none⟩ = some (.slice (some ⟨b7, o7, none⟩) phis.length p0) ∧ w'.cell? ⟨b7, o7 + q * 2, none⟩ = some (.int .i64 tg) ∧ w'.cell? ⟨b7, o7 + q * 2 + 1, none⟩ = some (.slice A8 args.length p8))) (by kernel_rfl) ?_ (fun hHeld => ?_)
              · exact ⟨z0, z1, z2, y0, t0, t1⟩
              refine tk (i := 0) ?_
              try simp only [ap]
              refine tk (i := 1) ?_
              try simp only [ap]
              refine tk (i := 2) ?_
              try simp only [ap]
              refine tk (i := 3) ?_
              try simp only [ap]
              refine tk (i := 4) ?_
              try simp only [ap]
              refine tk (i := 5) ?_
              try simp only [ap]
              refine tk (i := 6) ?_
              try simp only [ap]
              refine tk (i := 7) ?_
              try simp only [ap]
              refine tk (i := 8) ?_
              try simp only [ap]
              refine tk (i := 9) ?_
              try simp only [ap]
              refine tk (i := 10) ?_
              try simp only [ap]
              refine tk (i := 11) ?_
              try simp only [ap]
              refine tk (i := 12) ?_
              try simp only [ap]
              refine tk (i := 13) ?_
              try simp only [ap]
              refine tk (i := 14) ?_
              try simp only [ap]
              refine reg_take (i := 15) (v := undef) rfl (by kernel_rfl) (by kernel_rfl) (by kernel_rfl) (fun _ _ _ h => h) (Or.inr ⟨by kernel_rfl, rfl⟩) (by assumption) ?_
              try simp only [ap]
              refine reg_take (i := 16) (v := undef) rfl (by kernel_rfl) (by kernel_rfl) (by kernel_rfl) (fun _ _ _ h => h) (Or.inr ⟨by kernel_rfl, rfl⟩) (by assumption) ?_
              try simp only [ap]
              refine reg_take (i := 17) (v := undef) rfl (by kernel_rfl) (by kernel_rfl) (by kernel_rfl) (fun _ _ _ h => h) (Or.inr ⟨by kernel_rfl, rfl⟩) (by assumption) ?_
              try simp only [ap]
              refine reg_take (i := 18) (v := undef) rfl (by kernel_rfl) (by kernel_rfl) (by kernel_rfl) (fun _ _ _ h => h) (Or.inr ⟨by kernel_rfl, rfl⟩) (by assumption) ?_
              try simp only [ap]
              refine reg_take (i := 19) (v := undef) rfl (by kernel_rfl) (by kernel_rfl) (by kernel_rfl) (fun _ _ _ h => h) (Or.inr ⟨by kernel_rfl, rfl⟩) (by assumption) ?_
              try simp only [ap]
              refine reg_take (i := 20) (v := undef) rfl (by kernel_rfl) (by kernel_rfl) (by kernel_rfl) (fun _ _ _ h => h) (Or.inr ⟨by kernel_rfl, rfl⟩) (by assumption) ?_
              try simp only [ap]
              refine reg_take (i := 21) (v := undef) rfl (by kernel_rfl) (by kernel_rfl) (by kernel_rfl) (fun _ _ _ h => h) (Or.inr ⟨by kernel_rfl, rfl⟩) (by assumption) ?_
              try simp only [ap]
              refine reg_take (i := 22) (v := undef) rfl (by kernel_rfl) (by kernel_rfl) (by kernel_rfl) (fun _ _ _ h => h) (Or.inr ⟨by kernel_rfl, rfl⟩) (by assumption) ?_
              try simp only [ap]
              refine reg_take (i := 23) (v := undef) rfl (by kernel_rfl) (by kernel_rfl) (by kernel_rfl) (fun _ _ _ h => h) (Or.inr ⟨by kernel_rfl, rfl⟩) (by assumption) ?_
              try simp only [ap]
              refine tk (i := 24) ?_
              try simp only [ap]
              refine tk (i := 25) ?_
              try simp only [ap]
              refine reg_take (i := 26) (v := undef) rfl (by kernel_rfl) (by kernel_rfl) (by kernel_rfl) (fun _ _ _ h => h) (Or.inr ⟨by kernel_rfl, rfl⟩) (by assumption) ?_
              try simp only [ap]
              refine reg_take (i := 27) (v := undef) rfl (by kernel_rfl) (by kernel_rfl) (by kernel_rfl) (fun _ _ _ h => h) (Or.inr ⟨by kernel_rfl, rfl⟩) (by assumption) ?_
              try simp only [ap]
              refine reg_take (i := 28) (v := undef) rfl (by kernel_rfl) (by kernel_rfl) (by kernel_rfl) (fun _ _ _ h => h) (Or.inr ⟨by kernel_rfl, rfl⟩) (by assumption) ?_
              try simp only [ap]
              refine reg_take (i := 29) (v := undef) rfl (by kernel_rfl) (by kernel_rfl) (by kernel_rfl) (fun _ _ _ h => h) (Or.inr ⟨by kernel_rfl, rfl⟩) (by assumption) ?_
              try simp only [ap]
              refine reg_take (i := 30) (v := undef) rfl (by kernel_rfl) (by kernel_rfl) (by kernel_rfl) (fun _ _ _ h => h) (Or.inr ⟨by kernel_rfl, rfl⟩) (by assumption) ?_
              try simp only [ap]
              refine reg_take (i := 31) (v := undef) rfl (by kernel_rfl) (by kernel_rfl) (by kernel_rfl) (fun _ _ _ h => h) (Or.inr ⟨by kernel_rfl, rfl⟩) (by assumption) ?_
              try simp only [ap]
              refine reg_take (i := 32) (v := undef) rfl (by kernel_rfl) (by kernel_rfl) (by kernel_rfl) (fun _ _ _ h => h) (Or.inr ⟨by kernel_rfl, rfl⟩) (by assumption) ?_
              try simp only [ap]
              refine reg_take (i := 33) (v := undef) rfl (by kernel_rfl) (by kernel_rfl) (by kernel_rfl) (fun _ _ _ h => h) (Or.inr ⟨by kernel_rfl, rfl⟩) (by assumption) ?_
              try simp only [ap]
              refine reg_take (i := 34) (v := undef) rfl (by kernel_rfl) (by kernel_rfl) (by kernel_rfl) (fun _ _ _ h => h) (Or.inr ⟨by kernel_rfl, rfl⟩) (by assumption) ?_
              try simp only [ap]
              refine reg_take (i := 35) (v := undef) rfl (by kernel_rfl) (by kernel_rfl) (by kernel_rfl) (fun _ _ _ h => h) (Or.inr ⟨by kernel_rfl, rfl⟩) (by assumption) ?_
              try simp only [ap]
              refine reg_take (i := 36) (v := undef) rfl (by kernel_rfl) (by kernel_rfl) (by kernel_rfl) (fun _ _ _ h => h) (Or.inr ⟨by kernel_rfl, rfl⟩) (by assumption) ?_
              try simp only [ap]
              refine tk (i := 37) ?_
              try simp only [ap]
              refine wpAnyH_done (by kernel_rfl) ?_ _
              go_wp2_with fail
              go_ret
              exact RetV.mk (by rw [E.out] <;> rfl) rfl hb.drew
            have HE : Hid (args.length = NP) := by
              have h9 : (args.length : Int) = (NP : Int) := by simpa using hl
              show _ = _
              omega
            cases hA : args.all (regB regs)
            case false =>
              have E : Hid (blkB us ⟨params, regs, blocks⟩ k j ⟨phis, ins, jump, on, next⟩ = false) := NO (by unfold phiB; simp [hA])
              clear NO GO
              replace hA := Lib.hid hA
              go_wp2_with fail
              refine wp_region_held_drew (S := fun w' => (w'.cell? ⟨w.heap.size + 1, 0, none⟩ = some (.int .i64 params) ∧ w'.cell? ⟨w.heap.size + 1, 1, none⟩ = some (.int .i64 regs) ∧ w'.cell? ⟨w.heap.size + 1, 2, none⟩ = some (.slice (some ⟨b5, o5, none⟩) blocks.length p2) ∧ w'.cell? ⟨w.heap.size + 1 + 1, 0, none⟩ = some (.slice (some ⟨b7, o7, none⟩) phis.length p0) ∧ w'.cell? ⟨b7, o7 + q * 2, none⟩ = some (.int .i64 tg) ∧ w'.cell? ⟨b7, o7 + q * 2 + 1, none⟩ = some (.slice A8 args.length p8))) (by kernel_rfl) ?_ (fun hHeld => ?_)
              · first | exact ⟨z0, z1, z2, y0, t0, t1⟩ | exact ⟨s0, s1, s2, s3, s4, s5⟩
              refine tk (i := 0) ?_
              try simp only [ap]
              refine tk (i := 1) ?_
              try simp only [ap]
              refine tk (i := 2) ?_
              try simp only [ap]
              refine tk (i := 3) ?_
              try simp only [ap]
              refine tk (i := 4) ?_
              try simp only [ap]
              refine tk (i := 5) ?_
              try simp only [ap]
              refine tk (i := 6) ?_
              try simp only [ap]
              refine tk (i := 7) ?_
              try simp only [ap]
              refine tk (i := 8) ?_
              try simp only [ap]
              refine tk (i := 9) ?_
              try simp only [ap]
              refine tk (i := 10) ?_
              try simp only [ap]
              refine tk (i := 11) ?_
              try simp only [ap]
              refine tk (i := 12) ?_
              try simp only [ap]
              refine tk (i := 13) ?_
              try simp only [ap]
              refine tk (i := 14) ?_
              try simp only [ap]
              refine tk (i := 15) ?_
              try simp only [ap]
              refine tk (i := 16) ?_
              try simp only [ap]
              refine tk (i := 17) ?_
              try simp only [ap]
              refine tk (i := 18) ?_
              try simp only [ap]
              refine tk (i := 19) ?_
              try simp only [ap]
              refine tk (i := 20) ?_
              try simp only [ap]
              refine tk (i := 21) ?_
              try simp only [ap]
              refine reg_call (i := 22) (by kernel_rfl) rfl (fun K hK => ?_)
              go_simp
              (go_at_call 67; refine (spec_l7Regs params regs _ args _ wr.drew lo B (Nat.le_trans hB hb.size) hr fa).mono ?_; rintro e w3 ⟨he_, x3⟩; rw [hA.out] at he_; subst he_; have hb3 : Below w.heap.size w w3 := hb.drew.trans (x3.mono hb.size); have s0 : w3.cell? ⟨w.heap.size + 1, 0, none⟩ = some (.int .i64 params) := (R1.drew.below x3 R1.lt).cell 0; have s1 : w3.cell? ⟨w.heap.size + 1, 1, none⟩ = some (.int .i64 regs) := (R1.drew.below x3 R1.lt).cell 1; have s2 : w3.cell? ⟨w.heap.size + 1, 2, none⟩ = some (.slice (some ⟨b5, o5, none⟩) blocks.length p2) := (R1.drew.below x3 R1.lt).cell 2; have s3 : w3.cell? ⟨w.heap.size + 1 + 1, 0, none⟩ = some (.slice (some ⟨b7, o7, none⟩) phis.length p0) := (R2.drew.below x3 R2.lt).cell 0; have s4 : w3.cell? ⟨b7, o7 + q * 2, none⟩ = some (.int .i64 tg) := (x3.cell (show b7 < wr.heap.size by omega)).trans t0; have s5 : w3.cell? ⟨b7, o7 + q * 2 + 1, none⟩ = some (.slice A8 args.length p8) := (x3.cell (show b7 < wr.heap.size by omega)).trans t1)
              refine hK.out _ _ ?_ (fun hHeld => ?_)
              · first | exact ⟨z0, z1, z2, y0, t0, t1⟩ | exact ⟨s0, s1, s2, s3, s4, s5⟩
              clear hK K
              try simp only [ap]
              refine tk (i := 23) ?_
              try simp only [ap]
              refine tk (i := 24) ?_
              try simp only [ap]
              refine tk (i := 25) ?_
              try simp only [ap]
              refine reg_take (i := 26) (v := undef) rfl (by kernel_rfl) (by kernel_rfl) (by kernel_rfl) (fun _ _ _ h => h) (Or.inr ⟨by kernel_rfl, rfl⟩) (by assumption) ?_
              try simp only [ap]
              refine reg_take (i := 27) (v := undef) rfl (by kernel_rfl) (by kernel_rfl) (by kernel_rfl) (fun _ _ _ h => h) (Or.inr ⟨by kernel_rfl, rfl⟩) (by assumption) ?_
              try simp only [ap]
              refine reg_take (i := 28) (v := undef) rfl (by kernel_rfl) (by kernel_rfl) (by kernel_rfl) (fun _ _ _ h => h) (Or.inr ⟨by kernel_rfl, rfl⟩) (by assumption) ?_
              try simp only [ap]
              refine reg_take (i := 29) (v := undef) rfl (by kernel_rfl) (by kernel_rfl) (by kernel_rfl) (fun _ _ _ h => h) (Or.inr ⟨by kernel_rfl, rfl⟩) (by assumption) ?_
              try simp only [ap]
              refine reg_take (i := 30) (v := undef) rfl (by kernel_rfl) (by kernel_rfl) (by kernel_rfl) (fun _ _ _ h => h) (Or.inr ⟨by kernel_rfl, rfl⟩) (by assumption) ?_
              try simp only [ap]
              refine reg_take (i := 31) (v := undef) rfl (by kernel_rfl) (by kernel_rfl) (by kernel_rfl) (fun _ _ _ h => h) (Or.inr ⟨by kernel_rfl, rfl⟩) (by assumption) ?_
              try simp only [ap]
              refine reg_take (i := 32) (v := undef) rfl (by kernel_rfl) (by kernel_rfl) (by kernel_rfl) (fun _ _ _ h => h) (Or.inr ⟨by kernel_rfl, rfl⟩) (by assumption) ?_
              try simp only [ap]
              refine reg_take (i := 33) (v := undef) rfl (by kernel_rfl) (by kernel_rfl) (by kernel_rfl) (fun _ _ _ h => h) (Or.inr ⟨by kernel_rfl, rfl⟩) (by assumption) ?_
              try simp only [ap]
              refine reg_take (i := 34) (v := undef) rfl (by kernel_rfl) (by kernel_rfl) (by kernel_rfl) (fun _ _ _ h => h) (Or.inr ⟨by kernel_rfl, rfl⟩) (by assumption) ?_
              try simp only [ap]
              refine reg_take (i := 35) (v := undef) rfl (by kernel_rfl) (by kernel_rfl) (by kernel_rfl) (fun _ _ _ h => h) (Or.inr ⟨by kernel_rfl, rfl⟩) (by assumption) ?_
              try simp only [ap]
              refine reg_take (i := 36) (v := undef) rfl (by kernel_rfl) (by kernel_rfl) (by kernel_rfl) (fun _ _ _ h => h) (Or.inr ⟨by kernel_rfl, rfl⟩) (by assumption) ?_
              try simp only [ap]
              refine tk (i := 37) ?_
              try simp only [ap]
              refine wpAnyH_done (by kernel_rfl) ?_ _
              go_wp2_with fail
              go_ret
              exact RetV.mk (by rw [E.out] <;> rfl) rfl hb3
            cases ht : inB tg 0 (regs - 1)
            case false =>
              have E : Hid (blkB us ⟨params, regs, blocks⟩ k j ⟨phis, ins, jump, on, next⟩ = false) := NO (by unfold phiB; rw [show regB regs tg = false from ht]; simp)
              clear NO GO
              replace hA := Lib.hid hA
              replace ht := Lib.hid ht
              go_wp2_with fail
              refine wp_region_held_drew (S := fun w' => (w'.cell? ⟨w.heap.size + 1, 0, none⟩ = some (.int .i64 params) ∧ w'.cell? ⟨w.heap.size + 1, 1, none⟩ = some (.int .i64 regs) ∧ w'.cell? ⟨w.heap.size + 1, 2, none⟩ = some (.slice (some ⟨b5, o5, none⟩) blocks.length p2) ∧ w'.cell? ⟨w.heap.size + 1 + 1, 0, none⟩ = some (.slice (some ⟨b7, o7, none⟩) phis.length p0) ∧ w'.cell? ⟨b7, o7 + q * 2, none⟩ = some (.int .i64 tg) ∧ w'.cell? ⟨b7, o7 + q * 2 + 1, none⟩ = some (.slice A8 args.length p8))) (by kernel_rfl) ?_ (fun hHeld => ?_)
              · first | exact ⟨z0, z1, z2, y0, t0, t1⟩ | exact ⟨s0, s1, s2, s3, s4, s5⟩
              refine tk (i := 0) ?_
              try simp only [ap]
              refine tk (i := 1) ?_
              try simp only [ap]
              refine tk (i := 2) ?_
              try simp only [ap]
              refine tk (i := 3) ?_
              try simp only [ap]
              refine tk (i := 4) ?_
              try simp only [ap]
              refine tk (i := 5) ?_
              try simp only [ap]
              refine tk (i := 6) ?_
              try simp only [ap]
              refine tk (i := 7) ?_
              try simp only [ap]
              refine tk (i := 8) ?_
              try simp only [ap]
              refine tk (i := 9) ?_
              try simp only [ap]
              refine tk (i := 10) ?_
              try simp only [ap]
              refine tk (i := 11) ?_
              try simp only [ap]
              refine tk (i := 12) ?_
              try simp only [ap]
              refine tk (i := 13) ?_
              try simp only [ap]
              refine tk (i := 14) ?_
              try simp only [ap]
              refine tk (i := 15) ?_
              try simp only [ap]
              refine tk (i := 16) ?_
              try simp only [ap]
              refine tk (i := 17) ?_
              try simp only [ap]
              refine tk (i := 18) ?_
              try simp only [ap]
              refine tk (i := 19) ?_
              try simp only [ap]
              refine tk (i := 20) ?_
              try simp only [ap]
              refine tk (i := 21) ?_
              try simp only [ap]
              refine reg_call (i := 22) (by kernel_rfl) rfl (fun K hK => ?_)
              go_simp
              (go_at_call 67; refine (spec_l7Regs params regs _ args _ wr.drew lo B (Nat.le_trans hB hb.size) hr fa).mono ?_; rintro e w3 ⟨he_, x3⟩; rw [hA.out] at he_; subst he_; have hb3 : Below w.heap.size w w3 := hb.drew.trans (x3.mono hb.size); have s0 : w3.cell? ⟨w.heap.size + 1, 0, none⟩ = some (.int .i64 params) := (R1.drew.below x3 R1.lt).cell 0; have s1 : w3.cell? ⟨w.heap.size + 1, 1, none⟩ = some (.int .i64 regs) := (R1.drew.below x3 R1.lt).cell 1; have s2 : w3.cell? ⟨w.heap.size + 1, 2, none⟩ = some (.slice (some ⟨b5, o5, none⟩) blocks.length p2) := (R1.drew.below x3 R1.lt).cell 2; have s3 : w3.cell? ⟨w.heap.size + 1 + 1, 0, none⟩ = some (.slice (some ⟨b7, o7, none⟩) phis.length p0) := (R2.drew.below x3 R2.lt).cell 0; have s4 : w3.cell? ⟨b7, o7 + q * 2, none⟩ = some (.int .i64 tg) := (x3.cell (show b7 < wr.heap.size by omega)).trans t0; have s5 : w3.cell? ⟨b7, o7 + q * 2 + 1, none⟩ = some (.slice A8 args.length p8) := (x3.cell (show b7 < wr.heap.size by omega)).trans t1)
              refine hK.out _ _ ?_ (fun hHeld => ?_)
              · first | exact ⟨z0, z1, z2, y0, t0, t1⟩ | exact ⟨s0, s1, s2, s3, s4, s5⟩
              clear hK K
              try simp only [ap]
              refine tk (i := 23) ?_
              try simp only [ap]
              refine tk (i := 24) ?_
              try simp only [ap]
              refine tk (i := 25) ?_
              try simp only [ap]
              refine tk (i := 26) ?_
              try simp only [ap]
              refine tk (i := 27) ?_
              try simp only [ap]
              refine tk (i := 28) ?_
              try simp only [ap]
              refine tk (i := 29) ?_
              try simp only [ap]
              refine tk (i := 30) ?_
              try simp only [ap]
              refine tk (i := 31) ?_
              try simp only [ap]
              refine tk (i := 32) ?_
              try simp only [ap]
              refine tk (i := 33) ?_
              try simp only [ap]
              refine tk (i := 34) ?_
              try simp only [ap]
              refine reg_call (i := 35) (by kernel_rfl) rfl (fun K hK => ?_)
              go_simp
              (go_at_call 35; refine (spec_l1In tg 0 (regs - 1) _).mono ?_; rintro e w' ⟨he_, rfl⟩; rw [ht.out] at he_; subst he_)
              refine hK.out _ _ ?_ (fun hHeld => ?_)
              · first | exact ⟨z0, z1, z2, y0, t0, t1⟩ | exact ⟨s0, s1, s2, s3, s4, s5⟩
              clear hK K
              try simp only [ap]
              refine tk (i := 36) ?_
              try simp only [ap]
              refine tk (i := 37) ?_
              try simp only [ap]
              refine wpAnyH_done (by kernel_rfl) ?_ _
              go_wp2_with fail
              go_ret
              exact RetV.mk (by rw [E.out] <;> rfl) rfl hb3
            have E := Lib.hid (GO (by unfold phiB; rw [hA, show regB regs tg = true from ht, decide_eq_true HE.out, decide_eq_true hj0]; rfl))
            clear NO GO
            replace hA := Lib.hid hA
            replace ht := Lib.hid ht
            go_wp2_with fail
            refine wp_region_held_drew (S := fun w' => (w'.cell? ⟨w.heap.size + 1, 0, none⟩ = some (.int .i64 params) ∧ w'.cell? ⟨w.heap.size + 1, 1, none⟩ = some (.int .i64 regs) ∧ w'.cell? ⟨w.heap.size + 1, 2, none⟩ = some (.slice (some ⟨b5, o5, none⟩) blocks.length p2) ∧ w'.cell? ⟨w.heap.size + 1 + 1, 0, none⟩ = some (.slice (some ⟨b7, o7, none⟩) phis.length p0) ∧ w'.cell? ⟨b7, o7 + q * 2, none⟩ = some (.int .i64 tg) ∧ w'.cell? ⟨b7, o7 + q * 2 + 1, none⟩ = some (.slice A8 args.length p8))) (by kernel_rfl) ?_ (fun hHeld => ?_)
            · first | exact ⟨z0, z1, z2, y0, t0, t1⟩ | exact ⟨s0, s1, s2, s3, s4, s5⟩
            refine tk (i := 0) ?_
            try simp only [ap]
            refine tk (i := 1) ?_
            try simp only [ap]
            refine tk (i := 2) ?_
            try simp only [ap]
            refine tk (i := 3) ?_
            try simp only [ap]
            refine tk (i := 4) ?_
            try simp only [ap]
            refine tk (i := 5) ?_
            try simp only [ap]
            refine tk (i := 6) ?_
            try simp only [ap]
            refine tk (i := 7) ?_
            try simp only [ap]
            refine tk (i := 8) ?_
            try simp only [ap]
            refine tk (i := 9) ?_
            try simp only [ap]
            refine tk (i := 10) ?_
            try simp only [ap]
            refine tk (i := 11) ?_
            try simp only [ap]
            refine tk (i := 12) ?_
            try simp only [ap]
            refine tk (i := 13) ?_
            try simp only [ap]
            refine tk (i := 14) ?_
            try simp only [ap]
            refine tk (i := 15) ?_
            try simp only [ap]
            refine tk (i := 16) ?_
            try simp only [ap]
            refine tk (i := 17) ?_
            try simp only [ap]
            refine tk (i := 18) ?_
            try simp only [ap]
            refine tk (i := 19) ?_
            try simp only [ap]
            refine tk (i := 20) ?_
            try simp only [ap]
            refine tk (i := 21) ?_
            try simp only [ap]
            refine reg_call (i := 22) (by kernel_rfl) rfl (fun K hK => ?_)
            go_simp
            (go_at_call 67; refine (spec_l7Regs params regs _ args _ wr.drew lo B (Nat.le_trans hB hb.size) hr fa).mono ?_; rintro e w3 ⟨he_, x3⟩; rw [hA.out] at he_; subst he_; have hb3 : Below w.heap.size w w3 := hb.drew.trans (x3.mono hb.size); have s0 : w3.cell? ⟨w.heap.size + 1, 0, none⟩ = some (.int .i64 params) := (R1.drew.below x3 R1.lt).cell 0; have s1 : w3.cell? ⟨w.heap.size + 1, 1, none⟩ = some (.int .i64 regs) := (R1.drew.below x3 R1.lt).cell 1; have s2 : w3.cell? ⟨w.heap.size + 1, 2, none⟩ = some (.slice (some ⟨b5, o5, none⟩) blocks.length p2) := (R1.drew.below x3 R1.lt).cell 2; have s3 : w3.cell? ⟨w.heap.size + 1 + 1, 0, none⟩ = some (.slice (some ⟨b7, o7, none⟩) phis.length p0) := (R2.drew.below x3 R2.lt).cell 0; have s4 : w3.cell? ⟨b7, o7 + q * 2, none⟩ = some (.int .i64 tg) := (x3.cell (show b7 < wr.heap.size by omega)).trans t0; have s5 : w3.cell? ⟨b7, o7 + q * 2 + 1, none⟩ = some (.slice A8 args.length p8) := (x3.cell (show b7 < wr.heap.size by omega)).trans t1)
            refine hK.out _ _ ?_ (fun hHeld => ?_)
            · first | exact ⟨z0, z1, z2, y0, t0, t1⟩ | exact ⟨s0, s1, s2, s3, s4, s5⟩
            clear hK K
            try simp only [ap]
            refine tk (i := 23) ?_
            try simp only [ap]
            refine tk (i := 24) ?_
            try simp only [ap]
            refine tk (i := 25) ?_
            try simp only [ap]
            refine tk (i := 26) ?_
            try simp only [ap]
            refine tk (i := 27) ?_
            try simp only [ap]
            refine tk (i := 28) ?_
            try simp only [ap]
            refine tk (i := 29) ?_
            try simp only [ap]
            refine tk (i := 30) ?_
            try simp only [ap]
            refine tk (i := 31) ?_
            try simp only [ap]
            refine tk (i := 32) ?_
            try simp only [ap]
            refine tk (i := 33) ?_
            try simp only [ap]
            refine tk (i := 34) ?_
            try simp only [ap]
            refine reg_call (i := 35) (by kernel_rfl) rfl (fun K hK => ?_)
            go_simp
            (go_at_call 35; refine (spec_l1In tg 0 (regs - 1) _).mono ?_; rintro e w' ⟨he_, rfl⟩; rw [ht.out] at he_; subst he_)
            refine hK.out _ _ ?_ (fun hHeld => ?_)
            · first | exact ⟨z0, z1, z2, y0, t0, t1⟩ | exact ⟨s0, s1, s2, s3, s4, s5⟩
            clear hK K
            try simp only [ap]
            refine tk (i := 36) ?_
            try simp only [ap]
            refine tk (i := 37) ?_
            try simp only [ap]
            refine wpAnyH_done (by kernel_rfl) ?_ _
            go_wp2_with fail
            go_roundw
            case rel => exact ⟨q + 1, by omega, by go_num, E, hb3, R0.drew.below x3 R0.lt, R1.drew.below x3 R1.lt, R2.drew.below x3 R2.lt⟩
            case measure => simp [intOf]; omega
end Go.Proofs.Ytgcjccoglcgcoaa
