/-
  The law FnInsCount: it returns true for all arguments. No condition.
-/
import Derived.Test.YtafembiemaflfaaDrU10
import Derived.Test.YtafembiemaflfaaUnit9
import Derived.Test.YtafembiemaflfaaFacts
import Derived.Test.YtafembiemaflfaaDecL
namespace Go.Proofs.Ytafembiemaflfaa
open Go.RowKit Go.ChangeShapes Go.WideShapes Go.Deep
set_option linter.unusedVariables false
set_option linter.unusedSimpArgs false
theorem take_small {codes : List CodeD} (h1 : codes.length ≤ 10) (h2 : ∀ a ∈ codes, codeN a ≤ 10010) (k : Nat) : (codes.take k).length + sumBy codeN (codes.take k) ≤ 1048576 :=
  cods_small (by rw [List.length_take]; omega) (fun a ha => h2 a (List.mem_of_mem_take ha))
set_option maxRecDepth 100000 in
set_option maxHeartbeats 4000000 in
theorem law_FnInsCount (l : List UInt8) (v : Value) (w : World) (hv : Sl false byS w 0 w.heap.size l v) : Calls Try.prog 4 #[v] w (Yes w) := by
  obtain ⟨A0, cap0, rfl, hlc, hcm⟩ := hv.form
  by_cases hbig : 1048576 < l.length
  · have q0 : decide ((1048576 : Int) < (l.length : Int)) = true := by simp; omega
    go_enter Try.func4, Try.ntmps4
    go_wp2_with fail
    go_ret
    exact ⟨rfl, Below.refl _ _⟩
  have q0 : decide ((1048576 : Int) < (l.length : Int)) = false := by simp; omega
  go_enter Try.func4, Try.ntmps4
  go_wp2_with fail
  refine (draw_DrawInsCount l _ w hv).mono ?_
  rintro e w1 ⟨A, n, c, rfl, hn, ty, b1⟩
  obtain ⟨codes, h10, hNa, ⟨A', cap', eqv⟩, hs⟩ := ty.sl (by omega)
  injection eqv with e1 e2 e3
  subst e2
  clear e1 e3 A' cap' ty hv
  obtain ⟨bC, oC, _, rfl, _, hbC, _⟩ := hs.at_ (show 0 < codes.length by omega)
  have hN := cods_small h10 hNa
  have hcap : codes.length ≤ c ∧ c ≤ 9223372036854775807 := by
    obtain ⟨_, _, ecap, hcap1, hcap2⟩ := hs.form
    injection ecap with _ _ ecap
    omega
  obtain ⟨hcap1, hcap2⟩ := hcap
  go_upto_region 4 with fail
  have RU := Row.new w1 39 #[.slice (some ⟨bC, oC, none⟩) codes.length c]
  have nb : Below w1.heap.size w1 (w1.alloc (.cells #[.slice (some ⟨bC, oC, none⟩) codes.length c] 39)) := (Below.refl _ _).alloc (Nat.le_refl _) _
  have b2 := b1.trans (nb.mono b1.size)
  have hs2 := (hs.below nb (Nat.le_refl _)).more (Nat.le_refl _) nb.size
  have hgu : w.heap.size ≤ w1.heap.size := b1.size
  clear hs nb b1
  generalize w1.alloc (.cells #[.slice (some ⟨bC, oC, none⟩) codes.length c] 39) = w2 at RU b2 hs2 ⊢
  generalize w1.heap.size = gu at RU hgu ⊢
  have y2 : w2.cell? ⟨gu, 0, none⟩ = some (.slice (some ⟨bC, oC, none⟩) codes.length c) := RU.cell 0
  go_wp2_with fail
  refine (impl_InsCount codes (.slice (some ⟨bC, oC, none⟩) codes.length c) w2 w.heap.size w2.heap.size (Nat.le_refl _) hN hs2).mono ?_
  rintro e w3 ⟨rfl, e3⟩
  have b3 := b2.trans (e3.mono b2.size)
  have RU3 := RU.below e3 RU.lt
  have hs3 := (hs2.below e3 (Nat.le_refl _)).more (Nat.le_refl _) e3.size
  have HC := Lib.hid (rfl : cntU codes = cntU codes)
  obtain ⟨C, hC⟩ : ∃ C, cntU codes = C := ⟨_, rfl⟩
  rw [hC]
  have y3 : w3.cell? ⟨gu, 0, none⟩ = some (.slice (some ⟨bC, oC, none⟩) codes.length c) := RU3.cell 0
  clear HC RU y2 hs2 b2 e3
  go_wp2_with fail
  refine (spec_InsCount codes (.slice (some ⟨bC, oC, none⟩) codes.length c) w3 w.heap.size w3.heap.size (Nat.le_refl _) hN hs3).mono ?_
  rintro e w4 ⟨rfl, e4⟩
  have b4 := b3.trans (e4.mono b3.size)
  have RU4 := RU3.below e4 RU3.lt
  have hs4 := (hs3.below e4 (Nat.le_refl _)).more (Nat.le_refl _) e4.size
  have y4 : w4.cell? ⟨gu, 0, none⟩ = some (.slice (some ⟨bC, oC, none⟩) codes.length c) := RU4.cell 0
  rw [hC]
  clear RU3 y3 hs3 b3 e4
  by_cases hneg : C < 0
  · have hC1 : C = -1 := by
      unfold cntU at hC
      split at hC <;> omega
    subst hC1
    go_wp2_with fail
    refine (spec_InsCount codes (.slice (some ⟨bC, oC, none⟩) codes.length c) w4 w.heap.size w4.heap.size (Nat.le_refl _) hN hs4).mono ?_
    rintro e w5 ⟨rfl, e5⟩
    rw [hC]
    go_wp2_with fail
    go_ret
    exact ⟨rfl, b4.trans (e5.mono b4.size)⟩
  have hU : unitB codes = true := by
    unfold cntU at hC
    split at hC
    · assumption
    · omega
  have hCu : Hid (C = (unitC codes : Int)) := by
    show C = _
    unfold cntU at hC
    rw [if_pos hU] at hC
    exact hC.symm
  have hC8 : unitC codes ≤ 800 := by
    unfold unitB at hU
    simp at hU
    exact hU.2.2
  have HCs := Lib.hid hC
  clear hC
  go_wp2_with fail
  go_loopw [5, 38] (fun s i wr => ∃ (k : Nat) (z : Int), k ≤ codes.length ∧ i = .int .i64 (k : Int) ∧ s = .int .i64 z ∧ Hid (0 < k → z = cntU (codes.take k)) ∧ Below w4.heap.size w4 wr) (fun _ i _ => codes.length - (intOf i).toNat)
  case atStart => exact ⟨0, 0, by omega, rfl, rfl, fun h => absurd h (by omega), Below.refl _ _⟩
  case round =>
    obtain ⟨k, z, hk, rfl, rfl, hz, hbr⟩ := hrel
    have yr : wr.cell? ⟨gu, 0, none⟩ = some (.slice (some ⟨bC, oC, none⟩) codes.length c) := (RU4.below hbr RU4.lt).cell 0
    by_cases hkn : k < codes.length
    case pos =>
      have hk1 : (k : Int) < (codes.length : Int) := by omega
      have hwk : IntKind.i64.wrap ((k : Int) + 1) = (k : Int) + 1 := IntWalk.i64_in _ (by omega)
      go_wp2_with fail
      refine (impl_InsCount (codes.take (k + 1)) _ wr w.heap.size w4.heap.size hbr.size (take_small h10 hNa _) ((hs4.below hbr (Nat.le_refl _)).take_ (k + 1) (by omega))).mono ?_
      rintro e w5 ⟨rfl, e5⟩
      obtain ⟨Z, hZ⟩ : ∃ Z, cntU (codes.take (k + 1)) = Z := ⟨_, rfl⟩
      rw [hZ]
      have HZ := Lib.hid hZ
      clear hZ
      go_wp2_with fail
      go_roundw
      case rel => exact ⟨k + 1, Z, by omega, by go_num, rfl, fun _ => HZ.out.symm, hbr.trans (e5.mono hbr.size)⟩
      case measure => simp [intOf]; omega
    have hk1 : ¬ (k : Int) < (codes.length : Int) := by omega
    obtain rfl : k = codes.length := by omega
    have hzC : z = C := by rw [hz.out (by omega), List.take_of_length_le (Nat.le_refl _), HCs.out]
    subst hzC
    have b5 := b4.trans (hbr.mono b4.size)
    have hs5 := (hs4.below hbr (Nat.le_refl _)).more (Nat.le_refl _) hbr.size
    clear hz hs4 RU4 y4 hbr b4
    have hU0 := Lib.hid hU
    obtain ⟨wq, hwq⟩ : ∃ x, x = wr := ⟨_, rfl⟩
    subst hwq
    clear hU HCs
    go_wp2_with fail
    go_loopw [7, 52] (fun n i wr => ∃ k : Nat, k ≤ codes.length ∧ i = .int .i64 (k : Int) ∧ n = .int .i64 (sumBy codeC (codes.take k) : Nat) ∧ Below wq.heap.size wq wr) (fun _ i _ => codes.length - (intOf i).toNat)
    case atStart => exact ⟨0, by omega, rfl, rfl, Below.refl _ _⟩
    case round =>
      obtain ⟨k, hk, rfl, rfl, hbx⟩ := hrel
      by_cases hkl : k < codes.length
      case neg =>
        have hk1 : ¬ (k : Int) < (codes.length : Int) := by omega
        have HE : sumBy codeC (codes.take k) = unitC codes := by rw [List.take_of_length_le (by omega)]; rfl
        rw [HE]
        clear HE
        have hCe := hCu.out
        clear hCu
        subst hCe
        obtain ⟨U, hUe⟩ : ∃ U, unitC codes = U := ⟨_, rfl⟩
        rw [hUe] at hC8 hneg ⊢
        clear hUe
        have hC9 : (U : Int) ≤ 800 := by omega
        have hC10 : decide ((U : Int) ≤ 800) = true := by simpa using hC9
        go_wp2_with fail
        go_ret
        exact ⟨rfl, b5.trans (hbx.mono b5.size)⟩
      obtain ⟨b, o, params, regs, blocks, u2, hA, _, hbB, HL, g0, g1, g2, c0, c1, c2⟩ := code_get (hs5.below hbx (Nat.le_refl _)) hkl
      injection hA with hA
      injection hA with hA1 hA2
      subst hA1
      subst hA2
      obtain ⟨A2, p2, hf, hl2, hm2⟩ := g2.form
      change _ = Value.slice A2 blocks.length p2 at hf
      subst hf
      have hkn : (k : Int) < (codes.length : Int) := by omega
      have hsm := code_small hN hkl HL.out
      have hba : Below wq.heap.size wq (wr.alloc (.cells #[.int .i64 params, .int .i64 regs, .slice A2 blocks.length p2] 25)) := hbx.alloc hbx.size _
      have hwa : Below wr.heap.size wr (wr.alloc (.cells #[.int .i64 params, .int .i64 regs, .slice A2 blocks.length p2] 25)) := (Below.refl _ _).alloc (Nat.le_refl _) _
      have g2' := (g2.below hwa (Nat.le_trans hbx.size (Nat.le_refl _)))
      have hle := sumBy_leU codeC codes k
      have hle2 : sumBy codeC (codes.take (k + 1)) ≤ unitC codes := sumBy_leU codeC codes (k + 1)
      have hE := sumBy_takeU (f := codeC) hkl HL.out
      have hcc : codeC ⟨params, regs, blocks⟩ = sumBy blkC blocks := rfl
      rw [hcc] at hE
      obtain ⟨m, hm⟩ : ∃ m, sumBy codeC (codes.take k) = m := ⟨_, rfl⟩
      rw [hm] at hE ⊢
      have hmS : m + sumBy blkC blocks ≤ 800 := by omega
      have HE := Lib.hid hE
      clear hE hm hle hle2 hcc
      go_upto_region 17 with fail
      have RB := Row.new wr 25 #[.int .i64 params, .int .i64 regs, .slice A2 blocks.length p2]
      have g3 := g2'.more (Nat.le_refl _) (show wq.heap.size ≤ (wr.alloc (.cells #[.int .i64 params, .int .i64 regs, .slice A2 blocks.length p2] 25)).heap.size from hba.size)
      clear hwa g2' g2 c0 c1 c2
      generalize wr.alloc (.cells #[.int .i64 params, .int .i64 regs, .slice A2 blocks.length p2] 25) = wb at RB hba g3 ⊢
      generalize wr.heap.size = gb at RB ⊢
      have yb : wb.cell? ⟨gb, 2, none⟩ = some (.slice A2 blocks.length p2) := RB.cell 2
      go_wp2_with fail
      clear yb RB hbx
      go_loopw [7, 59] (fun n i wr => ∃ j : Nat, j ≤ blocks.length ∧ i = .int .i64 (j : Int) ∧ n = .int .i64 ((m + sumBy blkC (blocks.take j) : Nat) : Int) ∧ Below wb.heap.size wb wr) (fun _ i _ => blocks.length - (intOf i).toNat)
      case atStart => exact ⟨0, by omega, rfl, by simp [sumBy], Below.refl _ _⟩
      case round =>
        obtain ⟨j, hj, rfl, rfl, hby⟩ := hrel
        by_cases hjl : j < blocks.length
        case neg =>
          have hj1 : ¬ (j : Int) < (blocks.length : Int) := by omega
          have HS : sumBy blkC (blocks.take j) = sumBy blkC blocks := by rw [List.take_of_length_le (by omega)]
          rw [HS]
          go_wp2_with fail
          go_roundw
          case rel => exact ⟨k + 1, by omega, by go_num, by rw [HE.out], hba.trans (hby.mono hba.size)⟩
          case measure => simp [intOf]; omega
        obtain ⟨f, of, phis, u0, ins, u1, jump, on, next, u4, hA, _, hbB2, HL2, k0, k1, k2, k3, k4, d0, d1, d2, d3, d4⟩ := blk_get (g3.below hby (Nat.le_refl _)) hjl
        subst hA
        obtain ⟨A4, p4, hf, _, _⟩ := k4.form
        change _ = Value.slice A4 next.length p4 at hf
        subst hf
        obtain ⟨A0', p0, hf, _, _⟩ := k0.form
        change _ = Value.slice A0' phis.length p0 at hf
        subst hf
        obtain ⟨A1, p1, hf, _, _⟩ := k1.form
        change _ = Value.slice A1 ins.length p1 at hf
        subst hf
        have hjn : (j : Int) < (blocks.length : Int) := by omega
        have hbz : Below wb.heap.size wb (wr.alloc (.cells #[.slice A0' phis.length p0, .slice A1 ins.length p1, .int .i64 jump, .int .i64 on, .slice A4 next.length p4] 34)) := hby.alloc hby.size _
        have hE2 := sumBy_takeU (f := blkC) hjl HL2.out
        have hle := sumBy_leU blkC blocks (j + 1)
        have hbk : blkC ⟨phis, ins, jump, on, next⟩ = phis.length + ins.length := rfl
        rw [hbk] at hE2
        obtain ⟨q, hq⟩ : ∃ q, sumBy blkC (blocks.take j) = q := ⟨_, rfl⟩
        rw [hq] at hE2 ⊢
        have q1 : m + q + (phis.length + ins.length) ≤ 800 := by omega
        have HE2 := Lib.hid hE2
        clear hE2 hle hbk hq hmS
        go_wp2_with fail
        go_roundw
        case rel => exact ⟨j + 1, by omega, by go_num, by rw [HE2.out]; go_num, hbz⟩
        case measure => simp [intOf]; omega

set_option maxRecDepth 100000 in
theorem fnInsCount_lifted (os : Os) (started : os.Started) (H : Type) (enc : TypeId × Value → H) :
    ReturnsInHanded {} Try.checked os 4 .any (Rows.fnInsCountSpec.pre6 enc Try.prog Try.f4 Rows.fnInsCountRow.domain false) (Rows.fnInsCountSpec.post enc Try.prog Try.f4 false true false false) := by
  refine returnsInHanded_of_change (C := Try.checked) own started (by kernel_rfl) Try.func4
    (ChangeSpec.witness6 (enc := enc) (C := Try.checked) false ⟨#[], #[.slice none 0 0], []⟩ 8 (by kernel_rfl) (by kernel_rfl) (by kernel_rfl) (by kernel_rfl)) ?_
  intro W base args ds gs before hval0 hW hcnd _
  have hval : ∀ (j : Nat) t v, Try.f4.params[j]? = some t → args[j]? = some v → Value.okWide Try.prog W .any base t v := hval0
  obtain ⟨p, q, hA0, hV, hrest⟩ := id hW
  have hA : DataW.TrodAll enc Try.prog W 0 (fun _ => true) true Try.f4.params.toList args.toList ds p := hA0
  rw [Try.params4] at hA hval
  obtain ⟨v0, d0, rfl, rfl, h0⟩ := trodAll_one hA
  obtain ⟨rfl, rfl⟩ := trodVars_none hV
  obtain ⟨a, len, cap, rfl⟩ := okWide_slice Try.underlying22 (hval 0 _ v0 rfl rfl)
  obtain ⟨fuel0, hf0⟩ := h0
  obtain ⟨da0, vv, hv0, ha0⟩ := dec_slice Try.underlying22 (by kernel_rfl) (by decide) dec_u8 hf0
  simp only [Value.cells, List.cons.injEq, and_true] at hv0
  subst hv0
  have hcall := law_FnInsCount da0 _ W ha0
  refine hcall.mono fun e W' ⟨he, hb⟩ => ?_
  subst he
  exact ⟨_, rfl, post_true laidO hW rfl (by kernel_rfl) Try.underlying4 (by rw [Try.params4]; intro t ht; simp only [List.mem_cons, List.not_mem_nil, or_false] at ht; subst ht; exact ⟨by kernel_rfl, of_decide_eq_true (by kernel_rfl)⟩) rfl rfl rfl hb⟩

set_option maxRecDepth 100000 in
set_option maxHeartbeats 1000000 in
theorem fnInsCount_facts : joinedFacts Try.prog 4 Try.f4 Rows.fnInsCountSpec Rows.fnInsCountRow = true := by
  unfold joinedFacts
  exact and_mk (and_mk (and_mk (and_mk (and_mk (and_mk (and_mk (and_mk (and_mk (and_mk (and_mk (and_mk (and_mk (and_mk (and_mk (and_mk (and_mk (and_mk (and_mk (and_mk (and_mk (and_mk (and_mk (and_mk (and_mk (and_mk (and_mk (and_mk (and_mk (and_mk (and_mk (by as_aux_lemma => kernel_rfl) laidO) mapsRowedO) (by as_aux_lemma => kernel_rfl)) (by as_aux_lemma => kernel_rfl)) (by as_aux_lemma => kernel_rfl)) (by as_aux_lemma => kernel_rfl)) (by as_aux_lemma => kernel_rfl)) (by as_aux_lemma => kernel_rfl)) (by as_aux_lemma => kernel_rfl)) (by as_aux_lemma => kernel_rfl)) (by as_aux_lemma => kernel_rfl)) (by as_aux_lemma => kernel_rfl)) (by as_aux_lemma => kernel_rfl)) (by as_aux_lemma => kernel_rfl)) (by as_aux_lemma => kernel_rfl)) (by as_aux_lemma => kernel_rfl)) (by as_aux_lemma => kernel_rfl)) (by as_aux_lemma => kernel_rfl)) (by as_aux_lemma => kernel_rfl)) (by as_aux_lemma => kernel_rfl)) (by as_aux_lemma => kernel_rfl)) (by rw [plainKeysO]; rfl)) (by as_aux_lemma => kernel_rfl)) stopsHeardO) mayEnter) (by rw [liftsFinal]; rfl)) (by rw [makeCut]; rfl)) (by as_aux_lemma => kernel_rfl)) (by as_aux_lemma => kernel_rfl)) (by as_aux_lemma => kernel_rfl)) (by as_aux_lemma => kernel_rfl)

theorem fnInsCount_holds : Rows.FnInsCountSaid :=
  OpenClaim.holds_of_wide 4 Try.f4 rfl rfl rfl rfl rfl rfl rfl ⟨rfl, rfl, rfl, rfl, rfl⟩ rfl rfl rfl rfl rfl (by kernel_rfl) Try.func4 fnInsCount_facts
    (of_decide_eq_true (by kernel_rfl)) (by unfold Func.isWrapper; first | (rw [if_pos (by decide +kernel)]; kernel_rfl) | (rw [if_neg (by decide +kernel)]; exact ⟨rfl, rfl⟩))
    (fun os started H enc _ => fnInsCount_lifted os started H enc)
end Go.Proofs.Ytafembiemaflfaa
