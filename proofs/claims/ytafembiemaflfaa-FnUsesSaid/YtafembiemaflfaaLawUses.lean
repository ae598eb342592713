/-
  The law FnUses: it returns true for all arguments. No condition.
-/
import Derived.Test.YtafembiemaflfaaDrU12
import Derived.Test.YtafembiemaflfaaWw
import Derived.Test.YtafembiemaflfaaUses2
import Derived.Test.YtafembiemaflfaaMadeBy
import Derived.Test.YtafembiemaflfaaFacts
import Derived.Test.YtafembiemaflfaaDecL
namespace Go.Proofs.Ytafembiemaflfaa
open Go.RowKit Go.ChangeShapes Go.WideShapes Go.Deep
set_option linter.unusedVariables false
set_option linter.unusedSimpArgs false
theorem asc_lt {l : List Int} (h : l.Pairwise (· < ·)) {i : Nat} (hi : i + 1 < l.length) : l[i]'(by omega) < l[i + 1] :=
  List.pairwise_iff_getElem.1 h i (i + 1) (by omega) hi (by omega)
theorem madeBy_is (op tg : Int) : (madeBy op tg == -1) = true ∨ madeBy op tg = tg := by
  unfold madeBy
  split
  · exact Or.inr rfl
  · exact Or.inl rfl
set_option maxRecDepth 100000 in
set_option maxHeartbeats 4000000 in
theorem law_FnUses (l l2 : List UInt8) (v v' : Value) (w : World) (hv : Sl false byS w 0 w.heap.size l v) (hv2 : Sl false byS w 0 w.heap.size l2 v') : Calls Try.prog 6 #[v, v'] w (Yes w) := by
  obtain ⟨A0, cap0, rfl, hlc, hcm⟩ := hv.form
  obtain ⟨A9, cap9, rfl, hlc9, hcm9⟩ := hv2.form
  by_cases hbig : 1048576 < l.length
  · have q0 : decide ((1048576 : Int) < (l.length : Int)) = true := by simp; omega
    go_enter Try.func6, Try.ntmps6
    go_wp2_with fail
    go_ret
    exact ⟨rfl, Below.refl _ _⟩
  have q0 : decide ((1048576 : Int) < (l.length : Int)) = false := by simp; omega
  by_cases hbig2 : 1048576 < l2.length
  · have q1 : decide ((1048576 : Int) < (l2.length : Int)) = true := by simp; omega
    go_enter Try.func6, Try.ntmps6
    go_wp2_with fail
    go_ret
    exact ⟨rfl, Below.refl _ _⟩
  have q1 : decide ((1048576 : Int) < (l2.length : Int)) = false := by simp; omega
  go_enter Try.func6, Try.ntmps6
  go_wp2_with fail
  refine (draw_uses l _ w hv).mono ?_
  rintro e w1 ⟨op, tg, nn, va, rfl, hop, htg, hnn, hva, b1⟩
  obtain ⟨Av, nv, cv, rfl, _⟩ := TyS.form hva
  obtain ⟨args, h40, hs⟩ := hva.sl (by omega)
  have hnv : nv = args.length := by
    obtain ⟨_, _, e1, _, _⟩ := hs.form
    injection e1
  subst hnv
  go_upto_region 4 with fail
  have nb : Below w1.heap.size w1 (w1.alloc (.cells #[.int .i64 op, .int .i64 tg, .slice Av args.length cv, .int .i64 nn] 44)) := (Below.refl _ _).alloc (Nat.le_refl _) _
  have Rx := Row.new w1 44 #[.int .i64 op, .int .i64 tg, .slice Av args.length cv, .int .i64 nn]
  have b2 := b1.trans (nb.mono b1.size)
  have hs2 := (hs.below nb (Nat.le_refl _)).more (Nat.zero_le _) nb.size
  have hg : w.heap.size ≤ w1.heap.size := b1.size
  clear hva hs nb b1
  generalize w1.alloc (.cells #[.int .i64 op, .int .i64 tg, .slice Av args.length cv, .int .i64 nn] 44) = w2 at Rx b2 hs2 ⊢
  generalize w1.heap.size = gx at Rx hg ⊢
  have x0 : w2.cell? ⟨gx, 0, none⟩ = some (.int .i64 op) := Rx.cell 0
  have x1 : w2.cell? ⟨gx, 1, none⟩ = some (.int .i64 tg) := Rx.cell 1
  have x2 : w2.cell? ⟨gx, 2, none⟩ = some (.slice Av args.length cv) := Rx.cell 2
  have x3 : w2.cell? ⟨gx, 3, none⟩ = some (.int .i64 nn) := Rx.cell 3
  have HU1 := Lib.hid (usesOf_asc args)
  have HU2 := Lib.hid (usesOf_mem args)
  have HU3 := usesOf_len args
  obtain ⟨U, hU⟩ : ∃ U, usesOf args = U := ⟨_, rfl⟩
  rw [hU] at HU1 HU2 HU3
  go_wp2_with fail
  refine (impl_UsesOf op tg args _ nn w2 0 w2.heap.size (Nat.le_refl _) (by omega) hs2).mono ?_
  rw [hU]
  rintro e w3 ⟨v1, rfl, hv1, e3⟩
  obtain ⟨A1, c1, rfl, hc1, hm1⟩ := (hv1 false).form
  have b3 := b2.trans (e3.mono b2.size)
  have Rx3 := Rx.below e3 Rx.lt
  have hs3 := (hs2.below e3 (Nat.le_refl _)).more (Nat.le_refl _) e3.size
  have hl3 := (hv1 false).more (Nat.zero_le _) (Nat.le_refl _)
  clear x0 x1 x2 x3 Rx b2 hs2 hv1 e3
  go_wp2_with fail
  refine (draw_made l2 _ w3 ((hv2.below b3 (Nat.le_refl _)).more (Nat.le_refl _) b3.size)).mono ?_
  rintro e w4 ⟨op2, tg2, nn2, va2, rfl, hop2, htg2, hnn2, hva2, b4_⟩
  obtain ⟨Aw, nw, cw, rfl, _⟩ := TyS.form hva2
  go_upto_region 6 with fail
  have nb : Below w4.heap.size w4 (w4.alloc (.cells #[.int .i64 op2, .int .i64 tg2, .slice Aw nw cw, .int .i64 nn2] 44)) := (Below.refl _ _).alloc (Nat.le_refl _) _
  have Ry := Row.new w4 44 #[.int .i64 op2, .int .i64 tg2, .slice Aw nw cw, .int .i64 nn2]
  have n4 : Below w3.heap.size w3 (w4.alloc (.cells #[.int .i64 op2, .int .i64 tg2, .slice Aw nw cw, .int .i64 nn2] 44)) := b4_.trans (nb.mono b4_.size)
  have b5 := b3.trans (n4.mono b3.size)
  have Rx5 := Rx3.below n4 Rx3.lt
  have hs5 := (hs3.below n4 (Nat.le_refl _)).more (Nat.le_refl _) n4.size
  have hl5 := (hl3.below n4 (Nat.le_refl _)).more (Nat.le_refl _) n4.size
  clear Rx3 hs3 hl3 nb n4 b4_ b3 hva2
  generalize w4.alloc (.cells #[.int .i64 op2, .int .i64 tg2, .slice Aw nw cw, .int .i64 nn2] 44) = w5 at Ry b5 Rx5 hs5 hl5 ⊢
  generalize w4.heap.size = gy at Ry ⊢
  have y0 : w5.cell? ⟨gy, 0, none⟩ = some (.int .i64 op2) := Ry.cell 0
  have y1 : w5.cell? ⟨gy, 1, none⟩ = some (.int .i64 tg2) := Ry.cell 1
  have y2 : w5.cell? ⟨gy, 2, none⟩ = some (.slice Aw nw cw) := Ry.cell 2
  have y3 : w5.cell? ⟨gy, 3, none⟩ = some (.int .i64 nn2) := Ry.cell 3
  have HM := Lib.hid (madeBy_is op2 tg2)
  obtain ⟨M, hM⟩ : ∃ M, madeBy op2 tg2 = M := ⟨_, rfl⟩
  rw [hM] at HM
  go_wp2_with fail
  refine (implMadeBy_any op2 tg2 nn2 _ w5).mono ?_
  rw [hM]
  rintro e w6 ⟨rfl, e6⟩
  have b6 := b5.trans (e6.mono b5.size)
  have Rx6 := Rx5.below e6 Rx5.lt
  have Ry6 := Ry.below e6 Ry.lt
  have hs6 := (hs5.below e6 (Nat.le_refl _)).more (Nat.le_refl _) e6.size
  have hl6 := (hl5.below e6 (Nat.le_refl _)).more (Nat.le_refl _) e6.size
  clear y0 y1 y2 y3 Rx5 Ry hs5 hl5 b5 e6
  have x0 : w6.cell? ⟨gx, 0, none⟩ = some (.int .i64 op) := Rx6.cell 0
  have x1 : w6.cell? ⟨gx, 1, none⟩ = some (.int .i64 tg) := Rx6.cell 1
  have x2 : w6.cell? ⟨gx, 2, none⟩ = some (.slice Av args.length cv) := Rx6.cell 2
  have x3 : w6.cell? ⟨gx, 3, none⟩ = some (.int .i64 nn) := Rx6.cell 3
  go_wp2_with fail
  refine (spec_UsesOf op tg args _ nn w6 0 w6.heap.size (Nat.le_refl _) (by omega) hs6).mono ?_
  rw [hU]
  rintro e w7 ⟨v2, rfl, hv7, e7⟩
  obtain ⟨A2, c2, rfl, hc2, hm2⟩ := hv7.form
  have b7 := b6.trans (e7.mono b6.size)
  have Rx7 := Rx6.below e7 Rx6.lt
  have Ry7 := Ry6.below e7 Ry6.lt
  have hs7 := (hs6.below e7 (Nat.le_refl _)).more (Nat.le_refl _) e7.size
  have hl7 := (hl6.below e7 (Nat.le_refl _)).more (Nat.le_refl _) e7.size
  have hl7' := hv7.more (Nat.zero_le _) (Nat.le_refl _)
  clear x0 x1 x2 x3 Rx6 Ry6 hs6 hl6 b6 e7 hv7
  go_wp2_with fail
  refine (wwInts_same U _ _ w7 0 w7.heap.size (Nat.le_refl _) hl7 hl7' (by omega)).mono ?_
  rintro e w8 ⟨rfl, e8⟩
  have b8 := b7.trans (e8.mono b7.size)
  have Rx8 := Rx7.below e8 Rx7.lt
  have Ry8 := Ry7.below e8 Ry7.lt
  have hs8 := (hs7.below e8 (Nat.le_refl _)).more (Nat.le_refl _) e8.size
  have hl8 := (hl7.below e8 (Nat.le_refl _)).more (Nat.le_refl _) e8.size
  clear Rx7 Ry7 hs7 hl7 hl7' b7 e8
  have y0 : w8.cell? ⟨gy, 0, none⟩ = some (.int .i64 op2) := Ry8.cell 0
  have y1 : w8.cell? ⟨gy, 1, none⟩ = some (.int .i64 tg2) := Ry8.cell 1
  have y2 : w8.cell? ⟨gy, 2, none⟩ = some (.slice Aw nw cw) := Ry8.cell 2
  have y3 : w8.cell? ⟨gy, 3, none⟩ = some (.int .i64 nn2) := Ry8.cell 3
  go_wp2_with fail
  refine (specMadeBy_any op2 tg2 nn2 _ w8).mono ?_
  rw [hM]
  rintro e w9 ⟨rfl, e9⟩
  have b9 := b8.trans (e9.mono b8.size)
  have Rx9 := Rx8.below e9 Rx8.lt
  have Ry9 := Ry8.below e9 Ry8.lt
  have hs9 := (hs8.below e9 (Nat.le_refl _)).more (Nat.le_refl _) e9.size
  have hl9 := (hl8.below e9 (Nat.le_refl _)).more (Nat.le_refl _) e9.size
  clear y0 y1 y2 y3 Rx8 Ry8 hs8 hl8 b8 e9 hU hM
  have hMM : (M != M) = false := by simp
  go_wp2_with fail
  go_loopw [45] (fun i wr => ∃ k : Nat, k ≤ U.length ∧ i = .int .i64 (k : Int) ∧ Below w9.heap.size w9 wr) (fun i _ => U.length - (intOf i).toNat)
  case atStart => exact ⟨0, by omega, rfl, Below.refl _ _⟩
  case round =>
    obtain ⟨k, hk, rfl, hb⟩ := hrel
    have HLn := Lib.hid hk
    by_cases hkl : k < U.length
    case pos =>
      have hk1 : (k : Int) < (U.length : Int) := by omega
      obtain ⟨p1, o1, a, hA, _, _, HL1, hIa, d1⟩ := int_get (hl9.below hb (Nat.le_refl _)) hkl
      subst hA
      by_cases hk0 : 0 < k
      · have hk2 : (0 : Int) < (k : Int) := by omega
        have hk2' : decide ((0 : Int) < (k : Int)) = true := by simpa using hk2
        obtain ⟨j, hj⟩ : ∃ j : Nat, k = j + 1 := ⟨k - 1, by omega⟩
        obtain ⟨p2, o2, a2, hA2, _, _, HL2, _, d2⟩ := int_get (hl9.below hb (Nat.le_refl _)) (show j < U.length by omega)
        injection hA2 with hA2
        injection hA2 with hA21 hA22
        subst hA21
        subst hA22
        have hlt : a2 < a := by
          have h1 := HL1.out
          have h2 := HL2.out
          subst hj
          have h3 := asc_lt HU1.out (i := j) (by omega)
          rw [h1, h2] at h3
          exact h3
        have hlt' : decide (a ≤ a2) = false := by simp; omega
        have hlt2 : ¬ a ≤ a2 := by omega
        have hwk : IntKind.i64.wrap ((k : Int) - 1) = (j : Int) := by rw [IntWalk.i64_in _ (by omega)]; omega
        have hjL : (j : Int) < (U.length : Int) := by omega
        clear HL2 hj hk
        go_wp2_with fail
        go_roundw
        case rel => exact ⟨k + 1, by omega, by go_num, hb⟩
        case measure => simp [intOf]; omega
      · have hk2 : ¬ (0 : Int) < (k : Int) := by omega
        have hk2' : decide ((0 : Int) < (k : Int)) = false := by simpa using hk2
        clear hk
        go_wp2_with fail
        go_roundw
        case rel => exact ⟨k + 1, by omega, by go_num, hb⟩
        case measure => simp [intOf]; omega
    have hk1 : ¬ (k : Int) < (U.length : Int) := by omega
    have b10 := b9.trans (hb.mono b9.size)
    have Rx10 := Rx9.below hb Rx9.lt
    have Ry10 := Ry9.below hb Ry9.lt
    have hs10 := (hs9.below hb (Nat.le_refl _)).more (Nat.le_refl _) hb.size
    have hl10 := (hl9.below hb (Nat.le_refl _)).more (Nat.le_refl _) hb.size
    have x2 : wr.cell? ⟨gx, 2, none⟩ = some (.slice Av args.length cv) := Rx10.cell 2
    clear Rx9 Ry9 hs9 hl9 b9 hb hk HLn
    obtain ⟨wq, hwq⟩ : ∃ x, x = wr := ⟨_, rfl⟩
    subst hwq
    go_wp2_with fail
    go_loopw [65] (fun i wr => ∃ j : Nat, j ≤ args.length ∧ i = .int .i64 (j : Int) ∧ Below wq.heap.size wq wr) (fun i _ => args.length - (intOf i).toNat)
    case atStart => exact ⟨0, by omega, rfl, Below.refl _ _⟩
    case round =>
      clear x2
      obtain ⟨j, hj, rfl, hb⟩ := hrel
      by_cases hjl : j < args.length
      case neg =>
        have hj1 : ¬ (j : Int) < (args.length : Int) := by omega
        have x2 : wr.cell? ⟨gx, 2, none⟩ = some (.slice Av args.length cv) := (Rx10.below hb Rx10.lt).cell 2
        have y1 : wr.cell? ⟨gy, 1, none⟩ = some (.int .i64 tg2) := (Ry10.below hb Ry10.lt).cell 1
        have hle : (U.length : Int) ≤ (args.length : Int) := by omega
        have hle' : decide ((U.length : Int) ≤ (args.length : Int)) = true := by simpa using hle
        have b11 := b10.trans (hb.mono b10.size)
        rcases HM.out with hM1 | hM1
        · clear HM
          have hM2 : M = -1 := by simpa using hM1
          clear hM1
          subst hM2
          go_wp2_with fail
          go_ret
          exact ⟨rfl, b11⟩
        · clear HM
          subst hM1
          have htt : (M == M) = true := by simp
          cases hM3 : (M == -1) with
          | true =>
            have hM2 : M = -1 := by simpa using hM3
            clear hM3
            subst hM2
            go_wp2_with fail
            go_ret
            exact ⟨rfl, b11⟩
          | false =>
            go_wp2_with fail
            go_ret
            exact ⟨rfl, b11⟩
      have hj1 : (j : Int) < (args.length : Int) := by omega
      obtain ⟨p1, o1, a, hA, _, _, HL1, hIa, d1⟩ := int_get (hs10.below hb (Nat.le_refl _)) hjl
      subst hA
      have HAny : Hid (U.any (fun n => n == a) = true) := by
        show _ = _
        rw [List.any_eq_true]
        exact ⟨a, (HU2.out a).2 (by rw [← HL1.out]; exact List.getElem_mem hjl), by simp⟩
      obtain ⟨wb, hwb⟩ : ∃ x, x = wr := ⟨_, rfl⟩
      subst hwb
      go_wp2_with fail
      go_loopw [13, 71] (fun ld i wr => ∃ (k : Nat) (q : Bool), k ≤ U.length ∧ i = .int .i64 (k : Int) ∧ ld = .bool q ∧ Hid (U.any (fun n => n == a) = (q || (U.drop k).any (fun n => n == a))) ∧ Below wb.heap.size wb wr) (fun _ i _ => U.length - (intOf i).toNat)
      case atStart => exact ⟨0, false, by omega, rfl, rfl, (show _ = _ from rfl), Below.refl _ _⟩
      case round =>
        obtain ⟨k, q, hk, rfl, rfl, HQ, hby⟩ := hrel
        by_cases hkl : k < U.length
        case pos =>
          have hk1 : (k : Int) < (U.length : Int) := by omega
          obtain ⟨p4, o4, c, hA, _, _, HL4, _, d4⟩ := int_get ((hl10.below hb (Nat.le_refl _)).below hby hb.size) hkl
          subst hA
          cases q with
          | true =>
            have E : Hid (U.any (fun n => n == a) = (true || (U.drop (k + 1)).any (fun n => n == a))) := by
              show _ = _
              rw [HQ.out, Bool.true_or, Bool.true_or]
            clear HQ
            go_wp2_with fail
            go_roundw
            case rel => exact ⟨k + 1, true, by omega, by go_num, rfl, E, hby⟩
            case measure => simp [intOf]; omega
          | false =>
            have E : Hid (U.any (fun n => n == a) = ((c == a) || (U.drop (k + 1)).any (fun n => n == a))) := by
              show _ = _
              rw [HQ.out, Bool.false_or, any_drop hkl HL4.out]
            clear HQ
            go_wp2_with fail
            go_roundw
            case rel => exact ⟨k + 1, (c == a), by omega, by go_num, rfl, E, hby⟩
            case measure => simp [intOf]; omega
        have hk1 : ¬ (k : Int) < (U.length : Int) := by omega
        have hq : q = true := by
          have h1 := HQ.out
          rw [List.drop_eq_nil_of_le (by omega), HAny.out] at h1
          simpa using h1.symm
        clear HQ
        subst hq
        go_wp2_with fail
        go_roundw
        case rel => exact ⟨j + 1, by omega, by go_num, hb.trans (hby.mono hb.size)⟩
        case measure => simp [intOf]; omega

set_option maxRecDepth 100000 in
theorem fnUses_lifted (os : Os) (started : os.Started) (H : Type) (enc : TypeId × Value → H) :
    ReturnsInHanded {} Try.checked os 6 .any (Rows.fnUsesSpec.pre6 enc Try.prog Try.f6 Rows.fnUsesRow.domain false) (Rows.fnUsesSpec.post enc Try.prog Try.f6 false true false false) := by
  refine returnsInHanded_of_change (C := Try.checked) own started (by kernel_rfl) Try.func6
    (ChangeSpec.witness6 (enc := enc) (C := Try.checked) false ⟨#[], #[.slice none 0 0, .slice none 0 0], []⟩ 8 (by kernel_rfl) (by kernel_rfl) (by kernel_rfl) (by kernel_rfl)) ?_
  intro W base args ds gs before hval0 hW hcnd _
  have hval : ∀ (j : Nat) t v, Try.f6.params[j]? = some t → args[j]? = some v → Value.okWide Try.prog W .any base t v := hval0
  obtain ⟨p, q, hA0, hV, hrest⟩ := id hW
  have hA : DataW.TrodAll enc Try.prog W 0 (fun _ => true) true Try.f6.params.toList args.toList ds p := hA0
  rw [Try.params6] at hA hval
  obtain ⟨v0, v1, d0, d1, p0, p1, rfl, rfl, rfl, h0, h1⟩ := trodAll_two hA
  obtain ⟨rfl, rfl⟩ := trodVars_none hV
  obtain ⟨a, len, cap, rfl⟩ := okWide_slice Try.underlying22 (hval 0 _ v0 rfl rfl)
  obtain ⟨a1, len1, cap1, rfl⟩ := okWide_slice Try.underlying22 (hval 1 _ v1 rfl rfl)
  obtain ⟨fuel0, hf0⟩ := h0
  obtain ⟨fuel1, hf1⟩ := h1
  obtain ⟨da0, vv, hv0, ha0⟩ := dec_slice Try.underlying22 (by kernel_rfl) (by decide) dec_u8 hf0
  simp only [Value.cells, List.cons.injEq, and_true] at hv0
  subst hv0
  obtain ⟨da1, vv1, hv1, ha1⟩ := dec_slice Try.underlying22 (by kernel_rfl) (by decide) dec_u8 hf1
  simp only [Value.cells, List.cons.injEq, and_true] at hv1
  subst hv1
  have hcall := law_FnUses da0 da1 _ _ W ha0 ha1
  refine hcall.mono fun e W' ⟨he, hb⟩ => ?_
  subst he
  exact ⟨_, rfl, post_true laidO hW rfl (by kernel_rfl) Try.underlying4 (by rw [Try.params6]; intro t ht; simp only [List.mem_cons, List.not_mem_nil, or_false] at ht; rcases ht with rfl | rfl <;> exact ⟨by kernel_rfl, of_decide_eq_true (by kernel_rfl)⟩) rfl rfl rfl hb⟩

set_option maxRecDepth 100000 in
set_option maxHeartbeats 1000000 in
theorem fnUses_facts : joinedFacts Try.prog 6 Try.f6 Rows.fnUsesSpec Rows.fnUsesRow = true := by
  unfold joinedFacts
  exact and_mk (and_mk (and_mk (and_mk (and_mk (and_mk (and_mk (and_mk (and_mk (and_mk (and_mk (and_mk (and_mk (and_mk (and_mk (and_mk (and_mk (and_mk (and_mk (and_mk (and_mk (and_mk (and_mk (and_mk (and_mk (and_mk (and_mk (and_mk (and_mk (and_mk (and_mk (by as_aux_lemma => kernel_rfl) laidO) mapsRowedO) (by as_aux_lemma => kernel_rfl)) (by as_aux_lemma => kernel_rfl)) (by as_aux_lemma => kernel_rfl)) (by as_aux_lemma => kernel_rfl)) (by as_aux_lemma => kernel_rfl)) (by as_aux_lemma => kernel_rfl)) (by as_aux_lemma => kernel_rfl)) (by as_aux_lemma => kernel_rfl)) (by as_aux_lemma => kernel_rfl)) (by as_aux_lemma => kernel_rfl)) (by as_aux_lemma => kernel_rfl)) (by as_aux_lemma => kernel_rfl)) (by as_aux_lemma => kernel_rfl)) (by as_aux_lemma => kernel_rfl)) (by as_aux_lemma => kernel_rfl)) (by as_aux_lemma => kernel_rfl)) (by as_aux_lemma => kernel_rfl)) (by as_aux_lemma => kernel_rfl)) (by as_aux_lemma => kernel_rfl)) (by rw [plainKeysO]; rfl)) (by as_aux_lemma => kernel_rfl)) stopsHeardO) mayEnter) (by rw [liftsFinal]; rfl)) (by rw [makeCut]; rfl)) (by as_aux_lemma => kernel_rfl)) (by as_aux_lemma => kernel_rfl)) (by as_aux_lemma => kernel_rfl)) (by as_aux_lemma => kernel_rfl)

theorem fnUses_holds : Rows.FnUsesSaid :=
  OpenClaim.holds_of_wide 6 Try.f6 rfl rfl rfl rfl rfl rfl rfl ⟨rfl, rfl, rfl, rfl, rfl⟩ rfl rfl rfl rfl rfl (by kernel_rfl) Try.func6 fnUses_facts
    (of_decide_eq_true (by kernel_rfl)) (by unfold Func.isWrapper; first | (rw [if_pos (by decide +kernel)]; kernel_rfl) | (rw [if_neg (by decide +kernel)]; exact ⟨rfl, rfl⟩))
    (fun os started H enc _ => fnUses_lifted os started H enc)
end Go.Proofs.Ytafembiemaflfaa
