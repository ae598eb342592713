/-
  The law FnPreds: it returns true for all arguments. No condition.
-/
import Derived.Test.YtafembiemaflfaaDrU11
import Derived.Test.YtafembiemaflfaaWw
import Derived.Test.YtafembiemaflfaaFacts
import Derived.Test.YtafembiemaflfaaDecL
namespace Go.Proofs.Ytafembiemaflfaa
open Go.RowKit Go.ChangeShapes Go.WideShapes Go.Deep
set_option linter.unusedVariables false
set_option linter.unusedSimpArgs false
theorem predsFrom_ge (b : Int) : ∀ (l : List BlkD) (k : Nat), ∀ x ∈ predsFrom b k l, (k : Int) ≤ x
  | [], _, x, h => by cases h
  | a :: r, k, x, h => by
    simp only [predsFrom, List.mem_append] at h
    rcases h with h | h
    · split at h
      · simp at h
        omega
      · cases h
    · have := predsFrom_ge b r (k + 1) x h
      omega
theorem predsFrom_asc (b : Int) : ∀ (l : List BlkD) (k : Nat), (predsFrom b k l).Pairwise (· < ·)
  | [], _ => List.Pairwise.nil
  | a :: r, k => by
    simp only [predsFrom]
    split
    · rw [List.singleton_append, List.pairwise_cons]
      exact ⟨fun x hx => by have := predsFrom_ge b r (k + 1) x hx; omega, predsFrom_asc b r (k + 1)⟩
    · exact predsFrom_asc b r (k + 1)
theorem predsFrom_has (b : Int) : ∀ (l : List BlkD) (k j : Nat) (h : j < l.length), (predsFrom b k l).any (fun x => x == ((k + j : Nat) : Int)) = l[j].next.any (fun n => n == b)
  | [], _, _, h => by simp at h
  | a :: r, k, j, h => by
    simp only [predsFrom, List.any_append]
    cases j with
    | zero =>
      have h0 : (predsFrom b (k + 1) r).any (fun x => x == ((k + 0 : Nat) : Int)) = false := by
        rw [List.any_eq_false]
        intro x hx
        have := predsFrom_ge b r (k + 1) x hx
        simp
        omega
      rw [h0, Bool.or_false]
      have e : a.next.any (fun n => b == n) = a.next.any (fun n => n == b) := by
        congr 1
        funext n
        rw [Bool.eq_iff_iff, beq_iff_eq, beq_iff_eq]
        exact eq_comm
      show _ = a.next.any _
      rw [← e]
      cases a.next.any (fun n => b == n)
      · rfl
      · rw [if_pos rfl]
        simp only [List.any_cons, List.any_nil, Bool.or_false, Nat.add_zero]
        exact beq_self_eq_true _
    | succ j =>
      have h0 : ((if a.next.any (fun n => b == n) = true then [(k : Int)] else []).any (fun x => x == ((k + (j + 1) : Nat) : Int))) = false := by
        split
        · simp only [List.any_cons, List.any_nil, Bool.or_false]
          exact beq_false_of_ne (by omega)
        · rfl
      rw [h0, Bool.false_or, show k + (j + 1) = (k + 1) + j by omega]
      exact predsFrom_has b r (k + 1) j (by simpa using h)
theorem asc_lt {l : List Int} (h : l.Pairwise (· < ·)) {i : Nat} (hi : i + 1 < l.length) : l[i]'(by omega) < l[i + 1] :=
  List.pairwise_iff_getElem.1 h i (i + 1) (by omega) hi (by omega)
theorem predsFrom_I64 (b : Int) (l : List BlkD) (hl : l.length ≤ 10) : ∀ x ∈ predsFrom b 0 l, I64 x := by
  have key : ∀ (l : List BlkD) (k : Nat), ∀ x ∈ predsFrom b k l, (k : Int) ≤ x ∧ x < (k : Int) + l.length := by
    intro l
    induction l with
    | nil => intro k x h; cases h
    | cons a r ih =>
      intro k x h
      simp only [predsFrom, List.mem_append] at h
      rcases h with h | h
      · split at h
        · simp at h
          simp
          omega
        · cases h
      · have := ih (k + 1) x h
        simp
        omega
  intro x hx
  have := key l 0 x hx
  exact ⟨by omega, by omega⟩
set_option maxRecDepth 100000 in
set_option maxHeartbeats 4000000 in
theorem law_FnPreds (l : List UInt8) (v : Value) (w : World) (hv : Sl false byS w 0 w.heap.size l v) : Calls Try.prog 3 #[v] w (Yes w) := by
  obtain ⟨A0, cap0, rfl, hlc, hcm⟩ := hv.form
  obtain ⟨i0, hi, hz0, hz1, hz2⟩ := info_parts Try.info_int
  by_cases hbig : 1048576 < l.length
  · have q0 : decide ((1048576 : Int) < (l.length : Int)) = true := by simp; omega
    go_enter Try.func3, Try.ntmps3
    go_wp2_with fail
    go_ret
    exact ⟨rfl, Below.refl _ _⟩
  have q0 : decide ((1048576 : Int) < (l.length : Int)) = false := by simp; omega
  go_enter Try.func3, Try.ntmps3
  go_wp2_with fail
  refine (draw_preds l _ w hv).mono ?_
  rintro e w1 ⟨m, r, A, n, c, bn, rfl, hbn, hn, hm, hr, tb, b1⟩
  obtain ⟨blocks, h10, _, ⟨A', cap', eqv⟩, hs⟩ := tb.sl (by omega)
  injection eqv with e1 e2 e3
  subst e2
  clear e1 e3 A' cap' tb hv
  obtain ⟨bB, oB, _, rfl, _, hbB, _⟩ := hs.at_ (show 0 < blocks.length by omega)
  have hcap : blocks.length ≤ c ∧ c ≤ 9223372036854775807 := by
    obtain ⟨_, _, ecap, hcap1, hcap2⟩ := hs.form
    injection ecap with _ _ ecap
    omega
  obtain ⟨hcap1, hcap2⟩ := hcap
  go_upto_region 4 with fail
  have RU := Row.new w1 25 #[.int .i64 (m : Int), .int .i64 (r : Int), .slice (some ⟨bB, oB, none⟩) blocks.length c]
  have nb : Below w1.heap.size w1 (w1.alloc (.cells #[.int .i64 (m : Int), .int .i64 (r : Int), .slice (some ⟨bB, oB, none⟩) blocks.length c] 25)) := (Below.refl _ _).alloc (Nat.le_refl _) _
  have b2 := b1.trans (nb.mono b1.size)
  have hs2 := (hs.below nb (Nat.le_refl _)).more (Nat.le_refl _) nb.size
  have hgu : w.heap.size ≤ w1.heap.size := b1.size
  clear hs nb b1
  generalize w1.alloc (.cells #[.int .i64 (m : Int), .int .i64 (r : Int), .slice (some ⟨bB, oB, none⟩) blocks.length c] 25) = w2 at RU b2 hs2 ⊢
  generalize w1.heap.size = gu at RU hgu ⊢
  have y0 : w2.cell? ⟨gu, 0, none⟩ = some (.int .i64 (m : Int)) := RU.cell 0
  have y1 : w2.cell? ⟨gu, 1, none⟩ = some (.int .i64 (r : Int)) := RU.cell 1
  have y2 : w2.cell? ⟨gu, 2, none⟩ = some (.slice (some ⟨bB, oB, none⟩) blocks.length c) := RU.cell 2
  have hL10 := Nat.le_trans (predsOf_len blocks bn) h10
  obtain ⟨L, hL⟩ : ∃ L, predsOf blocks bn = L := ⟨_, rfl⟩
  rw [hL] at hL10
  go_wp2_with fail
  refine (impl_PredsOf (m : Int) (r : Int) blocks _ bn w2 w.heap.size w2.heap.size (Nat.le_refl _) (by omega) hs2 hbn).mono ?_
  rw [hL]
  rintro e w3 ⟨v1, rfl, hv1, e3⟩
  obtain ⟨A1, c1, rfl, hc1, hm1⟩ := (hv1 false).form
  have b3 := b2.trans (e3.mono b2.size)
  have RU3 := RU.below e3 RU.lt
  have hs3 := (hs2.below e3 (Nat.le_refl _)).more (Nat.le_refl _) e3.size
  have z0 : w3.cell? ⟨gu, 0, none⟩ = some (.int .i64 (m : Int)) := RU3.cell 0
  have z1 : w3.cell? ⟨gu, 1, none⟩ = some (.int .i64 (r : Int)) := RU3.cell 1
  have z2 : w3.cell? ⟨gu, 2, none⟩ = some (.slice (some ⟨bB, oB, none⟩) blocks.length c) := RU3.cell 2
  go_wp2_with fail
  refine (spec_PredsOf (m : Int) (r : Int) blocks _ bn w3 w.heap.size w3.heap.size (Nat.le_refl _) (by omega) hs3).mono ?_
  rw [hL]
  rintro e w4 ⟨v2, rfl, hv2, e4⟩
  obtain ⟨A2, c2, rfl, hc2, hm2⟩ := (hv2 false).form
  have b4 := b3.trans (e4.mono b3.size)
  have RU4 := RU3.below e4 RU3.lt
  have hs4 := (hs3.below e4 (Nat.le_refl _)).more (Nat.le_refl _) e4.size
  have hl4 : Sl false (intS false) w4 0 w4.heap.size L (.slice A1 L.length c1) := ((hv1 false).below e4 (Nat.le_refl _)).more (Nat.zero_le _) e4.size
  have hl4' : Sl false (intS false) w4 0 w4.heap.size L (.slice A2 L.length c2) := (hv2 false).more (Nat.zero_le _) (Nat.le_refl _)
  clear y0 y1 y2 z0 z1 z2 RU RU3 b2 b3 hs2 hs3 hv1 hv2
  go_wp2_with fail
  refine (wwInts_same L _ _ w4 0 w4.heap.size (Nat.le_refl _) hl4 hl4' (by omega)).mono ?_
  rintro e w5 ⟨rfl, e5⟩
  have b5 := b4.trans (e5.mono b4.size)
  have RU5 := RU4.below e5 RU4.lt
  have hs5 := (hs4.below e5 (Nat.le_refl _)).more (Nat.le_refl _) e5.size
  have hl5 := (hl4.below e5 (Nat.le_refl _)).more (Nat.le_refl _) e5.size
  have y5 : w5.cell? ⟨gu, 2, none⟩ = some (.slice (some ⟨bB, oB, none⟩) blocks.length c) := RU5.cell 2
  clear hl4 hl4' hs4 RU4 b4 e3 e4 e5
  by_cases hin : 0 ≤ bn ∧ bn ≤ (blocks.length : Int) - 1
  case neg =>
    have hLn : L = [] := by
      rw [← hL]
      unfold predsOf
      rw [if_neg hin]
    subst hLn
    by_cases hb0 : bn < 0
    · have q1 : decide (bn < 0) = true := by simpa using hb0
      go_wp2_with fail
      go_ret
      exact ⟨rfl, b5⟩
    · have q1 : decide (bn < 0) = false := by simpa using hb0
      have q2 : (blocks.length : Int) ≤ bn := by omega
      have q3 : decide ((blocks.length : Int) ≤ bn) = true := by simpa using q2
      go_wp2_with fail
      go_ret
      exact ⟨rfl, b5⟩
  have hLf : L = predsFrom bn 0 blocks := by
    rw [← hL]
    unfold predsOf
    rw [if_pos hin]
  have hAsc := Lib.hid (hLf ▸ predsFrom_asc bn blocks 0)
  have hHas : Hid (∀ (j : Nat) (h : j < blocks.length), L.any (fun x => x == (j : Int)) = blocks[j].next.any (fun n => n == bn)) := by
    show ∀ (j : Nat) (h : j < blocks.length), _
    intro j h
    have := predsFrom_has bn blocks 0 j h
    rw [Nat.zero_add] at this
    rw [hLf]
    exact this
  have hI := Lib.hid (hLf ▸ predsFrom_I64 bn blocks h10)
  clear hLf hL
  have q1 : decide (bn < 0) = false := by simp; omega
  have q2 : ¬ bn < 0 := by omega
  have q3 : ¬ (blocks.length : Int) ≤ bn := by omega
  have q4 : decide ((blocks.length : Int) ≤ bn) = false := by simpa using q3
  clear hin
  go_wp2_with fail
  have R6 : Row (w5.alloc (.cells #[] 3)) w5.heap.size 3 #[] := Row.new _ _ _
  go_loopw [6, 46] (fun v i wr => ∃ k : Nat, k ≤ L.length ∧ i = .int .i64 (k : Int) ∧ wr.ownsRow w5.heap.size 3 1 v k ((L.take k).map (Value.int .i64)) ∧ Below w5.heap.size w5 wr) (fun _ i _ => L.length - (intOf i).toNat)
  case atStart => exact ⟨0, by omega, rfl, ⟨by simp, Or.inr ⟨_, 0, #[], rfl, by simp, R6, by simp, by simp [maxLen], rfl, rfl⟩⟩, (Below.refl _ _).alloc (Nat.le_refl _) _⟩
  case round =>
    obtain ⟨k, hk, rfl, hown, hb⟩ := hrel
    have HLn := Lib.hid hk
    by_cases hkl : k < L.length
    case pos =>
      have hk1 : (k : Int) < (L.length : Int) := by omega
      obtain ⟨x1, o1, a, hA, _, _, HL1, hIa, d1⟩ := int_get (hl5.below hb (Nat.le_refl _)) hkl
      subst hA
      have HE : Hid (List.take k (L.map (Value.int .i64)) ++ [.int .i64 a] = (L.take (k + 1)).map (Value.int .i64)) := by
        show _ = _
        rw [← List.map_take]
        rw [List.take_succ_eq_append_getElem hkl, List.map_append, HL1.out]
        rfl
      by_cases hk0 : 0 < k
      · have hk2 : (0 : Int) < (k : Int) := by omega
        have hk2' : decide ((0 : Int) < (k : Int)) = true := by simpa using hk2
        obtain ⟨j, hj⟩ : ∃ j : Nat, k = j + 1 := ⟨k - 1, by omega⟩
        obtain ⟨x2, o2, a2, hA2, _, _, HL2, _, d2⟩ := int_get (hl5.below hb (Nat.le_refl _)) (show j < L.length by omega)
        injection hA2 with hA2
        injection hA2 with hA21 hA22
        subst hA21
        subst hA22
        have hlt : a2 < a := by
          have h1 := HL1.out
          have h2 := HL2.out
          subst hj
          have h3 := asc_lt hAsc.out (i := j) (by omega)
          rw [h1, h2] at h3
          exact h3
        have hlt' : decide (a ≤ a2) = false := by simp; omega
        have hlt2 : ¬ a ≤ a2 := by omega
        have hwk : IntKind.i64.wrap ((k : Int) - 1) = (j : Int) := by rw [IntWalk.i64_in _ (by omega)]; omega
        have HJ := Lib.hid hj
        have hjL : (j : Int) < (L.length : Int) := by omega
        clear HL2 hj hk
        go_upto_region 15 with fail
        go_wp2_with (at_builtin; refine wpList_append_own _ rfl _ _ 28 rfl w5.heap.size 3 i0 (.int .i64 0) 1 8 Try.underlying28 hi hz0 hz1 hz2 rfl (by decide) _ _ _ rfl (hown.alloc _) ⟨wr.heap.size, 0, none⟩ 1 1 [.int .i64 a] rfl rfl ?c1 ?c2 ?c3 ?c4 ?c5 ?_)
        try (case c1 => exact cell_one_new _ _ _)
        case c2 => first | rfl | (intro u hu; simp at hu; subst hu; rfl)
        case c3 => unfold maxLen; omega
        case c4 => omega
        try (case c5 => have := hb.size; simp; omega)
        intro v' w8 hown8 hgrow _
        have hb8 : Below w5.heap.size w5 w8 := (hb.alloc hb.size _).grown hgrow (by have := hb.size; simp; omega) (fun q hq => by have := own_ge hown hq; omega)
        go_wp2_with fail
        go_roundw
        case rel => exact ⟨k + 1, by omega, by go_num, HE.out ▸ hown8, hb8⟩
        case measure => simp [intOf]; omega
      · have hk2 : ¬ (0 : Int) < (k : Int) := by omega
        have hk2' : decide ((0 : Int) < (k : Int)) = false := by simpa using hk2
        clear hk
        go_upto_region 15 with fail
        go_wp2_with (at_builtin; refine wpList_append_own _ rfl _ _ 28 rfl w5.heap.size 3 i0 (.int .i64 0) 1 8 Try.underlying28 hi hz0 hz1 hz2 rfl (by decide) _ _ _ rfl (hown.alloc _) ⟨wr.heap.size, 0, none⟩ 1 1 [.int .i64 a] rfl rfl ?c1 ?c2 ?c3 ?c4 ?c5 ?_)
        try (case c1 => exact cell_one_new _ _ _)
        case c2 => first | rfl | (intro u hu; simp at hu; subst hu; rfl)
        case c3 => unfold maxLen; omega
        case c4 => omega
        try (case c5 => have := hb.size; simp; omega)
        intro v' w8 hown8 hgrow _
        have hb8 : Below w5.heap.size w5 w8 := (hb.alloc hb.size _).grown hgrow (by have := hb.size; simp; omega) (fun q hq => by have := own_ge hown hq; omega)
        go_wp2_with fail
        go_roundw
        case rel => exact ⟨k + 1, by omega, by go_num, HE.out ▸ hown8, hb8⟩
        case measure => simp [intOf]; omega
    have hk1 : ¬ (k : Int) < (L.length : Int) := by omega
    obtain rfl : k = L.length := by omega
    rw [List.take_of_length_le (Nat.le_refl _)] at hown
    have hin6 := Sl.of_own hown hI.out (Nat.zero_le _) false
    have hIf := hin6.form
    obtain ⟨A6, c6, rfl, hc6, hm6⟩ := hIf
    have b6 := b5.trans (hb.mono b5.size)
    have hs6 := (hs5.below hb (Nat.le_refl _)).more (Nat.zero_le _) hb.size
    have y6 : wr.cell? ⟨gu, 2, none⟩ = some (.slice (some ⟨bB, oB, none⟩) blocks.length c) := (RU5.below hb RU5.lt).cell 2
    clear hown hl5 hs5 RU5 y5 hb b5 HLn hk R6
    obtain ⟨wq, hwq⟩ : ∃ x, x = wr := ⟨_, rfl⟩
    subst hwq
    go_wp2_with fail
    go_loopw [70] (fun i wr => ∃ k : Nat, k ≤ blocks.length ∧ i = .int .i64 (k : Int) ∧ Below wq.heap.size wq wr) (fun i _ => blocks.length - (intOf i).toNat)
    case atStart => exact ⟨0, by omega, rfl, Below.refl _ _⟩
    case round =>
      clear y6
      obtain ⟨k, hk, rfl, hb⟩ := hrel
      by_cases hkl : k < blocks.length
      case neg =>
        have hk3 : ¬ (k : Int) < (blocks.length : Int) := by omega
        go_wp2_with fail
        go_ret
        exact ⟨rfl, b6.trans (hb.mono b6.size)⟩
      have hk3 : (k : Int) < (blocks.length : Int) := by omega
      obtain ⟨f, of, phis, u0, ins, u1, jump, on, next, u4, hA, _, hbB2, HL2, k0, k1, k2, k3, k4, d0, d1, d2, d3, d4⟩ := blk_get (hs6.below hb (Nat.le_refl _)) hkl
      injection hA with hA
      injection hA with hA1 hA2
      subst hA1
      subst hA2
      obtain ⟨A4, p4, hf, hp4, _⟩ := k4.form
      change _ = Value.slice A4 next.length p4 at hf
      subst hf
      have hnx : Hid (L.any (fun x => x == (k : Int)) = next.any (fun n => n == bn)) := by
        show _ = _
        rw [hHas.out k hkl, HL2.out]
      have hbx : Below wq.heap.size wq (wr.alloc (.cells #[u0, u1, .int .i64 jump, .int .i64 on, .slice A4 next.length p4] 34)) := hb.alloc hb.size _
      have nbx : Below wr.heap.size wr (wr.alloc (.cells #[u0, u1, .int .i64 jump, .int .i64 on, .slice A4 next.length p4] 34)) := (Below.refl _ _).alloc (Nat.le_refl _) _
      have RB := Row.new wr 34 #[u0, u1, .int .i64 jump, .int .i64 on, .slice A4 next.length p4]
      have k5 := k4.below nbx (Nat.le_trans (Nat.le_refl _) hb.size)
      obtain ⟨Ap, cp, hfp, _, _⟩ := k0.form
      change _ = Value.slice Ap phis.length cp at hfp
      subst hfp
      obtain ⟨Ai, ci, hfi, _, _⟩ := k1.form
      change _ = Value.slice Ai ins.length ci at hfi
      subst hfi
      go_upto_region 20 with fail
      have hnb : wq.heap.size ≤ (wr.alloc (.cells #[.slice Ap phis.length cp, .slice Ai ins.length ci, .int .i64 jump, .int .i64 on, .slice A4 next.length p4] 34)).heap.size := hbx.size
      clear nbx hb k0 k1 k4 d0 d1 d2 d3 d4 HL2
      generalize wr.alloc (.cells #[.slice Ap phis.length cp, .slice Ai ins.length ci, .int .i64 jump, .int .i64 on, .slice A4 next.length p4] 34) = wb at RB hbx k5 hnb ⊢
      generalize wr.heap.size = gb at RB ⊢
      have yb : wb.cell? ⟨gb, 4, none⟩ = some (.slice A4 next.length p4) := RB.cell 4
      go_wp2_with fail
      clear yb RB
      go_loopw [11, 78] (fun ld i wr => ∃ (j : Nat) (q : Bool), j ≤ next.length ∧ i = .int .i64 (j : Int) ∧ ld = .bool q ∧ Hid (next.any (fun n => n == bn) = (q || (next.drop j).any (fun n => n == bn))) ∧ Below wb.heap.size wb wr) (fun _ i _ => next.length - (intOf i).toNat)
      case atStart => exact ⟨0, false, by omega, rfl, rfl, (show _ = _ from rfl), Below.refl _ _⟩
      case round =>
        obtain ⟨j, q, hj, rfl, rfl, HQ, hby⟩ := hrel
        by_cases hjl : j < next.length
        case pos =>
          have hj1 : (j : Int) < (next.length : Int) := by omega
          obtain ⟨x4, o4, a, hA, _, _, HL4, _, d4⟩ := int_get (k5.below hby hnb) hjl
          subst hA
          cases q with
          | true =>
            have E : Hid (next.any (fun n => n == bn) = (true || (next.drop (j + 1)).any (fun n => n == bn))) := by
              show _ = _
              rw [HQ.out, Bool.true_or, Bool.true_or]
            clear HQ
            go_wp2_with fail
            go_roundw
            case rel => exact ⟨j + 1, true, by omega, by go_num, rfl, E, hby⟩
            case measure => simp [intOf]; omega
          | false =>
            have E : Hid (next.any (fun n => n == bn) = ((a == bn) || (next.drop (j + 1)).any (fun n => n == bn))) := by
              show _ = _
              rw [HQ.out, Bool.false_or, any_drop hjl HL4.out]
            clear HQ
            go_wp2_with fail
            go_roundw
            case rel => exact ⟨j + 1, (a == bn), by omega, by go_num, rfl, E, hby⟩
            case measure => simp [intOf]; omega
        have hj1 : ¬ (j : Int) < (next.length : Int) := by omega
        have E : Hid (L.any (fun x => x == (k : Int)) = q) := by
          have h1 := HQ.out
          rw [List.drop_eq_nil_of_le (by omega)] at h1
          show _ = _
          rw [hnx.out, h1]
          simp
        clear HQ
        have hbz := hbx.trans (hby.mono hbx.size)
        go_wp2_with fail
        refine (wwHas_ok L (k : Int) _ wr 0 wq.heap.size hbz.size (hin6.below hbz (Nat.le_refl _)) (by omega)).mono ?_
        rintro e w9 ⟨rfl, e9⟩
        rw [E.out]
        clear E
        have hqq : (q != q) = false := by simp
        go_wp2_with fail
        go_roundw
        case rel => exact ⟨k + 1, by omega, by go_num, hbz.trans (e9.mono hbz.size)⟩
        case measure => simp [intOf]; omega

set_option maxRecDepth 100000 in
theorem fnPreds_lifted (os : Os) (started : os.Started) (H : Type) (enc : TypeId × Value → H) :
    ReturnsInHanded {} Try.checked os 3 .any (Rows.fnPredsSpec.pre6 enc Try.prog Try.f3 Rows.fnPredsRow.domain false) (Rows.fnPredsSpec.post enc Try.prog Try.f3 false true false false) := by
  refine returnsInHanded_of_change (C := Try.checked) own started (by kernel_rfl) Try.func3
    (ChangeSpec.witness6 (enc := enc) (C := Try.checked) false ⟨#[], #[.slice none 0 0], []⟩ 8 (by kernel_rfl) (by kernel_rfl) (by kernel_rfl) (by kernel_rfl)) ?_
  intro W base args ds gs before hval0 hW hcnd _
  have hval : ∀ (j : Nat) t v, Try.f3.params[j]? = some t → args[j]? = some v → Value.okWide Try.prog W .any base t v := hval0
  obtain ⟨p, q, hA0, hV, hrest⟩ := id hW
  have hA : DataW.TrodAll enc Try.prog W 0 (fun _ => true) true Try.f3.params.toList args.toList ds p := hA0
  rw [Try.params3] at hA hval
  obtain ⟨v0, d0, rfl, rfl, h0⟩ := trodAll_one hA
  obtain ⟨rfl, rfl⟩ := trodVars_none hV
  obtain ⟨a, len, cap, rfl⟩ := okWide_slice Try.underlying22 (hval 0 _ v0 rfl rfl)
  obtain ⟨fuel0, hf0⟩ := h0
  obtain ⟨da0, vv, hv0, ha0⟩ := dec_slice Try.underlying22 (by kernel_rfl) (by decide) dec_u8 hf0
  simp only [Value.cells, List.cons.injEq, and_true] at hv0
  subst hv0
  have hcall := law_FnPreds da0 _ W ha0
  refine hcall.mono fun e W' ⟨he, hb⟩ => ?_
  subst he
  exact ⟨_, rfl, post_true laidO hW rfl (by kernel_rfl) Try.underlying4 (by rw [Try.params3]; intro t ht; simp only [List.mem_cons, List.not_mem_nil, or_false] at ht; subst ht; exact ⟨by kernel_rfl, of_decide_eq_true (by kernel_rfl)⟩) rfl rfl rfl hb⟩

set_option maxRecDepth 100000 in
set_option maxHeartbeats 1000000 in
theorem fnPreds_facts : joinedFacts Try.prog 3 Try.f3 Rows.fnPredsSpec Rows.fnPredsRow = true := by
  unfold joinedFacts
  exact and_mk (and_mk (and_mk (and_mk (and_mk (and_mk (and_mk (and_mk (and_mk (and_mk (and_mk (and_mk (and_mk (and_mk (and_mk (and_mk (and_mk (and_mk (and_mk (and_mk (and_mk (and_mk (and_mk (and_mk (and_mk (and_mk (and_mk (and_mk (and_mk (and_mk (and_mk (by as_aux_lemma => kernel_rfl) laidO) mapsRowedO) (by as_aux_lemma => kernel_rfl)) (by as_aux_lemma => kernel_rfl)) (by as_aux_lemma => kernel_rfl)) (by as_aux_lemma => kernel_rfl)) (by as_aux_lemma => kernel_rfl)) (by as_aux_lemma => kernel_rfl)) (by as_aux_lemma => kernel_rfl)) (by as_aux_lemma => kernel_rfl)) (by as_aux_lemma => kernel_rfl)) (by as_aux_lemma => kernel_rfl)) (by as_aux_lemma => kernel_rfl)) (by as_aux_lemma => kernel_rfl)) (by as_aux_lemma => kernel_rfl)) (by as_aux_lemma => kernel_rfl)) (by as_aux_lemma => kernel_rfl)) (by as_aux_lemma => kernel_rfl)) (by as_aux_lemma => kernel_rfl)) (by as_aux_lemma => kernel_rfl)) (by as_aux_lemma => kernel_rfl)) (by rw [plainKeysO]; rfl)) (by as_aux_lemma => kernel_rfl)) stopsHeardO) mayEnter) (by rw [liftsFinal]; rfl)) (by rw [makeCut]; rfl)) (by as_aux_lemma => kernel_rfl)) (by as_aux_lemma => kernel_rfl)) (by as_aux_lemma => kernel_rfl)) (by as_aux_lemma => kernel_rfl)

theorem fnPreds_holds : Rows.FnPredsSaid :=
  OpenClaim.holds_of_wide 3 Try.f3 rfl rfl rfl rfl rfl rfl rfl ⟨rfl, rfl, rfl, rfl, rfl⟩ rfl rfl rfl rfl rfl (by kernel_rfl) Try.func3 fnPreds_facts
    (of_decide_eq_true (by kernel_rfl)) (by unfold Func.isWrapper; first | (rw [if_pos (by decide +kernel)]; kernel_rfl) | (rw [if_neg (by decide +kernel)]; exact ⟨rfl, rfl⟩))
    (fun os started H enc _ => fnPreds_lifted os started H enc)
end Go.Proofs.Ytafembiemaflfaa
