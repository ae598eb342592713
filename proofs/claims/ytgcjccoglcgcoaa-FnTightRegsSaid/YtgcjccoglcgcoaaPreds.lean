/-
  PredsOf, by the program and by the reference. Conditions: the arguments read as data.
-/
import Derived.Test.YtgcjccoglcgcoaaHeldA
namespace Go.Proofs.Ytgcjccoglcgcoaa
open Go.RowKit Go.ChangeShapes Go.WideShapes Go.Deep
set_option linter.unusedVariables false

set_option maxRecDepth 100000 in
set_option maxHeartbeats 1000000 in
theorem impl_PredsOf (params regs : Int) (blocks : List BlkD) (v2 : Value) (b : Int) (w : World) (lo B : Nat) (hB : B ≤ w.heap.size) (hN : blocks.length ≤ 1048576) (h2 : Sl false (blkS false) w lo B blocks v2) (hb64 : I64 b) :
    Calls Try.prog 62 #[.agg #[.int .i64 params, .int .i64 regs, v2], .int .i64 b] w (ToSP (fun m => intS m) (predsOf blocks b) w) := by
  obtain ⟨A, p, hf, hl1, hl2⟩ := h2.form
  subst hf
  obtain ⟨i0, hi, hz0, hz1, hz2⟩ := info_parts Try.info_int
  have hb0 : Below w.heap.size w (w.alloc (.cells #[.int .i64 params, .int .i64 regs, .slice A blocks.length p] 39)) := (Below.refl _ _).alloc (Nat.le_refl _) _
  by_cases q0 : 0 ≤ b
  · by_cases q1 : b ≤ (blocks.length : Int) - 1
    · have HP : Hid (predsOf blocks b = predsFrom b 0 blocks) := by show _ = _; unfold predsOf; rw [if_pos ⟨q0, q1⟩]
      have hin : inB b 0 ((blocks.length : Int) - 1) = true := inB_yes q0 q1
      have hin := Lib.hid hin
      go_enter Try.func62, Try.ntmps62
      go_wp2_with fail
      refine (impl_within b 0 _ _).mono ?_
      rintro e w' ⟨rfl, rfl⟩
      rw [hin.out]
      go_wp2_with fail
      go_loopw [5, 18] (fun v i wr => ∃ (k : Nat) (acc : List Int), k ≤ blocks.length ∧ i = .int .i64 k ∧ Hid (predsFrom b 0 blocks = acc ++ predsFrom b k (blocks.drop k)) ∧ acc.length ≤ k ∧ Hid (∀ n ∈ acc, I64 n) ∧ wr.ownsRow (w.heap.size + 1) 3 1 v acc.length (acc.map (Value.int .i64)) ∧ w.heap.size < wr.heap.size ∧ Below w.heap.size w wr) (fun _ i _ => blocks.length - (intOf i).toNat)
      case atStart => exact ⟨0, [], by omega, rfl, (show _ = _ from rfl), by simp, (fun n hn => by cases hn), own_nil _ _ _, by simp, hb0⟩
      case round =>
        obtain ⟨k, acc, hk, rfl, HT, hacc, HI, hown, hlt, hb⟩ := hrel
        have hsz := hb.size
        by_cases hkl : k < blocks.length
        · obtain ⟨f, o, phis, u0, ins, u1, jump, on, next, u4, rfl, _, hbB, HL, g0, g1, g2, g3, g4, c0, c1, c2, c3, c4⟩ := blk_get (h2.below hb hB) hkl
          obtain ⟨A4, p4, hf, _, _⟩ := g4.form
          change _ = Value.slice A4 next.length p4 at hf
          subst hf
          have hkn : (k : Int) < (blocks.length : Int) := by omega
          have hki : (0 : Int) ≤ (k : Int) := by omega
          obtain ⟨A0, p0, hf, _, _⟩ := g0.form
          change _ = Value.slice A0 phis.length p0 at hf
          subst hf
          obtain ⟨A1, p1, hf, _, _⟩ := g1.form
          change _ = Value.slice A1 ins.length p1 at hf
          subst hf
          have hba : Below w.heap.size w (wr.alloc (.cells #[.slice A0 phis.length p0, .slice A1 ins.length p1, .int .i64 jump, .int .i64 on, .slice A4 next.length p4] 65)) := hb.alloc hsz _
          go_wp2_with fail
          refine (ints_Contains next b (.slice A4 next.length p4) _ lo B (by simp; omega) (g4.keep (Nat.le_refl _) (Nat.le_refl _) (fun x _ hx => Below.heap_alloc _ _ x (by omega)))).mono ?_
          rintro e w3 ⟨rfl, x3⟩
          have hb3 : Below w.heap.size w w3 := hba.trans (x3.mono hba.size)
          have hs3 : wr.heap.size < w3.heap.size := by have := x3.size; simp at this; omega
          have hown3 := own_below (hown.alloc (.cells #[.slice A0 phis.length p0, .slice A1 ins.length p1, .int .i64 jump, .int .i64 on, .slice A4 next.length p4] 65)) x3 (Nat.le_refl _)
          by_cases he : next.any (fun n => b == n) = true
          · have E : Hid (predsFrom b 0 blocks = (acc ++ [(k : Int)]) ++ predsFrom b (k + 1) (blocks.drop (k + 1))) := by
              have h1 := HT.out
              rw [predsFrom_yes hkl HL.out he] at h1
              show _ = _
              simpa using h1
            clear HT
            rw [he]
            clear he hown
            go_wp2_with (at_builtin; refine wpList_append_own _ rfl _ _ 63 rfl (w.heap.size + 1) 3 i0 (.int .i64 0) 1 8 Try.underlying63 hi hz0 hz1 hz2 rfl (by decide) _ _ _ rfl (hown3.alloc _) ⟨w3.heap.size, 0, none⟩ 1 1 [.int .i64 (k : Int)] rfl rfl ?c1 ?c2 ?c3 ?c4 ?c5 ?_)
            case c1 => exact cell_one_new _ _ _
            case c2 => first | rfl | (intro u hu; simp at hu; subst hu; rfl)
            case c3 => unfold maxLen; omega
            case c4 => omega
            case c5 => simp; omega
            intro v' w4 hown4 hgrow _
            have hb4 : Below w.heap.size w w4 := (hb3.alloc hb3.size _).grown hgrow (by simp; omega) (fun q hq => by have := own_ge hown3 hq; omega)
            have hs4 := hgrow.size
            simp at hs4
            go_wp2_with fail
            go_roundw
            case rel => exact ⟨k + 1, acc ++ [(k : Int)], by omega, by go_num, E, by simp; omega, (fun n hn => by rcases List.mem_append.1 hn with h | h; exact HI.out n h; simp at h; subst h; exact ⟨by omega, by omega⟩), (by rw [List.length_append, List.map_append]; exact hown4), by omega, hb4⟩
            case measure => simp [intOf]; omega
          · have he : next.any (fun n => b == n) = false := by
              cases hq : next.any (fun n => b == n) with
              | false => rfl
              | true => exact absurd hq he
            have E : Hid (predsFrom b 0 blocks = acc ++ predsFrom b (k + 1) (blocks.drop (k + 1))) := by
              have h1 := HT.out
              rw [predsFrom_no hkl HL.out he] at h1
              exact h1
            clear HT
            rw [he]
            clear he hown
            go_wp2_with fail
            go_roundw
            case rel => exact ⟨k + 1, acc, by omega, by go_num, E, by omega, HI, hown3, by omega, hb3⟩
            case measure => simp [intOf]; omega
        · have E : Hid (predsOf blocks b = acc) := by
            have h1 := HT.out
            rw [predsFrom_end (by omega)] at h1
            show _ = _
            rw [HP.out, h1]
            simp
          clear HT
          go_wp2_with fail
          go_ret
          exact ⟨_, rfl, fun m => by rw [E.out]; exact Sl.of_own hown HI.out (by omega) m, hb⟩
    · have HP : Hid (predsOf blocks b = []) := by show _ = _; unfold predsOf; rw [if_neg (by omega)]
      have hin : inB b 0 ((blocks.length : Int) - 1) = false := inB_no (by omega)
      have hin := Lib.hid hin
      go_enter Try.func62, Try.ntmps62
      go_wp2_with fail
      refine (impl_within b 0 _ _).mono ?_
      rintro e w' ⟨rfl, rfl⟩
      rw [hin.out]
      go_wp2_with fail
      go_ret
      exact ⟨_, rfl, fun m => by rw [HP.out]; exact Sl.nil_ _ _ _ _ _, hb0⟩
  · have HP : Hid (predsOf blocks b = []) := by show _ = _; unfold predsOf; rw [if_neg (by omega)]
    have hin : inB b 0 ((blocks.length : Int) - 1) = false := inB_no (by omega)
    have hin := Lib.hid hin
    go_enter Try.func62, Try.ntmps62
    go_wp2_with fail
    refine (impl_within b 0 _ _).mono ?_
    rintro e w' ⟨rfl, rfl⟩
    rw [hin.out]
    go_wp2_with fail
    go_ret
    exact ⟨_, rfl, fun m => by rw [HP.out]; exact Sl.nil_ _ _ _ _ _, hb0⟩
set_option maxRecDepth 100000 in
set_option maxHeartbeats 1000000 in
theorem spec_l7Preds (params regs : Int) (blocks : List BlkD) (v2 : Value) (b : Int) (w : World) (lo B : Nat) (hB : B ≤ w.heap.size) (hN : blocks.length ≤ 1048576) (h2 : Sl false (blkS false) w lo B blocks v2) :
    Calls Try.prog 66 #[.agg #[.int .i64 params, .int .i64 regs, v2], .int .i64 b] w (ToSP (fun m => intS m) (predsFrom b 0 blocks) w) := by
  obtain ⟨A, p, hf, hl1, hl2⟩ := h2.form
  subst hf
  obtain ⟨i0, hi, hz0, hz1, hz2⟩ := info_parts Try.info_int
  have hb0 : Below w.heap.size w (w.alloc (.cells #[.int .i64 params, .int .i64 regs, .slice A blocks.length p] 39)) := (Below.refl _ _).alloc (Nat.le_refl _) _
  have P0 : Row (w.alloc (.cells #[.int .i64 params, .int .i64 regs, .slice A blocks.length p] 39)) w.heap.size 39 #[.int .i64 params, .int .i64 regs, .slice A blocks.length p] := Row.new w _ _
  have R1 : Row ((w.alloc (.cells #[.int .i64 params, .int .i64 regs, .slice A blocks.length p] 39)).alloc (.cells #[] 3)) (w.heap.size + 1) 3 #[] := by simpa using Row.new (w.alloc (.cells #[.int .i64 params, .int .i64 regs, .slice A blocks.length p] 39)) 3 #[]
  go_enter Try.func66, Try.ntmps66
  go_wp2_with fail
  go_loopw [5, 6] (fun v i wr => ∃ (k : Nat) (acc : List Int), k ≤ blocks.length ∧ i = .int .i64 k ∧ Hid (predsFrom b 0 blocks = acc ++ predsFrom b k (blocks.drop k)) ∧ acc.length ≤ k ∧ Hid (∀ n ∈ acc, I64 n) ∧ wr.ownsRow (w.heap.size + 1) 3 1 v acc.length (acc.map (Value.int .i64)) ∧ Row wr w.heap.size 39 #[.int .i64 params, .int .i64 regs, .slice A blocks.length p] ∧ Below w.heap.size w wr) (fun _ i _ => blocks.length - (intOf i).toNat)
  case atStart => exact ⟨0, [], by omega, rfl, (show _ = _ from rfl), by simp, (fun n hn => by cases hn), ⟨rfl, Or.inr ⟨_, 0, #[], rfl, by simp, R1, by simp, by simp [maxLen], rfl, rfl⟩⟩, P0.alloc _, hb0.alloc (by simp) _⟩
  case round =>
    obtain ⟨k, acc, hk, rfl, HT, hacc, HI, hown, P, hb⟩ := hrel
    have hsz := hb.size
    have hlt := P.lt
    have y0 : wr.cell? ⟨w.heap.size, 2, none⟩ = some (.slice A blocks.length p) := P.cell 2
    by_cases hkl : k < blocks.length
    · obtain ⟨f, o, phis, u0, ins, u1, jump, on, next, u4, rfl, _, hbB, HL, g0, g1, g2, g3, g4, c0, c1, c2, c3, c4⟩ := blk_get (h2.below hb hB) hkl
      obtain ⟨A4, p4, hf, hn1, hn2⟩ := g4.form
      change _ = Value.slice A4 next.length p4 at hf
      subst hf
      have hkn : (k : Int) < (blocks.length : Int) := by omega
      have hki : (0 : Int) ≤ (k : Int) := by omega
      go_wp2_with fail
      go_loop [5, 7] (fun v j => v = u5 ∧ ∃ q : Nat, q ≤ next.length ∧ j = .int .i64 q ∧ Hid (next.any (fun n => b == n) = (next.drop q).any (fun n => b == n))) (fun _ j => next.length - (intOf j).toNat)
      case atStart => exact ⟨rfl, 0, by omega, rfl, (show _ = _ from rfl)⟩
      case round =>
        obtain ⟨rfl, q, hq, rfl, HA⟩ := hrel
        by_cases hql : q < next.length
        · obtain ⟨b4, o4, a, rfl, _, _, HL4, _, d0⟩ := int_get g4 hql
          have hqn : (q : Int) < (next.length : Int) := by omega
          have hqi : (0 : Int) ≤ (q : Int) := by omega
          by_cases he : b = a
          · subst he
            have he : next.any (fun n => b == n) = true := by
              have h1 := HA.out
              rw [drop_cons hql HL4.out] at h1
              rw [h1]
              simp
            have he1 : (b == b) = true := by simp
            have E : Hid (predsFrom b 0 blocks = (acc ++ [(k : Int)]) ++ predsFrom b (k + 1) (blocks.drop (k + 1))) := by
              have h1 := HT.out
              rw [predsFrom_yes hkl HL.out he] at h1
              show _ = _
              simpa using h1
            clear HT HA he
            go_wp2_with (at_builtin; refine wpList_append_own _ rfl _ _ 63 rfl (w.heap.size + 1) 3 i0 (.int .i64 0) 1 8 Try.underlying63 hi hz0 hz1 hz2 rfl (by decide) _ _ _ rfl (hown.alloc _) ⟨wr.heap.size, 0, none⟩ 1 1 [.int .i64 (k : Int)] rfl rfl ?c1 ?c2 ?c3 ?c4 ?c5 ?_)
            try (case c1 => exact cell_one_new _ _ _)
            case c2 => first | rfl | (intro u hu; simp at hu; subst hu; rfl)
            case c3 => unfold maxLen; omega
            case c4 => omega
            try (case c5 => simp; omega)
            intro v' w4 hown4 hgrow _
            have hb4 : Below w.heap.size w w4 := (hb.alloc hb.size _).grown hgrow (by simp; omega) (fun q hq => by have := own_ge hown hq; omega)
            have P4 := (P.alloc (.cells #[.int .i64 (k : Int)] 3)).grown hgrow (own_ne hown (by omega))
            have hs4 := hgrow.size
            simp at hs4
            go_wp2_with fail
            go_roundw
            case rel => exact ⟨k + 1, acc ++ [(k : Int)], by omega, by go_num, E, by simp; omega, (fun n hn => by rcases List.mem_append.1 hn with h | h; exact HI.out n h; simp at h; subst h; exact ⟨by omega, by omega⟩), (by rw [List.length_append, List.map_append]; exact hown4), P4, hb4⟩
            case measure => simp [intOf]; omega
          · have he1 : (a == b) = false := by simpa using fun h : a = b => he h.symm
            have E : Hid (next.any (fun n => b == n) = (next.drop (q + 1)).any (fun n => b == n)) := by
              have h1 := HA.out
              rw [drop_cons hql HL4.out] at h1
              show _ = _
              rw [h1]
              simp [he]
            clear HA he
            go_wp2_with fail
            go_round
            case rel => exact ⟨rfl, q + 1, by omega, by go_num, E⟩
            case measure => simp [intOf]; omega
        · have he : next.any (fun n => b == n) = false := by
            have h1 := HA.out
            rw [List.drop_eq_nil_of_le (by omega)] at h1
            rw [h1]
            rfl
          have E : Hid (predsFrom b 0 blocks = acc ++ predsFrom b (k + 1) (blocks.drop (k + 1))) := by
            have h1 := HT.out
            rw [predsFrom_no hkl HL.out he] at h1
            exact h1
          clear HT HA he
          go_wp2_with fail
          go_roundw
          case rel => exact ⟨k + 1, acc, by omega, by go_num, E, by omega, HI, hown, P, hb⟩
          case measure => simp [intOf]; omega
    · have E : Hid (predsFrom b 0 blocks = acc) := by
        have h1 := HT.out
        rw [predsFrom_end (by omega)] at h1
        show _ = _
        rw [h1]
        simp
      clear HT
      go_wp2_with fail
      go_ret
      exact ⟨_, rfl, fun m => by rw [E.out]; exact Sl.of_own hown HI.out (by omega) m, hb⟩

end Go.Proofs.Ytgcjccoglcgcoaa
