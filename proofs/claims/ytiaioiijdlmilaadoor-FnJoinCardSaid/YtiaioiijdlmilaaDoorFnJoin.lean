/-
  The law FnJoin: it returns true for all arguments. Condition: the variables that its row lists read as the table lays them.
-/
import Derived.Test.YtiaioiijdlmilaaDoorLaws2
import Derived.Test.YtiaioiijdlmilaaDoorDraw3
import Derived.Test.YtiaioiijdlmilaaDoorLawL
import Derived.Test.YtiaioiijdlmilaaDoorReg
namespace Go.Proofs.YtiaioiijdlmilaaDoor
open Go.RowKit Go.ChangeShapes Go.WideShapes Go.Deep
set_option linter.unusedVariables false
set_option linter.unusedSimpArgs false
theorem take_all {l : List WordD} {k : Nat} (h : k < l.length) : (l.take (k + 1)).all wv = ((l.take k).all wv && wv l[k]) := by
  rw [← List.take_append_getElem h, List.all_append]
  simp
set_option maxRecDepth 100000 in
set_option maxHeartbeats 8000000 in
theorem law_Join (l : List UInt8) (v : Value) (w : World) (hv : Sl false byS w 0 w.heap.size l v) (ht : KeysAt w) : Calls Tryd.prog 9 #[v] w (Yes w) := by
  obtain ⟨A, cap, rfl, hlc, hcm⟩ := hv.form
  by_cases hbig : 1048576 < l.length
  · have q0 : decide ((1048576 : Int) < (l.length : Int)) = true := by simp; omega
    go_enter Tryd.func9, Tryd.ntmps9
    go_wp2_with fail
    go_ret
    exact ⟨rfl, Below.refl _ _⟩
  have q0 : decide ((1048576 : Int) < (l.length : Int)) = false := by simp; omega
  have HKA := Lib.hid (fun (w9 : World) (h9 : Below w.heap.size w w9) => ht.below h9 (Nat.le_refl _))
  go_enter Tryd.func9, Tryd.ntmps9
  go_wp2_with fail
  refine (draw_list l _ _ hv).mono ?_
  rintro e w1 ⟨u, lst, rfl, hu, hl20, hsm, b1⟩
  clear ht
  have p1 := hu false
  clear hu
  obtain ⟨A1, c1, hf1, _, _⟩ := p1.form
  subst hf1
  have hbulk : lst.length + sumBy wordN lst ≤ 1048576 := by
    have := bulk_le (l := lst) (c := 1001) fun a ha => (hsm a ha).2
    omega
  have HB := Lib.hid hbulk
  have HSM := Lib.hid hsm
  clear hbulk hsm
  go_wp2_with fail
  refine (impl_JoinWords lst _ _ _ _ (Nat.le_refl _) HB.out p1 (HKA.out _ b1)).mono ?_
  rw [jV_eq]
  rintro e w2 ⟨rfl, b2⟩
  have hb2 := b1.trans (b2.mono b1.size)
  have p1_2 := p1.below b2 (Nat.le_refl _)
  have sz2 := b2.size
  go_wp2_with fail
  refine (spec_JoinWords lst _ _ _ _ sz2 HB.out p1_2).mono ?_
  rw [jV_eq]
  rintro e w3 ⟨rfl, b3⟩
  have hb3 := hb2.trans (b3.mono hb2.size)
  have sz3 := b3.size
  have p1_3 := p1_2.below b3 sz2
  clear p1 p1_2
  obtain ⟨X, hX⟩ : ∃ X, jS lst = X := ⟨_, rfl⟩
  obtain ⟨ok, hok⟩ : ∃ ok, jOk lst = ok := ⟨_, rfl⟩
  rw [hX, hok]
  have HX := Lib.hid hX
  have HO := Lib.hid hok
  clear hX hok
  go_wp2_with fail
  go_loopw [8, 38] (fun c i wr => ∃ k : Nat, k ≤ lst.length ∧ i = .int .i64 k ∧ c = .bool ((lst.take k).all wv) ∧ Below w3.heap.size w3 wr) (fun _ i _ => lst.length - (intOf i).toNat)
  case atStart => exact ⟨0, by omega, rfl, rfl, Below.refl _ _⟩
  case round =>
    obtain ⟨k, hk, rfl, rfl, hb⟩ := hrel
    have hbw := hb3.trans (hb.mono hb3.size)
    have hsz := hb.size
    by_cases hkl : k < lst.length
    · obtain ⟨b, o, kind, text, hA, _, _, HL, g0, g1, c0, c1'⟩ := word_get (p1_3.below hb (by omega)) hkl
      subst hA
      have hkn : (k : Int) < (lst.length : Int) := by omega
      have HT : Hid ((lst.take (k + 1)).all wv = ((lst.take k).all wv && wvB kind text)) := by
        have := take_all hkl
        rw [HL.out] at this
        exact this
      obtain ⟨vb, hvb⟩ : ∃ vb, wvB kind text = vb := ⟨_, rfl⟩
      have HV := Lib.hid hvb
      clear hvb HL
      obtain ⟨va, hva⟩ : ∃ va, (lst.take k).all wv = va := ⟨_, rfl⟩
      rw [hva] at HT ⊢
      clear hva
      have hbA : Below w.heap.size w (wr.alloc (.cells #[.int .i64 kind, .string text] 29)) := hbw.alloc hbw.size _
      have hb3A : Below w3.heap.size w3 (wr.alloc (.cells #[.int .i64 kind, .string text] 29)) := hb.alloc hb.size _
      have RA : Row (wr.alloc (.cells #[.int .i64 kind, .string text] 29)) wr.heap.size 29 #[.int .i64 kind, .string text] := Row.new _ _ _
      cases va
      case false =>
        go_wp2_with fail
        have x0d : (wr.alloc (.cells #[.int .i64 kind, .string text] 29)).drew.cell? ⟨wr.heap.size, 0, none⟩ = some (.int .i64 kind) := RA.cell 0
        have x1d : (wr.alloc (.cells #[.int .i64 kind, .string text] 29)).drew.cell? ⟨wr.heap.size, 1, none⟩ = some (.string text) := RA.cell 1
        clear c0 c1'
        refine wp_region_held_drew (S := fun w' => w'.cell? ⟨wr.heap.size, 0, none⟩ = some (.int .i64 kind) ∧ w'.cell? ⟨wr.heap.size, 1, none⟩ = some (.string text)) (by kernel_rfl) ?_ (fun hHeld => ?_)
        · ((try dsimp only); refine ⟨?_, ?_⟩ <;> assumption)
        refine reg_take (i := 0) (v := ?v27) rfl (by kernel_rfl) (by kernel_rfl) (by kernel_rfl) (fun _ _ _ h => h) (Or.inl ⟨by kernel_rfl, ?h27⟩) (by assumption) ?r27
        case h27 => (intro w hSw; (try dsimp only at hSw); go_simp; try with_reducible rfl)
        try simp only [Act.put, List.setIfInBounds_toArray, List.set_cons_zero, List.set_cons_succ]
        refine reg_take (i := 1) (v := ?v28) rfl (by kernel_rfl) (by kernel_rfl) (by kernel_rfl) (fun _ _ _ h => h) (Or.inl ⟨by kernel_rfl, ?h28⟩) (by assumption) ?r28
        case h28 => (intro w hSw; (try dsimp only at hSw); go_simp; try with_reducible rfl)
        try simp only [Act.put, List.setIfInBounds_toArray, List.set_cons_zero, List.set_cons_succ]
        refine reg_take (i := 2) (v := undef) rfl (by kernel_rfl) (by kernel_rfl) (by kernel_rfl) (fun _ _ _ h => h) (Or.inr ⟨by kernel_rfl, rfl⟩) (by assumption) ?_
        try simp only [Act.put, List.setIfInBounds_toArray, List.set_cons_zero, List.set_cons_succ]
        refine reg_take (i := 3) (v := undef) rfl (by kernel_rfl) (by kernel_rfl) (by kernel_rfl) (fun _ _ _ h => h) (Or.inr ⟨by kernel_rfl, rfl⟩) (by assumption) ?_
        try simp only [Act.put, List.setIfInBounds_toArray, List.set_cons_zero, List.set_cons_succ]
        refine reg_take (i := 4) (v := undef) rfl (by kernel_rfl) (by kernel_rfl) (by kernel_rfl) (fun _ _ _ h => h) (Or.inr ⟨by kernel_rfl, rfl⟩) (by assumption) ?_
        try simp only [Act.put, List.setIfInBounds_toArray, List.set_cons_zero, List.set_cons_succ]
        refine reg_take (i := 5) (v := undef) rfl (by kernel_rfl) (by kernel_rfl) (by kernel_rfl) (fun _ _ _ h => h) (Or.inr ⟨by kernel_rfl, rfl⟩) (by assumption) ?_
        try simp only [Act.put, List.setIfInBounds_toArray, List.set_cons_zero, List.set_cons_succ]
        refine reg_take (i := 6) (v := undef) rfl (by kernel_rfl) (by kernel_rfl) (by kernel_rfl) (fun _ _ _ h => h) (Or.inr ⟨by kernel_rfl, rfl⟩) (by assumption) ?_
        try simp only [Act.put, List.setIfInBounds_toArray, List.set_cons_zero, List.set_cons_succ]
        refine reg_take (i := 7) (v := ?v34) rfl (by kernel_rfl) (by kernel_rfl) (by kernel_rfl) (fun _ _ _ h => h) (Or.inl ⟨by kernel_rfl, ?h34⟩) (by assumption) ?r34
        case h34 => (intro w hSw; (try dsimp only at hSw); go_simp; try with_reducible rfl)
        try simp only [Act.put, List.setIfInBounds_toArray, List.set_cons_zero, List.set_cons_succ]
        refine reg_take (i := 8) (v := ?v35) rfl (by kernel_rfl) (by kernel_rfl) (by kernel_rfl) (fun _ _ _ h => h) (Or.inl ⟨by kernel_rfl, ?h35⟩) (by assumption) ?r35
        case h35 => (intro w hSw; (try dsimp only at hSw); go_simp; try with_reducible rfl)
        try simp only [Act.put, List.setIfInBounds_toArray, List.set_cons_zero, List.set_cons_succ]
        refine reg_take (i := 9) (v := undef) rfl (by kernel_rfl) (by kernel_rfl) (by kernel_rfl) (fun _ _ _ h => h) (Or.inr ⟨by kernel_rfl, rfl⟩) (by assumption) ?_
        try simp only [Act.put, List.setIfInBounds_toArray, List.set_cons_zero, List.set_cons_succ]
        refine reg_take (i := 10) (v := undef) rfl (by kernel_rfl) (by kernel_rfl) (by kernel_rfl) (fun _ _ _ h => h) (Or.inr ⟨by kernel_rfl, rfl⟩) (by assumption) ?_
        try simp only [Act.put, List.setIfInBounds_toArray, List.set_cons_zero, List.set_cons_succ]
        refine reg_take (i := 11) (v := ?v38) rfl (by kernel_rfl) (by kernel_rfl) (by kernel_rfl) (fun _ _ _ h => h) (Or.inl ⟨by kernel_rfl, ?h38⟩) (by assumption) ?r38
        case h38 => (intro w hSw; (try dsimp only at hSw); go_simp; try with_reducible rfl)
        try simp only [Act.put, List.setIfInBounds_toArray, List.set_cons_zero, List.set_cons_succ]
        refine reg_take (i := 12) (v := ?v39) rfl (by kernel_rfl) (by kernel_rfl) (by kernel_rfl) (fun _ _ _ h => h) (Or.inl ⟨by kernel_rfl, ?h39⟩) (by assumption) ?r39
        case h39 => (intro w hSw; (try dsimp only at hSw); go_simp; try with_reducible rfl)
        try simp only [Act.put, List.setIfInBounds_toArray, List.set_cons_zero, List.set_cons_succ]
        refine wpAnyH_done (by kernel_rfl) ?_ _
        go_wp2_with fail
        go_roundw
        case rel => exact ⟨k + 1, by omega, by go_num, by rw [HT.out] <;> rfl, hb3A.drew⟩
        case measure => simp [intOf]; omega
      case true =>
        go_wp2_with fail
        have x0d : (wr.alloc (.cells #[.int .i64 kind, .string text] 29)).drew.cell? ⟨wr.heap.size, 0, none⟩ = some (.int .i64 kind) := RA.cell 0
        have x1d : (wr.alloc (.cells #[.int .i64 kind, .string text] 29)).drew.cell? ⟨wr.heap.size, 1, none⟩ = some (.string text) := RA.cell 1
        clear c0 c1'
        cases vb
        case false =>
          refine wp_region_held_drew (S := fun w' => w'.cell? ⟨wr.heap.size, 0, none⟩ = some (.int .i64 kind) ∧ w'.cell? ⟨wr.heap.size, 1, none⟩ = some (.string text)) (by kernel_rfl) ?_ (fun hHeld => ?_)
          · ((try dsimp only); refine ⟨?_, ?_⟩ <;> assumption)
          refine reg_take (i := 0) (v := ?v40) rfl (by kernel_rfl) (by kernel_rfl) (by kernel_rfl) (fun _ _ _ h => h) (Or.inl ⟨by kernel_rfl, ?h40⟩) (by assumption) ?r40
          case h40 => (intro w hSw; (try dsimp only at hSw); go_simp; try with_reducible rfl)
          try simp only [Act.put, List.setIfInBounds_toArray, List.set_cons_zero, List.set_cons_succ]
          refine reg_take (i := 1) (v := ?v41) rfl (by kernel_rfl) (by kernel_rfl) (by kernel_rfl) (fun _ _ _ h => h) (Or.inl ⟨by kernel_rfl, ?h41⟩) (by assumption) ?r41
          case h41 => (intro w hSw; (try dsimp only at hSw); go_simp; try with_reducible rfl)
          try simp only [Act.put, List.setIfInBounds_toArray, List.set_cons_zero, List.set_cons_succ]
          refine reg_take (i := 2) (v := ?v42) rfl (by kernel_rfl) (by kernel_rfl) (by kernel_rfl) (fun _ _ _ h => h) (Or.inl ⟨by kernel_rfl, ?h42⟩) (by assumption) ?r42
          case h42 => (intro w hSw; (try dsimp only at hSw); go_simp; try with_reducible rfl)
          try simp only [Act.put, List.setIfInBounds_toArray, List.set_cons_zero, List.set_cons_succ]
          refine reg_take (i := 4) (v := ?v43) rfl (by kernel_rfl) (by kernel_rfl) (by kernel_rfl) (fun _ _ _ h => h) (Or.inl ⟨by kernel_rfl, ?h43⟩) (by assumption) ?r43
          case h43 => (intro w hSw; (try dsimp only at hSw); go_simp; try with_reducible rfl)
          try simp only [Act.put, List.setIfInBounds_toArray, List.set_cons_zero, List.set_cons_succ]
          refine reg_call (i := 3) (by kernel_rfl) rfl (fun K hK => ?_)
          go_simp
          refine (impl_WordValid kind text _ g1 (HKA.out _ hbA.drew)).mono ?_; rw [show wvB kind text = false from HV.out]; rintro e w5 ⟨rfl, b5d⟩; have b5 : Below (wr.alloc (.cells #[.int .i64 kind, .string text] 29)).heap.size (wr.alloc (.cells #[.int .i64 kind, .string text] 29)) w5 := ((Below.refl _ (wr.alloc (.cells #[.int .i64 kind, .string text] 29))).drew).trans b5d; have hb5 := hbA.trans (b5.mono hbA.size); have R5 := RA.below b5 RA.lt; have m50 : w5.cell? ⟨wr.heap.size, 0, none⟩ = some (.int .i64 kind) := R5.cell 0; have m51 : w5.cell? ⟨wr.heap.size, 1, none⟩ = some (.string text) := R5.cell 1
          refine hK.out _ _ ?_ (fun hHeld => ?_)
          · ((try dsimp only); refine ⟨?_, ?_⟩ <;> assumption)
          clear hK K
          try simp only [Act.put, List.setIfInBounds_toArray, List.set_cons_zero, List.set_cons_succ]
          refine reg_call (i := 5) (by kernel_rfl) rfl (fun K hK => ?_)
          go_simp
          refine (spec_WordValid kind text _ g1).mono ?_; rw [show wvB kind text = false from HV.out]; rintro e w6 ⟨rfl, b6d⟩; have b6 : Below w5.heap.size w5 w6 := b6d; have hb6 := hb5.trans (b6.mono hb5.size); have R6 := R5.below b6 R5.lt; have m60 : w6.cell? ⟨wr.heap.size, 0, none⟩ = some (.int .i64 kind) := R6.cell 0; have m61 : w6.cell? ⟨wr.heap.size, 1, none⟩ = some (.string text) := R6.cell 1
          refine hK.out _ _ ?_ (fun hHeld => ?_)
          · ((try dsimp only); refine ⟨?_, ?_⟩ <;> assumption)
          clear hK K
          try simp only [Act.put, List.setIfInBounds_toArray, List.set_cons_zero, List.set_cons_succ]
          refine reg_take (i := 6) (v := ?v46) rfl (by kernel_rfl) (by kernel_rfl) (by kernel_rfl) (fun _ _ _ h => h) (Or.inl ⟨by kernel_rfl, ?h46⟩) (by assumption) ?r46
          case h46 => (intro w hSw; (try dsimp only at hSw); go_simp; try with_reducible rfl)
          try simp only [Act.put, List.setIfInBounds_toArray, List.set_cons_zero, List.set_cons_succ]
          refine reg_take (i := 7) (v := ?v47) rfl (by kernel_rfl) (by kernel_rfl) (by kernel_rfl) (fun _ _ _ h => h) (Or.inl ⟨by kernel_rfl, ?h47⟩) (by assumption) ?r47
          case h47 => (intro w hSw; (try dsimp only at hSw); go_simp; try with_reducible rfl)
          try simp only [Act.put, List.setIfInBounds_toArray, List.set_cons_zero, List.set_cons_succ]
          refine reg_take (i := 8) (v := ?v48) rfl (by kernel_rfl) (by kernel_rfl) (by kernel_rfl) (fun _ _ _ h => h) (Or.inl ⟨by kernel_rfl, ?h48⟩) (by assumption) ?r48
          case h48 => (intro w hSw; (try dsimp only at hSw); go_simp; try with_reducible rfl)
          try simp only [Act.put, List.setIfInBounds_toArray, List.set_cons_zero, List.set_cons_succ]
          refine reg_take (i := 9) (v := ?v49) rfl (by kernel_rfl) (by kernel_rfl) (by kernel_rfl) (fun _ _ _ h => h) (Or.inl ⟨by kernel_rfl, ?h49⟩) (by assumption) ?r49
          case h49 => (intro w hSw; (try dsimp only at hSw); go_simp; try with_reducible rfl)
          try simp only [Act.put, List.setIfInBounds_toArray, List.set_cons_zero, List.set_cons_succ]
          refine reg_call (i := 10) (by kernel_rfl) rfl (fun K hK => ?_)
          go_simp
          refine (impl_WordValid kind text _ g1 (HKA.out _ hb6)).mono ?_; rw [show wvB kind text = false from HV.out]; rintro e w7 ⟨rfl, b7d⟩; have b7 : Below w6.heap.size w6 w7 := b7d; have hb7 := hb6.trans (b7.mono hb6.size); have R7 := R6.below b7 R6.lt; have m70 : w7.cell? ⟨wr.heap.size, 0, none⟩ = some (.int .i64 kind) := R7.cell 0; have m71 : w7.cell? ⟨wr.heap.size, 1, none⟩ = some (.string text) := R7.cell 1
          refine hK.out _ _ ?_ (fun hHeld => ?_)
          · ((try dsimp only); refine ⟨?_, ?_⟩ <;> assumption)
          clear hK K
          try simp only [Act.put, List.setIfInBounds_toArray, List.set_cons_zero, List.set_cons_succ]
          refine reg_take (i := 11) (v := ?v51) rfl (by kernel_rfl) (by kernel_rfl) (by kernel_rfl) (fun _ _ _ h => h) (Or.inl ⟨by kernel_rfl, ?h51⟩) (by assumption) ?r51
          case h51 => (intro w hSw; (try dsimp only at hSw); go_simp; try with_reducible rfl)
          try simp only [Act.put, List.setIfInBounds_toArray, List.set_cons_zero, List.set_cons_succ]
          refine reg_take (i := 12) (v := ?v52) rfl (by kernel_rfl) (by kernel_rfl) (by kernel_rfl) (fun _ _ _ h => h) (Or.inl ⟨by kernel_rfl, ?h52⟩) (by assumption) ?r52
          case h52 => (intro w hSw; (try dsimp only at hSw); go_simp; try with_reducible rfl)
          try simp only [Act.put, List.setIfInBounds_toArray, List.set_cons_zero, List.set_cons_succ]
          refine wpAnyH_done (by kernel_rfl) ?_ _
          go_wp2_with fail
          go_roundw
          case rel => exact ⟨k + 1, by omega, by go_num, by rw [HT.out, HV.out] <;> rfl, ((hb3A.trans (b5.mono hb3A.size)).trans (b6.mono (Nat.le_trans hb3A.size b5.size))).trans (b7.mono (Nat.le_trans (Nat.le_trans hb3A.size b5.size) b6.size))⟩
          case measure => simp [intOf]; omega
        case true =>
          refine wp_region_held_drew (S := fun w' => w'.cell? ⟨wr.heap.size, 0, none⟩ = some (.int .i64 kind) ∧ w'.cell? ⟨wr.heap.size, 1, none⟩ = some (.string text)) (by kernel_rfl) ?_ (fun hHeld => ?_)
          · ((try dsimp only); refine ⟨?_, ?_⟩ <;> assumption)
          refine reg_take (i := 0) (v := ?v1) rfl (by kernel_rfl) (by kernel_rfl) (by kernel_rfl) (fun _ _ _ h => h) (Or.inl ⟨by kernel_rfl, ?h1⟩) (by assumption) ?r1
          case h1 => (intro w hSw; (try dsimp only at hSw); go_simp; try with_reducible rfl)
          try simp only [Act.put, List.setIfInBounds_toArray, List.set_cons_zero, List.set_cons_succ]
          refine reg_take (i := 1) (v := ?v2) rfl (by kernel_rfl) (by kernel_rfl) (by kernel_rfl) (fun _ _ _ h => h) (Or.inl ⟨by kernel_rfl, ?h2⟩) (by assumption) ?r2
          case h2 => (intro w hSw; (try dsimp only at hSw); go_simp; try with_reducible rfl)
          try simp only [Act.put, List.setIfInBounds_toArray, List.set_cons_zero, List.set_cons_succ]
          refine reg_take (i := 2) (v := ?v3) rfl (by kernel_rfl) (by kernel_rfl) (by kernel_rfl) (fun _ _ _ h => h) (Or.inl ⟨by kernel_rfl, ?h3⟩) (by assumption) ?r3
          case h3 => (intro w hSw; (try dsimp only at hSw); go_simp; try with_reducible rfl)
          try simp only [Act.put, List.setIfInBounds_toArray, List.set_cons_zero, List.set_cons_succ]
          refine reg_take (i := 4) (v := ?v4) rfl (by kernel_rfl) (by kernel_rfl) (by kernel_rfl) (fun _ _ _ h => h) (Or.inl ⟨by kernel_rfl, ?h4⟩) (by assumption) ?r4
          case h4 => (intro w hSw; (try dsimp only at hSw); go_simp; try with_reducible rfl)
          try simp only [Act.put, List.setIfInBounds_toArray, List.set_cons_zero, List.set_cons_succ]
          refine reg_call (i := 3) (by kernel_rfl) rfl (fun K hK => ?_)
          go_simp
          refine (impl_WordValid kind text _ g1 (HKA.out _ hbA.drew)).mono ?_; rw [show wvB kind text = true from HV.out]; rintro e w5 ⟨rfl, b5d⟩; have b5 : Below (wr.alloc (.cells #[.int .i64 kind, .string text] 29)).heap.size (wr.alloc (.cells #[.int .i64 kind, .string text] 29)) w5 := ((Below.refl _ (wr.alloc (.cells #[.int .i64 kind, .string text] 29))).drew).trans b5d; have hb5 := hbA.trans (b5.mono hbA.size); have R5 := RA.below b5 RA.lt; have m50 : w5.cell? ⟨wr.heap.size, 0, none⟩ = some (.int .i64 kind) := R5.cell 0; have m51 : w5.cell? ⟨wr.heap.size, 1, none⟩ = some (.string text) := R5.cell 1
          refine hK.out _ _ ?_ (fun hHeld => ?_)
          · ((try dsimp only); refine ⟨?_, ?_⟩ <;> assumption)
          clear hK K
          try simp only [Act.put, List.setIfInBounds_toArray, List.set_cons_zero, List.set_cons_succ]
          refine reg_call (i := 5) (by kernel_rfl) rfl (fun K hK => ?_)
          go_simp
          refine (spec_WordValid kind text _ g1).mono ?_; rw [show wvB kind text = true from HV.out]; rintro e w6 ⟨rfl, b6d⟩; have b6 : Below w5.heap.size w5 w6 := b6d; have hb6 := hb5.trans (b6.mono hb5.size); have R6 := R5.below b6 R5.lt; have m60 : w6.cell? ⟨wr.heap.size, 0, none⟩ = some (.int .i64 kind) := R6.cell 0; have m61 : w6.cell? ⟨wr.heap.size, 1, none⟩ = some (.string text) := R6.cell 1
          refine hK.out _ _ ?_ (fun hHeld => ?_)
          · ((try dsimp only); refine ⟨?_, ?_⟩ <;> assumption)
          clear hK K
          try simp only [Act.put, List.setIfInBounds_toArray, List.set_cons_zero, List.set_cons_succ]
          refine reg_take (i := 6) (v := ?v7) rfl (by kernel_rfl) (by kernel_rfl) (by kernel_rfl) (fun _ _ _ h => h) (Or.inl ⟨by kernel_rfl, ?h7⟩) (by assumption) ?r7
          case h7 => (intro w hSw; (try dsimp only at hSw); go_simp; try with_reducible rfl)
          try simp only [Act.put, List.setIfInBounds_toArray, List.set_cons_zero, List.set_cons_succ]
          refine reg_take (i := 7) (v := ?v8) rfl (by kernel_rfl) (by kernel_rfl) (by kernel_rfl) (fun _ _ _ h => h) (Or.inl ⟨by kernel_rfl, ?h8⟩) (by assumption) ?r8
          case h8 => (intro w hSw; (try dsimp only at hSw); go_simp; try with_reducible rfl)
          try simp only [Act.put, List.setIfInBounds_toArray, List.set_cons_zero, List.set_cons_succ]
          refine reg_take (i := 8) (v := ?v9) rfl (by kernel_rfl) (by kernel_rfl) (by kernel_rfl) (fun _ _ _ h => h) (Or.inl ⟨by kernel_rfl, ?h9⟩) (by assumption) ?r9
          case h9 => (intro w hSw; (try dsimp only at hSw); go_simp; try with_reducible rfl)
          try simp only [Act.put, List.setIfInBounds_toArray, List.set_cons_zero, List.set_cons_succ]
          refine reg_take (i := 9) (v := ?v10) rfl (by kernel_rfl) (by kernel_rfl) (by kernel_rfl) (fun _ _ _ h => h) (Or.inl ⟨by kernel_rfl, ?h10⟩) (by assumption) ?r10
          case h10 => (intro w hSw; (try dsimp only at hSw); go_simp; try with_reducible rfl)
          try simp only [Act.put, List.setIfInBounds_toArray, List.set_cons_zero, List.set_cons_succ]
          refine reg_call (i := 10) (by kernel_rfl) rfl (fun K hK => ?_)
          go_simp
          refine (impl_WordValid kind text _ g1 (HKA.out _ hb6)).mono ?_; rw [show wvB kind text = true from HV.out]; rintro e w7 ⟨rfl, b7d⟩; have b7 : Below w6.heap.size w6 w7 := b7d; have hb7 := hb6.trans (b7.mono hb6.size); have R7 := R6.below b7 R6.lt; have m70 : w7.cell? ⟨wr.heap.size, 0, none⟩ = some (.int .i64 kind) := R7.cell 0; have m71 : w7.cell? ⟨wr.heap.size, 1, none⟩ = some (.string text) := R7.cell 1
          refine hK.out _ _ ?_ (fun hHeld => ?_)
          · ((try dsimp only); refine ⟨?_, ?_⟩ <;> assumption)
          clear hK K
          try simp only [Act.put, List.setIfInBounds_toArray, List.set_cons_zero, List.set_cons_succ]
          refine reg_take (i := 11) (v := ?v12) rfl (by kernel_rfl) (by kernel_rfl) (by kernel_rfl) (fun _ _ _ h => h) (Or.inl ⟨by kernel_rfl, ?h12⟩) (by assumption) ?r12
          case h12 => (intro w hSw; (try dsimp only at hSw); go_simp; try with_reducible rfl)
          try simp only [Act.put, List.setIfInBounds_toArray, List.set_cons_zero, List.set_cons_succ]
          refine reg_take (i := 12) (v := ?v13) rfl (by kernel_rfl) (by kernel_rfl) (by kernel_rfl) (fun _ _ _ h => h) (Or.inl ⟨by kernel_rfl, ?h13⟩) (by assumption) ?r13
          case h13 => (intro w hSw; (try dsimp only at hSw); go_simp; try with_reducible rfl)
          try simp only [Act.put, List.setIfInBounds_toArray, List.set_cons_zero, List.set_cons_succ]
          refine wpAnyH_done (by kernel_rfl) ?_ _
          go_wp2_with fail
          go_roundw
          case rel => exact ⟨k + 1, by omega, by go_num, by rw [HT.out, HV.out] <;> rfl, ((hb3A.trans (b5.mono hb3A.size)).trans (b6.mono (Nat.le_trans hb3A.size b5.size))).trans (b7.mono (Nat.le_trans (Nat.le_trans hb3A.size b5.size) b6.size))⟩
          case measure => simp [intOf]; omega
    · obtain rfl : k = lst.length := by omega
      have p1_4 := p1_3.below hb (by omega)
      cases ok
      case false =>
        have EV : Hid ((lst.take lst.length).all wv = false) := by
          show _ = _
          rw [List.take_length]
          cases hc : lst.all wv with
          | false => rfl
          | true =>
            have h1 := join_few (by omega) hc
            rw [HO.out] at h1
            cases h1
        have EX : Hid (X = ⟨#[]⟩) := by
          show _ = _
          rw [← HX.out]
          unfold jS
          rw [HO.out]
          rfl
        rw [EV.out]
        have hXX := EX.out
        subst hXX
        go_wp2_with fail
        go_ret
        exact ⟨rfl, hbw⟩
      case true =>
        have EV : Hid ((lst.take lst.length).all wv = true) := by
          show _ = _
          rw [List.take_length]
          exact (jOk_inv HO.out).2.1
        have EX : Hid (jT lst = X) := by
          show _ = _
          rw [← HX.out]
          unfold jS
          rw [HO.out]
          rfl
        obtain ⟨d1, d2⟩ := join_cut HO.out
        have hXM : X.size ≤ maxLen := by
          rw [← EX.out]
          exact Nat.le_trans (jOk_inv HO.out).2.2 (by decide)
        rw [EX.out] at d1 d2
        rw [EV.out]
        go_wp2_with fail
        refine (impl_CutWords X _ hXM (HKA.out _ hbw)).mono ?_
        rw [show CutP X wr = fun e w' => ∃ v : Value, e = .returned (.tuple #[v, .bool true]) ∧ (∀ m, Sl m (wordS m) w' wr.heap.size w'.heap.size lst v) ∧ Below wr.heap.size wr w' by unfold CutP; rw [d1, d2]]
        rintro e w6 ⟨v6, rfl, hv6, b6⟩
        have hb6 := hbw.trans (b6.mono hbw.size)
        clear d1 d2
        go_wp2_with fail
        refine (ww_ok lst _ _ w6 _ _ _ _ (Nat.le_refl _) (by have := b6.size; omega) (hv6 false) (p1_4.below b6 (by omega))).mono ?_
        rintro e w7 ⟨rfl, b7⟩
        have hb7 := hb6.trans (b7.mono hb6.size)
        go_wp2_with fail
        go_ret
        exact ⟨rfl, hb7⟩

set_option maxRecDepth 100000 in
theorem fnJoin_lifted (os : Os) (started : os.Started) (H : Type) (enc : TypeId × Value → H) :
    ReturnsInHanded {} Tryd.checked os 9 .any (fun w args => (Rows.fnJoinSpec.pre enc Tryd.prog Tryd.f9 [] false w args ∧ laidMetH Tryd.prog [("math/bits.deBruijn32tab", Rows.laid_math_bits_deBruijn32tab), ("math/bits.deBruijn64tab", Rows.laid_math_bits_deBruijn64tab), ("internal/strconv.uint64pow10", Rows.laid_internal_strconv_uint64pow10), ("strconv.ErrRange", Rows.laid_strconv_ErrRange), ("strconv.ErrSyntax", Rows.laid_strconv_ErrSyntax), ("loop.example/wholeway/impl.keys", Rows.laid_loop_example_wholeway_impl_keys)] w) ∧ sizedMet enc Tryd.prog Tryd.f9 (OpenSpec.ofChange Rows.fnJoinSpec) false w args) (Rows.fnJoinSpec.post enc Tryd.prog Tryd.f9 false true false false) := by
  refine returnsInHanded_of_change_and (C := Tryd.checked) (X := fun w _ => laidMetH Tryd.prog [("math/bits.deBruijn32tab", Rows.laid_math_bits_deBruijn32tab), ("math/bits.deBruijn64tab", Rows.laid_math_bits_deBruijn64tab), ("internal/strconv.uint64pow10", Rows.laid_internal_strconv_uint64pow10), ("strconv.ErrRange", Rows.laid_strconv_ErrRange), ("strconv.ErrSyntax", Rows.laid_strconv_ErrSyntax), ("loop.example/wholeway/impl.keys", Rows.laid_loop_example_wholeway_impl_keys)] w) (fun _ _ _ hh h => h.of_heap hh) own started (by kernel_rfl) Tryd.func9
    (ChangeSpec.witness_shaped (enc := enc) (C := Tryd.checked) (os := os) (X := fun w _ => laidMetH Tryd.prog [("math/bits.deBruijn32tab", Rows.laid_math_bits_deBruijn32tab), ("math/bits.deBruijn64tab", Rows.laid_math_bits_deBruijn64tab), ("internal/strconv.uint64pow10", Rows.laid_internal_strconv_uint64pow10), ("strconv.ErrRange", Rows.laid_strconv_ErrRange), ("strconv.ErrSyntax", Rows.laid_strconv_ErrSyntax), ("loop.example/wholeway/impl.keys", Rows.laid_loop_example_wholeway_impl_keys)] w) false (World.doorLaid Tryd.prog 400 os) #[.slice none 0 0] 8 rfl (World.shaped_of_RefB (by kernel_rfl) (by kernel_rfl)) (by kernel_rfl) (by kernel_rfl) (by kernel_rfl) (door_metW os _)) ?_
  intro W base args ds gs before hval0 hW _ _ hL _
  have hval : ∀ (j : Nat) t v, Tryd.f9.params[j]? = some t → args[j]? = some v → Value.okWide Tryd.prog W .any base t v := hval0
  obtain ⟨p, q, hA0, hV, hrest⟩ := id hW
  have hA : DataW.TrodAll enc Tryd.prog W 0 (fun _ => true) true Tryd.f9.params.toList args.toList ds p := hA0
  rw [Tryd.params9] at hA hval
  obtain ⟨v0, d0, rfl, rfl, h0⟩ := trodAll_one hA
  obtain ⟨gv0, rfl⟩ := one_vars hV
  obtain ⟨a, len, cap, rfl⟩ := okWide_slice Tryd.underlying22 (hval 0 _ v0 rfl rfl)
  obtain ⟨fuel0, hf0⟩ := h0
  obtain ⟨da0, vv, hv0, ha0⟩ := dec_slice Tryd.underlying22 (by kernel_rfl) (by decide) dec_u8 hf0
  simp only [Value.cells, List.cons.injEq, and_true] at hv0
  subst hv0
  have hcall := law_Join da0 _ W ha0 (tabs_ofW hL)
  refine hcall.mono fun e W' ⟨he, hb⟩ => ?_
  subst he
  exact ⟨_, rfl, post_true_vars laidO hW (by kernel_rfl) Tryd.underlying4 (by rw [Tryd.params9]; intro t ht; simp only [List.mem_cons, List.not_mem_nil, or_false] at ht; subst ht; exact ⟨by kernel_rfl, of_decide_eq_true (by kernel_rfl)⟩) vars_ok rfl rfl rfl hb⟩

set_option maxRecDepth 100000 in
set_option maxHeartbeats 1000000 in
theorem fnJoin_facts : joinedFacts Tryd.prog 9 Tryd.f9 Rows.fnJoinSpec Rows.fnJoinRow = true := by
  unfold joinedFacts
  exact and_mk (and_mk (and_mk (and_mk (and_mk (and_mk (and_mk (and_mk (and_mk (and_mk (and_mk (and_mk (and_mk (and_mk (and_mk (and_mk (and_mk (and_mk (and_mk (and_mk (and_mk (and_mk (and_mk (and_mk (and_mk (and_mk (and_mk (and_mk (and_mk (and_mk (and_mk (by as_aux_lemma => kernel_rfl) laidO) mapsRowedO) (by as_aux_lemma => kernel_rfl)) (by as_aux_lemma => kernel_rfl)) (by as_aux_lemma => kernel_rfl)) (by as_aux_lemma => kernel_rfl)) (by as_aux_lemma => kernel_rfl)) (by as_aux_lemma => kernel_rfl)) (by as_aux_lemma => kernel_rfl)) (by as_aux_lemma => kernel_rfl)) (by as_aux_lemma => kernel_rfl)) (by as_aux_lemma => kernel_rfl)) (by as_aux_lemma => kernel_rfl)) (by as_aux_lemma => kernel_rfl)) (by as_aux_lemma => kernel_rfl)) (by as_aux_lemma => kernel_rfl)) (by as_aux_lemma => kernel_rfl)) (by as_aux_lemma => kernel_rfl)) (by as_aux_lemma => kernel_rfl)) (by as_aux_lemma => kernel_rfl)) (by as_aux_lemma => kernel_rfl)) (by rw [plainKeysO]; rfl)) (by as_aux_lemma => kernel_rfl)) stopsHeardO) mayEnter) (by rw [liftsFinal]; rfl)) (by rw [makeCut]; rfl)) (by as_aux_lemma => kernel_rfl)) (by as_aux_lemma => kernel_rfl)) (by as_aux_lemma => kernel_rfl)) (by as_aux_lemma => kernel_rfl)

theorem fnJoin_said : Rows.FnJoinSaid :=
  OpenClaim.holds_of_wide 9 Tryd.f9 rfl rfl rfl rfl rfl rfl rfl ⟨rfl, rfl, rfl, rfl, rfl⟩ rfl rfl rfl rfl rfl (by kernel_rfl) Tryd.func9 fnJoin_facts
    (of_decide_eq_true (by kernel_rfl)) (by unfold Func.isWrapper; first | (rw [if_pos (by decide +kernel)]; kernel_rfl) | (rw [if_neg (by decide +kernel)]; exact ⟨rfl, rfl⟩))
    (fun os started H enc _ => fnJoin_lifted os started H enc)

/-- no parameter wants a stand-in -/
theorem fnJoin_plain (f : FuncId) (fn : Func) (hf : Tryd.pinned.checked.prog.funcNamed "loop.example/wholeway/laws.FnJoin" = some f) (hfn : Tryd.pinned.checked.prog.funcs[f]? = some fn) :
    true = Tryd.pinned.checked.prog.looks [] ∧ ∀ (j : Nat) t, fn.params[j]? = some t → Tryd.pinned.checked.prog.wantsStandIn t = false := by
  obtain rfl : f = 9 := Option.some.inj ((show Tryd.prog.funcNamed "loop.example/wholeway/laws.FnJoin" = some 9 by kernel_rfl).symm.trans hf) |>.symm
  obtain rfl : fn = Tryd.f9 := (Option.some.inj (Tryd.func9.symm.trans hfn)).symm
  refine ⟨by kernel_rfl, fun j t ht => ?_⟩
  rw [Tryd.params9] at ht
  have hm : t ∈ [22] := by simpa using Array.mem_of_getElem? ht
  have hall : ([22].all fun u => !Tryd.prog.wantsStandIn u) = true := by kernel_rfl
  exact (show Tryd.prog.wantsStandIn t = false by simpa using List.all_eq_true.1 hall t hm)
theorem fnJoin_holds : Rows.FnJoinCardSaid :=
  Claim7.holds_tied_plain_at .later [] _ _ _ _ fnJoin_said (fun _ h => by cases h) (by kernel_rfl) (fun _ h => by cases h) fnJoin_row_tie rfl ⟨rfl, rfl⟩ (by kernel_rfl) rfl fnJoin_plain (by kernel_rfl)
end Go.Proofs.YtiaioiijdlmilaaDoor
