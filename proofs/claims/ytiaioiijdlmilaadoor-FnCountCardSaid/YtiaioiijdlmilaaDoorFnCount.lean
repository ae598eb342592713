/-
  The law FnCount: it returns true for all arguments. Condition: the variables that its row lists read as the table lays them.
-/
import Derived.Test.YtiaioiijdlmilaaDoorLaws2
import Derived.Test.YtiaioiijdlmilaaDoorDraw3
import Derived.Test.YtiaioiijdlmilaaDoorLawL
import Derived.Test.YtiaioiijdlmilaaDoorAppW
import Derived.Test.YtiaioiijdlmilaaDoorCountK
import Derived.Test.YtiaioiijdlmilaaDoorReg2
import Derived.Deep.DeepCutAuto
namespace Go.Proofs.YtiaioiijdlmilaaDoor
open Go.RowKit Go.ChangeShapes Go.WideShapes Go.Deep
set_option linter.unusedVariables false
set_option linter.unusedSimpArgs false
theorem lit_word (w : World) (k : Int) (t : ByteArray) (hk : I64 k) (ht : t.size ≤ maxLen) : Sl false (wordS false) (w.alloc (.cells #[.int .i64 k, .string t] 29)) w.heap.size (w.alloc (.cells #[.int .i64 k, .string t] 29)).heap.size [(⟨k, t⟩ : WordD)] (.slice (some ⟨w.heap.size, 0, none⟩) 1 1) := by
  refine Sl.of_row (l := [(⟨k, t⟩ : WordD)]) (Row.new w _ _) (Nat.le_refl _) (by simp) (Nat.le_refl _) (by decide) ?_
  intro i a hi ha
  obtain rfl : i = 0 := by simp at hi; exact hi
  have ha' := Option.some.inj ha
  subst ha'
  refine ⟨[.int .i64 k, .string t], word_mk false k t hk ht, fun j u hu => ?_⟩
  match j, hu with
  | 0, hu => simpa [wordS] using hu
  | 1, hu => simpa [wordS] using hu
theorem fin_list {y : World} {base : Nat} {v : Value} {lst : List WordD} {kd : Int} {tx : ByteArray} (own : y.ownsRow base 29 2 v ([] ++ lst ++ [(⟨kd, tx⟩ : WordD)]).length (wcells ([] ++ lst ++ [(⟨kd, tx⟩ : WordD)]))) (h1 : ∀ a ∈ lst, I64 a.kind ∧ a.text.size ≤ 1001) (hk : I64 kd) (ht : tx.size ≤ maxLen) : Sl false (wordS false) y base y.heap.size (lst ++ [(⟨kd, tx⟩ : WordD)]) v := by
  rw [List.nil_append] at own
  refine Sl.of_ownW own (fun a ha => ?_) (Nat.le_refl _) false
  rcases List.mem_append.1 ha with h | h
  · exact ⟨(h1 a h).1, Nat.le_trans (h1 a h).2 (by decide)⟩
  · obtain rfl := List.mem_singleton.1 h
    exact ⟨hk, ht⟩
theorem cnt_one (x k : Int) (t : ByteArray) : cntK x [⟨k, t⟩] = if (k == x) = true then 1 else 0 := by
  unfold cntK
  cases hb : k == x <;> simp [List.filter_cons, hb]
theorem cnt_app (x : Int) (l : List WordD) (k : Int) (t : ByteArray) : cntK x (l ++ [⟨k, t⟩]) = cntK x l + (if (k == x) = true then 1 else 0) := by
  unfold cntK
  rw [List.filter_append, List.length_append]
  congr 1
  exact cnt_one x k t
/-- how many of the kinds 1 .. i - 1 are k -/
def sumT (k : Int) (i : Nat) : Nat := if 1 ≤ k ∧ k < i then 1 else 0
theorem sumT_step {k : Int} {i : Nat} (h : 1 ≤ i) : sumT k (i + 1) = sumT k i + (if (k == (i : Int)) = true then 1 else 0) := by
  unfold sumT
  by_cases h1 : k = (i : Int)
  · subst h1
    simp
    omega
  · have h2 : (k == (i : Int)) = false := by simpa using h1
    rw [h2]
    simp only [Bool.false_eq_true, if_false, Nat.add_zero]
    by_cases h3 : 1 ≤ k ∧ k < (i : Int)
    · rw [if_pos h3, if_pos (by omega)]
    · rw [if_neg h3, if_neg (by omega)]
theorem wv_sum {k : Int} {t : ByteArray} (h : wvB k t = true) : sumT k 5 = 1 := by
  unfold sumT
  rw [if_pos]
  unfold wvB at h
  split at h
  · omega
  · split at h
    · omega
    · split at h
      · omega
      · split at h
        · omega
        · cases h
set_option maxRecDepth 100000 in
set_option maxHeartbeats 8000000 in
theorem law_Count (l l' : List UInt8) (v u : Value) (w : World) (hv : Sl false byS w 0 w.heap.size l v) (hu : Sl false byS w 0 w.heap.size l' u) (ht : KeysAt w) : Calls Tryd.prog 4 #[v, u] w (Yes w) := by
  obtain ⟨A, cap, rfl, hlc, hcm⟩ := hv.form
  obtain ⟨A', cap', rfl, hlc', hcm'⟩ := hu.form
  by_cases hbig : 1048576 < l.length
  · have q0 : decide ((1048576 : Int) < (l.length : Int)) = true := by simp; omega
    go_enter Tryd.func4, Tryd.ntmps4
    go_wp2_with fail
    go_ret
    exact ⟨rfl, Below.refl _ _⟩
  have q0 : decide ((1048576 : Int) < (l.length : Int)) = false := by simp; omega
  by_cases hbig' : 1048576 < l'.length
  · have q0' : decide ((1048576 : Int) < (l'.length : Int)) = true := by simp; omega
    go_enter Tryd.func4, Tryd.ntmps4
    go_wp2_with fail
    go_ret
    exact ⟨rfl, Below.refl _ _⟩
  have q0' : decide ((1048576 : Int) < (l'.length : Int)) = false := by simp; omega
  have HKA := Lib.hid (fun (w9 : World) (h9 : Below w.heap.size w w9) => ht.below h9 (Nat.le_refl _))
  go_enter Tryd.func4, Tryd.ntmps4
  go_wp2_with fail
  refine (draw_count l _ _ hv).mono ?_
  rintro e w1 ⟨vl, lst, x, rfl, hx, hl, hl20, hsm, b1⟩
  clear ht
  have p1 := hl false
  clear hl
  obtain ⟨A1, c1, hf1, _, _⟩ := p1.form
  subst hf1
  have HSM := Lib.hid hsm
  clear hsm
  obtain ⟨n, hn⟩ : ∃ n, cntK x lst = n := ⟨_, rfl⟩
  have hn1 := cntK_le x lst
  rw [hn] at hn1
  have HN := Lib.hid hn
  clear hn
  go_wp2_with fail
  refine (impl_CountKind lst x _ w1 _ _ (Nat.le_refl _) p1).mono ?_
  rw [HN.out]
  rintro e w2 ⟨rfl, b2⟩
  have hb2 := b1.trans (b2.mono b1.size)
  have p2 := p1.below b2 (Nat.le_refl _)
  have sz2 := b2.size
  go_wp2_with fail
  refine (spec_CountKind lst x _ w2 _ _ sz2 p2).mono ?_
  rw [HN.out]
  rintro e w3 ⟨rfl, b3⟩
  have hb3 := hb2.trans (b3.mono hb2.size)
  have p3 := p2.below b3 sz2
  have sz3 := b3.size
  have qn : decide ((lst.length : Int) < (n : Int)) = false := decide_eq_false (by omega)
  clear p1 p2
  go_wp2_with fail
  refine (draw_word l' _ _ ((hu.below hb3 (Nat.le_refl _)).more (Nat.le_refl _) hb3.size)).mono ?_
  rintro e w4 ⟨kd, tx, rfl, hkd, htx1, b4⟩
  have htx : tx.size ≤ maxLen := Nat.le_trans htx1 (by decide)
  have hb4 := hb3.trans (b4.mono hb3.size)
  have sz4 := b4.size
  have p4 := p3.below b4 (by omega)
  clear p3
  have hbA : Below w.heap.size w (w4.alloc (.cells #[.int .i64 kd, .string tx] 29)) := hb4.alloc hb4.size _
  have RA : Row (w4.alloc (.cells #[.int .i64 kd, .string tx] 29)) w4.heap.size 29 #[.int .i64 kd, .string tx] := Row.new _ _ _
  have pA := p4.below ((Below.refl w4.heap.size w4).alloc (Nat.le_refl _) (.cells #[.int .i64 kd, .string tx] 29)) (by omega)
  obtain ⟨vb, hvb⟩ : ∃ vb, wvB kd tx = vb := ⟨_, rfl⟩
  have HV := Lib.hid hvb
  clear hvb
  go_wp2_with fail
  refine (impl_WordValid kd tx _ htx (HKA.out _ hbA)).mono ?_
  rw [HV.out]
  rintro e w5 ⟨rfl, b5⟩
  have hb5 := hbA.trans (b5.mono hbA.size)
  have sz5 : w4.heap.size < w5.heap.size := Nat.lt_of_lt_of_le (by simp) b5.size
  have R5 := RA.below b5 RA.lt
  have p5 := pA.below b5 (Nat.le_trans (Nat.le_of_lt (Nat.lt_of_le_of_lt (by omega : w1.heap.size ≤ w4.heap.size) (by simp))) (Nat.le_refl _))
  have pB : w1.heap.size ≤ w5.heap.size := by omega
  have hbx : w4.heap.size < w5.heap.size := sz5
  clear RA pA p4
  have y0 : w5.cell? ⟨w4.heap.size, 0, none⟩ = some (.int .i64 kd) := R5.cell 0
  have y1 : w5.cell? ⟨w4.heap.size, 1, none⟩ = some (.string tx) := R5.cell 1
  go_wp2_with fail
  go_cut [10] (fun sv wx => ∃ (vv : Value), sv = vv ∧ Sl false (wordS false) wx w5.heap.size wx.heap.size (lst ++ [(⟨kd, tx⟩ : WordD)]) vv ∧ Below w5.heap.size w5 wx)
  case first =>
    have bdd : Below w5.heap.size w5 w5.drew := (Below.refl _ _).drew
    have pLd := p5.below bdd pB
    have RBd : Row w5.drew w4.heap.size 29 #[.int .i64 kd, .string tx] := R5.drew
    have szd : w5.heap.size ≤ w5.drew.heap.size := Nat.le_refl _
    have z0d : w5.drew.cell? ⟨w4.heap.size, 0, none⟩ = some (.int .i64 kd) := y0
    have z1d : w5.drew.cell? ⟨w4.heap.size, 1, none⟩ = some (.string tx) := y1
    clear y0 y1
    refine wp_region_held_drew (S := fun w' => w'.cell? ⟨w4.heap.size, 0, none⟩ = some (.int .i64 kd) ∧ w'.cell? ⟨w4.heap.size, 1, none⟩ = some (.string tx)) (by kernel_rfl) ?_ (fun hHeld => ?_)
    · ((try dsimp only); refine ⟨?_, ?_⟩ <;> assumption)
    generalize w5.drew = wd at bdd pLd RBd szd z0d z1d hHeld ⊢
    refine reg_take (i := 1) (v := ?v1) rfl (by kernel_rfl) (by kernel_rfl) (by kernel_rfl) (fun _ _ _ h => h) (Or.inl ⟨by kernel_rfl, ?h1⟩) (by assumption) ?r1
    case h1 => (intro w hSw; (try dsimp only at hSw); go_simp; try with_reducible rfl)
    try simp only [Act.put, List.setIfInBounds_toArray, List.set_cons_zero, List.set_cons_succ]
    refine reg_take (i := 3) (v := ?v2) rfl (by kernel_rfl) (by kernel_rfl) (by kernel_rfl) (fun _ _ _ h => h) (Or.inl ⟨by kernel_rfl, ?h2⟩) (by assumption) ?r2
    case h2 => (intro w hSw; (try dsimp only at hSw); go_simp; try with_reducible rfl)
    try simp only [Act.put, List.setIfInBounds_toArray, List.set_cons_zero, List.set_cons_succ]
    refine reg_call2 (i := 0) (j := 4) (by kernel_rfl) rfl rfl (fun K hK => ?_) (fun K hK => ?_)
    · go_simp
      have st11 : Below wd.heap.size wd (wd.alloc (.cells #[] 29)) := (Below.refl _ _).alloc (Nat.le_refl _) _
      have own11 := own_emptyW wd w5.heap.size 29 szd
      have bd11 : Below w5.heap.size w5 (wd.alloc (.cells #[] 29)) := bdd.trans (st11.mono szd)
      have sz11 := bd11.size
      have pL11 := pLd.below st11 (Nat.le_trans pB szd)
      have RB11 : Row (wd.alloc (.cells #[] 29)) w4.heap.size 29 #[.int .i64 kd, .string tx] := RBd.alloc _
      have c110 : (wd.alloc (.cells #[] 29)).cell? ⟨w4.heap.size, 0, none⟩ = some (.int .i64 kd) := RB11.cell 0
      have c111 : (wd.alloc (.cells #[] 29)).cell? ⟨w4.heap.size, 1, none⟩ = some (.string tx) := RB11.cell 1
      refine hK.out _ _ ?_ (fun hHeld => ?_)
      · exact ⟨c110, c111⟩
      clear hK K
      try simp only [Act.put, List.setIfInBounds_toArray, List.set_cons_zero, List.set_cons_succ]
      refine reg_call2 (i := 2) (j := 4) (by kernel_rfl) rfl rfl (fun K hK => ?_) (fun K hK => ?_)
      · obtain ⟨x12, y12, r12, own12, g12⟩ := append_words (wd.alloc (.cells #[] 29)) w5.heap.size 25 _ [] own11 lst _ _ _ pL11 (by simp; omega) sz11
        rw [if_pos (show Region.wanted _ _ = true by kernel_rfl)]
        refine Lib.wp_append_run_sl _ _ _ 25 rfl _ _ rfl rfl r12 ?_
        have bd12 : Below w5.heap.size w5 y12 := bd11.grown g12 sz11 (fun r hr => own_geW own11 hr)
        have sz12 := bd12.size
        have RB12 : Row y12 w4.heap.size 29 #[.int .i64 kd, .string tx] := (g12.block w4.heap.size (Nat.lt_of_lt_of_le hbx sz11) (fun e => by have := own_geW own11 e.symm; omega)).trans RB11
        have c120 : y12.cell? ⟨w4.heap.size, 0, none⟩ = some (.int .i64 kd) := RB12.cell 0
        have c121 : y12.cell? ⟨w4.heap.size, 1, none⟩ = some (.string tx) := RB12.cell 1
        refine hK.out _ _ ?_ (fun hHeld => ?_)
        · exact ⟨c120, c121⟩
        clear hK K
        try simp only [Act.put, List.setIfInBounds_toArray, List.set_cons_zero, List.set_cons_succ]
        refine reg_call (i := 4) (by kernel_rfl) rfl (fun K hK => ?_)
        go_simp
        have st13 : Below y12.heap.size y12 (y12.alloc (.cells #[.int .i64 kd, .string tx] 29)) := (Below.refl _ _).alloc (Nat.le_refl _) _
        have pW13 := lit_word y12 kd tx hkd htx
        have own13 := own12.alloc (.cells #[.int .i64 kd, .string tx] 29)
        have bd13 : Below w5.heap.size w5 (y12.alloc (.cells #[.int .i64 kd, .string tx] 29)) := bd12.trans (st13.mono sz12)
        have sz13 := bd13.size
        have RB13 : Row (y12.alloc (.cells #[.int .i64 kd, .string tx] 29)) w4.heap.size 29 #[.int .i64 kd, .string tx] := RB12.alloc _
        have c130 : (y12.alloc (.cells #[.int .i64 kd, .string tx] 29)).cell? ⟨w4.heap.size, 0, none⟩ = some (.int .i64 kd) := RB13.cell 0
        have c131 : (y12.alloc (.cells #[.int .i64 kd, .string tx] 29)).cell? ⟨w4.heap.size, 1, none⟩ = some (.string tx) := RB13.cell 1
        refine hK.out _ _ ?_ (fun hHeld => ?_)
        · exact ⟨c130, c131⟩
        clear hK K
        try simp only [Act.put, List.setIfInBounds_toArray, List.set_cons_zero, List.set_cons_succ]
        refine reg_call (i := 5) (by kernel_rfl) rfl (fun K hK => ?_)
        obtain ⟨x14, y14, r14, own14, g14⟩ := append_words (y12.alloc (.cells #[.int .i64 kd, .string tx] 29)) w5.heap.size 25 _ ([] ++ lst) own13 [(⟨kd, tx⟩ : WordD)] _ _ _ pW13 (by simp; omega) sz13
        rw [if_pos (show Region.wanted _ _ = true by kernel_rfl)]
        refine Lib.wp_append_run_sl _ _ _ 25 rfl _ _ rfl rfl r14 ?_
        have bd14 : Below w5.heap.size w5 y14 := bd13.grown g14 sz13 (fun r hr => own_geW own13 hr)
        have sz14 := bd14.size
        have RB14 : Row y14 w4.heap.size 29 #[.int .i64 kd, .string tx] := (g14.block w4.heap.size (Nat.lt_of_lt_of_le hbx sz13) (fun e => by have := own_geW own13 e.symm; omega)).trans RB13
        have c140 : y14.cell? ⟨w4.heap.size, 0, none⟩ = some (.int .i64 kd) := RB14.cell 0
        have c141 : y14.cell? ⟨w4.heap.size, 1, none⟩ = some (.string tx) := RB14.cell 1
        refine hK.out _ _ ?_ (fun hHeld => ?_)
        · exact ⟨c140, c141⟩
        clear hK K
        try simp only [Act.put, List.setIfInBounds_toArray, List.set_cons_zero, List.set_cons_succ]
        refine reg_take (i := 6) (v := ?v3) rfl (by kernel_rfl) (by kernel_rfl) (by kernel_rfl) (fun _ _ _ h => h) (Or.inl ⟨by kernel_rfl, ?h3⟩) (by assumption) ?r3
        case h3 => (intro w hSw; (try dsimp only at hSw); go_simp; try with_reducible rfl)
        try simp only [Act.put, List.setIfInBounds_toArray, List.set_cons_zero, List.set_cons_succ]
        refine wpAnyH_done (by kernel_rfl) ?_ _
        go_wp2_with fail
        go_meet
        case rel => exact ⟨_, rfl, fin_list own14 HSM.out hkd htx, bd14⟩
      · go_simp
        have st12 : Below (wd.alloc (.cells #[] 29)).heap.size (wd.alloc (.cells #[] 29)) ((wd.alloc (.cells #[] 29)).alloc (.cells #[.int .i64 kd, .string tx] 29)) := (Below.refl _ _).alloc (Nat.le_refl _) _
        have pW12 := lit_word (wd.alloc (.cells #[] 29)) kd tx hkd htx
        have es12 : (wd.alloc (.cells #[] 29)).heap.size = wd.heap.size + 1 := by simp
        rw [es12] at pW12
        have own12 := own11.alloc (.cells #[.int .i64 kd, .string tx] 29)
        have bd12 : Below w5.heap.size w5 ((wd.alloc (.cells #[] 29)).alloc (.cells #[.int .i64 kd, .string tx] 29)) := bd11.trans (st12.mono sz11)
        have sz12 := bd12.size
        have pL12 := pL11.below st12 (Nat.le_trans pB sz11)
        have RB12 : Row ((wd.alloc (.cells #[] 29)).alloc (.cells #[.int .i64 kd, .string tx] 29)) w4.heap.size 29 #[.int .i64 kd, .string tx] := RB11.alloc _
        have c120 : ((wd.alloc (.cells #[] 29)).alloc (.cells #[.int .i64 kd, .string tx] 29)).cell? ⟨w4.heap.size, 0, none⟩ = some (.int .i64 kd) := RB12.cell 0
        have c121 : ((wd.alloc (.cells #[] 29)).alloc (.cells #[.int .i64 kd, .string tx] 29)).cell? ⟨w4.heap.size, 1, none⟩ = some (.string tx) := RB12.cell 1
        refine hK.out _ _ ?_ (fun hHeld => ?_)
        · exact ⟨c120, c121⟩
        clear hK K
        try simp only [Act.put, List.setIfInBounds_toArray, List.set_cons_zero, List.set_cons_succ]
        refine reg_call (i := 2) (by kernel_rfl) rfl (fun K hK => ?_)
        obtain ⟨x13, y13, r13, own13, g13⟩ := append_words ((wd.alloc (.cells #[] 29)).alloc (.cells #[.int .i64 kd, .string tx] 29)) w5.heap.size 25 _ [] own12 lst _ _ _ pL12 (by simp; omega) sz12
        rw [if_pos (show Region.wanted _ _ = true by kernel_rfl)]
        refine Lib.wp_append_run_sl _ _ _ 25 rfl _ _ rfl rfl r13 ?_
        have bd13 : Below w5.heap.size w5 y13 := bd12.grown g13 sz12 (fun r hr => own_geW own12 hr)
        have sz13 := bd13.size
        have RB13 : Row y13 w4.heap.size 29 #[.int .i64 kd, .string tx] := (g13.block w4.heap.size (Nat.lt_of_lt_of_le hbx sz12) (fun e => by have := own_geW own12 e.symm; omega)).trans RB12
        have pW13 : Sl false (wordS false) y13 _ _ [(⟨kd, tx⟩ : WordD)] _ := pW12.keep (Nat.le_refl _) (Nat.le_refl _) (fun b h1 h2 => g13.block b h2 (fun e => by have h3 : b = wd.heap.size := Option.some.inj e; have h4 := h1; omega))
        have c130 : y13.cell? ⟨w4.heap.size, 0, none⟩ = some (.int .i64 kd) := RB13.cell 0
        have c131 : y13.cell? ⟨w4.heap.size, 1, none⟩ = some (.string tx) := RB13.cell 1
        refine hK.out _ _ ?_ (fun hHeld => ?_)
        · exact ⟨c130, c131⟩
        clear hK K
        try simp only [Act.put, List.setIfInBounds_toArray, List.set_cons_zero, List.set_cons_succ]
        refine reg_call (i := 5) (by kernel_rfl) rfl (fun K hK => ?_)
        obtain ⟨x14, y14, r14, own14, g14⟩ := append_words y13 w5.heap.size 25 _ ([] ++ lst) own13 [(⟨kd, tx⟩ : WordD)] _ _ _ pW13 (by simp; omega) sz13
        rw [if_pos (show Region.wanted _ _ = true by kernel_rfl)]
        refine Lib.wp_append_run_sl _ _ _ 25 rfl _ _ rfl rfl r14 ?_
        have bd14 : Below w5.heap.size w5 y14 := bd13.grown g14 sz13 (fun r hr => own_geW own13 hr)
        have sz14 := bd14.size
        have RB14 : Row y14 w4.heap.size 29 #[.int .i64 kd, .string tx] := (g14.block w4.heap.size (Nat.lt_of_lt_of_le hbx sz13) (fun e => by have := own_geW own13 e.symm; omega)).trans RB13
        have c140 : y14.cell? ⟨w4.heap.size, 0, none⟩ = some (.int .i64 kd) := RB14.cell 0
        have c141 : y14.cell? ⟨w4.heap.size, 1, none⟩ = some (.string tx) := RB14.cell 1
        refine hK.out _ _ ?_ (fun hHeld => ?_)
        · exact ⟨c140, c141⟩
        clear hK K
        try simp only [Act.put, List.setIfInBounds_toArray, List.set_cons_zero, List.set_cons_succ]
        refine reg_take (i := 6) (v := ?v4) rfl (by kernel_rfl) (by kernel_rfl) (by kernel_rfl) (fun _ _ _ h => h) (Or.inl ⟨by kernel_rfl, ?h4⟩) (by assumption) ?r4
        case h4 => (intro w hSw; (try dsimp only at hSw); go_simp; try with_reducible rfl)
        try simp only [Act.put, List.setIfInBounds_toArray, List.set_cons_zero, List.set_cons_succ]
        refine wpAnyH_done (by kernel_rfl) ?_ _
        go_wp2_with fail
        go_meet
        case rel => exact ⟨_, rfl, fin_list own14 HSM.out hkd htx, bd14⟩
    · go_simp
      have st11 : Below wd.heap.size wd (wd.alloc (.cells #[.int .i64 kd, .string tx] 29)) := (Below.refl _ _).alloc (Nat.le_refl _) _
      have pW11 := lit_word wd kd tx hkd htx
      have bd11 : Below w5.heap.size w5 (wd.alloc (.cells #[.int .i64 kd, .string tx] 29)) := bdd.trans (st11.mono szd)
      have sz11 := bd11.size
      have pL11 := pLd.below st11 (Nat.le_trans pB szd)
      have RB11 : Row (wd.alloc (.cells #[.int .i64 kd, .string tx] 29)) w4.heap.size 29 #[.int .i64 kd, .string tx] := RBd.alloc _
      have c110 : (wd.alloc (.cells #[.int .i64 kd, .string tx] 29)).cell? ⟨w4.heap.size, 0, none⟩ = some (.int .i64 kd) := RB11.cell 0
      have c111 : (wd.alloc (.cells #[.int .i64 kd, .string tx] 29)).cell? ⟨w4.heap.size, 1, none⟩ = some (.string tx) := RB11.cell 1
      refine hK.out _ _ ?_ (fun hHeld => ?_)
      · exact ⟨c110, c111⟩
      clear hK K
      try simp only [Act.put, List.setIfInBounds_toArray, List.set_cons_zero, List.set_cons_succ]
      refine reg_call (i := 0) (by kernel_rfl) rfl (fun K hK => ?_)
      go_simp
      have st12 : Below (wd.alloc (.cells #[.int .i64 kd, .string tx] 29)).heap.size (wd.alloc (.cells #[.int .i64 kd, .string tx] 29)) ((wd.alloc (.cells #[.int .i64 kd, .string tx] 29)).alloc (.cells #[] 29)) := (Below.refl _ _).alloc (Nat.le_refl _) _
      have own12 := own_emptyW (wd.alloc (.cells #[.int .i64 kd, .string tx] 29)) w5.heap.size 29 sz11
      have es12 : (wd.alloc (.cells #[.int .i64 kd, .string tx] 29)).heap.size = wd.heap.size + 1 := by simp
      rw [es12] at own12
      have pW12 := pW11.below st12 (Nat.le_refl _)
      have bd12 : Below w5.heap.size w5 ((wd.alloc (.cells #[.int .i64 kd, .string tx] 29)).alloc (.cells #[] 29)) := bd11.trans (st12.mono sz11)
      have sz12 := bd12.size
      have pL12 := pL11.below st12 (Nat.le_trans pB sz11)
      have RB12 : Row ((wd.alloc (.cells #[.int .i64 kd, .string tx] 29)).alloc (.cells #[] 29)) w4.heap.size 29 #[.int .i64 kd, .string tx] := RB11.alloc _
      have c120 : ((wd.alloc (.cells #[.int .i64 kd, .string tx] 29)).alloc (.cells #[] 29)).cell? ⟨w4.heap.size, 0, none⟩ = some (.int .i64 kd) := RB12.cell 0
      have c121 : ((wd.alloc (.cells #[.int .i64 kd, .string tx] 29)).alloc (.cells #[] 29)).cell? ⟨w4.heap.size, 1, none⟩ = some (.string tx) := RB12.cell 1
      refine hK.out _ _ ?_ (fun hHeld => ?_)
      · exact ⟨c120, c121⟩
      clear hK K
      try simp only [Act.put, List.setIfInBounds_toArray, List.set_cons_zero, List.set_cons_succ]
      refine reg_call (i := 2) (by kernel_rfl) rfl (fun K hK => ?_)
      obtain ⟨x13, y13, r13, own13, g13⟩ := append_words ((wd.alloc (.cells #[.int .i64 kd, .string tx] 29)).alloc (.cells #[] 29)) w5.heap.size 25 _ [] own12 lst _ _ _ pL12 (by simp; omega) sz12
      rw [if_pos (show Region.wanted _ _ = true by kernel_rfl)]
      refine Lib.wp_append_run_sl _ _ _ 25 rfl _ _ rfl rfl r13 ?_
      have bd13 : Below w5.heap.size w5 y13 := bd12.grown g13 sz12 (fun r hr => own_geW own12 hr)
      have sz13 := bd13.size
      have RB13 : Row y13 w4.heap.size 29 #[.int .i64 kd, .string tx] := (g13.block w4.heap.size (Nat.lt_of_lt_of_le hbx sz12) (fun e => by have := own_geW own12 e.symm; omega)).trans RB12
      have pW13 : Sl false (wordS false) y13 _ _ [(⟨kd, tx⟩ : WordD)] _ := pW12.keep (Nat.le_refl _) (Nat.le_refl _) (fun b h1 h2 => g13.block b (Nat.lt_of_lt_of_le h2 (by simp)) (fun e => by have h3 : b = wd.heap.size + 1 := Option.some.inj e; have h4 := h2; have h5 : (wd.alloc (.cells #[.int .i64 kd, .string tx] 29)).heap.size = wd.heap.size + 1 := (by simp); omega))
      have c130 : y13.cell? ⟨w4.heap.size, 0, none⟩ = some (.int .i64 kd) := RB13.cell 0
      have c131 : y13.cell? ⟨w4.heap.size, 1, none⟩ = some (.string tx) := RB13.cell 1
      refine hK.out _ _ ?_ (fun hHeld => ?_)
      · exact ⟨c130, c131⟩
      clear hK K
      try simp only [Act.put, List.setIfInBounds_toArray, List.set_cons_zero, List.set_cons_succ]
      refine reg_call (i := 5) (by kernel_rfl) rfl (fun K hK => ?_)
      obtain ⟨x14, y14, r14, own14, g14⟩ := append_words y13 w5.heap.size 25 _ ([] ++ lst) own13 [(⟨kd, tx⟩ : WordD)] _ _ _ pW13 (by simp; omega) sz13
      rw [if_pos (show Region.wanted _ _ = true by kernel_rfl)]
      refine Lib.wp_append_run_sl _ _ _ 25 rfl _ _ rfl rfl r14 ?_
      have bd14 : Below w5.heap.size w5 y14 := bd13.grown g14 sz13 (fun r hr => own_geW own13 hr)
      have sz14 := bd14.size
      have RB14 : Row y14 w4.heap.size 29 #[.int .i64 kd, .string tx] := (g14.block w4.heap.size (Nat.lt_of_lt_of_le hbx sz13) (fun e => by have := own_geW own13 e.symm; omega)).trans RB13
      have c140 : y14.cell? ⟨w4.heap.size, 0, none⟩ = some (.int .i64 kd) := RB14.cell 0
      have c141 : y14.cell? ⟨w4.heap.size, 1, none⟩ = some (.string tx) := RB14.cell 1
      refine hK.out _ _ ?_ (fun hHeld => ?_)
      · exact ⟨c140, c141⟩
      clear hK K
      try simp only [Act.put, List.setIfInBounds_toArray, List.set_cons_zero, List.set_cons_succ]
      refine reg_take (i := 6) (v := ?v5) rfl (by kernel_rfl) (by kernel_rfl) (by kernel_rfl) (fun _ _ _ h => h) (Or.inl ⟨by kernel_rfl, ?h5⟩) (by assumption) ?r5
      case h5 => (intro w hSw; (try dsimp only at hSw); go_simp; try with_reducible rfl)
      try simp only [Act.put, List.setIfInBounds_toArray, List.set_cons_zero, List.set_cons_succ]
      refine wpAnyH_done (by kernel_rfl) ?_ _
      go_wp2_with fail
      go_meet
      case rel => exact ⟨_, rfl, fin_list own14 HSM.out hkd htx, bd14⟩
  case rest =>
    obtain ⟨vv, rfl, pv, bc⟩ := hcut
    have hbc := hb5.trans (bc.mono hb5.size)
    have Rc := R5.below bc hbx
    have szc := bc.size
    clear R5 y0 y1 p5
    go_wp2_with fail
    go_loopw [11, 12] (fun sm i wr => ∃ k : Nat, 1 ≤ k ∧ k ≤ 5 ∧ i = .int .i64 k ∧ sm = .int .i64 (sumT kd k : Int) ∧ Below wc.heap.size wc wr) (fun _ i _ => 5 - (intOf i).toNat)
    case atStart => exact ⟨1, by omega, by omega, rfl, by rw [show sumT kd 1 = 0 from if_neg (by omega)] <;> rfl, Below.refl _ _⟩
    case round =>
      obtain ⟨k, hk1, hk5, rfl, rfl, hb⟩ := hrel
      have hbw := hbc.trans (hb.mono hbc.size)
      have Rr := Rc.below hb (Nat.lt_of_lt_of_le hbx szc)
      have y0 : wr.cell? ⟨w4.heap.size, 0, none⟩ = some (.int .i64 kd) := Rr.cell 0
      have y1 : wr.cell? ⟨w4.heap.size, 1, none⟩ = some (.string tx) := Rr.cell 1
      by_cases hk4 : k ≤ 4
      · have hst := sumT_step (k := kd) hk1
        have hco := cnt_one (k : Int) kd tx
        obtain ⟨d, hd⟩ : ∃ d, cntK (k : Int) [(⟨kd, tx⟩ : WordD)] = d := ⟨_, rfl⟩
        rw [hd] at hco
        have hd1 : d ≤ 1 := by
          rw [hco]
          split <;> omega
        rw [← hco] at hst
        have HD := Lib.hid hd
        have HS := Lib.hid hst
        have hm1 : sumT kd k ≤ 1 := by
          unfold sumT
          split <;> omega
        obtain ⟨m, hm⟩ : ∃ m, sumT kd k = m := ⟨_, rfl⟩
        rw [hm] at HS hm1 ⊢
        clear hco hst hd hm
        have L := lit_word wr kd tx hkd htx
        go_wp2_with fail
        refine (impl_CountKind [(⟨kd, tx⟩ : WordD)] (k : Int) _ _ _ _ (Nat.le_refl _) L).mono ?_
        rw [HD.out]
        rintro e w6 ⟨rfl, b6⟩
        have hb6 := (hb.alloc hb.size _).trans (b6.mono (hb.alloc hb.size _).size)
        clear L y0 y1 Rr
        go_wp2_with fail
        go_roundw
        case rel => exact ⟨k + 1, by omega, by omega, by go_num, by rw [HS.out] <;> go_num, hb6⟩
        case measure => simp [intOf]; omega
      · obtain rfl : k = 5 := by omega
        have hHN := HN.out
        have hap := cnt_app x lst kd tx
        rw [hHN] at hap
        clear Rc
        by_cases he : kd = x
        · subst he
          have HN2 : Hid (cntK kd (lst ++ [(⟨kd, tx⟩ : WordD)]) = n + 1) := by
            show _ = _
            rw [hap]
            simp
          clear hap hHN
          cases vb
          case false =>
            go_wp2_with fail
            refine (spec_WordValid kd tx _ htx).mono ?_
            rw [HV.out]
            rintro e w7 ⟨rfl, b7⟩
            have hb7 := hbw.trans (b7.mono hbw.size)
            have pv7 := (pv.below hb (Nat.le_refl _)).below b7 hb.size
            go_wp2_with fail
            refine (impl_CountKind (lst ++ [(⟨kd, tx⟩ : WordD)]) kd _ w7 _ _ (Nat.le_trans hb.size b7.size) pv7).mono ?_
            rw [HN2.out]
            rintro e w8 ⟨rfl, b8⟩
            have hb8 := hb7.trans (b8.mono hb7.size)
            go_wp2_with fail
            go_ret
            exact ⟨rfl, hb8⟩
          case true =>
            rw [wv_sum HV.out]
            go_wp2_with fail
            refine (spec_WordValid kd tx _ htx).mono ?_
            rw [HV.out]
            rintro e w7 ⟨rfl, b7⟩
            have hb7 := hbw.trans (b7.mono hbw.size)
            have pv7 := (pv.below hb (Nat.le_refl _)).below b7 hb.size
            go_wp2_with fail
            refine (impl_CountKind (lst ++ [(⟨kd, tx⟩ : WordD)]) kd _ w7 _ _ (Nat.le_trans hb.size b7.size) pv7).mono ?_
            rw [HN2.out]
            rintro e w8 ⟨rfl, b8⟩
            have hb8 := hb7.trans (b8.mono hb7.size)
            go_wp2_with fail
            go_ret
            exact ⟨rfl, hb8⟩
        · have qe : (kd == x) = false := by simpa using he
          have HN2 : Hid (cntK x (lst ++ [(⟨kd, tx⟩ : WordD)]) = n) := by
            show _ = _
            rw [hap, qe]
            rfl
          clear hap hHN he
          cases vb
          case false =>
            go_wp2_with fail
            refine (spec_WordValid kd tx _ htx).mono ?_
            rw [HV.out]
            rintro e w7 ⟨rfl, b7⟩
            have hb7 := hbw.trans (b7.mono hbw.size)
            have pv7 := (pv.below hb (Nat.le_refl _)).below b7 hb.size
            go_wp2_with fail
            refine (impl_CountKind (lst ++ [(⟨kd, tx⟩ : WordD)]) x _ w7 _ _ (Nat.le_trans hb.size b7.size) pv7).mono ?_
            rw [HN2.out]
            rintro e w8 ⟨rfl, b8⟩
            have hb8 := hb7.trans (b8.mono hb7.size)
            go_wp2_with fail
            go_ret
            exact ⟨rfl, hb8⟩
          case true =>
            rw [wv_sum HV.out]
            go_wp2_with fail
            refine (spec_WordValid kd tx _ htx).mono ?_
            rw [HV.out]
            rintro e w7 ⟨rfl, b7⟩
            have hb7 := hbw.trans (b7.mono hbw.size)
            have pv7 := (pv.below hb (Nat.le_refl _)).below b7 hb.size
            go_wp2_with fail
            refine (impl_CountKind (lst ++ [(⟨kd, tx⟩ : WordD)]) x _ w7 _ _ (Nat.le_trans hb.size b7.size) pv7).mono ?_
            rw [HN2.out]
            rintro e w8 ⟨rfl, b8⟩
            have hb8 := hb7.trans (b8.mono hb7.size)
            go_wp2_with fail
            go_ret
            exact ⟨rfl, hb8⟩

set_option maxRecDepth 100000 in
theorem fnCount_lifted (os : Os) (started : os.Started) (H : Type) (enc : TypeId × Value → H) :
    ReturnsInHanded {} Tryd.checked os 4 .any (fun w args => (Rows.fnCountSpec.pre enc Tryd.prog Tryd.f4 [] false w args ∧ laidMetH Tryd.prog [("math/bits.deBruijn32tab", Rows.laid_math_bits_deBruijn32tab), ("math/bits.deBruijn64tab", Rows.laid_math_bits_deBruijn64tab), ("internal/strconv.uint64pow10", Rows.laid_internal_strconv_uint64pow10), ("strconv.ErrRange", Rows.laid_strconv_ErrRange), ("strconv.ErrSyntax", Rows.laid_strconv_ErrSyntax), ("loop.example/wholeway/impl.keys", Rows.laid_loop_example_wholeway_impl_keys)] w) ∧ sizedMet enc Tryd.prog Tryd.f4 (OpenSpec.ofChange Rows.fnCountSpec) false w args) (Rows.fnCountSpec.post enc Tryd.prog Tryd.f4 false true false false) := by
  refine returnsInHanded_of_change_and (C := Tryd.checked) (X := fun w _ => laidMetH Tryd.prog [("math/bits.deBruijn32tab", Rows.laid_math_bits_deBruijn32tab), ("math/bits.deBruijn64tab", Rows.laid_math_bits_deBruijn64tab), ("internal/strconv.uint64pow10", Rows.laid_internal_strconv_uint64pow10), ("strconv.ErrRange", Rows.laid_strconv_ErrRange), ("strconv.ErrSyntax", Rows.laid_strconv_ErrSyntax), ("loop.example/wholeway/impl.keys", Rows.laid_loop_example_wholeway_impl_keys)] w) (fun _ _ _ hh h => h.of_heap hh) own started (by kernel_rfl) Tryd.func4
    (ChangeSpec.witness_shaped (enc := enc) (C := Tryd.checked) (os := os) (X := fun w _ => laidMetH Tryd.prog [("math/bits.deBruijn32tab", Rows.laid_math_bits_deBruijn32tab), ("math/bits.deBruijn64tab", Rows.laid_math_bits_deBruijn64tab), ("internal/strconv.uint64pow10", Rows.laid_internal_strconv_uint64pow10), ("strconv.ErrRange", Rows.laid_strconv_ErrRange), ("strconv.ErrSyntax", Rows.laid_strconv_ErrSyntax), ("loop.example/wholeway/impl.keys", Rows.laid_loop_example_wholeway_impl_keys)] w) false (World.doorLaid Tryd.prog 400 os) #[.slice none 0 0, .slice none 0 0] 8 rfl (World.shaped_of_RefB (by kernel_rfl) (by kernel_rfl)) (by kernel_rfl) (by kernel_rfl) (by kernel_rfl) (door_metW os _)) ?_
  intro W base args ds gs before hval0 hW _ _ hL _
  have hval : ∀ (j : Nat) t v, Tryd.f4.params[j]? = some t → args[j]? = some v → Value.okWide Tryd.prog W .any base t v := hval0
  obtain ⟨p, q, hA0, hV, hrest⟩ := id hW
  have hA : DataW.TrodAll enc Tryd.prog W 0 (fun _ => true) true Tryd.f4.params.toList args.toList ds p := hA0
  rw [Tryd.params4] at hA hval
  obtain ⟨v0, v1, d0, d1, p0, p1, rfl, rfl, rfl, h0, h1⟩ := trodAll_two hA
  obtain ⟨gv0, rfl⟩ := one_vars hV
  obtain ⟨a, len, cap, rfl⟩ := okWide_slice Tryd.underlying22 (hval 0 _ v0 rfl rfl)
  obtain ⟨a', len', cap', rfl⟩ := okWide_slice Tryd.underlying22 (hval 1 _ v1 rfl rfl)
  obtain ⟨fuel0, hf0⟩ := h0
  obtain ⟨fuel1, hf1⟩ := h1
  obtain ⟨da0, vv, hv0, ha0⟩ := dec_slice Tryd.underlying22 (by kernel_rfl) (by decide) dec_u8 hf0
  simp only [Value.cells, List.cons.injEq, and_true] at hv0
  subst hv0
  obtain ⟨da1, vv1, hv1, ha1⟩ := dec_slice Tryd.underlying22 (by kernel_rfl) (by decide) dec_u8 hf1
  simp only [Value.cells, List.cons.injEq, and_true] at hv1
  subst hv1
  have hcall := law_Count da0 da1 _ _ W ha0 ha1 (tabs_ofW hL)
  refine hcall.mono fun e W' ⟨he, hb⟩ => ?_
  subst he
  exact ⟨_, rfl, post_true_vars laidO hW (by kernel_rfl) Tryd.underlying4 (by rw [Tryd.params4]; intro t ht; simp only [List.mem_cons, List.not_mem_nil, or_false] at ht; rcases ht with rfl | rfl <;> exact ⟨by kernel_rfl, of_decide_eq_true (by kernel_rfl)⟩) vars_ok rfl rfl rfl hb⟩

set_option maxRecDepth 100000 in
set_option maxHeartbeats 1000000 in
theorem fnCount_facts : joinedFacts Tryd.prog 4 Tryd.f4 Rows.fnCountSpec Rows.fnCountRow = true := by
  unfold joinedFacts
  exact and_mk (and_mk (and_mk (and_mk (and_mk (and_mk (and_mk (and_mk (and_mk (and_mk (and_mk (and_mk (and_mk (and_mk (and_mk (and_mk (and_mk (and_mk (and_mk (and_mk (and_mk (and_mk (and_mk (and_mk (and_mk (and_mk (and_mk (and_mk (and_mk (and_mk (and_mk (by as_aux_lemma => kernel_rfl) laidO) mapsRowedO) (by as_aux_lemma => kernel_rfl)) (by as_aux_lemma => kernel_rfl)) (by as_aux_lemma => kernel_rfl)) (by as_aux_lemma => kernel_rfl)) (by as_aux_lemma => kernel_rfl)) (by as_aux_lemma => kernel_rfl)) (by as_aux_lemma => kernel_rfl)) (by as_aux_lemma => kernel_rfl)) (by as_aux_lemma => kernel_rfl)) (by as_aux_lemma => kernel_rfl)) (by as_aux_lemma => kernel_rfl)) (by as_aux_lemma => kernel_rfl)) (by as_aux_lemma => kernel_rfl)) (by as_aux_lemma => kernel_rfl)) (by as_aux_lemma => kernel_rfl)) (by as_aux_lemma => kernel_rfl)) (by as_aux_lemma => kernel_rfl)) (by as_aux_lemma => kernel_rfl)) (by as_aux_lemma => kernel_rfl)) (by rw [plainKeysO]; rfl)) (by as_aux_lemma => kernel_rfl)) stopsHeardO) mayEnter) (by rw [liftsFinal]; rfl)) (by rw [makeCut]; rfl)) (by as_aux_lemma => kernel_rfl)) (by as_aux_lemma => kernel_rfl)) (by as_aux_lemma => kernel_rfl)) (by as_aux_lemma => kernel_rfl)

theorem fnCount_said : Rows.FnCountSaid :=
  OpenClaim.holds_of_wide 4 Tryd.f4 rfl rfl rfl rfl rfl rfl rfl ⟨rfl, rfl, rfl, rfl, rfl⟩ rfl rfl rfl rfl rfl (by kernel_rfl) Tryd.func4 fnCount_facts
    (of_decide_eq_true (by kernel_rfl)) (by unfold Func.isWrapper; first | (rw [if_pos (by decide +kernel)]; kernel_rfl) | (rw [if_neg (by decide +kernel)]; exact ⟨rfl, rfl⟩))
    (fun os started H enc _ => fnCount_lifted os started H enc)

/-- no parameter wants a stand-in -/
theorem fnCount_plain (f : FuncId) (fn : Func) (hf : Tryd.pinned.checked.prog.funcNamed "loop.example/wholeway/laws.FnCount" = some f) (hfn : Tryd.pinned.checked.prog.funcs[f]? = some fn) :
    true = Tryd.pinned.checked.prog.looks [] ∧ ∀ (j : Nat) t, fn.params[j]? = some t → Tryd.pinned.checked.prog.wantsStandIn t = false := by
  obtain rfl : f = 4 := Option.some.inj ((show Tryd.prog.funcNamed "loop.example/wholeway/laws.FnCount" = some 4 by kernel_rfl).symm.trans hf) |>.symm
  obtain rfl : fn = Tryd.f4 := (Option.some.inj (Tryd.func4.symm.trans hfn)).symm
  refine ⟨by kernel_rfl, fun j t ht => ?_⟩
  rw [Tryd.params4] at ht
  have hm : t ∈ [22, 22] := by simpa using Array.mem_of_getElem? ht
  have hall : ([22, 22].all fun u => !Tryd.prog.wantsStandIn u) = true := by kernel_rfl
  exact (show Tryd.prog.wantsStandIn t = false by simpa using List.all_eq_true.1 hall t hm)
theorem fnCount_holds : Rows.FnCountCardSaid :=
  Claim7.holds_tied_plain_at .later [] _ _ _ _ fnCount_said (fun _ h => by cases h) (by kernel_rfl) (fun _ h => by cases h) fnCount_row_tie rfl ⟨rfl, rfl⟩ (by kernel_rfl) rfl fnCount_plain (by kernel_rfl)
end Go.Proofs.YtiaioiijdlmilaaDoor
