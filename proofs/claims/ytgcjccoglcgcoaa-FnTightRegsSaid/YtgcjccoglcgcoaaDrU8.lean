/-
  The copies of codes and units: l7Copy, l7CopyUnit. Condition: the memory goes by types.
-/
import Derived.Test.YtgcjccoglcgcoaaRegT
import Derived.Test.YtgcjccoglcgcoaaDrU7
namespace Go.Proofs.Ytgcjccoglcgcoaa
open Go.RowKit Go.ChangeShapes Go.WideShapes Go.Deep
variable {D : Nat}
set_option linter.unusedVariables false
set_option linter.unusedSimpArgs false
set_option maxRecDepth 100000 in
set_option maxHeartbeats 8000000 in
theorem copyunit_ok (lo : Nat) (w : World) (hD : D ≤ 6) (A : Option Addr) (n c : Nat) (tc : TyCods D lo w (.slice A n c)) (hn : 1 ≤ n) :
    Calls Try.prog 47 #[.agg #[.slice A n c]] w (CpP (fun w' v => UnitV D w.heap.size w' v) w) := by
  obtain ⟨bS, _, _, _, _, _, _, rfl, _, _, _, _, _, _, _, _, _, _, _, _, hn10⟩ := cods_row tc (show 0 < n by omega)
  go_enter Try.func47, Try.ntmps47
  go_upto_region 2 with fail
  have hbl : Below w.heap.size w (((w.alloc (.cells #[.slice (some ⟨bS, 0, none⟩) n c] 28)).alloc (.cells #[.slice none 0 0] 28)).alloc (.cells #[.slice none 0 0] 28)) := (((Below.refl _ w).alloc (Nat.le_refl _) _).alloc (by simp) _).alloc (by simp; omega) _
  have Rb : Row (((w.alloc (.cells #[.slice (some ⟨bS, 0, none⟩) n c] 28)).alloc (.cells #[.slice none 0 0] 28)).alloc (.cells #[.slice none 0 0] 28)) w.heap.size 28 #[.slice (some ⟨bS, 0, none⟩) n c] := ((Row.new w _ _).alloc _).alloc _
  have RR : Row (((w.alloc (.cells #[.slice (some ⟨bS, 0, none⟩) n c] 28)).alloc (.cells #[.slice none 0 0] 28)).alloc (.cells #[.slice none 0 0] 28)) (w.heap.size + 1) 28 #[.slice none 0 0] := by simpa using (Row.new (w.alloc (.cells #[.slice (some ⟨bS, 0, none⟩) n c] 28)) 28 #[.slice none 0 0]).alloc (.cells #[.slice none 0 0] 28)
  have Rg : Row (((w.alloc (.cells #[.slice (some ⟨bS, 0, none⟩) n c] 28)).alloc (.cells #[.slice none 0 0] 28)).alloc (.cells #[.slice none 0 0] 28)) (w.heap.size + 1 + 1) 28 #[.slice none 0 0] := by simpa using Row.new ((w.alloc (.cells #[.slice (some ⟨bS, 0, none⟩) n c] 28)).alloc (.cells #[.slice none 0 0] 28)) 28 #[.slice none 0 0]
  generalize ((w.alloc (.cells #[.slice (some ⟨bS, 0, none⟩) n c] 28)).alloc (.cells #[.slice none 0 0] 28)).alloc (.cells #[.slice none 0 0] 28) = w1 at hbl Rb RR Rg ⊢
  go_wp2_with fail
  go_loopw [4] (fun u wr => ∃ (e : Nat) (A7 : Option Addr) (c7 : Nat), u = .int .i64 (e : Int) ∧ e ≤ n ∧ Row wr (w.heap.size + 1 + 1) 28 #[.slice A7 e c7] ∧ TyCods D w.heap.size wr (.slice A7 e c7) ∧ Row wr w.heap.size 28 #[.slice (some ⟨bS, 0, none⟩) n c] ∧ Row wr (w.heap.size + 1) 28 #[.slice none 0 0] ∧ Below w.heap.size w wr) (fun u _ => n - (intOf u).toNat)
  case atStart => exact ⟨0, none, 0, rfl, by omega, Rg, TyCods.nil_ _ _, Rb, RR, hbl⟩
  case round =>
    clear Rg Rb RR hbl
    obtain ⟨e, A7, c7, rfl, he, Rg, ty, Rb, RR, hbl⟩ := hrel
    have x0 : wr.cell? ⟨w.heap.size, 0, none⟩ = some (.slice (some ⟨bS, 0, none⟩) n c) := Rb.cell 0
    by_cases hen : e < n
    case neg =>
      have hen1 : ¬ (e : Int) < (n : Int) := by omega
      obtain rfl : e = n := by omega
      have F := Lib.hid (show CpP (fun w' v => UnitV D w.heap.size w' v) w (.returned (.agg #[.slice A7 e c7])) (wr.setCell ⟨w.heap.size + 1, 0, none⟩ (.slice A7 e c7)) from ⟨_, rfl, ⟨A7, e, c7, rfl, hn, ty.keep (Chg.set RR (OK.ofCods ty))⟩, hbl.setCell (p := ⟨w.heap.size + 1, 0, none⟩) (by show w.heap.size ≤ w.heap.size + 1; omega) _⟩)
      have k0 : wr.cell? ⟨w.heap.size + 1 + 1, 0, none⟩ = some (.slice A7 e c7) := Rg.cell 0
      have s0 : wr.cell? ⟨w.heap.size + 1, 0, none⟩ = some (.slice none 0 0) := RR.cell 0
      have sf0 : wr.frozen? ⟨w.heap.size + 1, 0, none⟩ = false := RR.frozen 0
      go_wp2_with fail
      refine bodyPost_ret (v := .agg #[.slice A7 e c7]) (by simp [results, Try.results47, go_sem, s0]) rfl F.out
    obtain ⟨bS', m1, r1, A9, nb, cb, cur, eA, hlS, hm1, hr1, RS, q0, q1, q2, tb0, hnb, _⟩ := cods_row tc hen
    injection eA with eA
    injection eA with eA
    subst eA
    have hbS := RS.lt
    have hen1 : (e : Int) < (n : Int) := by omega
    go_wp2_with fail
    clear x0
    refine wp_region_held_drew (S := fun w' => (w'.cell? ⟨w.heap.size, 0, none⟩ = some (.slice (some ⟨bS, 0, none⟩) n c) ∧ w'.cell? ⟨bS, e * 3, none⟩ = some (.int .i64 (m1 : Int)) ∧ w'.cell? ⟨bS, e * 3 + 1, none⟩ = some (.int .i64 (r1 : Int)) ∧ w'.cell? ⟨bS, e * 3 + 2, none⟩ = some (.slice A9 nb cb))) (by kernel_rfl) ?_ (fun hHeld => ?_)
    · exact ⟨Rb.cell 0, ((RS.below hbl hbS).cell _).trans q0, ((RS.below hbl hbS).cell _).trans q1, ((RS.below hbl hbS).cell _).trans q2⟩
    replace hbl : Below w.heap.size w wr.drew := hbl.drew
    replace Rb := Rb.drew
    replace RR := RR.drew
    replace Rg := Rg.drew
    replace ty : TyCods D w.heap.size wr.drew (.slice A7 e c7) := ty
    generalize wr.drew = wd at hHeld hbl Rb RR Rg ty ⊢
    refine tk (i := 0) ?_
    try simp only [ap]
    refine tk (i := 2) ?_
    try simp only [ap]
    refine tk (i := 3) ?_
    try simp only [ap]
    refine tk (i := 4) ?_
    try simp only [ap]
    refine tk (i := 5) ?_
    try simp only [ap]
    refine tk (i := 6) ?_
    try simp only [ap]
    refine reg_call2 (i := 1) (j := 7) (by kernel_rfl) rfl rfl (fun K hK => ?_) (fun K hK => ?_)
    · have k1 : wd.cell? ⟨w.heap.size + 1 + 1, 0, none⟩ = some (.slice A7 e c7) := Rg.cell 0
      go_simp
      refine hK.out _ _ ?_ (fun hHeld => ?_)
      · exact ⟨Rb.cell 0, ((RS.below hbl hbS).cell _).trans q0, ((RS.below hbl hbS).cell _).trans q1, ((RS.below hbl hbS).cell _).trans q2⟩
      clear hK K
      try simp only [ap]
      refine reg_call (i := 7) (by kernel_rfl) rfl (fun K hK => ?_)
      go_simp
      refine (copy_ok lo wd hD m1 r1 A9 nb cb hm1 hr1 (tb0.keep (Chg.below hbl)) hnb).mono ?_
      rintro e_ w8 ⟨v, rfl, ⟨m, r, Aq, nq, cq, rfl, hm, hr, tb8, hnq⟩, nb8⟩
      replace tb8 := tb8.lower hbl.size
      have hbl8 : Below w.heap.size w w8 := hbl.trans (nb8.mono hbl.size)
      have Rb8 := Rb.below nb8 Rb.lt
      have RR8 := RR.below nb8 RR.lt
      have Rg8 := Rg.below nb8 Rg.lt
      have ty8 := ty.keep (Chg.below (lo := w.heap.size) nb8)
      refine hK.out _ _ ?_ (fun hHeld => ?_)
      · exact ⟨Rb8.cell 0, ((RS.below hbl8 hbS).cell _).trans q0, ((RS.below hbl8 hbS).cell _).trans q1, ((RS.below hbl8 hbS).cell _).trans q2⟩
      clear hK K
      try simp only [ap]
      refine reg_call (i := 8) (by kernel_rfl) rfl (fun K hK => ?_)
      go_simp
      have RbR := Rb8.alloc (.cells #[.int .i64 (m : Int), .int .i64 (r : Int), .slice Aq nq cq] 39)
      have RRR := RR8.alloc (.cells #[.int .i64 (m : Int), .int .i64 (r : Int), .slice Aq nq cq] 39)
      have RgR := Rg8.alloc (.cells #[.int .i64 (m : Int), .int .i64 (r : Int), .slice Aq nq cq] 39)
      have hblR : Below w.heap.size w (w8.alloc (.cells #[.int .i64 (m : Int), .int .i64 (r : Int), .slice Aq nq cq] 39)) := hbl8.alloc hbl8.size _
      refine hK.out _ _ ?_ (fun hHeld => ?_)
      · exact ⟨RbR.cell 0, ((RS.below hblR hbS).cell _).trans q0, ((RS.below hblR hbS).cell _).trans q1, ((RS.below hblR hbS).cell _).trans q2⟩
      clear hK K
      try simp only [ap]
      refine reg_call (i := 9) (by kernel_rfl) rfl (fun K hK => ?_)
      obtain ⟨A10, c10, w9, r9, ty9, kp9, hf9, rr, g9, hr9⟩ := append_cod (D := D) w8 w.heap.size A7 e c7 ty8 m r (.slice Aq nq cq) hm hr tb8 ⟨_, _, _, rfl, hnq⟩ (by omega) hbl8.size
      rw [if_pos (show Region.wanted _ _ = true by kernel_rfl)]
      refine Lib.wp_append_run_sl _ _ _ 26 rfl _ _ rfl rfl r9 ?_
      clear r9
      have Rg9 := hf9 _ _ _ (by decide) RgR
      have Rb9 := hf9 _ _ _ (by decide) RbR
      have RR9 := hf9 _ _ _ (by decide) RRR
      have hbl9 : Below w.heap.size w w9 := grown_below hblR hblR.size g9 hr9
      have k9 : w9.cell? ⟨w.heap.size + 1 + 1, 0, none⟩ = some (.slice A7 e c7) := Rg9.cell 0
      have f9 : w9.frozen? ⟨w.heap.size + 1 + 1, 0, none⟩ = false := Rg9.frozen 0
      refine hK.out _ _ ?_ (fun hHeld => ?_)
      · exact ⟨Rb9.cell 0, ((RS.below hbl9 hbS).cell _).trans q0, ((RS.below hbl9 hbS).cell _).trans q1, ((RS.below hbl9 hbS).cell _).trans q2⟩
      clear hK K
      try simp only [ap]
      refine tk (i := 10) ?_
      try simp only [ap]
      refine reg_call (i := 11) (by kernel_rfl) rfl (fun K hK => ?_)
      have ch10 : Chg D w.heap.size w9 (w9.setCell ⟨w.heap.size + 1 + 1, 0, none⟩ (.slice A10 (e + 1) c10)) := Chg.set Rg9 (OK.ofCods ty9)
      have Rg10 := Rg9.set_ 0 (.slice A10 (e + 1) c10)
      have Rb10 := Rb9.far (p := ⟨w.heap.size + 1 + 1, 0, none⟩) (by show w.heap.size ≠ w.heap.size + 1 + 1; omega) (.slice A10 (e + 1) c10)
      have RR10 := RR9.far (p := ⟨w.heap.size + 1 + 1, 0, none⟩) (by show w.heap.size + 1 ≠ w.heap.size + 1 + 1; omega) (.slice A10 (e + 1) c10)
      have hbl10 : Below w.heap.size w (w9.setCell ⟨w.heap.size + 1 + 1, 0, none⟩ (.slice A10 (e + 1) c10)) := hbl9.setCell (p := ⟨w.heap.size + 1 + 1, 0, none⟩) (by show w.heap.size ≤ w.heap.size + 1 + 1; omega) _
      have hS10 : (w9.setCell ⟨w.heap.size + 1 + 1, 0, none⟩ (.slice A10 (e + 1) c10)).cell? ⟨w.heap.size, 0, none⟩ = some (.slice (some ⟨bS, 0, none⟩) n c) ∧ (w9.setCell ⟨w.heap.size + 1 + 1, 0, none⟩ (.slice A10 (e + 1) c10)).cell? ⟨bS, e * 3, none⟩ = some (.int .i64 (m1 : Int)) ∧ (w9.setCell ⟨w.heap.size + 1 + 1, 0, none⟩ (.slice A10 (e + 1) c10)).cell? ⟨bS, e * 3 + 1, none⟩ = some (.int .i64 (r1 : Int)) ∧ (w9.setCell ⟨w.heap.size + 1 + 1, 0, none⟩ (.slice A10 (e + 1) c10)).cell? ⟨bS, e * 3 + 2, none⟩ = some (.slice A9 nb cb) := by exact ⟨Rb10.cell 0, ((RS.below hbl10 hbS).cell _).trans q0, ((RS.below hbl10 hbS).cell _).trans q1, ((RS.below hbl10 hbS).cell _).trans q2⟩
      go_simp
      refine hK.out _ _ ?_ (fun hHeld => ?_)
      · exact hS10
      clear hK K
      try simp only [ap]
      refine wpAnyH_done (by kernel_rfl) ?_ _
      go_wp2_with fail
      go_roundw
      case rel => exact ⟨e + 1, A10, c10, by go_num, by omega, Rg10, ty9.keep ch10, Rb10, RR10, hbl10⟩
      case measure => simp [intOf]; omega
    go_simp
    refine (copy_ok lo wd hD m1 r1 A9 nb cb hm1 hr1 (tb0.keep (Chg.below hbl)) hnb).mono ?_
    rintro e_ w8 ⟨v, rfl, ⟨m, r, Aq, nq, cq, rfl, hm, hr, tb8, hnq⟩, nb8⟩
    replace tb8 := tb8.lower hbl.size
    have hbl8 : Below w.heap.size w w8 := hbl.trans (nb8.mono hbl.size)
    have Rb8 := Rb.below nb8 Rb.lt
    have RR8 := RR.below nb8 RR.lt
    have Rg8 := Rg.below nb8 Rg.lt
    have ty8 := ty.keep (Chg.below (lo := w.heap.size) nb8)
    refine hK.out _ _ ?_ (fun hHeld => ?_)
    · exact ⟨Rb8.cell 0, ((RS.below hbl8 hbS).cell _).trans q0, ((RS.below hbl8 hbS).cell _).trans q1, ((RS.below hbl8 hbS).cell _).trans q2⟩
    clear hK K
    try simp only [ap]
    refine reg_call2 (i := 1) (j := 8) (by kernel_rfl) rfl rfl (fun K hK => ?_) (fun K hK => ?_)
    · have k1 : w8.cell? ⟨w.heap.size + 1 + 1, 0, none⟩ = some (.slice A7 e c7) := Rg8.cell 0
      go_simp
      refine hK.out _ _ ?_ (fun hHeld => ?_)
      · exact ⟨Rb8.cell 0, ((RS.below hbl8 hbS).cell _).trans q0, ((RS.below hbl8 hbS).cell _).trans q1, ((RS.below hbl8 hbS).cell _).trans q2⟩
      clear hK K
      try simp only [ap]
      refine reg_call (i := 8) (by kernel_rfl) rfl (fun K hK => ?_)
      go_simp
      have RbR := Rb8.alloc (.cells #[.int .i64 (m : Int), .int .i64 (r : Int), .slice Aq nq cq] 39)
      have RRR := RR8.alloc (.cells #[.int .i64 (m : Int), .int .i64 (r : Int), .slice Aq nq cq] 39)
      have RgR := Rg8.alloc (.cells #[.int .i64 (m : Int), .int .i64 (r : Int), .slice Aq nq cq] 39)
      have hblR : Below w.heap.size w (w8.alloc (.cells #[.int .i64 (m : Int), .int .i64 (r : Int), .slice Aq nq cq] 39)) := hbl8.alloc hbl8.size _
      refine hK.out _ _ ?_ (fun hHeld => ?_)
      · exact ⟨RbR.cell 0, ((RS.below hblR hbS).cell _).trans q0, ((RS.below hblR hbS).cell _).trans q1, ((RS.below hblR hbS).cell _).trans q2⟩
      clear hK K
      try simp only [ap]
      refine reg_call (i := 9) (by kernel_rfl) rfl (fun K hK => ?_)
      obtain ⟨A10, c10, w9, r9, ty9, kp9, hf9, rr, g9, hr9⟩ := append_cod (D := D) w8 w.heap.size A7 e c7 ty8 m r (.slice Aq nq cq) hm hr tb8 ⟨_, _, _, rfl, hnq⟩ (by omega) hbl8.size
      rw [if_pos (show Region.wanted _ _ = true by kernel_rfl)]
      refine Lib.wp_append_run_sl _ _ _ 26 rfl _ _ rfl rfl r9 ?_
      clear r9
      have Rg9 := hf9 _ _ _ (by decide) RgR
      have Rb9 := hf9 _ _ _ (by decide) RbR
      have RR9 := hf9 _ _ _ (by decide) RRR
      have hbl9 : Below w.heap.size w w9 := grown_below hblR hblR.size g9 hr9
      have k9 : w9.cell? ⟨w.heap.size + 1 + 1, 0, none⟩ = some (.slice A7 e c7) := Rg9.cell 0
      have f9 : w9.frozen? ⟨w.heap.size + 1 + 1, 0, none⟩ = false := Rg9.frozen 0
      refine hK.out _ _ ?_ (fun hHeld => ?_)
      · exact ⟨Rb9.cell 0, ((RS.below hbl9 hbS).cell _).trans q0, ((RS.below hbl9 hbS).cell _).trans q1, ((RS.below hbl9 hbS).cell _).trans q2⟩
      clear hK K
      try simp only [ap]
      refine tk (i := 10) ?_
      try simp only [ap]
      refine reg_call (i := 11) (by kernel_rfl) rfl (fun K hK => ?_)
      have ch10 : Chg D w.heap.size w9 (w9.setCell ⟨w.heap.size + 1 + 1, 0, none⟩ (.slice A10 (e + 1) c10)) := Chg.set Rg9 (OK.ofCods ty9)
      have Rg10 := Rg9.set_ 0 (.slice A10 (e + 1) c10)
      have Rb10 := Rb9.far (p := ⟨w.heap.size + 1 + 1, 0, none⟩) (by show w.heap.size ≠ w.heap.size + 1 + 1; omega) (.slice A10 (e + 1) c10)
      have RR10 := RR9.far (p := ⟨w.heap.size + 1 + 1, 0, none⟩) (by show w.heap.size + 1 ≠ w.heap.size + 1 + 1; omega) (.slice A10 (e + 1) c10)
      have hbl10 : Below w.heap.size w (w9.setCell ⟨w.heap.size + 1 + 1, 0, none⟩ (.slice A10 (e + 1) c10)) := hbl9.setCell (p := ⟨w.heap.size + 1 + 1, 0, none⟩) (by show w.heap.size ≤ w.heap.size + 1 + 1; omega) _
      have hS10 : (w9.setCell ⟨w.heap.size + 1 + 1, 0, none⟩ (.slice A10 (e + 1) c10)).cell? ⟨w.heap.size, 0, none⟩ = some (.slice (some ⟨bS, 0, none⟩) n c) ∧ (w9.setCell ⟨w.heap.size + 1 + 1, 0, none⟩ (.slice A10 (e + 1) c10)).cell? ⟨bS, e * 3, none⟩ = some (.int .i64 (m1 : Int)) ∧ (w9.setCell ⟨w.heap.size + 1 + 1, 0, none⟩ (.slice A10 (e + 1) c10)).cell? ⟨bS, e * 3 + 1, none⟩ = some (.int .i64 (r1 : Int)) ∧ (w9.setCell ⟨w.heap.size + 1 + 1, 0, none⟩ (.slice A10 (e + 1) c10)).cell? ⟨bS, e * 3 + 2, none⟩ = some (.slice A9 nb cb) := by exact ⟨Rb10.cell 0, ((RS.below hbl10 hbS).cell _).trans q0, ((RS.below hbl10 hbS).cell _).trans q1, ((RS.below hbl10 hbS).cell _).trans q2⟩
      go_simp
      refine hK.out _ _ ?_ (fun hHeld => ?_)
      · exact hS10
      clear hK K
      try simp only [ap]
      refine wpAnyH_done (by kernel_rfl) ?_ _
      go_wp2_with fail
      go_roundw
      case rel => exact ⟨e + 1, A10, c10, by go_num, by omega, Rg10, ty9.keep ch10, Rb10, RR10, hbl10⟩
      case measure => simp [intOf]; omega
    go_simp
    have RbR := Rb8.alloc (.cells #[.int .i64 (m : Int), .int .i64 (r : Int), .slice Aq nq cq] 39)
    have RRR := RR8.alloc (.cells #[.int .i64 (m : Int), .int .i64 (r : Int), .slice Aq nq cq] 39)
    have RgR := Rg8.alloc (.cells #[.int .i64 (m : Int), .int .i64 (r : Int), .slice Aq nq cq] 39)
    have hblR : Below w.heap.size w (w8.alloc (.cells #[.int .i64 (m : Int), .int .i64 (r : Int), .slice Aq nq cq] 39)) := hbl8.alloc hbl8.size _
    refine hK.out _ _ ?_ (fun hHeld => ?_)
    · exact ⟨RbR.cell 0, ((RS.below hblR hbS).cell _).trans q0, ((RS.below hblR hbS).cell _).trans q1, ((RS.below hblR hbS).cell _).trans q2⟩
    clear hK K
    try simp only [ap]
    refine reg_call (i := 1) (by kernel_rfl) rfl (fun K hK => ?_)
    have k1 : (w8.alloc (.cells #[.int .i64 (m : Int), .int .i64 (r : Int), .slice Aq nq cq] 39)).cell? ⟨w.heap.size + 1 + 1, 0, none⟩ = some (.slice A7 e c7) := RgR.cell 0
    go_simp
    refine hK.out _ _ ?_ (fun hHeld => ?_)
    · exact ⟨RbR.cell 0, ((RS.below hblR hbS).cell _).trans q0, ((RS.below hblR hbS).cell _).trans q1, ((RS.below hblR hbS).cell _).trans q2⟩
    clear hK K
    try simp only [ap]
    refine reg_call (i := 9) (by kernel_rfl) rfl (fun K hK => ?_)
    obtain ⟨A10, c10, w9, r9, ty9, kp9, hf9, rr, g9, hr9⟩ := append_cod (D := D) w8 w.heap.size A7 e c7 ty8 m r (.slice Aq nq cq) hm hr tb8 ⟨_, _, _, rfl, hnq⟩ (by omega) hbl8.size
    rw [if_pos (show Region.wanted _ _ = true by kernel_rfl)]
    refine Lib.wp_append_run_sl _ _ _ 26 rfl _ _ rfl rfl r9 ?_
    clear r9
    have Rg9 := hf9 _ _ _ (by decide) RgR
    have Rb9 := hf9 _ _ _ (by decide) RbR
    have RR9 := hf9 _ _ _ (by decide) RRR
    have hbl9 : Below w.heap.size w w9 := grown_below hblR hblR.size g9 hr9
    have k9 : w9.cell? ⟨w.heap.size + 1 + 1, 0, none⟩ = some (.slice A7 e c7) := Rg9.cell 0
    have f9 : w9.frozen? ⟨w.heap.size + 1 + 1, 0, none⟩ = false := Rg9.frozen 0
    refine hK.out _ _ ?_ (fun hHeld => ?_)
    · exact ⟨Rb9.cell 0, ((RS.below hbl9 hbS).cell _).trans q0, ((RS.below hbl9 hbS).cell _).trans q1, ((RS.below hbl9 hbS).cell _).trans q2⟩
    clear hK K
    try simp only [ap]
    refine tk (i := 10) ?_
    try simp only [ap]
    refine reg_call (i := 11) (by kernel_rfl) rfl (fun K hK => ?_)
    have ch10 : Chg D w.heap.size w9 (w9.setCell ⟨w.heap.size + 1 + 1, 0, none⟩ (.slice A10 (e + 1) c10)) := Chg.set Rg9 (OK.ofCods ty9)
    have Rg10 := Rg9.set_ 0 (.slice A10 (e + 1) c10)
    have Rb10 := Rb9.far (p := ⟨w.heap.size + 1 + 1, 0, none⟩) (by show w.heap.size ≠ w.heap.size + 1 + 1; omega) (.slice A10 (e + 1) c10)
    have RR10 := RR9.far (p := ⟨w.heap.size + 1 + 1, 0, none⟩) (by show w.heap.size + 1 ≠ w.heap.size + 1 + 1; omega) (.slice A10 (e + 1) c10)
    have hbl10 : Below w.heap.size w (w9.setCell ⟨w.heap.size + 1 + 1, 0, none⟩ (.slice A10 (e + 1) c10)) := hbl9.setCell (p := ⟨w.heap.size + 1 + 1, 0, none⟩) (by show w.heap.size ≤ w.heap.size + 1 + 1; omega) _
    have hS10 : (w9.setCell ⟨w.heap.size + 1 + 1, 0, none⟩ (.slice A10 (e + 1) c10)).cell? ⟨w.heap.size, 0, none⟩ = some (.slice (some ⟨bS, 0, none⟩) n c) ∧ (w9.setCell ⟨w.heap.size + 1 + 1, 0, none⟩ (.slice A10 (e + 1) c10)).cell? ⟨bS, e * 3, none⟩ = some (.int .i64 (m1 : Int)) ∧ (w9.setCell ⟨w.heap.size + 1 + 1, 0, none⟩ (.slice A10 (e + 1) c10)).cell? ⟨bS, e * 3 + 1, none⟩ = some (.int .i64 (r1 : Int)) ∧ (w9.setCell ⟨w.heap.size + 1 + 1, 0, none⟩ (.slice A10 (e + 1) c10)).cell? ⟨bS, e * 3 + 2, none⟩ = some (.slice A9 nb cb) := by exact ⟨Rb10.cell 0, ((RS.below hbl10 hbS).cell _).trans q0, ((RS.below hbl10 hbS).cell _).trans q1, ((RS.below hbl10 hbS).cell _).trans q2⟩
    go_simp
    refine hK.out _ _ ?_ (fun hHeld => ?_)
    · exact hS10
    clear hK K
    try simp only [ap]
    refine wpAnyH_done (by kernel_rfl) ?_ _
    go_wp2_with fail
    go_roundw
    case rel => exact ⟨e + 1, A10, c10, by go_num, by omega, Rg10, ty9.keep ch10, Rb10, RR10, hbl10⟩
    case measure => simp [intOf]; omega
end Go.Proofs.Ytgcjccoglcgcoaa
