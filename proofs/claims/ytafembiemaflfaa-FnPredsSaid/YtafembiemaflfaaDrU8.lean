/-
  The copies of codes and units: l7Copy, l7CopyUnit. Condition: the memory goes by types.
-/
import Derived.Test.YtafembiemaflfaaDrU7
namespace Go.Proofs.Ytafembiemaflfaa
open Go.RowKit Go.ChangeShapes Go.WideShapes Go.Deep
variable {D : Nat}
set_option linter.unusedVariables false
set_option linter.unusedSimpArgs false
theorem OK.codN {lo : Nat} {w : World} {j m : Nat} (hj : j = 0) (hm : m ≤ 3) : OK D lo w 25 j (.int .i64 (m : Int)) := Or.inr (Or.inr (Or.inr (Or.inr (Or.inl ⟨rfl, by subst hj; unfold CodP; rw [if_pos rfl]; exact ⟨m, hm, rfl⟩⟩))))
theorem OK.codR {lo : Nat} {w : World} {j r : Nat} (hj : j = 1) (hr : r ≤ 300) : OK D lo w 25 j (.int .i64 (r : Int)) := Or.inr (Or.inr (Or.inr (Or.inr (Or.inl ⟨rfl, by subst hj; unfold CodP; rw [if_neg (by decide), if_pos rfl]; exact ⟨r, hr, rfl⟩⟩))))
theorem row_set3 {w : World} {b : Nat} {t : TypeId} {x0 x1 x2 : Value} (R : Row w b t #[x0, x1, x2]) (u0 u1 u2 : Value) : Row (set3 w b u0 u1 u2) b t #[u0, u1, u2] := by
  have := ((R.set_ 0 u0).set_ 1 u1).set_ 2 u2
  unfold set3
  simpa using this
theorem below_set3 {w0 w : World} {B b : Nat} (h : Below B w0 w) (hb : B ≤ b) (u0 u1 u2 : Value) : Below B w0 (set3 w b u0 u1 u2) :=
  ((h.setCell (p := ⟨b, 0, none⟩) hb u0).setCell (p := ⟨b, 1, none⟩) hb u1).setCell (p := ⟨b, 2, none⟩) hb u2
/-- a code as a copy answers it -/
def CodC (D lo : Nat) (w : World) (v : Value) : Prop := ∃ (m r : Nat) (A : Option Addr) (n c : Nat), v = .agg #[.int .i64 (m : Int), .int .i64 (r : Int), .slice A n c] ∧ m ≤ 3 ∧ r ≤ 300 ∧ TyBlks D lo w (.slice A n c) ∧ 0 < n
theorem copyc_fin {w wr : World} {rb : Nat} {z0 z1 z2 : Value} {A : Option Addr} {m r n c : Nat} (hrb : w.heap.size ≤ rb) (RR : Row wr rb 25 #[z0, z1, z2]) (ty : TyBlks D w.heap.size wr (.slice A n c)) (hm : m ≤ 3) (hr : r ≤ 300) (hn : 0 < n) (hbl : Below w.heap.size w wr) :
    CpP (fun w' v => CodC D w.heap.size w' v) w (.returned (.agg #[.int .i64 (m : Int), .int .i64 (r : Int), .slice A n c])) (set3 wr rb (.int .i64 (m : Int)) (.int .i64 (r : Int)) (.slice A n c)) := by
  have R0 := RR.set_ 0 (.int .i64 (m : Int))
  have R1 := R0.set_ 1 (.int .i64 (r : Int))
  have ch0 : Chg D w.heap.size wr _ := Chg.set RR (OK.codN rfl hm)
  have ty0 := ty.keep ch0
  have ch1 : Chg D w.heap.size _ _ := Chg.set R0 (OK.codR rfl hr)
  have ty1 := ty0.keep ch1
  have ch2 : Chg D w.heap.size _ _ := Chg.set R1 (OK.codB ty1 hn)
  exact ⟨_, rfl, ⟨m, r, A, n, c, rfl, hm, hr, ty1.keep ch2, hn⟩, below_set3 hbl hrb _ _ _⟩
set_option maxRecDepth 100000 in
set_option maxHeartbeats 8000000 in
theorem copy_ok (lo : Nat) (w : World) (hD : D ≤ 6) (m1 r1 : Nat) (A9 : Option Addr) (nb cb : Nat) (hm1 : m1 ≤ 3) (hr1 : r1 ≤ 300) (tb : TyBlks D lo w (.slice A9 nb cb)) (hnb : 0 < nb) :
    Calls Try.prog 60 #[.agg #[.int .i64 (m1 : Int), .int .i64 (r1 : Int), .slice A9 nb cb]] w (CpP (fun w' v => CodC D w.heap.size w' v) w) := by
  obtain ⟨bS, _, _, _, _, _, _, _, _, _, _, _, _, rfl, _⟩ := blks_row tb hnb
  have hn10 : nb ≤ 10 := by
    obtain ⟨_, _, _, hfm, hn0, _, _⟩ := TyS.form tb
    injection hfm with _ hfm _
    omega
  go_enter Try.func60, Try.ntmps60
  go_upto_region 2 with fail
  have hbl : Below w.heap.size w (((w.alloc (.cells #[.int .i64 (m1 : Int), .int .i64 (r1 : Int), .slice (some ⟨bS, 0, none⟩) nb cb] 25)).alloc (.cells #[.int .i64 0, .int .i64 0, .slice none 0 0] 25)).alloc (.cells #[.int .i64 (m1 : Int), .int .i64 (r1 : Int), .slice none 0 0] 25)) := (((Below.refl _ w).alloc (Nat.le_refl _) _).alloc (by simp) _).alloc (by simp; omega) _
  have Rb : Row (((w.alloc (.cells #[.int .i64 (m1 : Int), .int .i64 (r1 : Int), .slice (some ⟨bS, 0, none⟩) nb cb] 25)).alloc (.cells #[.int .i64 0, .int .i64 0, .slice none 0 0] 25)).alloc (.cells #[.int .i64 (m1 : Int), .int .i64 (r1 : Int), .slice none 0 0] 25)) w.heap.size 25 #[.int .i64 (m1 : Int), .int .i64 (r1 : Int), .slice (some ⟨bS, 0, none⟩) nb cb] := ((Row.new w _ _).alloc _).alloc _
  have RR : Row (((w.alloc (.cells #[.int .i64 (m1 : Int), .int .i64 (r1 : Int), .slice (some ⟨bS, 0, none⟩) nb cb] 25)).alloc (.cells #[.int .i64 0, .int .i64 0, .slice none 0 0] 25)).alloc (.cells #[.int .i64 (m1 : Int), .int .i64 (r1 : Int), .slice none 0 0] 25)) (w.heap.size + 1) 25 #[.int .i64 0, .int .i64 0, .slice none 0 0] := by simpa using (Row.new (w.alloc (.cells #[.int .i64 (m1 : Int), .int .i64 (r1 : Int), .slice (some ⟨bS, 0, none⟩) nb cb] 25)) 25 #[.int .i64 0, .int .i64 0, .slice none 0 0]).alloc (.cells #[.int .i64 (m1 : Int), .int .i64 (r1 : Int), .slice none 0 0] 25)
  have Rg : Row (((w.alloc (.cells #[.int .i64 (m1 : Int), .int .i64 (r1 : Int), .slice (some ⟨bS, 0, none⟩) nb cb] 25)).alloc (.cells #[.int .i64 0, .int .i64 0, .slice none 0 0] 25)).alloc (.cells #[.int .i64 (m1 : Int), .int .i64 (r1 : Int), .slice none 0 0] 25)) (w.heap.size + 1 + 1) 25 #[.int .i64 (m1 : Int), .int .i64 (r1 : Int), .slice none 0 0] := by simpa using Row.new ((w.alloc (.cells #[.int .i64 (m1 : Int), .int .i64 (r1 : Int), .slice (some ⟨bS, 0, none⟩) nb cb] 25)).alloc (.cells #[.int .i64 0, .int .i64 0, .slice none 0 0] 25)) 25 #[.int .i64 (m1 : Int), .int .i64 (r1 : Int), .slice none 0 0]
  generalize ((w.alloc (.cells #[.int .i64 (m1 : Int), .int .i64 (r1 : Int), .slice (some ⟨bS, 0, none⟩) nb cb] 25)).alloc (.cells #[.int .i64 0, .int .i64 0, .slice none 0 0] 25)).alloc (.cells #[.int .i64 (m1 : Int), .int .i64 (r1 : Int), .slice none 0 0] 25) = w1 at hbl Rb RR Rg ⊢
  go_wp2_with fail
  go_loopw [4] (fun u wr => ∃ (e : Nat) (A7 : Option Addr) (c7 : Nat), u = .int .i64 (e : Int) ∧ e ≤ nb ∧ Row wr (w.heap.size + 1 + 1) 25 #[.int .i64 (m1 : Int), .int .i64 (r1 : Int), .slice A7 e c7] ∧ TyBlks D w.heap.size wr (.slice A7 e c7) ∧ Row wr w.heap.size 25 #[.int .i64 (m1 : Int), .int .i64 (r1 : Int), .slice (some ⟨bS, 0, none⟩) nb cb] ∧ Row wr (w.heap.size + 1) 25 #[.int .i64 0, .int .i64 0, .slice none 0 0] ∧ Below w.heap.size w wr) (fun u _ => nb - (intOf u).toNat)
  case atStart => exact ⟨0, none, 0, rfl, by omega, Rg, TyBlks.nil_ _ _, Rb, RR, hbl⟩
  case round =>
    clear Rg Rb RR hbl
    obtain ⟨e, A7, c7, rfl, he, Rg, ty, Rb, RR, hbl⟩ := hrel
    have x0 : wr.cell? ⟨w.heap.size, 2, none⟩ = some (.slice (some ⟨bS, 0, none⟩) nb cb) := Rb.cell 2
    by_cases hen : e < nb
    case neg =>
      have hen1 : ¬ (e : Int) < (nb : Int) := by omega
      obtain rfl : e = nb := by omega
      have F := Lib.hid (copyc_fin (w := w) (rb := w.heap.size + 1) (by omega) RR ty hm1 hr1 hnb hbl)
      have k0 : wr.cell? ⟨w.heap.size + 1 + 1, 0, none⟩ = some (.int .i64 (m1 : Int)) := Rg.cell 0
      have k1 : wr.cell? ⟨w.heap.size + 1 + 1, 1, none⟩ = some (.int .i64 (r1 : Int)) := Rg.cell 1
      have k2 : wr.cell? ⟨w.heap.size + 1 + 1, 2, none⟩ = some (.slice A7 e c7) := Rg.cell 2
      have s0 : wr.cell? ⟨w.heap.size + 1, 0, none⟩ = some (.int .i64 0) := RR.cell 0
      have s1 : wr.cell? ⟨w.heap.size + 1, 1, none⟩ = some (.int .i64 0) := RR.cell 1
      have s2 : wr.cell? ⟨w.heap.size + 1, 2, none⟩ = some (.slice none 0 0) := RR.cell 2
      have sf0 : wr.frozen? ⟨w.heap.size + 1, 0, none⟩ = false := RR.frozen 0
      have sf1 : wr.frozen? ⟨w.heap.size + 1, 1, none⟩ = false := RR.frozen 1
      have sf2 : wr.frozen? ⟨w.heap.size + 1, 2, none⟩ = false := RR.frozen 2
      go_wp2_with fail
      refine bodyPost_ret (v := .agg #[.int .i64 (m1 : Int), .int .i64 (r1 : Int), .slice A7 e c7]) (by simp [results, Try.results60, go_sem, s0, s1, s2]) rfl F.out
    obtain ⟨bS', A0, n0, c0, A1, n1, c1, jp, on, A4, n4, c4, cur, eA, hlS, RS, q0, q1, q2, q3, q4, tp0, ti0, hj0, ho0, tv0⟩ := blks_row tb hen
    injection eA with eA
    injection eA with eA
    subst eA
    have hbS := RS.lt
    have hen1 : (e : Int) < (nb : Int) := by omega
    go_wp2_with fail
    clear x0
    refine wp_region_held_drew (S := fun w' => (w'.cell? ⟨w.heap.size, 2, none⟩ = some (.slice (some ⟨bS, 0, none⟩) nb cb) ∧ w'.cell? ⟨bS, e * 5, none⟩ = some (.slice A0 n0 c0) ∧ w'.cell? ⟨bS, e * 5 + 1, none⟩ = some (.slice A1 n1 c1) ∧ w'.cell? ⟨bS, e * 5 + 2, none⟩ = some (.int .i64 jp) ∧ w'.cell? ⟨bS, e * 5 + 3, none⟩ = some (.int .i64 on) ∧ w'.cell? ⟨bS, e * 5 + 4, none⟩ = some (.slice A4 n4 c4))) (by kernel_rfl) ?_ (fun hHeld => ?_)
    · exact ⟨Rb.cell 2, ((RS.below hbl hbS).cell _).trans q0, ((RS.below hbl hbS).cell _).trans q1, ((RS.below hbl hbS).cell _).trans q2, ((RS.below hbl hbS).cell _).trans q3, ((RS.below hbl hbS).cell _).trans q4⟩
    replace hbl : Below w.heap.size w wr.drew := hbl.drew
    replace Rb := Rb.drew
    replace RR := RR.drew
    replace Rg := Rg.drew
    replace ty : TyBlks D w.heap.size wr.drew (.slice A7 e c7) := ty
    generalize wr.drew = wd at hHeld hbl Rb RR Rg ty ⊢
    refine reg_take (i := 0) (v := ?v17) rfl (by kernel_rfl) (by kernel_rfl) (by kernel_rfl) (fun _ _ _ h => h) (Or.inl ⟨by kernel_rfl, ?h17⟩) (by assumption) ?r17
    case h17 => (intro w hSw; (try dsimp only at hSw); go_simp; try with_reducible rfl)
    try simp only [Act.put, List.setIfInBounds_toArray, List.set_cons_zero, List.set_cons_succ]
    refine reg_take (i := 2) (v := ?v18) rfl (by kernel_rfl) (by kernel_rfl) (by kernel_rfl) (fun _ _ _ h => h) (Or.inl ⟨by kernel_rfl, ?h18⟩) (by assumption) ?r18
    case h18 => (intro w hSw; (try dsimp only at hSw); go_simp; try with_reducible rfl)
    try simp only [Act.put, List.setIfInBounds_toArray, List.set_cons_zero, List.set_cons_succ]
    refine reg_take (i := 3) (v := ?v19) rfl (by kernel_rfl) (by kernel_rfl) (by kernel_rfl) (fun _ _ _ h => h) (Or.inl ⟨by kernel_rfl, ?h19⟩) (by assumption) ?r19
    case h19 => (intro w hSw; (try dsimp only at hSw); go_simp; try with_reducible rfl)
    try simp only [Act.put, List.setIfInBounds_toArray, List.set_cons_zero, List.set_cons_succ]
    refine reg_take (i := 4) (v := ?v20) rfl (by kernel_rfl) (by kernel_rfl) (by kernel_rfl) (fun _ _ _ h => h) (Or.inl ⟨by kernel_rfl, ?h20⟩) (by assumption) ?r20
    case h20 => (intro w hSw; (try dsimp only at hSw); go_simp; try with_reducible rfl)
    try simp only [Act.put, List.setIfInBounds_toArray, List.set_cons_zero, List.set_cons_succ]
    refine reg_take (i := 5) (v := ?v21) rfl (by kernel_rfl) (by kernel_rfl) (by kernel_rfl) (fun _ _ _ h => h) (Or.inl ⟨by kernel_rfl, ?h21⟩) (by assumption) ?r21
    case h21 => (intro w hSw; (try dsimp only at hSw); go_simp; try with_reducible rfl)
    try simp only [Act.put, List.setIfInBounds_toArray, List.set_cons_zero, List.set_cons_succ]
    refine reg_take (i := 6) (v := ?v22) rfl (by kernel_rfl) (by kernel_rfl) (by kernel_rfl) (fun _ _ _ h => h) (Or.inl ⟨by kernel_rfl, ?h22⟩) (by assumption) ?r22
    case h22 => (intro w hSw; (try dsimp only at hSw); go_simp; try with_reducible rfl)
    try simp only [Act.put, List.setIfInBounds_toArray, List.set_cons_zero, List.set_cons_succ]
    refine reg_call2 (i := 1) (j := 7) (by kernel_rfl) rfl rfl (fun K hK => ?_) (fun K hK => ?_)
    · have k1 : wd.cell? ⟨w.heap.size + 1 + 1, 2, none⟩ = some (.slice A7 e c7) := Rg.cell 2
      go_simp
      refine hK.out _ _ ?_ (fun hHeld => ?_)
      · exact ⟨Rb.cell 2, ((RS.below hbl hbS).cell _).trans q0, ((RS.below hbl hbS).cell _).trans q1, ((RS.below hbl hbS).cell _).trans q2, ((RS.below hbl hbS).cell _).trans q3, ((RS.below hbl hbS).cell _).trans q4⟩
      clear hK K
      try simp only [Act.put, List.setIfInBounds_toArray, List.set_cons_zero, List.set_cons_succ]
      refine reg_call (i := 7) (by kernel_rfl) rfl (fun K hK => ?_)
      go_simp
      refine (copyblk_ok lo wd hD A0 n0 c0 A1 n1 c1 jp on A4 n4 c4 (tp0.keep (Chg.below hbl)) (ti0.keep (Chg.below hbl)) hj0 ho0 (tv0.keep (Chg.below hbl))).mono ?_
      rintro e_ w8 ⟨v, rfl, ⟨B0, m0, d0, B1, m1, d1, jq, oq, B4, m4, d4, rfl, tp8, ti8, hj8, ho8, tv8⟩, nb8⟩
      replace tp8 := tp8.lower hbl.size
      replace ti8 := ti8.lower hbl.size
      replace tv8 := tv8.lower hbl.size
      have hbl8 : Below w.heap.size w w8 := hbl.trans (nb8.mono hbl.size)
      have Rb8 := Rb.below nb8 Rb.lt
      have RR8 := RR.below nb8 RR.lt
      have Rg8 := Rg.below nb8 Rg.lt
      have ty8 := ty.keep (Chg.below (lo := w.heap.size) nb8)
      refine hK.out _ _ ?_ (fun hHeld => ?_)
      · exact ⟨Rb8.cell 2, ((RS.below hbl8 hbS).cell _).trans q0, ((RS.below hbl8 hbS).cell _).trans q1, ((RS.below hbl8 hbS).cell _).trans q2, ((RS.below hbl8 hbS).cell _).trans q3, ((RS.below hbl8 hbS).cell _).trans q4⟩
      clear hK K
      try simp only [Act.put, List.setIfInBounds_toArray, List.set_cons_zero, List.set_cons_succ]
      refine reg_call (i := 8) (by kernel_rfl) rfl (fun K hK => ?_)
      go_simp
      have RbR := Rb8.alloc (.cells #[.slice B0 m0 d0, .slice B1 m1 d1, .int .i64 jq, .int .i64 oq, .slice B4 m4 d4] 34)
      have RRR := RR8.alloc (.cells #[.slice B0 m0 d0, .slice B1 m1 d1, .int .i64 jq, .int .i64 oq, .slice B4 m4 d4] 34)
      have RgR := Rg8.alloc (.cells #[.slice B0 m0 d0, .slice B1 m1 d1, .int .i64 jq, .int .i64 oq, .slice B4 m4 d4] 34)
      have hblR : Below w.heap.size w (w8.alloc (.cells #[.slice B0 m0 d0, .slice B1 m1 d1, .int .i64 jq, .int .i64 oq, .slice B4 m4 d4] 34)) := hbl8.alloc hbl8.size _
      refine hK.out _ _ ?_ (fun hHeld => ?_)
      · exact ⟨RbR.cell 2, ((RS.below hblR hbS).cell _).trans q0, ((RS.below hblR hbS).cell _).trans q1, ((RS.below hblR hbS).cell _).trans q2, ((RS.below hblR hbS).cell _).trans q3, ((RS.below hblR hbS).cell _).trans q4⟩
      clear hK K
      try simp only [Act.put, List.setIfInBounds_toArray, List.set_cons_zero, List.set_cons_succ]
      refine reg_call (i := 9) (by kernel_rfl) rfl (fun K hK => ?_)
      obtain ⟨A10, c10, w9, r9, ty9, kp9, hf9, rr, g9, hr9⟩ := append_blk (D := D) w8 w.heap.size A7 e c7 ty8 (.slice B0 m0 d0) (.slice B1 m1 d1) jq oq (.slice B4 m4 d4) tp8 ti8 hj8 ho8 tv8 (by omega) hbl8.size
      rw [if_pos (show Region.wanted _ _ = true by kernel_rfl)]
      refine Lib.wp_append_run_sl _ _ _ 23 rfl _ _ rfl rfl r9 ?_
      clear r9
      have Rg9 := hf9 _ _ _ (by decide) RgR
      have Rb9 := hf9 _ _ _ (by decide) RbR
      have RR9 := hf9 _ _ _ (by decide) RRR
      have hbl9 : Below w.heap.size w w9 := grown_below hblR hblR.size g9 hr9
      have k9 : w9.cell? ⟨w.heap.size + 1 + 1, 2, none⟩ = some (.slice A7 e c7) := Rg9.cell 2
      have f9 : w9.frozen? ⟨w.heap.size + 1 + 1, 2, none⟩ = false := Rg9.frozen 2
      refine hK.out _ _ ?_ (fun hHeld => ?_)
      · exact ⟨Rb9.cell 2, ((RS.below hbl9 hbS).cell _).trans q0, ((RS.below hbl9 hbS).cell _).trans q1, ((RS.below hbl9 hbS).cell _).trans q2, ((RS.below hbl9 hbS).cell _).trans q3, ((RS.below hbl9 hbS).cell _).trans q4⟩
      clear hK K
      try simp only [Act.put, List.setIfInBounds_toArray, List.set_cons_zero, List.set_cons_succ]
      refine reg_take (i := 10) (v := ?v23) rfl (by kernel_rfl) (by kernel_rfl) (by kernel_rfl) (fun _ _ _ h => h) (Or.inl ⟨by kernel_rfl, ?h23⟩) (by assumption) ?r23
      case h23 => (intro w hSw; (try dsimp only at hSw); go_simp; try with_reducible rfl)
      try simp only [Act.put, List.setIfInBounds_toArray, List.set_cons_zero, List.set_cons_succ]
      refine reg_call (i := 11) (by kernel_rfl) rfl (fun K hK => ?_)
      have ch10 : Chg D w.heap.size w9 (w9.setCell ⟨w.heap.size + 1 + 1, 2, none⟩ (.slice A10 (e + 1) c10)) := Chg.set Rg9 (OK.codB ty9 (by omega))
      have Rg10 := Rg9.set_ 2 (.slice A10 (e + 1) c10)
      have Rb10 := Rb9.far (p := ⟨w.heap.size + 1 + 1, 2, none⟩) (by show w.heap.size ≠ w.heap.size + 1 + 1; omega) (.slice A10 (e + 1) c10)
      have RR10 := RR9.far (p := ⟨w.heap.size + 1 + 1, 2, none⟩) (by show w.heap.size + 1 ≠ w.heap.size + 1 + 1; omega) (.slice A10 (e + 1) c10)
      have hbl10 : Below w.heap.size w (w9.setCell ⟨w.heap.size + 1 + 1, 2, none⟩ (.slice A10 (e + 1) c10)) := hbl9.setCell (p := ⟨w.heap.size + 1 + 1, 2, none⟩) (by show w.heap.size ≤ w.heap.size + 1 + 1; omega) _
      have hS10 : (w9.setCell ⟨w.heap.size + 1 + 1, 2, none⟩ (.slice A10 (e + 1) c10)).cell? ⟨w.heap.size, 2, none⟩ = some (.slice (some ⟨bS, 0, none⟩) nb cb) ∧ (w9.setCell ⟨w.heap.size + 1 + 1, 2, none⟩ (.slice A10 (e + 1) c10)).cell? ⟨bS, e * 5, none⟩ = some (.slice A0 n0 c0) ∧ (w9.setCell ⟨w.heap.size + 1 + 1, 2, none⟩ (.slice A10 (e + 1) c10)).cell? ⟨bS, e * 5 + 1, none⟩ = some (.slice A1 n1 c1) ∧ (w9.setCell ⟨w.heap.size + 1 + 1, 2, none⟩ (.slice A10 (e + 1) c10)).cell? ⟨bS, e * 5 + 2, none⟩ = some (.int .i64 jp) ∧ (w9.setCell ⟨w.heap.size + 1 + 1, 2, none⟩ (.slice A10 (e + 1) c10)).cell? ⟨bS, e * 5 + 3, none⟩ = some (.int .i64 on) ∧ (w9.setCell ⟨w.heap.size + 1 + 1, 2, none⟩ (.slice A10 (e + 1) c10)).cell? ⟨bS, e * 5 + 4, none⟩ = some (.slice A4 n4 c4) := by exact ⟨Rb10.cell 2, ((RS.below hbl10 hbS).cell _).trans q0, ((RS.below hbl10 hbS).cell _).trans q1, ((RS.below hbl10 hbS).cell _).trans q2, ((RS.below hbl10 hbS).cell _).trans q3, ((RS.below hbl10 hbS).cell _).trans q4⟩
      go_simp
      refine hK.out _ _ ?_ (fun hHeld => ?_)
      · exact hS10
      clear hK K
      try simp only [Act.put, List.setIfInBounds_toArray, List.set_cons_zero, List.set_cons_succ]
      refine wpAnyH_done (by kernel_rfl) ?_ _
      go_wp2_with fail
      go_roundw
      case rel => exact ⟨e + 1, A10, c10, by go_num, by omega, Rg10, ty9.keep ch10, Rb10, RR10, hbl10⟩
      case measure => simp [intOf]; omega
    go_simp
    refine (copyblk_ok lo wd hD A0 n0 c0 A1 n1 c1 jp on A4 n4 c4 (tp0.keep (Chg.below hbl)) (ti0.keep (Chg.below hbl)) hj0 ho0 (tv0.keep (Chg.below hbl))).mono ?_
    rintro e_ w8 ⟨v, rfl, ⟨B0, m0, d0, B1, m1, d1, jq, oq, B4, m4, d4, rfl, tp8, ti8, hj8, ho8, tv8⟩, nb8⟩
    replace tp8 := tp8.lower hbl.size
    replace ti8 := ti8.lower hbl.size
    replace tv8 := tv8.lower hbl.size
    have hbl8 : Below w.heap.size w w8 := hbl.trans (nb8.mono hbl.size)
    have Rb8 := Rb.below nb8 Rb.lt
    have RR8 := RR.below nb8 RR.lt
    have Rg8 := Rg.below nb8 Rg.lt
    have ty8 := ty.keep (Chg.below (lo := w.heap.size) nb8)
    refine hK.out _ _ ?_ (fun hHeld => ?_)
    · exact ⟨Rb8.cell 2, ((RS.below hbl8 hbS).cell _).trans q0, ((RS.below hbl8 hbS).cell _).trans q1, ((RS.below hbl8 hbS).cell _).trans q2, ((RS.below hbl8 hbS).cell _).trans q3, ((RS.below hbl8 hbS).cell _).trans q4⟩
    clear hK K
    try simp only [Act.put, List.setIfInBounds_toArray, List.set_cons_zero, List.set_cons_succ]
    refine reg_call2 (i := 1) (j := 8) (by kernel_rfl) rfl rfl (fun K hK => ?_) (fun K hK => ?_)
    · have k1 : w8.cell? ⟨w.heap.size + 1 + 1, 2, none⟩ = some (.slice A7 e c7) := Rg8.cell 2
      go_simp
      refine hK.out _ _ ?_ (fun hHeld => ?_)
      · exact ⟨Rb8.cell 2, ((RS.below hbl8 hbS).cell _).trans q0, ((RS.below hbl8 hbS).cell _).trans q1, ((RS.below hbl8 hbS).cell _).trans q2, ((RS.below hbl8 hbS).cell _).trans q3, ((RS.below hbl8 hbS).cell _).trans q4⟩
      clear hK K
      try simp only [Act.put, List.setIfInBounds_toArray, List.set_cons_zero, List.set_cons_succ]
      refine reg_call (i := 8) (by kernel_rfl) rfl (fun K hK => ?_)
      go_simp
      have RbR := Rb8.alloc (.cells #[.slice B0 m0 d0, .slice B1 m1 d1, .int .i64 jq, .int .i64 oq, .slice B4 m4 d4] 34)
      have RRR := RR8.alloc (.cells #[.slice B0 m0 d0, .slice B1 m1 d1, .int .i64 jq, .int .i64 oq, .slice B4 m4 d4] 34)
      have RgR := Rg8.alloc (.cells #[.slice B0 m0 d0, .slice B1 m1 d1, .int .i64 jq, .int .i64 oq, .slice B4 m4 d4] 34)
      have hblR : Below w.heap.size w (w8.alloc (.cells #[.slice B0 m0 d0, .slice B1 m1 d1, .int .i64 jq, .int .i64 oq, .slice B4 m4 d4] 34)) := hbl8.alloc hbl8.size _
      refine hK.out _ _ ?_ (fun hHeld => ?_)
      · exact ⟨RbR.cell 2, ((RS.below hblR hbS).cell _).trans q0, ((RS.below hblR hbS).cell _).trans q1, ((RS.below hblR hbS).cell _).trans q2, ((RS.below hblR hbS).cell _).trans q3, ((RS.below hblR hbS).cell _).trans q4⟩
      clear hK K
      try simp only [Act.put, List.setIfInBounds_toArray, List.set_cons_zero, List.set_cons_succ]
      refine reg_call (i := 9) (by kernel_rfl) rfl (fun K hK => ?_)
      obtain ⟨A10, c10, w9, r9, ty9, kp9, hf9, rr, g9, hr9⟩ := append_blk (D := D) w8 w.heap.size A7 e c7 ty8 (.slice B0 m0 d0) (.slice B1 m1 d1) jq oq (.slice B4 m4 d4) tp8 ti8 hj8 ho8 tv8 (by omega) hbl8.size
      rw [if_pos (show Region.wanted _ _ = true by kernel_rfl)]
      refine Lib.wp_append_run_sl _ _ _ 23 rfl _ _ rfl rfl r9 ?_
      clear r9
      have Rg9 := hf9 _ _ _ (by decide) RgR
      have Rb9 := hf9 _ _ _ (by decide) RbR
      have RR9 := hf9 _ _ _ (by decide) RRR
      have hbl9 : Below w.heap.size w w9 := grown_below hblR hblR.size g9 hr9
      have k9 : w9.cell? ⟨w.heap.size + 1 + 1, 2, none⟩ = some (.slice A7 e c7) := Rg9.cell 2
      have f9 : w9.frozen? ⟨w.heap.size + 1 + 1, 2, none⟩ = false := Rg9.frozen 2
      refine hK.out _ _ ?_ (fun hHeld => ?_)
      · exact ⟨Rb9.cell 2, ((RS.below hbl9 hbS).cell _).trans q0, ((RS.below hbl9 hbS).cell _).trans q1, ((RS.below hbl9 hbS).cell _).trans q2, ((RS.below hbl9 hbS).cell _).trans q3, ((RS.below hbl9 hbS).cell _).trans q4⟩
      clear hK K
      try simp only [Act.put, List.setIfInBounds_toArray, List.set_cons_zero, List.set_cons_succ]
      refine reg_take (i := 10) (v := ?v24) rfl (by kernel_rfl) (by kernel_rfl) (by kernel_rfl) (fun _ _ _ h => h) (Or.inl ⟨by kernel_rfl, ?h24⟩) (by assumption) ?r24
      case h24 => (intro w hSw; (try dsimp only at hSw); go_simp; try with_reducible rfl)
      try simp only [Act.put, List.setIfInBounds_toArray, List.set_cons_zero, List.set_cons_succ]
      refine reg_call (i := 11) (by kernel_rfl) rfl (fun K hK => ?_)
      have ch10 : Chg D w.heap.size w9 (w9.setCell ⟨w.heap.size + 1 + 1, 2, none⟩ (.slice A10 (e + 1) c10)) := Chg.set Rg9 (OK.codB ty9 (by omega))
      have Rg10 := Rg9.set_ 2 (.slice A10 (e + 1) c10)
      have Rb10 := Rb9.far (p := ⟨w.heap.size + 1 + 1, 2, none⟩) (by show w.heap.size ≠ w.heap.size + 1 + 1; omega) (.slice A10 (e + 1) c10)
      have RR10 := RR9.far (p := ⟨w.heap.size + 1 + 1, 2, none⟩) (by show w.heap.size + 1 ≠ w.heap.size + 1 + 1; omega) (.slice A10 (e + 1) c10)
      have hbl10 : Below w.heap.size w (w9.setCell ⟨w.heap.size + 1 + 1, 2, none⟩ (.slice A10 (e + 1) c10)) := hbl9.setCell (p := ⟨w.heap.size + 1 + 1, 2, none⟩) (by show w.heap.size ≤ w.heap.size + 1 + 1; omega) _
      have hS10 : (w9.setCell ⟨w.heap.size + 1 + 1, 2, none⟩ (.slice A10 (e + 1) c10)).cell? ⟨w.heap.size, 2, none⟩ = some (.slice (some ⟨bS, 0, none⟩) nb cb) ∧ (w9.setCell ⟨w.heap.size + 1 + 1, 2, none⟩ (.slice A10 (e + 1) c10)).cell? ⟨bS, e * 5, none⟩ = some (.slice A0 n0 c0) ∧ (w9.setCell ⟨w.heap.size + 1 + 1, 2, none⟩ (.slice A10 (e + 1) c10)).cell? ⟨bS, e * 5 + 1, none⟩ = some (.slice A1 n1 c1) ∧ (w9.setCell ⟨w.heap.size + 1 + 1, 2, none⟩ (.slice A10 (e + 1) c10)).cell? ⟨bS, e * 5 + 2, none⟩ = some (.int .i64 jp) ∧ (w9.setCell ⟨w.heap.size + 1 + 1, 2, none⟩ (.slice A10 (e + 1) c10)).cell? ⟨bS, e * 5 + 3, none⟩ = some (.int .i64 on) ∧ (w9.setCell ⟨w.heap.size + 1 + 1, 2, none⟩ (.slice A10 (e + 1) c10)).cell? ⟨bS, e * 5 + 4, none⟩ = some (.slice A4 n4 c4) := by exact ⟨Rb10.cell 2, ((RS.below hbl10 hbS).cell _).trans q0, ((RS.below hbl10 hbS).cell _).trans q1, ((RS.below hbl10 hbS).cell _).trans q2, ((RS.below hbl10 hbS).cell _).trans q3, ((RS.below hbl10 hbS).cell _).trans q4⟩
      go_simp
      refine hK.out _ _ ?_ (fun hHeld => ?_)
      · exact hS10
      clear hK K
      try simp only [Act.put, List.setIfInBounds_toArray, List.set_cons_zero, List.set_cons_succ]
      refine wpAnyH_done (by kernel_rfl) ?_ _
      go_wp2_with fail
      go_roundw
      case rel => exact ⟨e + 1, A10, c10, by go_num, by omega, Rg10, ty9.keep ch10, Rb10, RR10, hbl10⟩
      case measure => simp [intOf]; omega
    go_simp
    have RbR := Rb8.alloc (.cells #[.slice B0 m0 d0, .slice B1 m1 d1, .int .i64 jq, .int .i64 oq, .slice B4 m4 d4] 34)
    have RRR := RR8.alloc (.cells #[.slice B0 m0 d0, .slice B1 m1 d1, .int .i64 jq, .int .i64 oq, .slice B4 m4 d4] 34)
    have RgR := Rg8.alloc (.cells #[.slice B0 m0 d0, .slice B1 m1 d1, .int .i64 jq, .int .i64 oq, .slice B4 m4 d4] 34)
    have hblR : Below w.heap.size w (w8.alloc (.cells #[.slice B0 m0 d0, .slice B1 m1 d1, .int .i64 jq, .int .i64 oq, .slice B4 m4 d4] 34)) := hbl8.alloc hbl8.size _
    refine hK.out _ _ ?_ (fun hHeld => ?_)
    · exact ⟨RbR.cell 2, ((RS.below hblR hbS).cell _).trans q0, ((RS.below hblR hbS).cell _).trans q1, ((RS.below hblR hbS).cell _).trans q2, ((RS.below hblR hbS).cell _).trans q3, ((RS.below hblR hbS).cell _).trans q4⟩
    clear hK K
    try simp only [Act.put, List.setIfInBounds_toArray, List.set_cons_zero, List.set_cons_succ]
    refine reg_call (i := 1) (by kernel_rfl) rfl (fun K hK => ?_)
    have k1 : (w8.alloc (.cells #[.slice B0 m0 d0, .slice B1 m1 d1, .int .i64 jq, .int .i64 oq, .slice B4 m4 d4] 34)).cell? ⟨w.heap.size + 1 + 1, 2, none⟩ = some (.slice A7 e c7) := RgR.cell 2
    go_simp
    refine hK.out _ _ ?_ (fun hHeld => ?_)
    · exact ⟨RbR.cell 2, ((RS.below hblR hbS).cell _).trans q0, ((RS.below hblR hbS).cell _).trans q1, ((RS.below hblR hbS).cell _).trans q2, ((RS.below hblR hbS).cell _).trans q3, ((RS.below hblR hbS).cell _).trans q4⟩
    clear hK K
    try simp only [Act.put, List.setIfInBounds_toArray, List.set_cons_zero, List.set_cons_succ]
    refine reg_call (i := 9) (by kernel_rfl) rfl (fun K hK => ?_)
    obtain ⟨A10, c10, w9, r9, ty9, kp9, hf9, rr, g9, hr9⟩ := append_blk (D := D) w8 w.heap.size A7 e c7 ty8 (.slice B0 m0 d0) (.slice B1 m1 d1) jq oq (.slice B4 m4 d4) tp8 ti8 hj8 ho8 tv8 (by omega) hbl8.size
    rw [if_pos (show Region.wanted _ _ = true by kernel_rfl)]
    refine Lib.wp_append_run_sl _ _ _ 23 rfl _ _ rfl rfl r9 ?_
    clear r9
    have Rg9 := hf9 _ _ _ (by decide) RgR
    have Rb9 := hf9 _ _ _ (by decide) RbR
    have RR9 := hf9 _ _ _ (by decide) RRR
    have hbl9 : Below w.heap.size w w9 := grown_below hblR hblR.size g9 hr9
    have k9 : w9.cell? ⟨w.heap.size + 1 + 1, 2, none⟩ = some (.slice A7 e c7) := Rg9.cell 2
    have f9 : w9.frozen? ⟨w.heap.size + 1 + 1, 2, none⟩ = false := Rg9.frozen 2
    refine hK.out _ _ ?_ (fun hHeld => ?_)
    · exact ⟨Rb9.cell 2, ((RS.below hbl9 hbS).cell _).trans q0, ((RS.below hbl9 hbS).cell _).trans q1, ((RS.below hbl9 hbS).cell _).trans q2, ((RS.below hbl9 hbS).cell _).trans q3, ((RS.below hbl9 hbS).cell _).trans q4⟩
    clear hK K
    try simp only [Act.put, List.setIfInBounds_toArray, List.set_cons_zero, List.set_cons_succ]
    refine reg_take (i := 10) (v := ?v25) rfl (by kernel_rfl) (by kernel_rfl) (by kernel_rfl) (fun _ _ _ h => h) (Or.inl ⟨by kernel_rfl, ?h25⟩) (by assumption) ?r25
    case h25 => (intro w hSw; (try dsimp only at hSw); go_simp; try with_reducible rfl)
    try simp only [Act.put, List.setIfInBounds_toArray, List.set_cons_zero, List.set_cons_succ]
    refine reg_call (i := 11) (by kernel_rfl) rfl (fun K hK => ?_)
    have ch10 : Chg D w.heap.size w9 (w9.setCell ⟨w.heap.size + 1 + 1, 2, none⟩ (.slice A10 (e + 1) c10)) := Chg.set Rg9 (OK.codB ty9 (by omega))
    have Rg10 := Rg9.set_ 2 (.slice A10 (e + 1) c10)
    have Rb10 := Rb9.far (p := ⟨w.heap.size + 1 + 1, 2, none⟩) (by show w.heap.size ≠ w.heap.size + 1 + 1; omega) (.slice A10 (e + 1) c10)
    have RR10 := RR9.far (p := ⟨w.heap.size + 1 + 1, 2, none⟩) (by show w.heap.size + 1 ≠ w.heap.size + 1 + 1; omega) (.slice A10 (e + 1) c10)
    have hbl10 : Below w.heap.size w (w9.setCell ⟨w.heap.size + 1 + 1, 2, none⟩ (.slice A10 (e + 1) c10)) := hbl9.setCell (p := ⟨w.heap.size + 1 + 1, 2, none⟩) (by show w.heap.size ≤ w.heap.size + 1 + 1; omega) _
    have hS10 : (w9.setCell ⟨w.heap.size + 1 + 1, 2, none⟩ (.slice A10 (e + 1) c10)).cell? ⟨w.heap.size, 2, none⟩ = some (.slice (some ⟨bS, 0, none⟩) nb cb) ∧ (w9.setCell ⟨w.heap.size + 1 + 1, 2, none⟩ (.slice A10 (e + 1) c10)).cell? ⟨bS, e * 5, none⟩ = some (.slice A0 n0 c0) ∧ (w9.setCell ⟨w.heap.size + 1 + 1, 2, none⟩ (.slice A10 (e + 1) c10)).cell? ⟨bS, e * 5 + 1, none⟩ = some (.slice A1 n1 c1) ∧ (w9.setCell ⟨w.heap.size + 1 + 1, 2, none⟩ (.slice A10 (e + 1) c10)).cell? ⟨bS, e * 5 + 2, none⟩ = some (.int .i64 jp) ∧ (w9.setCell ⟨w.heap.size + 1 + 1, 2, none⟩ (.slice A10 (e + 1) c10)).cell? ⟨bS, e * 5 + 3, none⟩ = some (.int .i64 on) ∧ (w9.setCell ⟨w.heap.size + 1 + 1, 2, none⟩ (.slice A10 (e + 1) c10)).cell? ⟨bS, e * 5 + 4, none⟩ = some (.slice A4 n4 c4) := by exact ⟨Rb10.cell 2, ((RS.below hbl10 hbS).cell _).trans q0, ((RS.below hbl10 hbS).cell _).trans q1, ((RS.below hbl10 hbS).cell _).trans q2, ((RS.below hbl10 hbS).cell _).trans q3, ((RS.below hbl10 hbS).cell _).trans q4⟩
    go_simp
    refine hK.out _ _ ?_ (fun hHeld => ?_)
    · exact hS10
    clear hK K
    try simp only [Act.put, List.setIfInBounds_toArray, List.set_cons_zero, List.set_cons_succ]
    refine wpAnyH_done (by kernel_rfl) ?_ _
    go_wp2_with fail
    go_roundw
    case rel => exact ⟨e + 1, A10, c10, by go_num, by omega, Rg10, ty9.keep ch10, Rb10, RR10, hbl10⟩
    case measure => simp [intOf]; omega
set_option maxRecDepth 100000 in
set_option maxHeartbeats 8000000 in
theorem copyunit_ok (lo : Nat) (w : World) (hD : D ≤ 6) (A : Option Addr) (n c : Nat) (tc : TyCods D lo w (.slice A n c)) (hn : 1 ≤ n) :
    Calls Try.prog 41 #[.agg #[.slice A n c]] w (CpP (fun w' v => UnitV D w.heap.size w' v) w) := by
  obtain ⟨bS, _, _, _, _, _, _, rfl, _, _, _, _, _, _, _, _, _, _, _, _, hn10⟩ := cods_row tc (show 0 < n by omega)
  go_enter Try.func41, Try.ntmps41
  go_upto_region 2 with fail
  have hbl : Below w.heap.size w (((w.alloc (.cells #[.slice (some ⟨bS, 0, none⟩) n c] 39)).alloc (.cells #[.slice none 0 0] 39)).alloc (.cells #[.slice none 0 0] 39)) := (((Below.refl _ w).alloc (Nat.le_refl _) _).alloc (by simp) _).alloc (by simp; omega) _
  have Rb : Row (((w.alloc (.cells #[.slice (some ⟨bS, 0, none⟩) n c] 39)).alloc (.cells #[.slice none 0 0] 39)).alloc (.cells #[.slice none 0 0] 39)) w.heap.size 39 #[.slice (some ⟨bS, 0, none⟩) n c] := ((Row.new w _ _).alloc _).alloc _
  have RR : Row (((w.alloc (.cells #[.slice (some ⟨bS, 0, none⟩) n c] 39)).alloc (.cells #[.slice none 0 0] 39)).alloc (.cells #[.slice none 0 0] 39)) (w.heap.size + 1) 39 #[.slice none 0 0] := by simpa using (Row.new (w.alloc (.cells #[.slice (some ⟨bS, 0, none⟩) n c] 39)) 39 #[.slice none 0 0]).alloc (.cells #[.slice none 0 0] 39)
  have Rg : Row (((w.alloc (.cells #[.slice (some ⟨bS, 0, none⟩) n c] 39)).alloc (.cells #[.slice none 0 0] 39)).alloc (.cells #[.slice none 0 0] 39)) (w.heap.size + 1 + 1) 39 #[.slice none 0 0] := by simpa using Row.new ((w.alloc (.cells #[.slice (some ⟨bS, 0, none⟩) n c] 39)).alloc (.cells #[.slice none 0 0] 39)) 39 #[.slice none 0 0]
  generalize ((w.alloc (.cells #[.slice (some ⟨bS, 0, none⟩) n c] 39)).alloc (.cells #[.slice none 0 0] 39)).alloc (.cells #[.slice none 0 0] 39) = w1 at hbl Rb RR Rg ⊢
  go_wp2_with fail
  go_loopw [4] (fun u wr => ∃ (e : Nat) (A7 : Option Addr) (c7 : Nat), u = .int .i64 (e : Int) ∧ e ≤ n ∧ Row wr (w.heap.size + 1 + 1) 39 #[.slice A7 e c7] ∧ TyCods D w.heap.size wr (.slice A7 e c7) ∧ Row wr w.heap.size 39 #[.slice (some ⟨bS, 0, none⟩) n c] ∧ Row wr (w.heap.size + 1) 39 #[.slice none 0 0] ∧ Below w.heap.size w wr) (fun u _ => n - (intOf u).toNat)
  case atStart => exact ⟨0, none, 0, rfl, by omega, Rg, TyCods.nil_ _ _, Rb, RR, hbl⟩
  case round =>
    clear Rg Rb RR hbl
    obtain ⟨e, A7, c7, rfl, he, Rg, ty, Rb, RR, hbl⟩ := hrel
    have x0 : wr.cell? ⟨w.heap.size, 0, none⟩ = some (.slice (some ⟨bS, 0, none⟩) n c) := Rb.cell 0
    by_cases hen : e < n
    case neg =>
      have hen1 : ¬ (e : Int) < (n : Int) := by omega
      obtain rfl : e = n := by omega
      have F := Lib.hid (show CpP (fun w' v => UnitV D w.heap.size w' v) w (.returned (.agg #[.slice A7 e c7])) (wr.setCell ⟨w.heap.size + 1, 0, none⟩ (.slice A7 e c7)) from ⟨_, rfl, ⟨A7, e, c7, rfl, hn, ty.keep (Chg.set RR (OK.ofCods ty))⟩, hbl.setCell (p := ⟨w.heap.size + 1, 0, none⟩) (by show w.heap.size ≤ w.heap.size + 1; omega) _⟩)
      have k0 : wr.cell? ⟨w.heap.size + 1 + 1, 0, none⟩ = some (.slice A7 e c7) := Rg.cell 0
      have s0 : wr.cell? ⟨w.heap.size + 1, 0, none⟩ = some (.slice none 0 0) := RR.cell 0
      have sf0 : wr.frozen? ⟨w.heap.size + 1, 0, none⟩ = false := RR.frozen 0
      go_wp2_with fail
      refine bodyPost_ret (v := .agg #[.slice A7 e c7]) (by simp [results, Try.results41, go_sem, s0]) rfl F.out
    obtain ⟨bS', m1, r1, A9, nb, cb, cur, eA, hlS, hm1, hr1, RS, q0, q1, q2, tb0, hnb, _⟩ := cods_row tc hen
    injection eA with eA
    injection eA with eA
    subst eA
    have hbS := RS.lt
    have hen1 : (e : Int) < (n : Int) := by omega
    go_wp2_with fail
    clear x0
    refine wp_region_held_drew (S := fun w' => (w'.cell? ⟨w.heap.size, 0, none⟩ = some (.slice (some ⟨bS, 0, none⟩) n c) ∧ w'.cell? ⟨bS, e * 3, none⟩ = some (.int .i64 (m1 : Int)) ∧ w'.cell? ⟨bS, e * 3 + 1, none⟩ = some (.int .i64 (r1 : Int)) ∧ w'.cell? ⟨bS, e * 3 + 2, none⟩ = some (.slice A9 nb cb))) (by kernel_rfl) ?_ (fun hHeld => ?_)
    · exact ⟨Rb.cell 0, ((RS.below hbl hbS).cell _).trans q0, ((RS.below hbl hbS).cell _).trans q1, ((RS.below hbl hbS).cell _).trans q2⟩
    replace hbl : Below w.heap.size w wr.drew := hbl.drew
    replace Rb := Rb.drew
    replace RR := RR.drew
    replace Rg := Rg.drew
    replace ty : TyCods D w.heap.size wr.drew (.slice A7 e c7) := ty
    generalize wr.drew = wd at hHeld hbl Rb RR Rg ty ⊢
    refine reg_take (i := 0) (v := ?v26) rfl (by kernel_rfl) (by kernel_rfl) (by kernel_rfl) (fun _ _ _ h => h) (Or.inl ⟨by kernel_rfl, ?h26⟩) (by assumption) ?r26
    case h26 => (intro w hSw; (try dsimp only at hSw); go_simp; try with_reducible rfl)
    try simp only [Act.put, List.setIfInBounds_toArray, List.set_cons_zero, List.set_cons_succ]
    refine reg_take (i := 2) (v := ?v27) rfl (by kernel_rfl) (by kernel_rfl) (by kernel_rfl) (fun _ _ _ h => h) (Or.inl ⟨by kernel_rfl, ?h27⟩) (by assumption) ?r27
    case h27 => (intro w hSw; (try dsimp only at hSw); go_simp; try with_reducible rfl)
    try simp only [Act.put, List.setIfInBounds_toArray, List.set_cons_zero, List.set_cons_succ]
    refine reg_take (i := 3) (v := ?v28) rfl (by kernel_rfl) (by kernel_rfl) (by kernel_rfl) (fun _ _ _ h => h) (Or.inl ⟨by kernel_rfl, ?h28⟩) (by assumption) ?r28
    case h28 => (intro w hSw; (try dsimp only at hSw); go_simp; try with_reducible rfl)
    try simp only [Act.put, List.setIfInBounds_toArray, List.set_cons_zero, List.set_cons_succ]
    refine reg_take (i := 4) (v := ?v29) rfl (by kernel_rfl) (by kernel_rfl) (by kernel_rfl) (fun _ _ _ h => h) (Or.inl ⟨by kernel_rfl, ?h29⟩) (by assumption) ?r29
    case h29 => (intro w hSw; (try dsimp only at hSw); go_simp; try with_reducible rfl)
    try simp only [Act.put, List.setIfInBounds_toArray, List.set_cons_zero, List.set_cons_succ]
    refine reg_take (i := 5) (v := ?v30) rfl (by kernel_rfl) (by kernel_rfl) (by kernel_rfl) (fun _ _ _ h => h) (Or.inl ⟨by kernel_rfl, ?h30⟩) (by assumption) ?r30
    case h30 => (intro w hSw; (try dsimp only at hSw); go_simp; try with_reducible rfl)
    try simp only [Act.put, List.setIfInBounds_toArray, List.set_cons_zero, List.set_cons_succ]
    refine reg_take (i := 6) (v := ?v31) rfl (by kernel_rfl) (by kernel_rfl) (by kernel_rfl) (fun _ _ _ h => h) (Or.inl ⟨by kernel_rfl, ?h31⟩) (by assumption) ?r31
    case h31 => (intro w hSw; (try dsimp only at hSw); go_simp; try with_reducible rfl)
    try simp only [Act.put, List.setIfInBounds_toArray, List.set_cons_zero, List.set_cons_succ]
    refine reg_call2 (i := 1) (j := 7) (by kernel_rfl) rfl rfl (fun K hK => ?_) (fun K hK => ?_)
    · have k1 : wd.cell? ⟨w.heap.size + 1 + 1, 0, none⟩ = some (.slice A7 e c7) := Rg.cell 0
      go_simp
      refine hK.out _ _ ?_ (fun hHeld => ?_)
      · exact ⟨Rb.cell 0, ((RS.below hbl hbS).cell _).trans q0, ((RS.below hbl hbS).cell _).trans q1, ((RS.below hbl hbS).cell _).trans q2⟩
      clear hK K
      try simp only [Act.put, List.setIfInBounds_toArray, List.set_cons_zero, List.set_cons_succ]
      refine reg_call (i := 7) (by kernel_rfl) rfl (fun K hK => ?_)
      go_simp
      refine (copy_ok lo wd hD m1 r1 A9 nb cb hm1 hr1 (tb0.keep (Chg.below hbl)) hnb).mono ?_
      rintro e_ w8 ⟨v, rfl, ⟨m, r, Aq, nq, cq, rfl, hm, hr, tb8, hnq⟩, nb8⟩
      replace tb8 := tb8.lower hbl.size
      have hbl8 : Below w.heap.size w w8 := hbl.trans (nb8.mono hbl.size)
      have Rb8 := Rb.below nb8 Rb.lt
      have RR8 := RR.below nb8 RR.lt
      have Rg8 := Rg.below nb8 Rg.lt
      have ty8 := ty.keep (Chg.below (lo := w.heap.size) nb8)
      refine hK.out _ _ ?_ (fun hHeld => ?_)
      · exact ⟨Rb8.cell 0, ((RS.below hbl8 hbS).cell _).trans q0, ((RS.below hbl8 hbS).cell _).trans q1, ((RS.below hbl8 hbS).cell _).trans q2⟩
      clear hK K
      try simp only [Act.put, List.setIfInBounds_toArray, List.set_cons_zero, List.set_cons_succ]
      refine reg_call (i := 8) (by kernel_rfl) rfl (fun K hK => ?_)
      go_simp
      have RbR := Rb8.alloc (.cells #[.int .i64 (m : Int), .int .i64 (r : Int), .slice Aq nq cq] 25)
      have RRR := RR8.alloc (.cells #[.int .i64 (m : Int), .int .i64 (r : Int), .slice Aq nq cq] 25)
      have RgR := Rg8.alloc (.cells #[.int .i64 (m : Int), .int .i64 (r : Int), .slice Aq nq cq] 25)
      have hblR : Below w.heap.size w (w8.alloc (.cells #[.int .i64 (m : Int), .int .i64 (r : Int), .slice Aq nq cq] 25)) := hbl8.alloc hbl8.size _
      refine hK.out _ _ ?_ (fun hHeld => ?_)
      · exact ⟨RbR.cell 0, ((RS.below hblR hbS).cell _).trans q0, ((RS.below hblR hbS).cell _).trans q1, ((RS.below hblR hbS).cell _).trans q2⟩
      clear hK K
      try simp only [Act.put, List.setIfInBounds_toArray, List.set_cons_zero, List.set_cons_succ]
      refine reg_call (i := 9) (by kernel_rfl) rfl (fun K hK => ?_)
      obtain ⟨A10, c10, w9, r9, ty9, kp9, hf9, rr, g9, hr9⟩ := append_cod (D := D) w8 w.heap.size A7 e c7 ty8 m r (.slice Aq nq cq) hm hr tb8 ⟨_, _, _, rfl, hnq⟩ (by omega) hbl8.size
      rw [if_pos (show Region.wanted _ _ = true by kernel_rfl)]
      refine Lib.wp_append_run_sl _ _ _ 37 rfl _ _ rfl rfl r9 ?_
      clear r9
      have Rg9 := hf9 _ _ _ (by decide) RgR
      have Rb9 := hf9 _ _ _ (by decide) RbR
      have RR9 := hf9 _ _ _ (by decide) RRR
      have hbl9 : Below w.heap.size w w9 := grown_below hblR hblR.size g9 hr9
      have k9 : w9.cell? ⟨w.heap.size + 1 + 1, 0, none⟩ = some (.slice A7 e c7) := Rg9.cell 0
      have f9 : w9.frozen? ⟨w.heap.size + 1 + 1, 0, none⟩ = false := Rg9.frozen 0
      refine hK.out _ _ ?_ (fun hHeld => ?_)
      · exact ⟨Rb9.cell 0, ((RS.below hbl9 hbS).cell _).trans q0, ((RS.below hbl9 hbS).cell _).trans q1, ((RS.below hbl9 hbS).cell _).trans q2⟩
      clear hK K
      try simp only [Act.put, List.setIfInBounds_toArray, List.set_cons_zero, List.set_cons_succ]
      refine reg_take (i := 10) (v := ?v32) rfl (by kernel_rfl) (by kernel_rfl) (by kernel_rfl) (fun _ _ _ h => h) (Or.inl ⟨by kernel_rfl, ?h32⟩) (by assumption) ?r32
      case h32 => (intro w hSw; (try dsimp only at hSw); go_simp; try with_reducible rfl)
      try simp only [Act.put, List.setIfInBounds_toArray, List.set_cons_zero, List.set_cons_succ]
      refine reg_call (i := 11) (by kernel_rfl) rfl (fun K hK => ?_)
      have ch10 : Chg D w.heap.size w9 (w9.setCell ⟨w.heap.size + 1 + 1, 0, none⟩ (.slice A10 (e + 1) c10)) := Chg.set Rg9 (OK.ofCods ty9)
      have Rg10 := Rg9.set_ 0 (.slice A10 (e + 1) c10)
      have Rb10 := Rb9.far (p := ⟨w.heap.size + 1 + 1, 0, none⟩) (by show w.heap.size ≠ w.heap.size + 1 + 1; omega) (.slice A10 (e + 1) c10)
      have RR10 := RR9.far (p := ⟨w.heap.size + 1 + 1, 0, none⟩) (by show w.heap.size + 1 ≠ w.heap.size + 1 + 1; omega) (.slice A10 (e + 1) c10)
      have hbl10 : Below w.heap.size w (w9.setCell ⟨w.heap.size + 1 + 1, 0, none⟩ (.slice A10 (e + 1) c10)) := hbl9.setCell (p := ⟨w.heap.size + 1 + 1, 0, none⟩) (by show w.heap.size ≤ w.heap.size + 1 + 1; omega) _
      have hS10 : (w9.setCell ⟨w.heap.size + 1 + 1, 0, none⟩ (.slice A10 (e + 1) c10)).cell? ⟨w.heap.size, 0, none⟩ = some (.slice (some ⟨bS, 0, none⟩) n c) ∧ (w9.setCell ⟨w.heap.size + 1 + 1, 0, none⟩ (.slice A10 (e + 1) c10)).cell? ⟨bS, e * 3, none⟩ = some (.int .i64 (m1 : Int)) ∧ (w9.setCell ⟨w.heap.size + 1 + 1, 0, none⟩ (.slice A10 (e + 1) c10)).cell? ⟨bS, e * 3 + 1, none⟩ = some (.int .i64 (r1 : Int)) ∧ (w9.setCell ⟨w.heap.size + 1 + 1, 0, none⟩ (.slice A10 (e + 1) c10)).cell? ⟨bS, e * 3 + 2, none⟩ = some (.slice A9 nb cb) := by exact ⟨Rb10.cell 0, ((RS.below hbl10 hbS).cell _).trans q0, ((RS.below hbl10 hbS).cell _).trans q1, ((RS.below hbl10 hbS).cell _).trans q2⟩
      go_simp
      refine hK.out _ _ ?_ (fun hHeld => ?_)
      · exact hS10
      clear hK K
      try simp only [Act.put, List.setIfInBounds_toArray, List.set_cons_zero, List.set_cons_succ]
      refine wpAnyH_done (by kernel_rfl) ?_ _
      go_wp2_with fail
      go_roundw
      case rel => exact ⟨e + 1, A10, c10, by go_num, by omega, Rg10, ty9.keep ch10, Rb10, RR10, hbl10⟩
      case measure => simp [intOf]; omega
    go_simp
    refine (copy_ok lo wd hD m1 r1 A9 nb cb hm1 hr1 (tb0.keep (Chg.below hbl)) hnb).mono ?_
    rintro e_ w8 ⟨v, rfl, ⟨m, r, Aq, nq, cq, rfl, hm, hr, tb8, hnq⟩, nb8⟩
    replace tb8 := tb8.lower hbl.size
    have hbl8 : Below w.heap.size w w8 := hbl.trans (nb8.mono hbl.size)
    have Rb8 := Rb.below nb8 Rb.lt
    have RR8 := RR.below nb8 RR.lt
    have Rg8 := Rg.below nb8 Rg.lt
    have ty8 := ty.keep (Chg.below (lo := w.heap.size) nb8)
    refine hK.out _ _ ?_ (fun hHeld => ?_)
    · exact ⟨Rb8.cell 0, ((RS.below hbl8 hbS).cell _).trans q0, ((RS.below hbl8 hbS).cell _).trans q1, ((RS.below hbl8 hbS).cell _).trans q2⟩
    clear hK K
    try simp only [Act.put, List.setIfInBounds_toArray, List.set_cons_zero, List.set_cons_succ]
    refine reg_call2 (i := 1) (j := 8) (by kernel_rfl) rfl rfl (fun K hK => ?_) (fun K hK => ?_)
    · have k1 : w8.cell? ⟨w.heap.size + 1 + 1, 0, none⟩ = some (.slice A7 e c7) := Rg8.cell 0
      go_simp
      refine hK.out _ _ ?_ (fun hHeld => ?_)
      · exact ⟨Rb8.cell 0, ((RS.below hbl8 hbS).cell _).trans q0, ((RS.below hbl8 hbS).cell _).trans q1, ((RS.below hbl8 hbS).cell _).trans q2⟩
      clear hK K
      try simp only [Act.put, List.setIfInBounds_toArray, List.set_cons_zero, List.set_cons_succ]
      refine reg_call (i := 8) (by kernel_rfl) rfl (fun K hK => ?_)
      go_simp
      have RbR := Rb8.alloc (.cells #[.int .i64 (m : Int), .int .i64 (r : Int), .slice Aq nq cq] 25)
      have RRR := RR8.alloc (.cells #[.int .i64 (m : Int), .int .i64 (r : Int), .slice Aq nq cq] 25)
      have RgR := Rg8.alloc (.cells #[.int .i64 (m : Int), .int .i64 (r : Int), .slice Aq nq cq] 25)
      have hblR : Below w.heap.size w (w8.alloc (.cells #[.int .i64 (m : Int), .int .i64 (r : Int), .slice Aq nq cq] 25)) := hbl8.alloc hbl8.size _
      refine hK.out _ _ ?_ (fun hHeld => ?_)
      · exact ⟨RbR.cell 0, ((RS.below hblR hbS).cell _).trans q0, ((RS.below hblR hbS).cell _).trans q1, ((RS.below hblR hbS).cell _).trans q2⟩
      clear hK K
      try simp only [Act.put, List.setIfInBounds_toArray, List.set_cons_zero, List.set_cons_succ]
      refine reg_call (i := 9) (by kernel_rfl) rfl (fun K hK => ?_)
      obtain ⟨A10, c10, w9, r9, ty9, kp9, hf9, rr, g9, hr9⟩ := append_cod (D := D) w8 w.heap.size A7 e c7 ty8 m r (.slice Aq nq cq) hm hr tb8 ⟨_, _, _, rfl, hnq⟩ (by omega) hbl8.size
      rw [if_pos (show Region.wanted _ _ = true by kernel_rfl)]
      refine Lib.wp_append_run_sl _ _ _ 37 rfl _ _ rfl rfl r9 ?_
      clear r9
      have Rg9 := hf9 _ _ _ (by decide) RgR
      have Rb9 := hf9 _ _ _ (by decide) RbR
      have RR9 := hf9 _ _ _ (by decide) RRR
      have hbl9 : Below w.heap.size w w9 := grown_below hblR hblR.size g9 hr9
      have k9 : w9.cell? ⟨w.heap.size + 1 + 1, 0, none⟩ = some (.slice A7 e c7) := Rg9.cell 0
      have f9 : w9.frozen? ⟨w.heap.size + 1 + 1, 0, none⟩ = false := Rg9.frozen 0
      refine hK.out _ _ ?_ (fun hHeld => ?_)
      · exact ⟨Rb9.cell 0, ((RS.below hbl9 hbS).cell _).trans q0, ((RS.below hbl9 hbS).cell _).trans q1, ((RS.below hbl9 hbS).cell _).trans q2⟩
      clear hK K
      try simp only [Act.put, List.setIfInBounds_toArray, List.set_cons_zero, List.set_cons_succ]
      refine reg_take (i := 10) (v := ?v33) rfl (by kernel_rfl) (by kernel_rfl) (by kernel_rfl) (fun _ _ _ h => h) (Or.inl ⟨by kernel_rfl, ?h33⟩) (by assumption) ?r33
      case h33 => (intro w hSw; (try dsimp only at hSw); go_simp; try with_reducible rfl)
      try simp only [Act.put, List.setIfInBounds_toArray, List.set_cons_zero, List.set_cons_succ]
      refine reg_call (i := 11) (by kernel_rfl) rfl (fun K hK => ?_)
      have ch10 : Chg D w.heap.size w9 (w9.setCell ⟨w.heap.size + 1 + 1, 0, none⟩ (.slice A10 (e + 1) c10)) := Chg.set Rg9 (OK.ofCods ty9)
      have Rg10 := Rg9.set_ 0 (.slice A10 (e + 1) c10)
      have Rb10 := Rb9.far (p := ⟨w.heap.size + 1 + 1, 0, none⟩) (by show w.heap.size ≠ w.heap.size + 1 + 1; omega) (.slice A10 (e + 1) c10)
      have RR10 := RR9.far (p := ⟨w.heap.size + 1 + 1, 0, none⟩) (by show w.heap.size + 1 ≠ w.heap.size + 1 + 1; omega) (.slice A10 (e + 1) c10)
      have hbl10 : Below w.heap.size w (w9.setCell ⟨w.heap.size + 1 + 1, 0, none⟩ (.slice A10 (e + 1) c10)) := hbl9.setCell (p := ⟨w.heap.size + 1 + 1, 0, none⟩) (by show w.heap.size ≤ w.heap.size + 1 + 1; omega) _
      have hS10 : (w9.setCell ⟨w.heap.size + 1 + 1, 0, none⟩ (.slice A10 (e + 1) c10)).cell? ⟨w.heap.size, 0, none⟩ = some (.slice (some ⟨bS, 0, none⟩) n c) ∧ (w9.setCell ⟨w.heap.size + 1 + 1, 0, none⟩ (.slice A10 (e + 1) c10)).cell? ⟨bS, e * 3, none⟩ = some (.int .i64 (m1 : Int)) ∧ (w9.setCell ⟨w.heap.size + 1 + 1, 0, none⟩ (.slice A10 (e + 1) c10)).cell? ⟨bS, e * 3 + 1, none⟩ = some (.int .i64 (r1 : Int)) ∧ (w9.setCell ⟨w.heap.size + 1 + 1, 0, none⟩ (.slice A10 (e + 1) c10)).cell? ⟨bS, e * 3 + 2, none⟩ = some (.slice A9 nb cb) := by exact ⟨Rb10.cell 0, ((RS.below hbl10 hbS).cell _).trans q0, ((RS.below hbl10 hbS).cell _).trans q1, ((RS.below hbl10 hbS).cell _).trans q2⟩
      go_simp
      refine hK.out _ _ ?_ (fun hHeld => ?_)
      · exact hS10
      clear hK K
      try simp only [Act.put, List.setIfInBounds_toArray, List.set_cons_zero, List.set_cons_succ]
      refine wpAnyH_done (by kernel_rfl) ?_ _
      go_wp2_with fail
      go_roundw
      case rel => exact ⟨e + 1, A10, c10, by go_num, by omega, Rg10, ty9.keep ch10, Rb10, RR10, hbl10⟩
      case measure => simp [intOf]; omega
    go_simp
    have RbR := Rb8.alloc (.cells #[.int .i64 (m : Int), .int .i64 (r : Int), .slice Aq nq cq] 25)
    have RRR := RR8.alloc (.cells #[.int .i64 (m : Int), .int .i64 (r : Int), .slice Aq nq cq] 25)
    have RgR := Rg8.alloc (.cells #[.int .i64 (m : Int), .int .i64 (r : Int), .slice Aq nq cq] 25)
    have hblR : Below w.heap.size w (w8.alloc (.cells #[.int .i64 (m : Int), .int .i64 (r : Int), .slice Aq nq cq] 25)) := hbl8.alloc hbl8.size _
    refine hK.out _ _ ?_ (fun hHeld => ?_)
    · exact ⟨RbR.cell 0, ((RS.below hblR hbS).cell _).trans q0, ((RS.below hblR hbS).cell _).trans q1, ((RS.below hblR hbS).cell _).trans q2⟩
    clear hK K
    try simp only [Act.put, List.setIfInBounds_toArray, List.set_cons_zero, List.set_cons_succ]
    refine reg_call (i := 1) (by kernel_rfl) rfl (fun K hK => ?_)
    have k1 : (w8.alloc (.cells #[.int .i64 (m : Int), .int .i64 (r : Int), .slice Aq nq cq] 25)).cell? ⟨w.heap.size + 1 + 1, 0, none⟩ = some (.slice A7 e c7) := RgR.cell 0
    go_simp
    refine hK.out _ _ ?_ (fun hHeld => ?_)
    · exact ⟨RbR.cell 0, ((RS.below hblR hbS).cell _).trans q0, ((RS.below hblR hbS).cell _).trans q1, ((RS.below hblR hbS).cell _).trans q2⟩
    clear hK K
    try simp only [Act.put, List.setIfInBounds_toArray, List.set_cons_zero, List.set_cons_succ]
    refine reg_call (i := 9) (by kernel_rfl) rfl (fun K hK => ?_)
    obtain ⟨A10, c10, w9, r9, ty9, kp9, hf9, rr, g9, hr9⟩ := append_cod (D := D) w8 w.heap.size A7 e c7 ty8 m r (.slice Aq nq cq) hm hr tb8 ⟨_, _, _, rfl, hnq⟩ (by omega) hbl8.size
    rw [if_pos (show Region.wanted _ _ = true by kernel_rfl)]
    refine Lib.wp_append_run_sl _ _ _ 37 rfl _ _ rfl rfl r9 ?_
    clear r9
    have Rg9 := hf9 _ _ _ (by decide) RgR
    have Rb9 := hf9 _ _ _ (by decide) RbR
    have RR9 := hf9 _ _ _ (by decide) RRR
    have hbl9 : Below w.heap.size w w9 := grown_below hblR hblR.size g9 hr9
    have k9 : w9.cell? ⟨w.heap.size + 1 + 1, 0, none⟩ = some (.slice A7 e c7) := Rg9.cell 0
    have f9 : w9.frozen? ⟨w.heap.size + 1 + 1, 0, none⟩ = false := Rg9.frozen 0
    refine hK.out _ _ ?_ (fun hHeld => ?_)
    · exact ⟨Rb9.cell 0, ((RS.below hbl9 hbS).cell _).trans q0, ((RS.below hbl9 hbS).cell _).trans q1, ((RS.below hbl9 hbS).cell _).trans q2⟩
    clear hK K
    try simp only [Act.put, List.setIfInBounds_toArray, List.set_cons_zero, List.set_cons_succ]
    refine reg_take (i := 10) (v := ?v34) rfl (by kernel_rfl) (by kernel_rfl) (by kernel_rfl) (fun _ _ _ h => h) (Or.inl ⟨by kernel_rfl, ?h34⟩) (by assumption) ?r34
    case h34 => (intro w hSw; (try dsimp only at hSw); go_simp; try with_reducible rfl)
    try simp only [Act.put, List.setIfInBounds_toArray, List.set_cons_zero, List.set_cons_succ]
    refine reg_call (i := 11) (by kernel_rfl) rfl (fun K hK => ?_)
    have ch10 : Chg D w.heap.size w9 (w9.setCell ⟨w.heap.size + 1 + 1, 0, none⟩ (.slice A10 (e + 1) c10)) := Chg.set Rg9 (OK.ofCods ty9)
    have Rg10 := Rg9.set_ 0 (.slice A10 (e + 1) c10)
    have Rb10 := Rb9.far (p := ⟨w.heap.size + 1 + 1, 0, none⟩) (by show w.heap.size ≠ w.heap.size + 1 + 1; omega) (.slice A10 (e + 1) c10)
    have RR10 := RR9.far (p := ⟨w.heap.size + 1 + 1, 0, none⟩) (by show w.heap.size + 1 ≠ w.heap.size + 1 + 1; omega) (.slice A10 (e + 1) c10)
    have hbl10 : Below w.heap.size w (w9.setCell ⟨w.heap.size + 1 + 1, 0, none⟩ (.slice A10 (e + 1) c10)) := hbl9.setCell (p := ⟨w.heap.size + 1 + 1, 0, none⟩) (by show w.heap.size ≤ w.heap.size + 1 + 1; omega) _
    have hS10 : (w9.setCell ⟨w.heap.size + 1 + 1, 0, none⟩ (.slice A10 (e + 1) c10)).cell? ⟨w.heap.size, 0, none⟩ = some (.slice (some ⟨bS, 0, none⟩) n c) ∧ (w9.setCell ⟨w.heap.size + 1 + 1, 0, none⟩ (.slice A10 (e + 1) c10)).cell? ⟨bS, e * 3, none⟩ = some (.int .i64 (m1 : Int)) ∧ (w9.setCell ⟨w.heap.size + 1 + 1, 0, none⟩ (.slice A10 (e + 1) c10)).cell? ⟨bS, e * 3 + 1, none⟩ = some (.int .i64 (r1 : Int)) ∧ (w9.setCell ⟨w.heap.size + 1 + 1, 0, none⟩ (.slice A10 (e + 1) c10)).cell? ⟨bS, e * 3 + 2, none⟩ = some (.slice A9 nb cb) := by exact ⟨Rb10.cell 0, ((RS.below hbl10 hbS).cell _).trans q0, ((RS.below hbl10 hbS).cell _).trans q1, ((RS.below hbl10 hbS).cell _).trans q2⟩
    go_simp
    refine hK.out _ _ ?_ (fun hHeld => ?_)
    · exact hS10
    clear hK K
    try simp only [Act.put, List.setIfInBounds_toArray, List.set_cons_zero, List.set_cons_succ]
    refine wpAnyH_done (by kernel_rfl) ?_ _
    go_wp2_with fail
    go_roundw
    case rel => exact ⟨e + 1, A10, c10, by go_num, by omega, Rg10, ty9.keep ch10, Rb10, RR10, hbl10⟩
    case measure => simp [intOf]; omega
end Go.Proofs.Ytafembiemaflfaa
