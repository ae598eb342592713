/-
  The draws of the laws on units: DrawPredsOf; the laws' own functions wwInts, wwHas. Condition: the arguments read as data.
-/
import Derived.Test.YtafembiemaflfaaDrU10
import Derived.Test.YtafembiemaflfaaPreds
namespace Go.Proofs.Ytafembiemaflfaa
open Go.RowKit Go.ChangeShapes Go.WideShapes Go.Deep
variable {D : Nat}
set_option linter.unusedVariables false
set_option linter.unusedSimpArgs false
/-- what the draw of a code and a number answers -/
def DrawC (w : World) (e : Ending) (w' : World) : Prop := ∃ (m r : Nat) (A : Option Addr) (n c : Nat) (b : Int), e = .returned (.tuple #[.agg #[.int .i64 (m : Int), .int .i64 (r : Int), .slice A n c], .int .i64 b]) ∧ I64 b ∧ 0 < n ∧ m ≤ 3 ∧ r ≤ 300 ∧ TyBlks 4 w.heap.size w' (.slice A n c) ∧ Below w.heap.size w w'
theorem drawc_fin {w w5 : World} {lo m r n c : Nat} {A : Option Addr} {b : Int} {z0 z1 z2 : Value} (RR : Row w5 w.heap.size 25 #[z0, z1, z2]) (hm : m ≤ 3) (hr : r ≤ 300) (hb : I64 b) (tb : TyBlks 4 lo w5 (.slice A n c)) (hn : 0 < n) (bl : Below w.heap.size w w5) (hlo : w.heap.size ≤ lo := by omega) :
    DrawC w (.returned (.tuple #[.agg #[.int .i64 (m : Int), .int .i64 (r : Int), .slice A n c], .int .i64 b])) (set3 w5 w.heap.size (.int .i64 (m : Int)) (.int .i64 (r : Int)) (.slice A n c)) := by
  have R0 := RR.set_ 0 (.int .i64 (m : Int))
  have R1 := R0.set_ 1 (.int .i64 (r : Int))
  have ty := tb.lower hlo
  have ch0 : Chg 4 w.heap.size w5 _ := Chg.set RR (OK.codN rfl hm)
  have ty0 := ty.keep ch0
  have ch1 : Chg 4 w.heap.size _ _ := Chg.set R0 (OK.codR rfl hr)
  have ty1 := ty0.keep ch1
  have ch2 : Chg 4 w.heap.size _ _ := Chg.set R1 (OK.codB ty1 hn)
  exact ⟨m, r, A, n, c, b, rfl, hb, hn, hm, hr, ty1.keep ch2, below_set3 bl (Nat.le_refl _) _ _ _⟩
set_option maxRecDepth 100000 in
set_option maxHeartbeats 4000000 in
theorem draw_preds (l : List UInt8) (v : Value) (w : World) (hv : Sl false byS w 0 w.heap.size l v) : Calls Try.prog 7 #[v] w (DrawC w) := by
  go_enter Try.func7, Try.ntmps7
  go_wp2_with fail
  have hb0 : Below w.heap.size w (w.alloc (.cells #[.int .i64 0, .int .i64 0, .slice none 0 0] 25)) := (Below.refl _ _).alloc (Nat.le_refl _) _
  refine (open_ok l v _ ((hv.below hb0 (Nat.le_refl _)).more (Nat.le_refl _) (by simp))).mono ?_
  rintro e w1 ⟨g, l', rfl, hg, h1, b1⟩
  have hg' : w.heap.size < g := by
    simp at hg
    omega
  have hb1 : Below w.heap.size w w1 := hb0.trans (b1.mono (by simp))
  have R1 := (Row.new w 25 #[.int .i64 0, .int .i64 0, .slice none 0 0]).below b1 (by simp)
  go_wp2_with fail
  refine (bent_ok l' g 0 w1 h1 (by omega)).mono ?_
  rintro e w2 ⟨v2, p2, rfl, h2, hp2, hb2, A, n, c, rfl, hn, ty⟩
  have hb2' : Below w.heap.size w w2 := hb1.trans (hb2.1.mono (by omega))
  have RR2 : Row w2 w.heap.size 25 #[.int .i64 0, .int .i64 0, .slice none 0 0] := (hb2.1.block w.heap.size hg').trans R1
  have hgl : g < w1.heap.size := h1.lt
  obtain ⟨k, hk⟩ : ∃ k : Nat, n = k + 1 := ⟨n - 1, by omega⟩
  obtain ⟨bC, m, r, A9, nb, cb, cur, rfl, hlC, hm, hr, RC, q0, q1, q2, tb, hnb, hnb2, hnb3, hnb4, hn10⟩ := cods_row ty (show k < n by omega)
  have hwn : IntKind.i64.wrap ((n : Int) - 1) = (k : Int) := by rw [IntWalk.i64_in _ (by omega)]; omega
  have hkn : (k : Int) < (n : Int) := by omega
  have hgw2 := h2.lt
  have hsl := hb2.size
  clear hk
  go_upto_region 3 with fail
  have RC' := RC.alloc (.cells #[.slice (some ⟨bC, 0, none⟩) n c] 39)
  have RU := Row.new w2 39 #[.slice (some ⟨bC, 0, none⟩) n c]
  have RR3 := RR2.alloc (.cells #[.slice (some ⟨bC, 0, none⟩) n c] 39)
  have nb3 : Below w2.heap.size w2 (w2.alloc (.cells #[.slice (some ⟨bC, 0, none⟩) n c] 39)) := (Below.refl _ _).alloc (Nat.le_refl _) _
  have tb3 := tb.keep (Chg.below nb3)
  have h3 := h2.below nb3 h2.lt
  have bl3 := hb2'.trans (nb3.mono hb2'.size)
  have hs3 : (w2.alloc (.cells #[.slice (some ⟨bC, 0, none⟩) n c] 39)).heap.size = w2.heap.size + 1 := by simp
  clear RC R1 RR2 nb3 ty tb hb0 b1 hb1 hb2 h2
  generalize w2.alloc (.cells #[.slice (some ⟨bC, 0, none⟩) n c] 39) = w3 at RC' RU RR3 tb3 h3 bl3 hs3 ⊢
  generalize w2.heap.size = gu at RU hs3 hgw2 hsl ⊢
  have y0 : w3.cell? ⟨gu, 0, none⟩ = some (.slice (some ⟨bC, 0, none⟩) n c) := RU.cell 0
  have y1 : w3.cell? ⟨bC, k * 3, none⟩ = some (.int .i64 (m : Int)) := (RC'.cell _).trans q0
  have y2 : w3.cell? ⟨bC, k * 3 + 1, none⟩ = some (.int .i64 (r : Int)) := (RC'.cell _).trans q1
  have y3 : w3.cell? ⟨bC, k * 3 + 2, none⟩ = some (.slice A9 nb cb) := (RC'.cell _).trans q2
  go_upto_region 4 with fail
  have Rx : Row (w3.alloc (.cells #[.int .i64 (m : Int), .int .i64 (r : Int), .slice A9 nb cb] 25)) (gu + 1) 25 #[.int .i64 (m : Int), .int .i64 (r : Int), .slice A9 nb cb] := by rw [← hs3]; exact Row.new _ _ _
  have RR := RR3.alloc (.cells #[.int .i64 (m : Int), .int .i64 (r : Int), .slice A9 nb cb] 25)
  have nb4 : Below w3.heap.size w3 (w3.alloc (.cells #[.int .i64 (m : Int), .int .i64 (r : Int), .slice A9 nb cb] 25)) := (Below.refl _ _).alloc (Nat.le_refl _) _
  have tb := tb3.keep (Chg.below nb4)
  have h2 := h3.below nb4 h3.lt
  have bl := bl3.trans (nb4.mono bl3.size)
  clear RC' RU RR3 tb3 h3 bl3 y0 y1 y2 y3 nb4
  generalize w3.alloc (.cells #[.int .i64 (m : Int), .int .i64 (r : Int), .slice A9 nb cb] 25) = w3' at Rx RR tb h2 bl ⊢
  have hgx : g < gu + 1 := by omega
  have hgx2 : w.heap.size < gu + 1 := by omega
  have hlw1 : w.heap.size ≤ w1.heap.size := by omega
  clear hs3 hgw2 hsl
  generalize gu + 1 = gx at Rx hgx hgx2 ⊢
  obtain ⟨w3, hw3⟩ : ∃ x, x = w3' := ⟨_, rfl⟩
  subst hw3
  have hwb : IntKind.i64.wrap ((nb : Int) - 1) = (nb : Int) - 1 := IntWalk.i64_in _ (by omega)
  refine wp_region_held_drew (S := fun w' => (w'.cell? ⟨gx, 0, none⟩ = some (.int .i64 (m : Int)) ∧ w'.cell? ⟨gx, 1, none⟩ = some (.int .i64 (r : Int)) ∧ w'.cell? ⟨gx, 2, none⟩ = some (.slice A9 nb cb))) (by kernel_rfl) ?_ (fun hHeld => ?_)
  · exact ⟨Rx.cell 0, Rx.cell 1, Rx.cell 2⟩
  replace Rx := Rx.drew
  replace RR := RR.drew
  replace h2 : RdAt w3.drew g l' p2 := h2.below ((Below.refl g.succ w3).drew) (Nat.lt_succ_self _)
  replace tb : TyBlks 4 w1.heap.size w3.drew (.slice A9 nb cb) := tb
  replace bl : Below w.heap.size w w3.drew := bl.drew
  generalize w3.drew = wd at hHeld Rx RR h2 tb bl ⊢
  refine reg_take (i := 0) (v := ?v17) rfl (by kernel_rfl) (by kernel_rfl) (by kernel_rfl) (fun _ _ _ h => h) (Or.inl ⟨by kernel_rfl, ?h17⟩) (by assumption) ?r17
  case h17 => (intro w hSw; (try dsimp only at hSw); go_simp; try with_reducible rfl)
  try simp only [Act.put, List.setIfInBounds_toArray, List.set_cons_zero, List.set_cons_succ]
  refine reg_take (i := 1) (v := ?v18) rfl (by kernel_rfl) (by kernel_rfl) (by kernel_rfl) (fun _ _ _ h => h) (Or.inl ⟨by kernel_rfl, ?h18⟩) (by assumption) ?r18
  case h18 => (intro w hSw; (try dsimp only at hSw); go_simp; try with_reducible rfl)
  try simp only [Act.put, List.setIfInBounds_toArray, List.set_cons_zero, List.set_cons_succ]
  refine reg_take (i := 2) (v := ?v19) rfl (by kernel_rfl) (by kernel_rfl) (by kernel_rfl) (fun _ _ _ h => h) (Or.inl ⟨by kernel_rfl, ?h19⟩) (by assumption) ?r19
  case h19 => (intro w hSw; (try dsimp only at hSw); go_simp; try with_reducible rfl)
  try simp only [Act.put, List.setIfInBounds_toArray, List.set_cons_zero, List.set_cons_succ]
  refine reg_take (i := 3) (v := ?v20) rfl (by kernel_rfl) (by kernel_rfl) (by kernel_rfl) (fun _ _ _ h => h) (Or.inl ⟨by kernel_rfl, ?h20⟩) (by assumption) ?r20
  case h20 => (intro w hSw; (try dsimp only at hSw); go_simp; try with_reducible rfl)
  try simp only [Act.put, List.setIfInBounds_toArray, List.set_cons_zero, List.set_cons_succ]
  refine reg_take (i := 4) (v := ?v21) rfl (by kernel_rfl) (by kernel_rfl) (by kernel_rfl) (fun _ _ _ h => h) (Or.inl ⟨by kernel_rfl, ?h21⟩) (by assumption) ?r21
  case h21 => (intro w hSw; (try dsimp only at hSw); go_simp; try with_reducible rfl)
  try simp only [Act.put, List.setIfInBounds_toArray, List.set_cons_zero, List.set_cons_succ]
  refine reg_take (i := 5) (v := ?v22) rfl (by kernel_rfl) (by kernel_rfl) (by kernel_rfl) (fun _ _ _ h => h) (Or.inl ⟨by kernel_rfl, ?h22⟩) (by assumption) ?r22
  case h22 => (intro w hSw; (try dsimp only at hSw); go_simp; try with_reducible rfl)
  try simp only [Act.put, List.setIfInBounds_toArray, List.set_cons_zero, List.set_cons_succ]
  refine reg_take (i := 6) (v := ?v23) rfl (by kernel_rfl) (by kernel_rfl) (by kernel_rfl) (fun _ _ _ h => h) (Or.inl ⟨by kernel_rfl, ?h23⟩) (by assumption) ?r23
  case h23 => (intro w hSw; (try dsimp only at hSw); go_simp; try with_reducible rfl)
  try simp only [Act.put, List.setIfInBounds_toArray, List.set_cons_zero, List.set_cons_succ]
  refine reg_take (i := 7) (v := ?v24) rfl (by kernel_rfl) (by kernel_rfl) (by kernel_rfl) (fun _ _ _ h => h) (Or.inl ⟨by kernel_rfl, ?h24⟩) (by assumption) ?r24
  case h24 => (intro w hSw; (try dsimp only at hSw); go_simp; try with_reducible rfl)
  try simp only [Act.put, List.setIfInBounds_toArray, List.set_cons_zero, List.set_cons_succ]
  refine reg_take (i := 8) (v := ?v25) rfl (by kernel_rfl) (by kernel_rfl) (by kernel_rfl) (fun _ _ _ h => h) (Or.inl ⟨by kernel_rfl, ?h25⟩) (by assumption) ?r25
  case h25 => (intro w hSw; (try dsimp only at hSw); go_simp; try with_reducible rfl)
  try simp only [Act.put, List.setIfInBounds_toArray, List.set_cons_zero, List.set_cons_succ]
  refine reg_call (i := 9) (by kernel_rfl) rfl (fun K hK => ?_)
  go_simp
  have RxR := Rx.alloc (.cells #[.int .i64 1, .int .i64 2, .int .i64 0, .int .i64 ((nb : Int) - 1), .int .i64 (-1), .int .i64 (nb : Int)] 3)
  refine hK.out _ _ ?_ (fun hHeld => ?_)
  · exact ⟨RxR.cell 0, RxR.cell 1, RxR.cell 2⟩
  clear hK K
  try simp only [Act.put, List.setIfInBounds_toArray, List.set_cons_zero, List.set_cons_succ]
  refine reg_call (i := 10) (by kernel_rfl) rfl (fun K hK => ?_)
  go_simp
  refine (num_ok [1, 2, 0, (nb : Int) - 1, -1, (nb : Int)] (by simp) (by simp) (fun s => I64 s) (by intro s hs; simp at hs; rcases hs with rfl | rfl | rfl | rfl | rfl | rfl <;> exact ⟨by omega, by omega⟩) _ _ _ l' g p2 _ (h2.below ((Below.refl _ _).alloc (Nat.le_refl _) _) h2.lt) (by omega) (lit_int wd [1, 2, 0, (nb : Int) - 1, -1, (nb : Int)] (by intro s hs; simp at hs; rcases hs with rfl | rfl | rfl | rfl | rfl | rfl <;> exact ⟨by omega, by omega⟩) (by simp)) h2.lt (Nat.le_refl _)).mono ?_
  rintro e_ w5 ⟨v, p5, rfl, h5, hp5, hb5_, bn, hbn, rfl⟩
  have hb5 := ((ButR.refl wd).alloc h2.lt (.cells #[.int .i64 1, .int .i64 2, .int .i64 0, .int .i64 ((nb : Int) - 1), .int .i64 (-1), .int .i64 (nb : Int)] 3)).trans hb5_
  have Rx5 := hb5.row Rx hgx
  have RR5 : Row w5 w.heap.size 25 #[.int .i64 0, .int .i64 0, .slice none 0 0] := (hb5.1.block w.heap.size hg').trans RR
  have tb5 := tb.keep (hb5.chg hgl)
  have bl5 : Below w.heap.size w w5 := bl.trans (hb5.1.mono (by omega))
  have z0 : w5.cell? ⟨w.heap.size, 0, none⟩ = some (.int .i64 0) := RR5.cell 0
  have z1 : w5.cell? ⟨w.heap.size, 1, none⟩ = some (.int .i64 0) := RR5.cell 1
  have z2 : w5.cell? ⟨w.heap.size, 2, none⟩ = some (.slice none 0 0) := RR5.cell 2
  have zf0 : w5.frozen? ⟨w.heap.size, 0, none⟩ = false := RR5.frozen 0
  have zf1 : w5.frozen? ⟨w.heap.size, 1, none⟩ = false := RR5.frozen 1
  have zf2 : w5.frozen? ⟨w.heap.size, 2, none⟩ = false := RR5.frozen 2
  have R6 := ((RR5.set_ 0 (.int .i64 (m : Int))).set_ 1 (.int .i64 (r : Int))).set_ 2 (.slice A9 nb cb)
  have Rx6 : Row (set3 w5 w.heap.size (.int .i64 (m : Int)) (.int .i64 (r : Int)) (.slice A9 nb cb)) gx 25 _ := ((Rx5.far (p := ⟨w.heap.size, 0, none⟩) (by show gx ≠ w.heap.size; omega) _).far (p := ⟨w.heap.size, 1, none⟩) (by show gx ≠ w.heap.size; omega) _).far (p := ⟨w.heap.size, 2, none⟩) (by show gx ≠ w.heap.size; omega) _
  have F := Lib.hid (drawc_fin RR5 hm hr hbn tb5 hnb bl5)
  have x0 : (set3 w5 w.heap.size (.int .i64 (m : Int)) (.int .i64 (r : Int)) (.slice A9 nb cb)).cell? ⟨w.heap.size, 0, none⟩ = some (.int .i64 (m : Int)) := (row_set3 RR5 _ _ _).cell 0
  have x1 : (set3 w5 w.heap.size (.int .i64 (m : Int)) (.int .i64 (r : Int)) (.slice A9 nb cb)).cell? ⟨w.heap.size, 1, none⟩ = some (.int .i64 (r : Int)) := (row_set3 RR5 _ _ _).cell 1
  have x2 : (set3 w5 w.heap.size (.int .i64 (m : Int)) (.int .i64 (r : Int)) (.slice A9 nb cb)).cell? ⟨w.heap.size, 2, none⟩ = some (.slice A9 nb cb) := (row_set3 RR5 _ _ _).cell 2
  refine hK.out _ _ ?_ (fun hHeld => ?_)
  · exact ⟨Rx5.cell 0, Rx5.cell 1, Rx5.cell 2⟩
  clear hK K
  try simp only [Act.put, List.setIfInBounds_toArray, List.set_cons_zero, List.set_cons_succ]
  refine reg_call (i := 11) (by kernel_rfl) rfl (fun K hK => ?_)
  go_simp
  refine hK.out _ _ ?_ (fun hHeld => ?_)
  · exact ⟨Rx6.cell 0, Rx6.cell 1, Rx6.cell 2⟩
  clear hK K
  try simp only [Act.put, List.setIfInBounds_toArray, List.set_cons_zero, List.set_cons_succ]
  refine reg_take (i := 12) (v := ?v26) rfl (by kernel_rfl) (by kernel_rfl) (by kernel_rfl) (fun _ _ _ h => h) (Or.inl ⟨by kernel_rfl, ?h26⟩) (by assumption) ?r26
  case h26 => (intro w hSw; (try dsimp only at hSw); go_simp; try with_reducible rfl)
  try simp only [Act.put, List.setIfInBounds_toArray, List.set_cons_zero, List.set_cons_succ]
  refine wpAnyH_done (by kernel_rfl) ?_ _
  skip
  go_wp2_with fail
  refine bodyPost_ret (v := .tuple #[.agg #[.int .i64 (m : Int), .int .i64 (r : Int), .slice A9 nb cb], .int .i64 bn]) (by simp [results, Try.results7, go_sem, z0, z1, z2]) rfl F.out
end Go.Proofs.Ytafembiemaflfaa
