/-
  The draws of units: l7Bent. Condition: few numbers have been picked.
-/
import Derived.Test.YtgcjccoglcgcoaaRegT
import Derived.Test.YtgcjccoglcgcoaaDrU8
namespace Go.Proofs.Ytgcjccoglcgcoaa
open Go.RowKit Go.ChangeShapes Go.WideShapes Go.Deep
variable {D : Nat}
set_option linter.unusedVariables false
set_option linter.unusedSimpArgs false
theorem ints_row {lo : Nat} {w : World} {A : Option Addr} {n cap : Nat} (h : TyI D lo w (.slice A n cap)) (hn : 0 < n) : ∃ (b : Nat) (v : Value) (cur : Array Value), A = some ⟨b, 0, none⟩ ∧ lo ≤ b ∧ Row w b 3 cur ∧ cur[0]? = some v := by
  obtain ⟨Aa, na, capa, e1, k1, k2, k3, k4⟩ := h
  injection e1 with e1 e2 e3
  subst e1
  subst e2
  subst e3
  obtain ⟨b, cur, rfl, hb, R, hs, hc⟩ := k4 (by omega)
  obtain ⟨u0, c0, p0⟩ := hc 0 (by omega)
  exact ⟨b, u0, cur, rfl, hb, R, c0⟩
theorem CodP.lower {lo lo' : Nat} {w : World} {j : Nat} {v : Value} (h : CodP D lo w j v) (hl : lo' ≤ lo) : CodP D lo' w j v := by
  unfold CodP at h ⊢
  by_cases e : j % 3 = 0
  · rw [if_pos e] at h ⊢
    exact h
  · rw [if_neg e] at h ⊢
    by_cases e1 : j % 3 = 1
    · rw [if_pos e1] at h ⊢
      exact h
    · rw [if_neg e1] at h ⊢
      exact ⟨h.1.lower hl, h.2⟩
theorem TyCods.lower {lo lo' : Nat} {w : World} {v : Value} (h : TyCods D lo w v) (hl : lo' ≤ lo) : TyCods D lo' w v := TyS.lower_ h hl fun _ _ h => h.lower hl
theorem rows_ne {w : World} {b c : Nat} {t t' : TypeId} {cs cs' : Array Value} (R : Row w b t cs) (R' : Row w c t' cs') (h : t ≠ t') : b ≠ c := fun e => row_ne R (e ▸ R') h
theorem OK.insInt {lo : Nat} {w : World} {j : Nat} {n : Int} (hj : j % 4 ≠ 2) (hn : I64 n) : OK D lo w 72 j (.int .i64 n) := Or.inr (Or.inr (Or.inl ⟨rfl, by unfold InsP; rw [if_neg hj]; exact ⟨n, hn, rfl⟩⟩))
theorem OK.insArgs {lo : Nat} {w : World} {j : Nat} {v : Value} (hj : j % 4 = 2) (h : TyI D lo w v) : OK D lo w 72 j v := Or.inr (Or.inr (Or.inl ⟨rfl, by unfold InsP; rw [if_pos hj]; exact h⟩))
theorem OK.codR' {lo : Nat} {w : World} {j : Nat} {v : Value} (hj : j % 3 = 1) (hv : SmallP 300 v) : OK D lo w 39 j v := Or.inr (Or.inr (Or.inr (Or.inr (Or.inl ⟨rfl, by unfold CodP; rw [if_neg (by omega), if_pos hj]; exact hv⟩))))
set_option maxRecDepth 100000 in
set_option maxHeartbeats 8000000 in
theorem bent_ok (l : List UInt8) (g p : Nat) (w : World) (h : RdAt w g l p) (hp : p ≤ 600000) :
    Calls Try.prog 26 #[.pointer (some ⟨g, 0, none⟩)] w (DrP g l p 5000 (fun v w' => UnitV 4 w.heap.size w' v) w) := by
  have hgw := h.lt
  go_enter Try.func26, Try.ntmps26
  go_wp2_with fail
  refine (unit_ok l g p (w.alloc (.cells #[.slice none 0 0] 28)) (h.below ((Below.refl _ _).alloc (Nat.le_refl _) _) hgw) (by omega)).mono ?_
  rintro e_ w2 ⟨v, p2, rfl, h2, hp2, hb2, Ax, nx, cx, rfl, hnx, ty2⟩
  replace ty2 := ty2.lower (lo' := w.heap.size) (by simp)
  have hB2 : ButR g w w2 := ((ButR.refl w).alloc hgw _).trans hb2
  have RR2 : Row w2 w.heap.size 28 #[.slice none 0 0] := hb2.row (Row.new w _ _) hgw
  go_wp2_with fail
  refine (copyunit_ok (D := 3) w.heap.size w2 (by omega) Ax nx cx ty2 hnx).mono ?_
  rintro e_ w3 ⟨v, rfl, ⟨A, n, c, rfl, hn, ty3⟩, nb3⟩
  replace ty3 := ty3.lower hB2.size
  have hB3 : ButR g w w3 := hB2.trans (ButR.of_below h2.lt nb3)
  have RR3 := RR2.below nb3 RR2.lt
  have h3 := h2.below nb3 h2.lt
  clear ty2 hB2 RR2 hb2 nb3 h2 hnx
  obtain ⟨bC, _, _, _, _, _, _, rfl, hlC, _⟩ := cods_row ty3 (show 0 < n by omega)
  go_upto_region 2 with fail
  have RU : Row (w3.alloc (.cells #[(.slice (some ⟨bC, 0, none⟩) n c)] 28)) w3.heap.size 28 #[(.slice (some ⟨bC, 0, none⟩) n c)] := Row.new w3 _ _
  have RR := RR3.alloc (.cells #[(.slice (some ⟨bC, 0, none⟩) n c)] 28)
  have h4 : RdAt (w3.alloc (.cells #[(.slice (some ⟨bC, 0, none⟩) n c)] 28)) g l p2 := h3.below ((Below.refl _ _).alloc (Nat.le_refl _) _) h3.lt
  have hB4 : ButR g w (w3.alloc (.cells #[(.slice (some ⟨bC, 0, none⟩) n c)] 28)) := hB3.alloc hgw _
  have ty4 := ty3.keep (Chg.below ((Below.refl _ _).alloc (Nat.le_refl _) (.cells #[(.slice (some ⟨bC, 0, none⟩) n c)] 28)))
  have hgu0 := RR3.lt
  clear RR3 h3 hB3 ty3
  generalize w3.alloc (.cells #[(.slice (some ⟨bC, 0, none⟩) n c)] 28) = w4 at RU RR h4 hB4 ty4 ⊢
  generalize w3.heap.size = gu at RU hgu0 ⊢
  have hgu : g < gu := by omega
  have hgC : g < bC := by omega
  obtain ⟨p4, hp4⟩ : ∃ x, x = p2 := ⟨_, rfl⟩
  rw [← hp4] at h4
  have x0 : w4.cell? ⟨gu, 0, none⟩ = some (.slice (some ⟨bC, 0, none⟩) n c) := RU.cell 0
  refine wp_region_held_drew (S := fun w' => (w'.cell? ⟨gu, 0, none⟩ = some (.slice (some ⟨bC, 0, none⟩) n c))) (by kernel_rfl) ?_ (fun hHeld => ?_)
  · first | exact x0 | exact x6
  refine tk (i := 0) ?_
  try simp only [ap]
  refine tk (i := 1) ?_
  try simp only [ap]
  refine tk (i := 2) ?_
  try simp only [ap]
  refine tk (i := 3) ?_
  try simp only [ap]
  refine tk (i := 4) ?_
  try simp only [ap]
  refine tk (i := 5) ?_
  try simp only [ap]
  refine reg_call (i := 6) (by kernel_rfl) rfl (fun K hK => ?_)
  go_simp
  (refine (pick_ok n (by omega) (by omega) l g p4 w4.drew (h4.below ((Below.refl (g + 1) w4).drew) (Nat.lt_succ_self _)) (by omega)).mono ?_; rintro e_ w6 ⟨v, p6, rfl, h6, hp6, hb6, i, hi, rfl⟩; have RU6 := hb6.row (show Row w4.drew gu 28 _ from RU) hgu; have x6 : w6.cell? ⟨gu, 0, none⟩ = some (.slice (some ⟨bC, 0, none⟩) n c) := RU6.cell 0; have i1 : (i : Int) < (n : Int) := by omega)
  refine hK.out _ _ ?_ (fun hHeld => ?_)
  · first | exact x0 | exact x6
  clear hK K
  try simp only [ap]
  refine tk (i := 7) ?_
  try simp only [ap]
  refine tk (i := 8) ?_
  try simp only [ap]
  refine wpAnyH_done (by kernel_rfl) ?_ _
  have RR6 := hb6.row (show Row w4.drew w.heap.size 28 _ from RR) hgw
  have ty6 : TyCods 3 w.heap.size w6 _ := (show TyCods 3 w.heap.size w4.drew _ from ty4).keep (hb6.chg hgw)
  have hB6 : ButR g w w6 := (show ButR g w w4.drew from ⟨hB4.1.drew, hB4.2⟩).trans hb6
  clear RU RR ty4 hB4 h4 x0 x6 hb6 hHeld
  obtain ⟨bC', m, r, A9, nb, cb, cur, eA, _, hm, hr, RC6, q0, q1, q2, tb6, hnb, hnb2, hnb3, hnb4, _⟩ := cods_row ty6 hi
  injection eA with eA
  injection eA with eA
  subst eA
  obtain ⟨bB, _, _, _, _, _, _, _, _, _, _, _, _, rfl, _⟩ := blks_row tb6 hnb
  have y2 : w6.cell? ⟨bC, i * 3 + 2, none⟩ = some (.slice (some ⟨bB, 0, none⟩) nb cb) := (RC6.cell _).trans q2
  go_upto_region 3 with fail
  refine wp_region_held_drew (S := fun w' => (w'.cell? ⟨bC, i * 3 + 2, none⟩ = some (.slice (some ⟨bB, 0, none⟩) nb cb))) (by kernel_rfl) ?_ (fun hHeld => ?_)
  · first | exact y2 | exact y7
  refine tk (i := 0) ?_
  try simp only [ap]
  refine tk (i := 1) ?_
  try simp only [ap]
  refine tk (i := 2) ?_
  try simp only [ap]
  refine tk (i := 3) ?_
  try simp only [ap]
  refine tk (i := 4) ?_
  try simp only [ap]
  refine tk (i := 5) ?_
  try simp only [ap]
  refine tk (i := 6) ?_
  try simp only [ap]
  refine tk (i := 7) ?_
  try simp only [ap]
  refine tk (i := 8) ?_
  try simp only [ap]
  refine tk (i := 9) ?_
  try simp only [ap]
  refine reg_call (i := 10) (by kernel_rfl) rfl (fun K hK => ?_)
  go_simp
  (refine (pick_ok nb (by omega) (by omega) l g p6 w6.drew (h6.below ((Below.refl (g + 1) w6).drew) (Nat.lt_succ_self _)) (by omega)).mono ?_; rintro e_ w7 ⟨v, p7, rfl, h7, hp7, hb7, b, hb, rfl⟩; have RC7 := hb7.row (show Row w6.drew bC 39 _ from RC6) hgC; have y7 : w7.cell? ⟨bC, i * 3 + 2, none⟩ = some (.slice (some ⟨bB, 0, none⟩) nb cb) := (RC7.cell _).trans q2; have b1 : (b : Int) < (nb : Int) := by omega)
  refine hK.out _ _ ?_ (fun hHeld => ?_)
  · first | exact y2 | exact y7
  clear hK K
  try simp only [ap]
  refine tk (i := 11) ?_
  try simp only [ap]
  refine tk (i := 12) ?_
  try simp only [ap]
  refine wpAnyH_done (by kernel_rfl) ?_ _
  have RR7 := hb7.row (show Row w6.drew w.heap.size 28 _ from RR6) hgw
  have RU7 := hb7.row (show Row w6.drew gu 28 _ from RU6) hgu
  have ty7 : TyCods 3 w.heap.size w7 _ := (show TyCods 3 w.heap.size w6.drew _ from ty6).keep (hb7.chg hgw)
  have tb7 : TyBlks 3 w.heap.size w7 _ := (show TyBlks 3 w.heap.size w6.drew _ from tb6).keep (hb7.chg hgw)
  have hB7 : ButR g w w7 := (show ButR g w w6.drew from ⟨hB6.1.drew, hB6.2⟩).trans hb7
  clear RU6 RR6 RC6 ty6 tb6 hB6 h6 y2 y7 hb7 hHeld
  go_upto_region 4 with fail
  refine wp_region_held_drew (S := fun w' => (w'.cell? ⟨bC, i * 3 + 1, none⟩ = some (.int .i64 (r : Int)) ∧ w'.cell? ⟨bC, i * 3 + 2, none⟩ = some (.slice (some ⟨bB, 0, none⟩) nb cb))) (by kernel_rfl) ?_ (fun hHeld => ?_)
  · exact ⟨(RC7.cell _).trans q1, (RC7.cell _).trans q2⟩
  replace RC7 := RC7.drew
  replace RU7 := RU7.drew
  replace RR7 := RR7.drew
  replace h7 : RdAt w7.drew g l p7 := h7.below ((Below.refl g.succ w7).drew) (Nat.lt_succ_self _)
  replace hB7 : ButR g w w7.drew := ⟨hB7.1.drew, hB7.2⟩
  replace ty7 : TyCods 3 w.heap.size w7.drew (.slice (some ⟨bC, 0, none⟩) n c) := ty7
  generalize w7.drew = w7 at hHeld RC7 RU7 RR7 h7 hB7 ty7 ⊢
  refine tk (i := 0) ?_
  try simp only [ap]
  refine tk (i := 1) ?_
  try simp only [ap]
  refine tk (i := 2) ?_
  try simp only [ap]
  refine tk (i := 3) ?_
  try simp only [ap]
  refine tk (i := 4) ?_
  try simp only [ap]
  refine tk (i := 5) ?_
  try simp only [ap]
  refine tk (i := 6) ?_
  try simp only [ap]
  refine tk (i := 7) ?_
  try simp only [ap]
  refine tk (i := 8) ?_
  try simp only [ap]
  refine tk (i := 9) ?_
  try simp only [ap]
  refine reg_call (i := 10) (by kernel_rfl) rfl (fun K hK => ?_)
  go_simp
  have RCR := RC7.alloc (.cells #[.int .i64 (-1), .int .i64 (r : Int), .int .i64 (nb : Int), .int .i64 0, .int .i64 1] 3)
  refine hK.out _ _ ?_ (fun hHeld => ?_)
  · exact ⟨(RCR.cell _).trans q1, (RCR.cell _).trans q2⟩
  clear hK K
  try simp only [ap]
  refine reg_call (i := 11) (by kernel_rfl) rfl (fun K hK => ?_)
  go_simp
  refine (num_ok [-1, (r : Int), (nb : Int), 0, 1] (by simp) (by simp) (fun s => I64 s) (by intro s hs; simp at hs; rcases hs with rfl | rfl | rfl | rfl | rfl <;> exact ⟨by omega, by omega⟩) _ _ _ l g p7 _ (h7.below ((Below.refl _ _).alloc (Nat.le_refl _) _) h7.lt) (by omega) (lit_int w7 [-1, (r : Int), (nb : Int), 0, 1] (by intro s hs; simp at hs; rcases hs with rfl | rfl | rfl | rfl | rfl <;> exact ⟨by omega, by omega⟩) (by simp)) h7.lt (Nat.le_refl _)).mono ?_
  rintro e_ w8 ⟨v, p8, rfl, h8, hp8, hb8, bad, hbad, rfl⟩
  have hb78 := ((ButR.refl w7).alloc h7.lt (.cells #[.int .i64 (-1), .int .i64 (r : Int), .int .i64 (nb : Int), .int .i64 0, .int .i64 1] 3)).trans hb8
  have RC8 := hb78.row RC7 hgC
  refine hK.out _ _ ?_ (fun hHeld => ?_)
  · exact ⟨(RC8.cell _).trans q1, (RC8.cell _).trans q2⟩
  clear hK K
  try simp only [ap]
  refine tk (i := 12) ?_
  try simp only [ap]
  refine wpAnyH_done (by kernel_rfl) ?_ _
  have RR8 := hb78.row RR7 hgw
  have RU8 := hb78.row RU7 hgu
  have ty8 := ty7.keep (hb78.chg hgw)
  have hB8 := hB7.trans hb78
  clear RU7 RR7 RC7 ty7 hB7 h7 hb8 hb78 hHeld RCR tb7
  go_wp2_with fail
  refine (pick_ok 32 (by omega) (by omega) l g p8 w8 h8 (by omega)).mono ?_
  rintro e_ w9 ⟨v, p9, rfl, hR, hp9, hb9, k, hk, rfl⟩
  have RR := hb9.row RR8 hgw
  have RU := hb9.row RU8 hgu
  have RC := hb9.row RC8 hgC
  have ty := ty8.keep (hb9.chg hgw)
  have hB := hB8.trans hb9
  clear RU8 RR8 RC8 ty8 hB8 h8 hb9
  obtain ⟨bC', m', r', A9', nb', cb', cur', eA, _, _, _, RC', _, _, q2', tb, _⟩ := cods_row ty hi
  injection eA with eA
  injection eA with eA
  subst eA
  have eC := RC.symm.trans RC'
  injection eC with eC
  injection eC with eC
  subst eC
  rw [q2] at q2'
  injection q2' with q2'
  injection q2' with e1 e2 e3
  subst e1 e2 e3
  clear RC'
  obtain ⟨bB', A0, n0, c0, A1, n1, c1, jp, on, A4, n4, c4, curB, eB, hlB, RB, z0, z1, z2, z3, z4, tp, ti, hjp, hon, tn⟩ := blks_row tb hb
  injection eB with eB
  injection eB with eB
  subst eB
  clear tb
  have hgB : g < bB := by omega
  by_cases hk0 : k = 0
  · subst hk0
    go_wp2_with fail
    refine (pick_ok 5 (by omega) (by omega) l g p9 _ hR (by omega)).mono ?_
    rintro e_ wt ⟨v, pt, rfl, ht, hpt, hbt, kt, hkt, rfl⟩
    replace RU := hbt.row RU hgu
    replace RR := hbt.row RR hgw
    replace RC := hbt.row RC hgC
    replace RB := hbt.row RB hgB
    replace ty := ty.keep (hbt.chg hgw)
    replace ti := ti.keep (hbt.chg hgw)
    replace tp := tp.keep (hbt.chg hgw)
    replace tn := tn.keep (hbt.chg hgw)
    replace hB := hB.trans hbt
    have c2 : wt.cell? ⟨bB, b * 5 + 2, none⟩ = some (.int .i64 jp) := (RB.cell _).trans z2
    have f2 : wt.frozen? ⟨bB, b * 5 + 2, none⟩ = false := RB.frozen _
    have chz : Chg 4 w.heap.size wt (wt.setCell ⟨bB, b * 5 + 2, none⟩ (.int .i64 (kt : Int))) := Chg.set RB (OK.blkInt (by omega) (by omega) (by omega) (i64_nat (by omega)))
    have RUz := RU.far (p := ⟨bB, b * 5 + 2, none⟩) (rows_ne RU RB (by decide)) (.int .i64 (kt : Int))
    have RRz := RR.far (p := ⟨bB, b * 5 + 2, none⟩) (rows_ne RR RB (by decide)) (.int .i64 (kt : Int))
    have hlz : w.heap.size ≤ bB := by assumption
    have hBz : ButR g w (wt.setCell ⟨bB, b * 5 + 2, none⟩ (.int .i64 (kt : Int))) := hB.setNew hgw (by exact hlz) _
    have hz : RdAt (wt.setCell ⟨bB, b * 5 + 2, none⟩ (.int .i64 (kt : Int))) g l pt := ht.below ((Below.refl bB _).setCell (p := ⟨bB, b * 5 + 2, none⟩) (Nat.le_refl _) _) (by omega)
    have tyz := (ty.up (show 3 ≤ 4 by omega)).keep chz
    have F := Lib.hid (unit_fin (D := 4) (p := p) (K := 5000) hgw (Nat.le_refl _) hz (by omega) hBz RRz hn tyz)
    have s0 : (wt.setCell ⟨bB, b * 5 + 2, none⟩ (.int .i64 (kt : Int))).cell? ⟨w.heap.size, 0, none⟩ = some (.slice none 0 0) := RRz.cell 0
    have sf0 : (wt.setCell ⟨bB, b * 5 + 2, none⟩ (.int .i64 (kt : Int))).frozen? ⟨w.heap.size, 0, none⟩ = false := RRz.frozen 0
    have x0 : (wt.setCell ⟨bB, b * 5 + 2, none⟩ (.int .i64 (kt : Int))).cell? ⟨gu, 0, none⟩ = some (.slice (some ⟨bC, 0, none⟩) n c) := RUz.cell 0
    go_wp2_with fail
    refine bodyPost_ret (v := .agg #[(.slice (some ⟨bC, 0, none⟩) n c)]) (by simp [results, Try.results26, go_sem, s0]) rfl F.out
  have e0 : ((k : Int) == 0) = false := by simp; omega
  by_cases hk1 : k = 1
  · subst hk1
    have c4 : w9.cell? ⟨bB, b * 5 + 4, none⟩ = some (.slice A4 n4 c4) := (RB.cell _).trans z4
    by_cases hn4 : 0 < n4
    case neg =>
      have hn4' : ¬ (0 : Int) < (n4 : Int) := by omega
      have F := Lib.hid (unit_fin (D := 4) (p := p) (K := 5000) hgw (Nat.le_refl _) hR (by omega) hB RR hn (ty.up (by omega)))
      have s0 : w9.cell? ⟨w.heap.size, 0, none⟩ = some (.slice none 0 0) := RR.cell 0
      have sf0 : w9.frozen? ⟨w.heap.size, 0, none⟩ = false := RR.frozen 0
      have x0 : w9.cell? ⟨gu, 0, none⟩ = some (.slice (some ⟨bC, 0, none⟩) n c) := RU.cell 0
      go_wp2_with fail
      refine bodyPost_ret (v := .agg #[(.slice (some ⟨bC, 0, none⟩) n c)]) (by simp [results, Try.results26, go_sem, s0]) rfl F.out
    have hn4' : (0 : Int) < (n4 : Int) := by omega
    obtain ⟨b4, v4, cur4, rfl, hl4, R4, u0⟩ := ints_row tn hn4
    have cb : w9.cell? ⟨b4, 0, none⟩ = some v4 := (R4.cell _).trans u0
    have fb : w9.frozen? ⟨b4, 0, none⟩ = false := R4.frozen _
    have chz : Chg 4 w.heap.size w9 (w9.setCell ⟨b4, 0, none⟩ (.int .i64 bad)) := Chg.set R4 (Or.inl ⟨rfl, bad, hbad, rfl⟩)
    have RUz := RU.far (p := ⟨b4, 0, none⟩) (rows_ne RU R4 (by decide)) (.int .i64 bad)
    have RRz := RR.far (p := ⟨b4, 0, none⟩) (rows_ne RR R4 (by decide)) (.int .i64 bad)
    have hlz : w.heap.size ≤ b4 := by assumption
    have hBz : ButR g w (w9.setCell ⟨b4, 0, none⟩ (.int .i64 bad)) := hB.setNew hgw (by exact hlz) _
    have hz : RdAt (w9.setCell ⟨b4, 0, none⟩ (.int .i64 bad)) g l p9 := hR.below ((Below.refl b4 _).setCell (p := ⟨b4, 0, none⟩) (Nat.le_refl _) _) (by omega)
    have tyz := (ty.up (show 3 ≤ 4 by omega)).keep chz
    have F := Lib.hid (unit_fin (D := 4) (p := p) (K := 5000) hgw (Nat.le_refl _) hz (by omega) hBz RRz hn tyz)
    have s0 : (w9.setCell ⟨b4, 0, none⟩ (.int .i64 bad)).cell? ⟨w.heap.size, 0, none⟩ = some (.slice none 0 0) := RRz.cell 0
    have sf0 : (w9.setCell ⟨b4, 0, none⟩ (.int .i64 bad)).frozen? ⟨w.heap.size, 0, none⟩ = false := RRz.frozen 0
    have x0 : (w9.setCell ⟨b4, 0, none⟩ (.int .i64 bad)).cell? ⟨gu, 0, none⟩ = some (.slice (some ⟨bC, 0, none⟩) n c) := RUz.cell 0
    go_wp2_with fail
    refine bodyPost_ret (v := .agg #[(.slice (some ⟨bC, 0, none⟩) n c)]) (by simp [results, Try.results26, go_sem, s0]) rfl F.out
  have e1 : ((k : Int) == 1) = false := by simp; omega
  by_cases hk2 : k = 2
  · subst hk2
    have c3 : w9.cell? ⟨bB, b * 5 + 3, none⟩ = some (.int .i64 on) := (RB.cell _).trans z3
    have f3 : w9.frozen? ⟨bB, b * 5 + 3, none⟩ = false := RB.frozen _
    have chz : Chg 4 w.heap.size w9 (w9.setCell ⟨bB, b * 5 + 3, none⟩ (.int .i64 bad)) := Chg.set RB (OK.blkInt (by omega) (by omega) (by omega) hbad)
    have RUz := RU.far (p := ⟨bB, b * 5 + 3, none⟩) (rows_ne RU RB (by decide)) (.int .i64 bad)
    have RRz := RR.far (p := ⟨bB, b * 5 + 3, none⟩) (rows_ne RR RB (by decide)) (.int .i64 bad)
    have hlz : w.heap.size ≤ bB := by assumption
    have hBz : ButR g w (w9.setCell ⟨bB, b * 5 + 3, none⟩ (.int .i64 bad)) := hB.setNew hgw (by exact hlz) _
    have hz : RdAt (w9.setCell ⟨bB, b * 5 + 3, none⟩ (.int .i64 bad)) g l p9 := hR.below ((Below.refl bB _).setCell (p := ⟨bB, b * 5 + 3, none⟩) (Nat.le_refl _) _) (by omega)
    have tyz := (ty.up (show 3 ≤ 4 by omega)).keep chz
    have F := Lib.hid (unit_fin (D := 4) (p := p) (K := 5000) hgw (Nat.le_refl _) hz (by omega) hBz RRz hn tyz)
    have s0 : (w9.setCell ⟨bB, b * 5 + 3, none⟩ (.int .i64 bad)).cell? ⟨w.heap.size, 0, none⟩ = some (.slice none 0 0) := RRz.cell 0
    have sf0 : (w9.setCell ⟨bB, b * 5 + 3, none⟩ (.int .i64 bad)).frozen? ⟨w.heap.size, 0, none⟩ = false := RRz.frozen 0
    have x0 : (w9.setCell ⟨bB, b * 5 + 3, none⟩ (.int .i64 bad)).cell? ⟨gu, 0, none⟩ = some (.slice (some ⟨bC, 0, none⟩) n c) := RUz.cell 0
    go_wp2_with fail
    refine bodyPost_ret (v := .agg #[(.slice (some ⟨bC, 0, none⟩) n c)]) (by simp [results, Try.results26, go_sem, s0]) rfl F.out
  have e2 : ((k : Int) == 2) = false := by simp; omega
  by_cases hk3 : k = 3
  · subst hk3
    have c1' : w9.cell? ⟨bB, b * 5 + 1, none⟩ = some (.slice A1 n1 c1) := (RB.cell _).trans z1
    by_cases hn1 : 0 < n1
    case neg =>
      have hn1' : ¬ (0 : Int) < (n1 : Int) := by omega
      have F := Lib.hid (unit_fin (D := 4) (p := p) (K := 5000) hgw (Nat.le_refl _) hR (by omega) hB RR hn (ty.up (by omega)))
      have s0 : w9.cell? ⟨w.heap.size, 0, none⟩ = some (.slice none 0 0) := RR.cell 0
      have sf0 : w9.frozen? ⟨w.heap.size, 0, none⟩ = false := RR.frozen 0
      have x0 : w9.cell? ⟨gu, 0, none⟩ = some (.slice (some ⟨bC, 0, none⟩) n c) := RU.cell 0
      go_wp2_with fail
      refine bodyPost_ret (v := .agg #[(.slice (some ⟨bC, 0, none⟩) n c)]) (by simp [results, Try.results26, go_sem, s0]) rfl F.out
    have hn1' : (0 : Int) < (n1 : Int) := by omega
    obtain ⟨b1, op, tt, Aa, na, ca, mm, cur1, rfl, hl1, R1, u0, u1, u2, u3, hop, htt, hmm, ta⟩ := inss_row ti hn1
    have cb : w9.cell? ⟨b1, 1, none⟩ = some (.int .i64 tt) := (R1.cell _).trans u1
    have fb : w9.frozen? ⟨b1, 1, none⟩ = false := R1.frozen _
    have chz : Chg 4 w.heap.size w9 (w9.setCell ⟨b1, 1, none⟩ (.int .i64 bad)) := Chg.set R1 (OK.insInt (by decide) hbad)
    have RUz := RU.far (p := ⟨b1, 1, none⟩) (rows_ne RU R1 (by decide)) (.int .i64 bad)
    have RRz := RR.far (p := ⟨b1, 1, none⟩) (rows_ne RR R1 (by decide)) (.int .i64 bad)
    have hlz : w.heap.size ≤ b1 := by assumption
    have hBz : ButR g w (w9.setCell ⟨b1, 1, none⟩ (.int .i64 bad)) := hB.setNew hgw (by exact hlz) _
    have hz : RdAt (w9.setCell ⟨b1, 1, none⟩ (.int .i64 bad)) g l p9 := hR.below ((Below.refl b1 _).setCell (p := ⟨b1, 1, none⟩) (Nat.le_refl _) _) (by omega)
    have tyz := (ty.up (show 3 ≤ 4 by omega)).keep chz
    have F := Lib.hid (unit_fin (D := 4) (p := p) (K := 5000) hgw (Nat.le_refl _) hz (by omega) hBz RRz hn tyz)
    have s0 : (w9.setCell ⟨b1, 1, none⟩ (.int .i64 bad)).cell? ⟨w.heap.size, 0, none⟩ = some (.slice none 0 0) := RRz.cell 0
    have sf0 : (w9.setCell ⟨b1, 1, none⟩ (.int .i64 bad)).frozen? ⟨w.heap.size, 0, none⟩ = false := RRz.frozen 0
    have x0 : (w9.setCell ⟨b1, 1, none⟩ (.int .i64 bad)).cell? ⟨gu, 0, none⟩ = some (.slice (some ⟨bC, 0, none⟩) n c) := RUz.cell 0
    go_wp2_with fail
    refine bodyPost_ret (v := .agg #[(.slice (some ⟨bC, 0, none⟩) n c)]) (by simp [results, Try.results26, go_sem, s0]) rfl F.out
  have e3 : ((k : Int) == 3) = false := by simp; omega
  by_cases hk4 : k = 4
  · subst hk4
    have c1' : w9.cell? ⟨bB, b * 5 + 1, none⟩ = some (.slice A1 n1 c1) := (RB.cell _).trans z1
    by_cases hn1 : 0 < n1
    case neg =>
      have hn1' : ¬ (0 : Int) < (n1 : Int) := by omega
      have F := Lib.hid (unit_fin (D := 4) (p := p) (K := 5000) hgw (Nat.le_refl _) hR (by omega) hB RR hn (ty.up (by omega)))
      have s0 : w9.cell? ⟨w.heap.size, 0, none⟩ = some (.slice none 0 0) := RR.cell 0
      have sf0 : w9.frozen? ⟨w.heap.size, 0, none⟩ = false := RR.frozen 0
      have x0 : w9.cell? ⟨gu, 0, none⟩ = some (.slice (some ⟨bC, 0, none⟩) n c) := RU.cell 0
      go_wp2_with fail
      refine bodyPost_ret (v := .agg #[(.slice (some ⟨bC, 0, none⟩) n c)]) (by simp [results, Try.results26, go_sem, s0]) rfl F.out
    have hn1' : (0 : Int) < (n1 : Int) := by omega
    obtain ⟨b1, op, tt, Aa, na, ca, mm, cur1, rfl, hl1, R1, u0, u1, u2, u3, hop, htt, hmm, ta⟩ := inss_row ti hn1
    have hna : na ≤ 30 + 3 := by
      obtain ⟨_, _, _, hfm, hn0, _, _⟩ := TyS.form ta
      injection hfm with _ hfm _
      omega
    go_upto_region 18 with fail
    refine wp_region_held_drew (S := fun w' => (w'.cell? ⟨bB, b * 5 + 1, none⟩ = some (.slice (some ⟨b1, 0, none⟩) n1 c1))) (by kernel_rfl) ?_ (fun hHeld => ?_)
    · exact (RB.cell _).trans z1
    clear c1'
    replace RU := RU.drew
    replace RR := RR.drew
    replace RB := RB.drew
    replace R1 := R1.drew
    replace hR : RdAt w9.drew g l p9 := hR.below ((Below.refl g.succ w9).drew) (Nat.lt_succ_self _)
    replace hB : ButR g w w9.drew := ⟨hB.1.drew, hB.2⟩
    replace ty : TyCods 3 w.heap.size w9.drew (.slice (some ⟨bC, 0, none⟩) n c) := ty
    replace ta : TyI 3 w.heap.size w9.drew (.slice Aa na ca) := ta
    generalize w9.drew = wd at hHeld RU RR RB R1 hR hB ty ta ⊢
    refine tk (i := 0) ?_
    try simp only [ap]
    refine tk (i := 1) ?_
    try simp only [ap]
    refine tk (i := 2) ?_
    try simp only [ap]
    refine tk (i := 3) ?_
    try simp only [ap]
    refine tk (i := 4) ?_
    try simp only [ap]
    refine tk (i := 5) ?_
    try simp only [ap]
    refine tk (i := 6) ?_
    try simp only [ap]
    refine tk (i := 7) ?_
    try simp only [ap]
    refine tk (i := 8) ?_
    try simp only [ap]
    refine tk (i := 9) ?_
    try simp only [ap]
    refine tk (i := 11) ?_
    try simp only [ap]
    refine reg_call2 (i := 10) (j := 12) (by kernel_rfl) rfl rfl (fun K hK => ?_) (fun K hK => ?_)
    · have k1 : wd.cell? ⟨b1, 2, none⟩ = some (.slice Aa na ca) := (R1.cell _).trans u2
      go_simp
      refine hK.out _ _ ?_ (fun hHeld => ?_)
      · exact (RB.cell _).trans z1
      clear hK K
      try simp only [ap]
      refine reg_call (i := 12) (by kernel_rfl) rfl (fun K hK => ?_)
      go_simp
      have RUR := RU.alloc (.cells #[.int .i64 bad] 3)
      have RRR := RR.alloc (.cells #[.int .i64 bad] 3)
      have RBR := RB.alloc (.cells #[.int .i64 bad] 3)
      have R1R := R1.alloc (.cells #[.int .i64 bad] 3)
      refine hK.out _ _ ?_ (fun hHeld => ?_)
      · exact (RBR.cell _).trans z1
      clear hK K
      try simp only [ap]
      refine reg_call (i := 13) (by kernel_rfl) rfl (fun K hK => ?_)
      obtain ⟨A10, c10, w10, r9, ti9, kp9, hf9, rr, g9, hr9⟩ := append_int (D := 4) wd w.heap.size Aa na ca (ta.up (by omega)) bad hbad (by omega) (by omega) hB.size
      rw [if_pos (show Region.wanted _ _ = true by kernel_rfl)]
      refine Lib.wp_append_run_sl _ _ _ 63 rfl _ _ rfl rfl r9 ?_
      clear r9
      have RU9 := hf9 _ _ _ (by decide) RUR
      have RR9 := hf9 _ _ _ (by decide) RRR
      have RB9 := hf9 _ _ _ (by decide) RBR
      have R19 := hf9 _ _ _ (by decide) R1R
      have ty9 := (ty.up (show 3 ≤ 4 by omega)).kept kp9
      have hB9 : ButR g w w10 := grown_but (hB.alloc hgw (.cells #[.int .i64 bad] 3)) g9 hr9
      have h9 : RdAt w10 g l p9 := grown_rd (hR.below ((Below.refl _ wd).alloc (Nat.le_refl _) (.cells #[.int .i64 bad] 3)) hR.lt) g9 (fun b hb => Nat.lt_of_lt_of_le hgw (hr9 b hb))
      have k9 : w10.cell? ⟨b1, 2, none⟩ = some (.slice Aa na ca) := (R19.cell _).trans u2
      have f9 : w10.frozen? ⟨b1, 2, none⟩ = false := R19.frozen _
      have RBz := RB9.far (p := ⟨b1, 2, none⟩) (rows_ne RB9 R19 (by decide)) (.slice A10 (na + 1) c10)
      refine hK.out _ _ ?_ (fun hHeld => ?_)
      · exact (RB9.cell _).trans z1
      clear hK K
      try simp only [ap]
      refine tk (i := 14) ?_
      try simp only [ap]
      refine tk (i := 15) ?_
      try simp only [ap]
      refine reg_call (i := 16) (by kernel_rfl) rfl (fun K hK => ?_)
      go_simp
      refine hK.out _ _ ?_ (fun hHeld => ?_)
      · exact (RBz.cell _).trans z1
      clear hK K
      try simp only [ap]
      refine wpAnyH_done (by kernel_rfl) ?_ _
      have chz : Chg 4 w.heap.size w10 (w10.setCell ⟨b1, 2, none⟩ (.slice A10 (na + 1) c10)) := Chg.set R19 (OK.insArgs (by decide) ti9)
      have RUz := RU9.far (p := ⟨b1, 2, none⟩) (rows_ne RU9 R19 (by decide)) (.slice A10 (na + 1) c10)
      have RRz := RR9.far (p := ⟨b1, 2, none⟩) (rows_ne RR9 R19 (by decide)) (.slice A10 (na + 1) c10)
      have hlz : w.heap.size ≤ b1 := by assumption
      have hBz : ButR g w (w10.setCell ⟨b1, 2, none⟩ (.slice A10 (na + 1) c10)) := hB9.setNew hgw (by exact hlz) _
      have hz : RdAt (w10.setCell ⟨b1, 2, none⟩ (.slice A10 (na + 1) c10)) g l p9 := h9.below ((Below.refl b1 _).setCell (p := ⟨b1, 2, none⟩) (Nat.le_refl _) _) (by omega)
      have tyz := ty9.keep chz
      have F := Lib.hid (unit_fin (D := 4) (p := p) (K := 5000) hgw (Nat.le_refl _) hz (by omega) hBz RRz hn tyz)
      have s0 : (w10.setCell ⟨b1, 2, none⟩ (.slice A10 (na + 1) c10)).cell? ⟨w.heap.size, 0, none⟩ = some (.slice none 0 0) := RRz.cell 0
      have sf0 : (w10.setCell ⟨b1, 2, none⟩ (.slice A10 (na + 1) c10)).frozen? ⟨w.heap.size, 0, none⟩ = false := RRz.frozen 0
      have x0 : (w10.setCell ⟨b1, 2, none⟩ (.slice A10 (na + 1) c10)).cell? ⟨gu, 0, none⟩ = some (.slice (some ⟨bC, 0, none⟩) n c) := RUz.cell 0
      go_wp2_with fail
      refine bodyPost_ret (v := .agg #[(.slice (some ⟨bC, 0, none⟩) n c)]) (by simp [results, Try.results26, go_sem, s0]) rfl F.out
    go_simp
    have RUR := RU.alloc (.cells #[.int .i64 bad] 3)
    have RRR := RR.alloc (.cells #[.int .i64 bad] 3)
    have RBR := RB.alloc (.cells #[.int .i64 bad] 3)
    have R1R := R1.alloc (.cells #[.int .i64 bad] 3)
    refine hK.out _ _ ?_ (fun hHeld => ?_)
    · exact (RBR.cell _).trans z1
    clear hK K
    try simp only [ap]
    refine reg_call (i := 10) (by kernel_rfl) rfl (fun K hK => ?_)
    have k1 : (wd.alloc (.cells #[.int .i64 bad] 3)).cell? ⟨b1, 2, none⟩ = some (.slice Aa na ca) := (R1R.cell _).trans u2
    go_simp
    refine hK.out _ _ ?_ (fun hHeld => ?_)
    · exact (RBR.cell _).trans z1
    clear hK K
    try simp only [ap]
    refine reg_call (i := 13) (by kernel_rfl) rfl (fun K hK => ?_)
    obtain ⟨A10, c10, w10, r9, ti9, kp9, hf9, rr, g9, hr9⟩ := append_int (D := 4) wd w.heap.size Aa na ca (ta.up (by omega)) bad hbad (by omega) (by omega) hB.size
    rw [if_pos (show Region.wanted _ _ = true by kernel_rfl)]
    refine Lib.wp_append_run_sl _ _ _ 63 rfl _ _ rfl rfl r9 ?_
    clear r9
    have RU9 := hf9 _ _ _ (by decide) RUR
    have RR9 := hf9 _ _ _ (by decide) RRR
    have RB9 := hf9 _ _ _ (by decide) RBR
    have R19 := hf9 _ _ _ (by decide) R1R
    have ty9 := (ty.up (show 3 ≤ 4 by omega)).kept kp9
    have hB9 : ButR g w w10 := grown_but (hB.alloc hgw (.cells #[.int .i64 bad] 3)) g9 hr9
    have h9 : RdAt w10 g l p9 := grown_rd (hR.below ((Below.refl _ wd).alloc (Nat.le_refl _) (.cells #[.int .i64 bad] 3)) hR.lt) g9 (fun b hb => Nat.lt_of_lt_of_le hgw (hr9 b hb))
    have k9 : w10.cell? ⟨b1, 2, none⟩ = some (.slice Aa na ca) := (R19.cell _).trans u2
    have f9 : w10.frozen? ⟨b1, 2, none⟩ = false := R19.frozen _
    have RBz := RB9.far (p := ⟨b1, 2, none⟩) (rows_ne RB9 R19 (by decide)) (.slice A10 (na + 1) c10)
    refine hK.out _ _ ?_ (fun hHeld => ?_)
    · exact (RB9.cell _).trans z1
    clear hK K
    try simp only [ap]
    refine tk (i := 14) ?_
    try simp only [ap]
    refine tk (i := 15) ?_
    try simp only [ap]
    refine reg_call (i := 16) (by kernel_rfl) rfl (fun K hK => ?_)
    go_simp
    refine hK.out _ _ ?_ (fun hHeld => ?_)
    · exact (RBz.cell _).trans z1
    clear hK K
    try simp only [ap]
    refine wpAnyH_done (by kernel_rfl) ?_ _
    have chz : Chg 4 w.heap.size w10 (w10.setCell ⟨b1, 2, none⟩ (.slice A10 (na + 1) c10)) := Chg.set R19 (OK.insArgs (by decide) ti9)
    have RUz := RU9.far (p := ⟨b1, 2, none⟩) (rows_ne RU9 R19 (by decide)) (.slice A10 (na + 1) c10)
    have RRz := RR9.far (p := ⟨b1, 2, none⟩) (rows_ne RR9 R19 (by decide)) (.slice A10 (na + 1) c10)
    have hlz : w.heap.size ≤ b1 := by assumption
    have hBz : ButR g w (w10.setCell ⟨b1, 2, none⟩ (.slice A10 (na + 1) c10)) := hB9.setNew hgw (by exact hlz) _
    have hz : RdAt (w10.setCell ⟨b1, 2, none⟩ (.slice A10 (na + 1) c10)) g l p9 := h9.below ((Below.refl b1 _).setCell (p := ⟨b1, 2, none⟩) (Nat.le_refl _) _) (by omega)
    have tyz := ty9.keep chz
    have F := Lib.hid (unit_fin (D := 4) (p := p) (K := 5000) hgw (Nat.le_refl _) hz (by omega) hBz RRz hn tyz)
    have s0 : (w10.setCell ⟨b1, 2, none⟩ (.slice A10 (na + 1) c10)).cell? ⟨w.heap.size, 0, none⟩ = some (.slice none 0 0) := RRz.cell 0
    have sf0 : (w10.setCell ⟨b1, 2, none⟩ (.slice A10 (na + 1) c10)).frozen? ⟨w.heap.size, 0, none⟩ = false := RRz.frozen 0
    have x0 : (w10.setCell ⟨b1, 2, none⟩ (.slice A10 (na + 1) c10)).cell? ⟨gu, 0, none⟩ = some (.slice (some ⟨bC, 0, none⟩) n c) := RUz.cell 0
    go_wp2_with fail
    refine bodyPost_ret (v := .agg #[(.slice (some ⟨bC, 0, none⟩) n c)]) (by simp [results, Try.results26, go_sem, s0]) rfl F.out
  have e4 : ((k : Int) == 4) = false := by simp; omega
  by_cases hk5 : k = 5
  · subst hk5
    have c0' : w9.cell? ⟨bB, b * 5, none⟩ = some (.slice A0 n0 c0) := (RB.cell _).trans z0
    have hn0 : n0 ≤ 4 + 3 := by
      obtain ⟨_, _, _, hfm, hn0, _, _⟩ := TyS.form tp
      injection hfm with _ hfm _
      omega
    have tone : TyI 4 w.heap.size (w9.alloc (.cells #[.int .i64 bad] 3)) (.slice (some ⟨w9.heap.size, 0, none⟩) 1 1) := TyI.one _ _ _ hbad hB.size
    have chx : Chg 4 w.heap.size w9 (w9.alloc (.cells #[.int .i64 bad] 3)) := Chg.below ((Below.refl _ _).alloc (Nat.le_refl _) _)
    obtain ⟨A10, c10, w10, r9, tq9, kp9, hf9, rr, g9, hr9⟩ := append_phi (D := 4) (w9.alloc (.cells #[.int .i64 bad] 3)) w.heap.size A0 n0 c0 ((tp.up (by omega)).keep chx) 0 (.slice (some ⟨w9.heap.size, 0, none⟩) 1 1) ⟨by omega, by omega⟩ tone (by omega) (by omega) (Nat.le_trans hB.size (by simp))
    rw [show (w9.alloc (.cells #[.int .i64 bad] 3)).heap.size = w9.heap.size + 1 by simp] at r9
    have RU9 := hf9 _ _ _ (by decide) ((RU.alloc _).alloc _)
    have RR9 := hf9 _ _ _ (by decide) ((RR.alloc _).alloc _)
    have RB9 := hf9 _ _ _ (by decide) ((RB.alloc _).alloc _)
    have ty9 := ((ty.up (show 3 ≤ 4 by omega)).keep chx).kept kp9
    have hB9 : ButR g w w10 := grown_but ((hB.alloc hgw _).alloc hgw _) g9 hr9
    have h9 : RdAt w10 g l p9 := grown_rd (hR.below (((Below.refl _ w9).alloc (Nat.le_refl _) _).alloc (by simp) _) hR.lt) g9 (fun b hb => Nat.lt_of_lt_of_le hgw (hr9 b hb))
    have k9 : w10.cell? ⟨bB, b * 5, none⟩ = some (.slice A0 n0 c0) := (RB9.cell _).trans z0
    have f9 : w10.frozen? ⟨bB, b * 5, none⟩ = false := RB9.frozen _
    have chz : Chg 4 w.heap.size w10 (w10.setCell ⟨bB, b * 5, none⟩ (.slice A10 (n0 + 1) c10)) := Chg.set RB9 (OK.blkPhis (by omega) tq9)
    have RUz := RU9.far (p := ⟨bB, b * 5, none⟩) (rows_ne RU9 RB9 (by decide)) (.slice A10 (n0 + 1) c10)
    have RRz := RR9.far (p := ⟨bB, b * 5, none⟩) (rows_ne RR9 RB9 (by decide)) (.slice A10 (n0 + 1) c10)
    have hlz : w.heap.size ≤ bB := by assumption
    have hBz : ButR g w (w10.setCell ⟨bB, b * 5, none⟩ (.slice A10 (n0 + 1) c10)) := hB9.setNew hgw (by exact hlz) _
    have hz : RdAt (w10.setCell ⟨bB, b * 5, none⟩ (.slice A10 (n0 + 1) c10)) g l p9 := h9.below ((Below.refl bB _).setCell (p := ⟨bB, b * 5, none⟩) (Nat.le_refl _) _) (by omega)
    have tyz := ty9.keep chz
    have F := Lib.hid (unit_fin (D := 4) (p := p) (K := 5000) hgw (Nat.le_refl _) hz (by omega) hBz RRz hn tyz)
    have s0 : (w10.setCell ⟨bB, b * 5, none⟩ (.slice A10 (n0 + 1) c10)).cell? ⟨w.heap.size, 0, none⟩ = some (.slice none 0 0) := RRz.cell 0
    have sf0 : (w10.setCell ⟨bB, b * 5, none⟩ (.slice A10 (n0 + 1) c10)).frozen? ⟨w.heap.size, 0, none⟩ = false := RRz.frozen 0
    have x0 : (w10.setCell ⟨bB, b * 5, none⟩ (.slice A10 (n0 + 1) c10)).cell? ⟨gu, 0, none⟩ = some (.slice (some ⟨bC, 0, none⟩) n c) := RUz.cell 0
    go_wp2_with (refine Lib.wpList_append_run_sl _ (by rfl) _ _ 61 rfl _ _ rfl rfl r9 ?_)
    refine bodyPost_ret (v := .agg #[(.slice (some ⟨bC, 0, none⟩) n c)]) (by simp [results, Try.results26, go_sem, s0]) rfl F.out
  have e5 : ((k : Int) == 5) = false := by simp; omega
  by_cases hk6 : k = 6
  · subst hk6
    go_upto_region 22 with fail
    refine wp_region_held_drew (S := fun w' => (w'.cell? ⟨bC, i * 3, none⟩ = some (.int .i64 (m : Int)))) (by kernel_rfl) ?_ (fun hHeld => ?_)
    · exact (RC.cell _).trans q0
    replace RU := RU.drew
    replace RR := RR.drew
    replace RC := RC.drew
    replace hR : RdAt w9.drew g l p9 := hR.below ((Below.refl g.succ w9).drew) (Nat.lt_succ_self _)
    replace hB : ButR g w w9.drew := ⟨hB.1.drew, hB.2⟩
    replace ty : TyCods 3 w.heap.size w9.drew (.slice (some ⟨bC, 0, none⟩) n c) := ty
    generalize w9.drew = wd at hHeld RU RR RC hR hB ty ⊢
    refine tk (i := 0) ?_
    try simp only [ap]
    refine tk (i := 1) ?_
    try simp only [ap]
    refine tk (i := 2) ?_
    try simp only [ap]
    refine tk (i := 3) ?_
    try simp only [ap]
    refine tk (i := 4) ?_
    try simp only [ap]
    refine tk (i := 5) ?_
    try simp only [ap]
    refine reg_call (i := 6) (by kernel_rfl) rfl (fun K hK => ?_)
    go_simp
    refine (pick_ok 2 (by omega) (by omega) l g p9 _ hR (by omega)).mono ?_
    rintro e_ wt ⟨v, pt, rfl, ht, hpt, hbt, kt, hkt, rfl⟩
    replace RU := hbt.row RU hgu
    replace RR := hbt.row RR hgw
    have RCt := hbt.row RC hgC
    replace ty := ty.keep (hbt.chg hgw)
    replace hB := hB.trans hbt
    have hwt : IntKind.i64.wrap ((m : Int) + (kt : Int)) = (m : Int) + (kt : Int) := IntWalk.i64_in _ (by omega)
    have c1t : wt.cell? ⟨bC, i * 3 + 1, none⟩ = some (.int .i64 (r : Int)) := (RCt.cell _).trans q1
    have f1t : wt.frozen? ⟨bC, i * 3 + 1, none⟩ = false := RCt.frozen _
    refine hK.out _ _ ?_ (fun hHeld => ?_)
    · exact (RCt.cell _).trans q0
    clear hK K
    try simp only [ap]
    refine tk (i := 7) ?_
    try simp only [ap]
    refine tk (i := 8) ?_
    try simp only [ap]
    refine tk (i := 9) ?_
    try simp only [ap]
    refine reg_call (i := 10) (by kernel_rfl) rfl (fun K hK => ?_)
    go_simp
    refine hK.out _ _ ?_ (fun hHeld => ?_)
    · exact ((RCt.set_ (i * 3 + 1) (.int .i64 ((m : Int) + (kt : Int)))).cell (i * 3)).trans ((set_ne (by omega) _).trans q0)
    clear hK K
    try simp only [ap]
    refine wpAnyH_done (by kernel_rfl) ?_ _
    have chz : Chg 4 w.heap.size wt (wt.setCell ⟨bC, i * 3 + 1, none⟩ (.int .i64 ((m : Int) + (kt : Int)))) := Chg.set RCt (OK.codR' (by omega) ⟨m + kt, by omega, by rw [Int.natCast_add]⟩)
    have RUz := RU.far (p := ⟨bC, i * 3 + 1, none⟩) (rows_ne RU RCt (by decide)) (.int .i64 ((m : Int) + (kt : Int)))
    have RRz := RR.far (p := ⟨bC, i * 3 + 1, none⟩) (rows_ne RR RCt (by decide)) (.int .i64 ((m : Int) + (kt : Int)))
    have hlz : w.heap.size ≤ bC := by assumption
    have hBz : ButR g w (wt.setCell ⟨bC, i * 3 + 1, none⟩ (.int .i64 ((m : Int) + (kt : Int)))) := hB.setNew hgw (by exact hlz) _
    have hz : RdAt (wt.setCell ⟨bC, i * 3 + 1, none⟩ (.int .i64 ((m : Int) + (kt : Int)))) g l pt := ht.below ((Below.refl bC _).setCell (p := ⟨bC, i * 3 + 1, none⟩) (Nat.le_refl _) _) (by omega)
    have tyz := (ty.up (show 3 ≤ 4 by omega)).keep chz
    have F := Lib.hid (unit_fin (D := 4) (p := p) (K := 5000) hgw (Nat.le_refl _) hz (by omega) hBz RRz hn tyz)
    have s0 : (wt.setCell ⟨bC, i * 3 + 1, none⟩ (.int .i64 ((m : Int) + (kt : Int)))).cell? ⟨w.heap.size, 0, none⟩ = some (.slice none 0 0) := RRz.cell 0
    have sf0 : (wt.setCell ⟨bC, i * 3 + 1, none⟩ (.int .i64 ((m : Int) + (kt : Int)))).frozen? ⟨w.heap.size, 0, none⟩ = false := RRz.frozen 0
    have x0 : (wt.setCell ⟨bC, i * 3 + 1, none⟩ (.int .i64 ((m : Int) + (kt : Int)))).cell? ⟨gu, 0, none⟩ = some (.slice (some ⟨bC, 0, none⟩) n c) := RUz.cell 0
    go_wp2_with fail
    refine bodyPost_ret (v := .agg #[(.slice (some ⟨bC, 0, none⟩) n c)]) (by simp [results, Try.results26, go_sem, s0]) rfl F.out
  have e6 : ((k : Int) == 6) = false := by simp; omega
  by_cases hk7 : k = 7
  · subst hk7
    have c1' : w9.cell? ⟨bB, b * 5 + 1, none⟩ = some (.slice A1 n1 c1) := (RB.cell _).trans z1
    by_cases hn1 : 0 < n1
    case neg =>
      have hn1' : ¬ (0 : Int) < (n1 : Int) := by omega
      have F := Lib.hid (unit_fin (D := 4) (p := p) (K := 5000) hgw (Nat.le_refl _) hR (by omega) hB RR hn (ty.up (by omega)))
      have s0 : w9.cell? ⟨w.heap.size, 0, none⟩ = some (.slice none 0 0) := RR.cell 0
      have sf0 : w9.frozen? ⟨w.heap.size, 0, none⟩ = false := RR.frozen 0
      have x0 : w9.cell? ⟨gu, 0, none⟩ = some (.slice (some ⟨bC, 0, none⟩) n c) := RU.cell 0
      go_wp2_with fail
      refine bodyPost_ret (v := .agg #[(.slice (some ⟨bC, 0, none⟩) n c)]) (by simp [results, Try.results26, go_sem, s0]) rfl F.out
    have hn1' : (0 : Int) < (n1 : Int) := by omega
    obtain ⟨b1, op, tt, Aa, na, ca, mm, cur1, rfl, hl1, R1, u0, u1, u2, u3, hop, htt, hmm, ta⟩ := inss_row ti hn1
    go_upto_region 25 with fail
    refine wp_region_held_drew (S := fun w' => (w'.cell? ⟨bB, b * 5 + 1, none⟩ = some (.slice (some ⟨b1, 0, none⟩) n1 c1))) (by kernel_rfl) ?_ (fun hHeld => ?_)
    · exact (RB.cell _).trans z1
    clear c1'
    replace RU := RU.drew
    replace RR := RR.drew
    replace RB := RB.drew
    replace R1 := R1.drew
    replace hR : RdAt w9.drew g l p9 := hR.below ((Below.refl g.succ w9).drew) (Nat.lt_succ_self _)
    replace hB : ButR g w w9.drew := ⟨hB.1.drew, hB.2⟩
    replace ty : TyCods 3 w.heap.size w9.drew (.slice (some ⟨bC, 0, none⟩) n c) := ty
    generalize w9.drew = wd at hHeld RU RR RB R1 hR hB ty ⊢
    refine tk (i := 0) ?_
    try simp only [ap]
    refine tk (i := 1) ?_
    try simp only [ap]
    refine tk (i := 2) ?_
    try simp only [ap]
    refine tk (i := 3) ?_
    try simp only [ap]
    refine tk (i := 4) ?_
    try simp only [ap]
    refine reg_call (i := 5) (by kernel_rfl) rfl (fun K hK => ?_)
    go_simp
    have RBR := RB.alloc (.cells #[.int .i64 256, .int .i64 (-1), .int .i64 1] 3)
    refine hK.out _ _ ?_ (fun hHeld => ?_)
    · exact (RBR.cell _).trans z1
    clear hK K
    try simp only [ap]
    refine reg_call (i := 6) (by kernel_rfl) rfl (fun K hK => ?_)
    go_simp
    refine (num_ok [256, -1, 1] (by decide) (by decide) (fun s => I64 s) (by intro s hs; simp at hs; rcases hs with rfl | rfl | rfl <;> exact ⟨by omega, by omega⟩) _ _ _ l g p9 _ (hR.below ((Below.refl _ _).alloc (Nat.le_refl _) _) hR.lt) (by omega) (lit_int wd [256, -1, 1] (i64_of (by decide)) (by decide)) hR.lt (Nat.le_refl _)).mono ?_
    rintro e_ wt ⟨v, pt, rfl, ht, hpt, hbt_, sn, hsn, rfl⟩
    have hbt := ((ButR.refl wd).alloc hR.lt (.cells #[.int .i64 256, .int .i64 (-1), .int .i64 1] 3)).trans hbt_
    replace RU := hbt.row RU hgu
    replace RR := hbt.row RR hgw
    have RBt := hbt.row RB hgB
    have R1t := hbt.row R1 (show g < b1 by omega)
    replace ty := ty.keep (hbt.chg hgw)
    replace hB := hB.trans hbt
    have c1t : wt.cell? ⟨b1, 3, none⟩ = some (.int .i64 mm) := (R1t.cell _).trans u3
    have f1t : wt.frozen? ⟨b1, 3, none⟩ = false := R1t.frozen _
    have RBz := RBt.far (p := ⟨b1, 3, none⟩) (rows_ne RBt R1t (by decide)) (.int .i64 sn)
    refine hK.out _ _ ?_ (fun hHeld => ?_)
    · exact (RBt.cell _).trans z1
    clear hK K
    try simp only [ap]
    refine tk (i := 7) ?_
    try simp only [ap]
    refine tk (i := 8) ?_
    try simp only [ap]
    refine reg_call (i := 9) (by kernel_rfl) rfl (fun K hK => ?_)
    go_simp
    refine hK.out _ _ ?_ (fun hHeld => ?_)
    · exact (RBz.cell _).trans z1
    clear hK K
    try simp only [ap]
    refine wpAnyH_done (by kernel_rfl) ?_ _
    have chz : Chg 4 w.heap.size wt (wt.setCell ⟨b1, 3, none⟩ (.int .i64 sn)) := Chg.set R1t (OK.insInt (by decide) hsn)
    have RUz := RU.far (p := ⟨b1, 3, none⟩) (rows_ne RU R1t (by decide)) (.int .i64 sn)
    have RRz := RR.far (p := ⟨b1, 3, none⟩) (rows_ne RR R1t (by decide)) (.int .i64 sn)
    have hlz : w.heap.size ≤ b1 := by assumption
    have hBz : ButR g w (wt.setCell ⟨b1, 3, none⟩ (.int .i64 sn)) := hB.setNew hgw (by exact hlz) _
    have hz : RdAt (wt.setCell ⟨b1, 3, none⟩ (.int .i64 sn)) g l pt := ht.below ((Below.refl b1 _).setCell (p := ⟨b1, 3, none⟩) (Nat.le_refl _) _) (by omega)
    have tyz := (ty.up (show 3 ≤ 4 by omega)).keep chz
    have F := Lib.hid (unit_fin (D := 4) (p := p) (K := 5000) hgw (Nat.le_refl _) hz (by omega) hBz RRz hn tyz)
    have s0 : (wt.setCell ⟨b1, 3, none⟩ (.int .i64 sn)).cell? ⟨w.heap.size, 0, none⟩ = some (.slice none 0 0) := RRz.cell 0
    have sf0 : (wt.setCell ⟨b1, 3, none⟩ (.int .i64 sn)).frozen? ⟨w.heap.size, 0, none⟩ = false := RRz.frozen 0
    have x0 : (wt.setCell ⟨b1, 3, none⟩ (.int .i64 sn)).cell? ⟨gu, 0, none⟩ = some (.slice (some ⟨bC, 0, none⟩) n c) := RUz.cell 0
    go_wp2_with fail
    refine bodyPost_ret (v := .agg #[(.slice (some ⟨bC, 0, none⟩) n c)]) (by simp [results, Try.results26, go_sem, s0]) rfl F.out
  have e7 : ((k : Int) == 7) = false := by simp; omega
  have F := Lib.hid (unit_fin (D := 4) (p := p) (K := 5000) hgw (Nat.le_refl _) hR (by omega) hB RR hn (ty.up (by omega)))
  have s0 : w9.cell? ⟨w.heap.size, 0, none⟩ = some (.slice none 0 0) := RR.cell 0
  have sf0 : w9.frozen? ⟨w.heap.size, 0, none⟩ = false := RR.frozen 0
  have x0 : w9.cell? ⟨gu, 0, none⟩ = some (.slice (some ⟨bC, 0, none⟩) n c) := RU.cell 0
  go_wp2_with fail
  refine bodyPost_ret (v := .agg #[(.slice (some ⟨bC, 0, none⟩) n c)]) (by simp [results, Try.results26, go_sem, s0]) rfl F.out
end Go.Proofs.Ytgcjccoglcgcoaa
