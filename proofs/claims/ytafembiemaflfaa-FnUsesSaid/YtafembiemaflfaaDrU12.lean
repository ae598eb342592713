/-
  The draws of the laws on instructions: DrawUsesOf, DrawMadeBy. Condition: the argument reads as bytes.
-/
import Derived.Test.YtafembiemaflfaaDrU5
namespace Go.Proofs.Ytafembiemaflfaa
open Go.RowKit Go.ChangeShapes Go.WideShapes Go.Deep
set_option linter.unusedVariables false
set_option linter.unusedSimpArgs false
/-- what the draw of an instruction answers -/
def DrawI (w : World) (e : Ending) (w' : World) : Prop := ∃ (op tg n : Int) (va : Value), e = .returned (.agg #[.int .i64 op, .int .i64 tg, va, .int .i64 n]) ∧ I64 op ∧ I64 tg ∧ I64 n ∧ TyI 3 w.heap.size w' va ∧ Below w.heap.size w w'
theorem drawi_fin {w w6 : World} {lo : Nat} {op tg n : Int} {va : Value} {cs : Array Value} (RR : Row w6 w.heap.size 44 cs) (h1 : I64 op) (h2 : I64 tg) (h3 : I64 n) (ha : TyI 3 lo w6 va) (hlo : w.heap.size ≤ lo) (bl : Below w.heap.size w w6) :
    DrawI w (.returned (.agg #[.int .i64 op, .int .i64 tg, va, .int .i64 n])) (set4 w6 w.heap.size (.int .i64 op) (.int .i64 tg) va (.int .i64 n)) := by
  refine ⟨op, tg, n, va, rfl, h1, h2, h3, TyI.far (ha.lower hlo) (fun b cur Rb => ?_), (((bl.setCell (p := ⟨w.heap.size, 0, none⟩) (Nat.le_refl _) _).setCell (p := ⟨w.heap.size, 1, none⟩) (Nat.le_refl _) _).setCell (p := ⟨w.heap.size, 2, none⟩) (Nat.le_refl _) _).setCell (p := ⟨w.heap.size, 3, none⟩) (Nat.le_refl _) _⟩
  have hne : b ≠ w.heap.size := fun e => row_ne Rb (e ▸ RR) (by decide)
  unfold set4
  rw [Below.heap_setCell _ _ _ b hne, Below.heap_setCell _ _ _ b hne, Below.heap_setCell _ _ _ b hne, Below.heap_setCell _ _ _ b hne]
set_option maxRecDepth 100000 in
set_option maxHeartbeats 4000000 in
theorem draw_uses (l : List UInt8) (v : Value) (w : World) (hv : Sl false byS w 0 w.heap.size l v) : Calls Try.prog 18 #[v] w (DrawI w) := by
  go_enter Try.func18, Try.ntmps18
  go_wp2_with fail
  have hb0 : Below w.heap.size w (w.alloc (.cells #[.int .i64 0, .int .i64 0, .slice none 0 0, .int .i64 0] 44)) := (Below.refl _ _).alloc (Nat.le_refl _) _
  refine (open_ok l v _ ((hv.below hb0 (Nat.le_refl _)).more (Nat.le_refl _) (by simp))).mono ?_
  rintro e w1 ⟨g, l', rfl, hg, h1, b1⟩
  have hg' : w.heap.size < g := by
    simp at hg
    omega
  have hb1 : Below w.heap.size w w1 := hb0.trans (b1.mono (by simp))
  have R1 := (Row.new w 44 #[.int .i64 0, .int .i64 0, .slice none 0 0, .int .i64 0]).below b1 (by simp)
  go_wp2_with fail
  refine (unit_ok l' g 0 w1 h1 (by omega)).mono ?_
  rintro e w2 ⟨v2, p2, rfl, h2, hp2, hb2, A, n, c, rfl, hn, ty⟩
  have hb2' : Below w.heap.size w w2 := hb1.trans (hb2.1.mono (by omega))
  have RR2 : Row w2 w.heap.size 44 #[.int .i64 0, .int .i64 0, .slice none 0 0, .int .i64 0] := (hb2.1.block w.heap.size hg').trans R1
  have hgl : g < w1.heap.size := h1.lt
  have hlo := hb2.size
  have hw1 : w.heap.size ≤ w1.heap.size := hb1.size
  clear R1 hb0 b1 hb1
  go_upto_region 3 with fail
  have nb3 : Below w2.heap.size w2 (w2.alloc (.cells #[.slice A n c] 39)) := (Below.refl _ _).alloc (Nat.le_refl _) _
  have RU := Row.new w2 39 #[.slice A n c]
  have RR3 := RR2.below nb3 RR2.lt
  have ty3 := ty.keep (Chg.below nb3)
  have h3 := h2.below nb3 h2.lt
  have bl3 := hb2'.trans (nb3.mono hb2'.size)
  have hs3 : w1.heap.size ≤ (w2.alloc (.cells #[.slice A n c] 39)).heap.size := Nat.le_trans hlo nb3.size
  clear nb3 RR2 ty h2 hb2 hb2' hlo
  generalize w2.alloc (.cells #[.slice A n c] 39) = w3 at RU RR3 ty3 h3 bl3 hs3 ⊢
  generalize w2.heap.size = gu at RU ⊢
  have y0 : w3.cell? ⟨gu, 0, none⟩ = some (.slice A n c) := RU.cell 0
  go_wp2_with fail
  refine (some_ok (D := 3) (.slice A n c) 6 (by omega) (by omega) l' g p2 w1.heap.size w3 hgl hs3 h3 (by omega) ty3).mono ?_
  rintro e w4 ⟨v4, p4, rfl, h4, hp4, hb4, op, tg, nn, va, rfl, hop, htg, hnn, hva⟩
  have RR4 : Row w4 w.heap.size 44 #[.int .i64 0, .int .i64 0, .slice none 0 0, .int .i64 0] := (hb4.1.block w.heap.size hg').trans RR3
  have bl4 := bl3.trans (hb4.1.mono (by omega))
  obtain ⟨Av, nv, cv, rfl, _⟩ := TyS.form hva
  have hva' := hva.lower hs3
  clear y0 RU RR3 ty3 h3 bl3 hva hb4
  go_upto_region 4 with fail
  have nb5 : Below w4.heap.size w4 (w4.alloc (.cells #[.int .i64 op, .int .i64 tg, .slice Av nv cv, .int .i64 nn] 44)) := (Below.refl _ _).alloc (Nat.le_refl _) _
  have Rx := Row.new w4 44 #[.int .i64 op, .int .i64 tg, .slice Av nv cv, .int .i64 nn]
  have RR5 := RR4.below nb5 RR4.lt
  have hva5 := hva'.keep (Chg.below (lo := w1.heap.size) nb5)
  have h5 := h4.below nb5 h4.lt
  have bl5 := bl4.trans (nb5.mono bl4.size)
  have hgx : g < w4.heap.size := h4.lt
  clear nb5 RR4 hva' h4 bl4
  generalize w4.alloc (.cells #[.int .i64 op, .int .i64 tg, .slice Av nv cv, .int .i64 nn] 44) = w5 at Rx RR5 hva5 h5 bl5 ⊢
  generalize w4.heap.size = gx at Rx hgx ⊢
  go_wp2_with fail
  refine (pick_ok 8 (by omega) (by omega) l' g p4 w5 h5 (by omega)).mono ?_
  rintro e w6 ⟨v6, p6, rfl, h6, hp6, hb6, k, hk, rfl⟩
  have Rx6 := hb6.row Rx hgx
  have RR6 : Row w6 w.heap.size 44 #[.int .i64 0, .int .i64 0, .slice none 0 0, .int .i64 0] := (hb6.1.block w.heap.size hg').trans RR5
  have bl6 := bl5.trans (hb6.1.mono (by omega))
  have hgxw : w.heap.size < gx := by omega
  have hva6 := hva5.keep (hb6.chg hgl)
  clear Rx RR5 hva5 bl5 h5
  by_cases hk0 : k = 0
  · subst hk0
    go_wp2_with fail
    refine (num_ok [0, 15, -1] (by decide) (by decide) (fun s => I64 s) (by intro s hs; simp at hs; rcases hs with rfl | rfl | rfl <;> exact ⟨by omega, by omega⟩) _ _ _ l' g p6 _ (h6.below ((Below.refl _ _).alloc (Nat.le_refl _) _) h6.lt) (by omega) (lit_int w6 [0, 15, -1] (i64_of (by decide)) (by decide)) h6.lt (Nat.le_refl _)).mono ?_
    rintro e w7 ⟨v7, p7, rfl, h7, hp7, hb7_, sn, hsn, rfl⟩
    have hb7 := ((ButR.refl w6).alloc h6.lt (.cells #[.int .i64 0, .int .i64 15, .int .i64 (-1)] 3)).trans hb7_
    have Rx7 := hb7.row Rx6 hgx
    have RR7 : Row w7 w.heap.size 44 #[.int .i64 0, .int .i64 0, .slice none 0 0, .int .i64 0] := (hb7.1.block w.heap.size hg').trans RR6
    have bl7 := bl6.trans (hb7.1.mono (by omega))
    have hva7 := hva6.keep (hb7.chg hgl)
    have c0 : w7.cell? ⟨gx, 0, none⟩ = some (.int .i64 op) := Rx7.cell 0
    have f0 : w7.frozen? ⟨gx, 0, none⟩ = false := Rx7.frozen 0
    have Rxz : Row (w7.setCell ⟨gx, 0, none⟩ (.int .i64 sn)) gx 44 #[.int .i64 sn, .int .i64 tg, .slice Av nv cv, .int .i64 nn] := Rx7.set_ 0 _
    have RRz := RR7.far (p := ⟨gx, 0, none⟩) (by show w.heap.size ≠ gx; omega) (.int .i64 sn)
    have blz : Below w.heap.size w (w7.setCell ⟨gx, 0, none⟩ (.int .i64 sn)) := bl7.setCell (p := ⟨gx, 0, none⟩) (by show w.heap.size ≤ gx; omega) _
    have hvaz : TyI 3 w1.heap.size (w7.setCell ⟨gx, 0, none⟩ (.int .i64 sn)) (.slice Av nv cv) := TyI.far hva7 (fun b cur Rb => Below.heap_setCell _ _ _ b (show b ≠ gx from fun e => row_ne Rb (e ▸ Rx7) (by decide)))
    go_upto_region 6 with fail
    clear c0 f0 Rx7 RR7 bl7 hva7
    generalize w7.setCell ⟨gx, 0, none⟩ (.int .i64 sn) = wz at Rxz RRz blz hvaz ⊢
    have F := Lib.hid (drawi_fin RRz hsn htg hnn hvaz hw1 blz)
    have x0 : wz.cell? ⟨gx, 0, none⟩ = some (.int .i64 sn) := Rxz.cell 0
    have x1 : wz.cell? ⟨gx, 1, none⟩ = some (.int .i64 tg) := Rxz.cell 1
    have x2 : wz.cell? ⟨gx, 2, none⟩ = some (.slice Av nv cv) := Rxz.cell 2
    have x3 : wz.cell? ⟨gx, 3, none⟩ = some (.int .i64 nn) := Rxz.cell 3
    have s0 : wz.cell? ⟨w.heap.size, 0, none⟩ = some (.int .i64 0) := RRz.cell 0
    have s1 : wz.cell? ⟨w.heap.size, 1, none⟩ = some (.int .i64 0) := RRz.cell 1
    have s2 : wz.cell? ⟨w.heap.size, 2, none⟩ = some (.slice none 0 0) := RRz.cell 2
    have s3 : wz.cell? ⟨w.heap.size, 3, none⟩ = some (.int .i64 0) := RRz.cell 3
    have sf0 : wz.frozen? ⟨w.heap.size, 0, none⟩ = false := RRz.frozen 0
    have sf1 : wz.frozen? ⟨w.heap.size, 1, none⟩ = false := RRz.frozen 1
    have sf2 : wz.frozen? ⟨w.heap.size, 2, none⟩ = false := RRz.frozen 2
    have sf3 : wz.frozen? ⟨w.heap.size, 3, none⟩ = false := RRz.frozen 3
    go_wp2_with fail
    refine bodyPost_ret (v := .agg #[.int .i64 sn, .int .i64 tg, .slice Av nv cv, .int .i64 nn]) (by simp [results, Try.results18, go_sem, s0, s1, s2, s3]) rfl F.out
  · have hk1 : ((k : Int) == 0) = false := by simp; omega
    have F := Lib.hid (drawi_fin RR6 hop htg hnn hva6 hw1 bl6)
    have x0 : w6.cell? ⟨gx, 0, none⟩ = some (.int .i64 op) := Rx6.cell 0
    have x1 : w6.cell? ⟨gx, 1, none⟩ = some (.int .i64 tg) := Rx6.cell 1
    have x2 : w6.cell? ⟨gx, 2, none⟩ = some (.slice Av nv cv) := Rx6.cell 2
    have x3 : w6.cell? ⟨gx, 3, none⟩ = some (.int .i64 nn) := Rx6.cell 3
    have s0 : w6.cell? ⟨w.heap.size, 0, none⟩ = some (.int .i64 0) := RR6.cell 0
    have s1 : w6.cell? ⟨w.heap.size, 1, none⟩ = some (.int .i64 0) := RR6.cell 1
    have s2 : w6.cell? ⟨w.heap.size, 2, none⟩ = some (.slice none 0 0) := RR6.cell 2
    have s3 : w6.cell? ⟨w.heap.size, 3, none⟩ = some (.int .i64 0) := RR6.cell 3
    have sf0 : w6.frozen? ⟨w.heap.size, 0, none⟩ = false := RR6.frozen 0
    have sf1 : w6.frozen? ⟨w.heap.size, 1, none⟩ = false := RR6.frozen 1
    have sf2 : w6.frozen? ⟨w.heap.size, 2, none⟩ = false := RR6.frozen 2
    have sf3 : w6.frozen? ⟨w.heap.size, 3, none⟩ = false := RR6.frozen 3
    go_wp2_with fail
    refine bodyPost_ret (v := .agg #[.int .i64 op, .int .i64 tg, .slice Av nv cv, .int .i64 nn]) (by simp [results, Try.results18, go_sem, s0, s1, s2, s3]) rfl F.out
set_option maxRecDepth 100000 in
set_option maxHeartbeats 4000000 in
theorem draw_made (l : List UInt8) (v : Value) (w : World) (hv : Sl false byS w 0 w.heap.size l v) : Calls Try.prog 20 #[v] w (DrawI w) := by
  go_enter Try.func20, Try.ntmps20
  go_wp2_with fail
  have nb : Below w.heap.size w (w.alloc (.cells #[.int .i64 0, .int .i64 0, .slice none 0 0, .int .i64 0] 44)) := (Below.refl _ _).alloc (Nat.le_refl _) _
  have R0 := Row.new w 44 #[.int .i64 0, .int .i64 0, .slice none 0 0, .int .i64 0]
  refine (draw_uses l v _ ((hv.below nb (Nat.le_refl _)).more (Nat.le_refl _) nb.size)).mono ?_
  rintro e w6 ⟨op, tg, nn, va, rfl, hop, htg, hnn, hva, b6⟩
  obtain ⟨Av, nv, cv, rfl, _⟩ := TyS.form hva
  have RR6 := R0.below b6 R0.lt
  have bl6 := nb.trans (b6.mono nb.size)
  have F := Lib.hid (drawi_fin RR6 hop htg hnn hva nb.size bl6)
  have s0 : w6.cell? ⟨w.heap.size, 0, none⟩ = some (.int .i64 0) := RR6.cell 0
  have s1 : w6.cell? ⟨w.heap.size, 1, none⟩ = some (.int .i64 0) := RR6.cell 1
  have s2 : w6.cell? ⟨w.heap.size, 2, none⟩ = some (.slice none 0 0) := RR6.cell 2
  have s3 : w6.cell? ⟨w.heap.size, 3, none⟩ = some (.int .i64 0) := RR6.cell 3
  have sf0 : w6.frozen? ⟨w.heap.size, 0, none⟩ = false := RR6.frozen 0
  have sf1 : w6.frozen? ⟨w.heap.size, 1, none⟩ = false := RR6.frozen 1
  have sf2 : w6.frozen? ⟨w.heap.size, 2, none⟩ = false := RR6.frozen 2
  have sf3 : w6.frozen? ⟨w.heap.size, 3, none⟩ = false := RR6.frozen 3
  go_wp2_with fail
  refine bodyPost_ret (v := .agg #[.int .i64 op, .int .i64 tg, .slice Av nv cv, .int .i64 nn]) (by simp [results, Try.results20, go_sem, s0, s1, s2, s3]) rfl F.out
end Go.Proofs.Ytafembiemaflfaa
