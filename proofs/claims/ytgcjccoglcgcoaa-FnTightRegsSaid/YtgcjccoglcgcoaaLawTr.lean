/-
  The law FnTightRegs: it returns true for all arguments. No condition.
-/
import Derived.Test.YtgcjccoglcgcoaaStu
import Derived.Test.YtgcjccoglcgcoaaTguV
import Derived.Test.YtgcjccoglcgcoaaDrQ
import Derived.Test.YtgcjccoglcgcoaaFactA
import Derived.Test.YtgcjccoglcgcoaaSame2
namespace Go.Proofs.Ytgcjccoglcgcoaa
open Go.RowKit Go.ChangeShapes Go.WideShapes Go.Deep
set_option linter.unusedVariables false
set_option linter.unusedSimpArgs false
/-- an answer in new memory: the codes R, and whether they are one -/
def TightQ (R : List CodeD) (ub : Bool) (w : World) (e : Ending) (w' : World) : Prop :=
  ∃ (v : Value) (f : List Nat), e = .returned (.tuple #[.agg #[v], .bool ub]) ∧ SlF cdF 39 w' f R v ∧ f.Nodup ∧ (∀ x ∈ f, w.heap.size ≤ x) ∧ Below w.heap.size w w'
theorem codeN_tight (c : CodeD) : codeN (tightC c) = codeN c := by
  have h1 : ∀ (σ : Int → Int) (x : BlkD), blkN (renBlk σ x) = blkN x := fun σ x => by
    unfold blkN renBlk
    simp only [List.length_map]
    rw [sumBy_map phiN phiN (renPhi σ) (fun a => by simp [phiN, renPhi]) x.phis, sumBy_map insN insN (renIns σ) (fun a => by simp [insN, renIns]) x.ins]
  show (c.blocks.map _).length + sumBy blkN (c.blocks.map _) = _
  rw [List.length_map, sumBy_map blkN blkN _ (h1 _)]
  rfl
theorem tight_size (codes : List CodeD) : (if unitB codes = true then tightU codes else []).length + sumBy codeN (if unitB codes = true then tightU codes else []) ≤ codes.length + sumBy codeN codes := by
  split
  · unfold tightU
    rw [List.length_map, sumBy_map codeN codeN tightC codeN_tight]
    exact Nat.le_refl _
  · simp [sumBy]
set_option maxRecDepth 100000 in
set_option maxHeartbeats 8000000 in
theorem law_FnTightRegs (l : List UInt8) (v : Value) (w : World) (hv : Sl false byS w 0 w.heap.size l v) : Calls Try.prog 4 #[v] w (Yes w) := by
  obtain ⟨A0, cap0, rfl, hlc, hcm⟩ := hv.form
  by_cases hbig : 1048576 < l.length
  · have q0 : decide ((1048576 : Int) < (l.length : Int)) = true := by simp; omega
    go_enter Try.func4, Try.ntmps4
    go_wp2_with fail
    go_ret
    exact ⟨rfl, Below.refl _ _⟩
  have q0 : decide ((1048576 : Int) < (l.length : Int)) = false := by simp; omega
  go_enter Try.func4, Try.ntmps4
  go_wp2_with fail
  refine (draw_DrawTightUnit l _ w hv).mono ?_
  rintro e w1 ⟨A, n, c, rfl, hn, ty, b1⟩
  obtain ⟨codes, h10, hNa, ⟨A', cap', eqv⟩, hs⟩ := ty.sl (by omega)
  injection eqv with e1 e2 e3
  subst e2
  clear e1 e3 A' cap' ty hv
  obtain ⟨bC, oC, _, rfl, _, hbC, _⟩ := hs.at_ (show 0 < codes.length by omega)
  have hN := cods_small h10 hNa
  have hcap : codes.length ≤ c ∧ c ≤ 9223372036854775807 := by
    obtain ⟨_, _, ecap, hcap1, hcap2⟩ := hs.form
    injection ecap with _ _ ecap
    omega
  obtain ⟨hcap1, hcap2⟩ := hcap
  go_upto_region 4 with fail
  have RU := Row.new w1 28 #[.slice (some ⟨bC, oC, none⟩) codes.length c]
  have nb : Below w1.heap.size w1 (w1.alloc (.cells #[.slice (some ⟨bC, oC, none⟩) codes.length c] 28)) := (Below.refl _ _).alloc (Nat.le_refl _) _
  have hb0 := b1.trans (nb.mono b1.size)
  have hs2 := (hs.below nb (Nat.le_refl _)).more (Nat.le_refl _) nb.size
  have hgu : w.heap.size ≤ w1.heap.size := b1.size
  clear hs nb b1
  generalize w1.alloc (.cells #[.slice (some ⟨bC, oC, none⟩) codes.length c] 28) = w2 at RU hb0 hs2 ⊢
  generalize w1.heap.size = gu at RU hgu ⊢
  obtain ⟨hU, hUe⟩ : ∃ x, x = w2.heap.size := ⟨_, rfl⟩
  rw [← hUe] at hs2
  have hUl : hU ≤ w2.heap.size := Nat.le_of_eq hUe
  clear hUe
  obtain ⟨R, hR⟩ : ∃ R, (if unitB codes = true then tightU codes else []) = R := ⟨_, rfl⟩
  obtain ⟨V, hV⟩ : ∃ V, unitB codes = V := ⟨_, rfl⟩
  have hNR : R.length + sumBy codeN R ≤ 1048576 := by
    rw [← hR]
    exact Nat.le_trans (tight_size codes) hN
  have HI : Hid (∀ (v : Value) (w : World) (lo B : Nat), B ≤ w.heap.size → Sl false (codeS false) w lo B codes v → Calls Try.prog 8 #[.agg #[v]] w (TightQ R V w)) := by
    rw [← hR, ← hV]
    exact Lib.hid (fun v w lo B h1 h2 => impl_TightUnit codes v w lo B h1 hN h2)
  have HS : Hid (∀ (v : Value) (w : World) (lo B : Nat), B ≤ w.heap.size → Sl false (codeS false) w lo B codes v → Calls Try.prog 6 #[.agg #[v]] w (TightQ R V w)) := by
    rw [← hR, ← hV]
    exact Lib.hid (fun v w lo B h1 h2 => spec_TightUnit codes v w lo B h1 hN h2)
  replace hR := Lib.hid hR
  replace hV := Lib.hid hV
  have yU_1 : (w2).cell? ⟨gu, 0, none⟩ = some (.slice (some ⟨bC, oC, none⟩) codes.length c) := RU.cell 0
  go_wp2_with fail
  refine (HI.out (.slice (some ⟨bC, oC, none⟩) codes.length c) _ (w.heap.size) (hU) (by first | omega | (simp; omega) | (simp at *; omega)) hs2).mono ?_
  rintro e w3 ⟨v', fx, rfl, sx, nx, gx, ex⟩
  obtain ⟨Ax, px, hf, _, _⟩ := sx.form
  subst hf
  have qx : Sl false (codeS false) w3 (w2.heap.size) (w3.heap.size) R (.slice Ax R.length px) := sx.cods (fun x hx => ⟨gx x hx, sx.lt x hx⟩)
  clear sx nx gx
  have hb2 : Below w.heap.size w w3 := hb0.trans (ex.mono hb0.size)
  have sz2 : (w2).heap.size ≤ w3.heap.size := ex.size
  have RU_2 : Row (w3) (gu) 28 #[.slice (some ⟨bC, oC, none⟩) codes.length c] := RU.below ex RU.lt
  have Xu_2 : Sl false (codeS false) (w3) (w.heap.size) (hU) codes (.slice (some ⟨bC, oC, none⟩) codes.length c) := hs2.below ex (by first | omega | (simp; omega) | (simp at *; omega))
  clear yU_1
  clear RU hs2
  go_upto_region 5 with fail
  have hb3 : Below w.heap.size w (w3.alloc (.cells #[.slice Ax R.length px] 28)) := hb2.alloc hb2.size _
  have sz3 : (w3.alloc (.cells #[.slice Ax R.length px] 28)).heap.size = w3.heap.size + 1 := by simp
  have RU_3 : Row (w3.alloc (.cells #[.slice Ax R.length px] 28)) (gu) 28 #[.slice (some ⟨bC, oC, none⟩) codes.length c] := RU_2.alloc _
  have Xu_3 : Sl false (codeS false) (w3.alloc (.cells #[.slice Ax R.length px] 28)) (w.heap.size) (hU) codes (.slice (some ⟨bC, oC, none⟩) codes.length c) := Xu_2.keep (Nat.le_refl _) (Nat.le_refl _) (fun b h1 h2 => Below.heap_alloc _ _ b (by omega))
  have Xx_3 : Sl false (codeS false) (w3.alloc (.cells #[.slice Ax R.length px] 28)) (w2.heap.size) (w3.heap.size) R (.slice Ax R.length px) := qx.keep (Nat.le_refl _) (Nat.le_refl _) (fun b h1 h2 => Below.heap_alloc _ _ b (by omega))
  clear RU_2 Xu_2 qx
  have RX_3 : Row (w3.alloc (.cells #[.slice Ax R.length px] 28)) w3.heap.size 28 #[.slice Ax R.length px] := Row.new _ _ _
  have yU_4 : (w3.alloc (.cells #[.slice Ax R.length px] 28)).cell? ⟨gu, 0, none⟩ = some (.slice (some ⟨bC, oC, none⟩) codes.length c) := RU_3.cell 0
  go_wp2_with fail
  refine (HS.out (.slice (some ⟨bC, oC, none⟩) codes.length c) _ (w.heap.size) (hU) (by first | omega | (simp; omega) | (simp at *; omega)) Xu_3).mono ?_
  rintro e w4 ⟨v', fy, rfl, sy, ny, gy, ey⟩
  obtain ⟨Ay, py, hf, _, _⟩ := sy.form
  subst hf
  have qy : Sl false (codeS false) w4 ((w3.alloc (.cells #[.slice Ax R.length px] 28)).heap.size) (w4.heap.size) R (.slice Ay R.length py) := sy.cods (fun x hx => ⟨gy x hx, sy.lt x hx⟩)
  clear sy ny gy
  have hb5 : Below w.heap.size w w4 := hb3.trans (ey.mono hb3.size)
  have sz5 : (w3.alloc (.cells #[.slice Ax R.length px] 28)).heap.size ≤ w4.heap.size := ey.size
  have RU_5 : Row (w4) (gu) 28 #[.slice (some ⟨bC, oC, none⟩) codes.length c] := RU_3.below ey RU_3.lt
  have RX_5 : Row (w4) (w3.heap.size) 28 #[.slice Ax R.length px] := RX_3.below ey RX_3.lt
  have Xu_5 : Sl false (codeS false) (w4) (w.heap.size) (hU) codes (.slice (some ⟨bC, oC, none⟩) codes.length c) := Xu_3.below ey (by first | omega | (simp; omega) | (simp at *; omega))
  have Xx_5 : Sl false (codeS false) (w4) (w2.heap.size) (w3.heap.size) R (.slice Ax R.length px) := Xx_3.below ey (by first | omega | (simp; omega) | (simp at *; omega))
  clear yU_4
  clear RU_3 RX_3 Xu_3 Xx_3
  go_upto_region 6 with fail
  have hb6 : Below w.heap.size w (w4.alloc (.cells #[.slice Ay R.length py] 28)) := hb5.alloc hb5.size _
  have sz6 : (w4.alloc (.cells #[.slice Ay R.length py] 28)).heap.size = w4.heap.size + 1 := by simp
  have RU_6 : Row (w4.alloc (.cells #[.slice Ay R.length py] 28)) (gu) 28 #[.slice (some ⟨bC, oC, none⟩) codes.length c] := RU_5.alloc _
  have RX_6 : Row (w4.alloc (.cells #[.slice Ay R.length py] 28)) (w3.heap.size) 28 #[.slice Ax R.length px] := RX_5.alloc _
  have Xu_6 : Sl false (codeS false) (w4.alloc (.cells #[.slice Ay R.length py] 28)) (w.heap.size) (hU) codes (.slice (some ⟨bC, oC, none⟩) codes.length c) := Xu_5.keep (Nat.le_refl _) (Nat.le_refl _) (fun b h1 h2 => Below.heap_alloc _ _ b (by omega))
  have Xx_6 : Sl false (codeS false) (w4.alloc (.cells #[.slice Ay R.length py] 28)) (w2.heap.size) (w3.heap.size) R (.slice Ax R.length px) := Xx_5.keep (Nat.le_refl _) (Nat.le_refl _) (fun b h1 h2 => Below.heap_alloc _ _ b (by omega))
  have Xy_6 : Sl false (codeS false) (w4.alloc (.cells #[.slice Ay R.length py] 28)) ((w3.alloc (.cells #[.slice Ax R.length px] 28)).heap.size) (w4.heap.size) R (.slice Ay R.length py) := qy.keep (Nat.le_refl _) (Nat.le_refl _) (fun b h1 h2 => Below.heap_alloc _ _ b (by omega))
  clear RU_5 RX_5 Xu_5 Xx_5 qy
  have RW_6 : Row (w4.alloc (.cells #[.slice Ay R.length py] 28)) w4.heap.size 28 #[.slice Ay R.length py] := Row.new _ _ _
  cases V with
  | false =>
    have yX_7 : (w4.alloc (.cells #[.slice Ay R.length py] 28)).cell? ⟨w3.heap.size, 0, none⟩ = some (.slice Ax R.length px) := RX_6.cell 0
    have yW_8 : (w4.alloc (.cells #[.slice Ay R.length py] 28)).cell? ⟨w4.heap.size, 0, none⟩ = some (.slice Ay R.length py) := RW_6.cell 0
    go_wp2_with fail
    refine (spec_SameUnits R (.slice Ax R.length px) R (.slice Ay R.length py) _ (w2.heap.size) (w3.heap.size) ((w3.alloc (.cells #[.slice Ax R.length px] 28)).heap.size) (w4.heap.size) (by omega) (by omega) Xx_6 Xy_6).mono ?_
    rintro e k1 ⟨he_, ek1⟩
    rw [eqB_true rfl] at he_
    subst he_
    have hb9 : Below w.heap.size w k1 := hb6.trans (ek1.mono hb6.size)
    have sz9 : (w4.alloc (.cells #[.slice Ay R.length py] 28)).heap.size ≤ k1.heap.size := ek1.size
    have RU_9 : Row (k1) (gu) 28 #[.slice (some ⟨bC, oC, none⟩) codes.length c] := RU_6.below ek1 RU_6.lt
    have RX_9 : Row (k1) (w3.heap.size) 28 #[.slice Ax R.length px] := RX_6.below ek1 RX_6.lt
    have RW_9 : Row (k1) (w4.heap.size) 28 #[.slice Ay R.length py] := RW_6.below ek1 RW_6.lt
    have Xu_9 : Sl false (codeS false) (k1) (w.heap.size) (hU) codes (.slice (some ⟨bC, oC, none⟩) codes.length c) := Xu_6.below ek1 (by first | omega | (simp; omega) | (simp at *; omega))
    have Xx_9 : Sl false (codeS false) (k1) (w2.heap.size) (w3.heap.size) R (.slice Ax R.length px) := Xx_6.below ek1 (by first | omega | (simp; omega) | (simp at *; omega))
    have Xy_9 : Sl false (codeS false) (k1) ((w3.alloc (.cells #[.slice Ax R.length px] 28)).heap.size) (w4.heap.size) R (.slice Ay R.length py) := Xy_6.below ek1 (by first | omega | (simp; omega) | (simp at *; omega))
    clear yX_7 yW_8
    clear RU_6 RX_6 RW_6 Xu_6 Xx_6 Xy_6
    have yX_10 : (k1).cell? ⟨w3.heap.size, 0, none⟩ = some (.slice Ax R.length px) := RX_9.cell 0
    have yW_11 : (k1).cell? ⟨w4.heap.size, 0, none⟩ = some (.slice Ay R.length py) := RW_9.cell 0
    go_wp2_with fail
    refine (spec_SameUnits R (.slice Ax R.length px) R (.slice Ay R.length py) _ (w2.heap.size) (w3.heap.size) ((w3.alloc (.cells #[.slice Ax R.length px] 28)).heap.size) (w4.heap.size) (by omega) (by omega) Xx_9 Xy_9).mono ?_
    rintro e k2 ⟨he_, ek2⟩
    rw [eqB_true rfl] at he_
    subst he_
    have hb12 : Below w.heap.size w k2 := hb9.trans (ek2.mono hb9.size)
    have sz12 : (k1).heap.size ≤ k2.heap.size := ek2.size
    have RU_12 : Row (k2) (gu) 28 #[.slice (some ⟨bC, oC, none⟩) codes.length c] := RU_9.below ek2 RU_9.lt
    have RX_12 : Row (k2) (w3.heap.size) 28 #[.slice Ax R.length px] := RX_9.below ek2 RX_9.lt
    have RW_12 : Row (k2) (w4.heap.size) 28 #[.slice Ay R.length py] := RW_9.below ek2 RW_9.lt
    have Xu_12 : Sl false (codeS false) (k2) (w.heap.size) (hU) codes (.slice (some ⟨bC, oC, none⟩) codes.length c) := Xu_9.below ek2 (by first | omega | (simp; omega) | (simp at *; omega))
    have Xx_12 : Sl false (codeS false) (k2) (w2.heap.size) (w3.heap.size) R (.slice Ax R.length px) := Xx_9.below ek2 (by first | omega | (simp; omega) | (simp at *; omega))
    have Xy_12 : Sl false (codeS false) (k2) ((w3.alloc (.cells #[.slice Ax R.length px] 28)).heap.size) (w4.heap.size) R (.slice Ay R.length py) := Xy_9.below ek2 (by first | omega | (simp; omega) | (simp at *; omega))
    clear yX_10 yW_11
    clear RU_9 RX_9 RW_9 Xu_9 Xx_9 Xy_9
    go_wp2_with fail
    go_ret
    exact ⟨rfl, hb12⟩
  | true =>
    have hVt : unitB codes = true := hV.out
    have hRt : R = tightU codes := by rw [← hR.out, if_pos hVt]
    have hVR : unitB R = true := by rw [hRt]; exact unitB_tight hVt
    have hCR : cntU R = cntU codes := by rw [hRt]; exact cntU_tight hVt
    have HR2 : Hid (∀ (v : Value) (w : World) (lo B : Nat), B ≤ w.heap.size → Sl false (codeS false) w lo B R v → Calls Try.prog 8 #[.agg #[v]] w (TightQ R true w)) := Lib.hid (fun v w lo B h1 h2 => by
      have h3 := impl_TightUnit R v w lo B h1 hNR h2
      have h3 := impl_TightUnit R v w lo B h1 hNR h2
      refine h3.mono ?_
      rintro e w' ⟨v', f, h4, h5, h6⟩
      rw [hVR] at h4
      rw [if_pos hVR, hRt, tightU_again, ← hRt] at h5
      exact ⟨v', f, h4, h5, h6⟩)
    have hel : Hid (∀ (k : Nat) (h1 : k < codes.length) (h2 : k < R.length), R[k] = tightC codes[k] ∧ ((tightC codes[k]).regs ≤ codes[k].regs)) := Lib.hid (fun k h1 h2 => by
      subst hRt
      refine ⟨by simp [tightU], ?_⟩
      obtain ⟨kk, hk⟩ := unit_codes hVt _ (List.getElem_mem h1)
      exact (seen_valid hk).2.2.2.1)
    have hRl : R.length = codes.length := by rw [hRt]; unfold tightU; rw [List.length_map]
    obtain ⟨C, hC⟩ : ∃ C, cntU codes = C := ⟨_, rfl⟩
    rw [hC] at hCR
    replace hC := Lib.hid hC
    replace hCR := Lib.hid hCR
    replace hVR := Lib.hid hVR
    replace hRl := Lib.hid hRl
    clear hVt hRt
    have yX_13 : (w4.alloc (.cells #[.slice Ay R.length py] 28)).cell? ⟨w3.heap.size, 0, none⟩ = some (.slice Ax R.length px) := RX_6.cell 0
    have yW_14 : (w4.alloc (.cells #[.slice Ay R.length py] 28)).cell? ⟨w4.heap.size, 0, none⟩ = some (.slice Ay R.length py) := RW_6.cell 0
    go_wp2_with fail
    refine (spec_SameUnits R (.slice Ax R.length px) R (.slice Ay R.length py) _ (w2.heap.size) (w3.heap.size) ((w3.alloc (.cells #[.slice Ax R.length px] 28)).heap.size) (w4.heap.size) (by omega) (by omega) Xx_6 Xy_6).mono ?_
    rintro e k3 ⟨he_, ek3⟩
    rw [eqB_true rfl] at he_
    subst he_
    have hb15 : Below w.heap.size w k3 := hb6.trans (ek3.mono hb6.size)
    have sz15 : (w4.alloc (.cells #[.slice Ay R.length py] 28)).heap.size ≤ k3.heap.size := ek3.size
    have RU_15 : Row (k3) (gu) 28 #[.slice (some ⟨bC, oC, none⟩) codes.length c] := RU_6.below ek3 RU_6.lt
    have RX_15 : Row (k3) (w3.heap.size) 28 #[.slice Ax R.length px] := RX_6.below ek3 RX_6.lt
    have RW_15 : Row (k3) (w4.heap.size) 28 #[.slice Ay R.length py] := RW_6.below ek3 RW_6.lt
    have Xu_15 : Sl false (codeS false) (k3) (w.heap.size) (hU) codes (.slice (some ⟨bC, oC, none⟩) codes.length c) := Xu_6.below ek3 (by first | omega | (simp; omega) | (simp at *; omega))
    have Xx_15 : Sl false (codeS false) (k3) (w2.heap.size) (w3.heap.size) R (.slice Ax R.length px) := Xx_6.below ek3 (by first | omega | (simp; omega) | (simp at *; omega))
    have Xy_15 : Sl false (codeS false) (k3) ((w3.alloc (.cells #[.slice Ax R.length px] 28)).heap.size) (w4.heap.size) R (.slice Ay R.length py) := Xy_6.below ek3 (by first | omega | (simp; omega) | (simp at *; omega))
    clear yX_13 yW_14
    clear RU_6 RX_6 RW_6 Xu_6 Xx_6 Xy_6
    have yX_16 : (k3).cell? ⟨w3.heap.size, 0, none⟩ = some (.slice Ax R.length px) := RX_15.cell 0
    go_wp2_with fail
    refine (HR2.out (.slice Ax R.length px) _ (w2.heap.size) (w3.heap.size) (by first | omega | (simp; omega) | (simp at *; omega)) Xx_15).mono ?_
    rintro e w5 ⟨v', fa, rfl, sa, na, ga, ea⟩
    obtain ⟨Aa, pa, hf, _, _⟩ := sa.form
    subst hf
    have qa : Sl false (codeS false) w5 (k3.heap.size) (w5.heap.size) R (.slice Aa R.length pa) := sa.cods (fun x hx => ⟨ga x hx, sa.lt x hx⟩)
    clear sa na ga
    have hb17 : Below w.heap.size w w5 := hb15.trans (ea.mono hb15.size)
    have sz17 : (k3).heap.size ≤ w5.heap.size := ea.size
    have RU_17 : Row (w5) (gu) 28 #[.slice (some ⟨bC, oC, none⟩) codes.length c] := RU_15.below ea RU_15.lt
    have RX_17 : Row (w5) (w3.heap.size) 28 #[.slice Ax R.length px] := RX_15.below ea RX_15.lt
    have RW_17 : Row (w5) (w4.heap.size) 28 #[.slice Ay R.length py] := RW_15.below ea RW_15.lt
    have Xu_17 : Sl false (codeS false) (w5) (w.heap.size) (hU) codes (.slice (some ⟨bC, oC, none⟩) codes.length c) := Xu_15.below ea (by first | omega | (simp; omega) | (simp at *; omega))
    have Xx_17 : Sl false (codeS false) (w5) (w2.heap.size) (w3.heap.size) R (.slice Ax R.length px) := Xx_15.below ea (by first | omega | (simp; omega) | (simp at *; omega))
    have Xy_17 : Sl false (codeS false) (w5) ((w3.alloc (.cells #[.slice Ax R.length px] 28)).heap.size) (w4.heap.size) R (.slice Ay R.length py) := Xy_15.below ea (by first | omega | (simp; omega) | (simp at *; omega))
    clear yX_16
    clear RU_15 RX_15 RW_15 Xu_15 Xx_15 Xy_15
    go_upto_region 9 with fail
    have hb18 : Below w.heap.size w (w5.alloc (.cells #[.slice Aa R.length pa] 28)) := hb17.alloc hb17.size _
    have sz18 : (w5.alloc (.cells #[.slice Aa R.length pa] 28)).heap.size = w5.heap.size + 1 := by simp
    have RU_18 : Row (w5.alloc (.cells #[.slice Aa R.length pa] 28)) (gu) 28 #[.slice (some ⟨bC, oC, none⟩) codes.length c] := RU_17.alloc _
    have RX_18 : Row (w5.alloc (.cells #[.slice Aa R.length pa] 28)) (w3.heap.size) 28 #[.slice Ax R.length px] := RX_17.alloc _
    have RW_18 : Row (w5.alloc (.cells #[.slice Aa R.length pa] 28)) (w4.heap.size) 28 #[.slice Ay R.length py] := RW_17.alloc _
    have Xu_18 : Sl false (codeS false) (w5.alloc (.cells #[.slice Aa R.length pa] 28)) (w.heap.size) (hU) codes (.slice (some ⟨bC, oC, none⟩) codes.length c) := Xu_17.keep (Nat.le_refl _) (Nat.le_refl _) (fun b h1 h2 => Below.heap_alloc _ _ b (by omega))
    have Xx_18 : Sl false (codeS false) (w5.alloc (.cells #[.slice Aa R.length pa] 28)) (w2.heap.size) (w3.heap.size) R (.slice Ax R.length px) := Xx_17.keep (Nat.le_refl _) (Nat.le_refl _) (fun b h1 h2 => Below.heap_alloc _ _ b (by omega))
    have Xy_18 : Sl false (codeS false) (w5.alloc (.cells #[.slice Aa R.length pa] 28)) ((w3.alloc (.cells #[.slice Ax R.length px] 28)).heap.size) (w4.heap.size) R (.slice Ay R.length py) := Xy_17.keep (Nat.le_refl _) (Nat.le_refl _) (fun b h1 h2 => Below.heap_alloc _ _ b (by omega))
    have Xa_18 : Sl false (codeS false) (w5.alloc (.cells #[.slice Aa R.length pa] 28)) (k3.heap.size) (w5.heap.size) R (.slice Aa R.length pa) := qa.keep (Nat.le_refl _) (Nat.le_refl _) (fun b h1 h2 => Below.heap_alloc _ _ b (by omega))
    clear RU_17 RX_17 RW_17 Xu_17 Xx_17 Xy_17 qa
    have RA_18 : Row (w5.alloc (.cells #[.slice Aa R.length pa] 28)) w5.heap.size 28 #[.slice Aa R.length pa] := Row.new _ _ _
    obtain ⟨wl, hwl⟩ : ∃ x, x = w5.alloc (.cells #[.slice Aa R.length pa] 28) := ⟨_, rfl⟩
    have szA := sz18
    rw [← hwl] at RU_18 RX_18 RW_18 RA_18 Xu_18 Xx_18 Xy_18 Xa_18 hb18 szA ⊢
    clear hwl
    have yX_19 : (wl).cell? ⟨w3.heap.size, 0, none⟩ = some (.slice Ax R.length px) := RX_18.cell 0
    go_wp2_with fail
    clear yX_19
    obtain ⟨bX, oX, hbX⟩ : ∃ bX oX : Nat, 0 < R.length → Ax = some ⟨bX, oX, none⟩ := by
      by_cases h : 0 < R.length
      · obtain ⟨b, o, _, e, _⟩ := Xx_18.at_ h
        exact ⟨b, o, fun _ => e⟩
      · exact ⟨0, 0, fun h' => absurd h' h⟩
    replace hbX := Lib.hid hbX
    go_loopw [56] (fun i wr => ∃ k : Nat, k ≤ R.length ∧ i = .int .i64 k ∧ Below wl.heap.size wl wr) (fun i _ => R.length - (intOf i).toNat)
    case atStart => exact ⟨0, by omega, rfl, Below.refl _ _⟩
    case round =>
      obtain ⟨k, hk, rfl, el⟩ := hrel
      have hb20 : Below w.heap.size w wr := hb18.trans (el.mono hb18.size)
      have sz20 : (wl).heap.size ≤ wr.heap.size := el.size
      have RU_20 : Row (wr) (gu) 28 #[.slice (some ⟨bC, oC, none⟩) codes.length c] := RU_18.below el RU_18.lt
      have RX_20 : Row (wr) (w3.heap.size) 28 #[.slice Ax R.length px] := RX_18.below el RX_18.lt
      have RW_20 : Row (wr) (w4.heap.size) 28 #[.slice Ay R.length py] := RW_18.below el RW_18.lt
      have RA_20 : Row (wr) (w5.heap.size) 28 #[.slice Aa R.length pa] := RA_18.below el RA_18.lt
      have Xu_20 : Sl false (codeS false) (wr) (w.heap.size) (hU) codes (.slice (some ⟨bC, oC, none⟩) codes.length c) := Xu_18.below el (by first | omega | (simp; omega) | (simp at *; omega))
      have Xx_20 : Sl false (codeS false) (wr) (w2.heap.size) (w3.heap.size) R (.slice Ax R.length px) := Xx_18.below el (by first | omega | (simp; omega) | (simp at *; omega))
      have Xy_20 : Sl false (codeS false) (wr) ((w3.alloc (.cells #[.slice Ax R.length px] 28)).heap.size) (w4.heap.size) R (.slice Ay R.length py) := Xy_18.below el (by first | omega | (simp; omega) | (simp at *; omega))
      have Xa_20 : Sl false (codeS false) (wr) (k3.heap.size) (w5.heap.size) R (.slice Aa R.length pa) := Xa_18.below el (by first | omega | (simp; omega) | (simp at *; omega))
      clear RU_18 RX_18 RW_18 RA_18 Xu_18 Xx_18 Xy_18 Xa_18
      by_cases hkl : k < R.length
      case pos =>
        have hkc : k < codes.length := by rw [← hRl.out]; exact hkl
        have hA := hbX.out (by omega)
        subst hA
        obtain ⟨bx, ox, px, rx, blx, vbx, eA, _, _, HX, _, _, gx2, x0, x1, x2⟩ := code_get Xx_20 hkl
        injection eA with eA
        injection eA with eA eB _
        subst eA
        subst eB
        obtain ⟨bu, ou, pu, ru, blu, vbu, eA, _, _, HU, _, _, gu2, u0, u1, u2⟩ := code_get Xu_20 hkc
        injection eA with eA
        injection eA with eA eB _
        subst eA
        subst eB
        obtain ⟨h1, h2⟩ := hel.out k hkc hkl
        rw [HU.out, HX.out] at h1
        rw [HU.out] at h2
        have hp : px = pu := congrArg CodeD.params h1
        have hr : rx ≤ ru := by rw [show rx = (tightC ⟨pu, ru, blu⟩).regs from congrArg CodeD.regs h1]; exact h2
        have hb : blx.length = blu.length := by rw [show blx = (tightC ⟨pu, ru, blu⟩).blocks from congrArg CodeD.blocks h1]; show (blu.map _).length = _; rw [List.length_map]
        subst hp
        obtain ⟨ABx, pBx, hf, _, _⟩ := gx2.form
        change _ = Value.slice ABx blx.length pBx at hf
        subst hf
        obtain ⟨ABu, pBu, hf, _, _⟩ := gu2.form
        change _ = Value.slice ABu blu.length pBu at hf
        subst hf
        rw [hb] at x2
        clear h1 h2 hb gx2 gu2 HX HU
        have hkn : (k : Int) < (R.length : Int) := by omega
        have hki : (0 : Int) ≤ (k : Int) := by omega
        have hkn2 : (k : Int) < (codes.length : Int) := by omega
        have hrr : ¬ ru < rx := by omega
        have hrd : decide (ru < rx) = false := by simp; omega
        go_upto_region 12 with fail
        have RC : Row (wr.alloc (.cells #[.int .i64 px, .int .i64 rx, .slice ABx blu.length pBx] 39)) wr.heap.size 39 #[.int .i64 px, .int .i64 rx, .slice ABx blu.length pBx] := Row.new _ _ _
        have nb : Below wr.heap.size wr (wr.alloc (.cells #[.int .i64 px, .int .i64 rx, .slice ABx blu.length pBx] 39)) := (Below.refl _ _).alloc (Nat.le_refl _) _
        have RU9 := RU_20.below nb RU_20.lt
        have hbu : bC < wr.heap.size := World.block_lt_of_cell? wr _ u0
        have u0' := (nb.cell (p := ⟨bC, oC + k * 3, none⟩) hbu).trans u0
        have u1' := (nb.cell (p := ⟨bC, oC + k * 3 + 1, none⟩) hbu).trans u1
        have u2' := (nb.cell (p := ⟨bC, oC + k * 3 + 2, none⟩) hbu).trans u2
        have el2 : Below wl.heap.size wl (wr.alloc (.cells #[.int .i64 px, .int .i64 rx, .slice ABx blu.length pBx] 39)).drew := (el.trans (nb.mono el.size)).drew
        clear x0 x1 x2 u0 u1 u2 nb
        generalize wr.alloc (.cells #[.int .i64 px, .int .i64 rx, .slice ABx blu.length pBx] 39) = wq at RC RU9 u0' u1' u2' el2 ⊢
        obtain ⟨gc, hgc⟩ : ∃ x, x = wr.heap.size := ⟨_, rfl⟩
        rw [← hgc] at RC ⊢
        clear hgc
        refine wp_region_held_drew (S := fun w' => (w'.cell? ⟨gc, 0, none⟩ = some (.int .i64 px) ∧ w'.cell? ⟨gc, 1, none⟩ = some (.int .i64 rx) ∧ w'.cell? ⟨gc, 2, none⟩ = some (.slice ABx blu.length pBx) ∧ w'.cell? ⟨gu, 0, none⟩ = some (.slice (some ⟨bC, oC, none⟩) codes.length c) ∧ w'.cell? ⟨bC, oC + k * 3, none⟩ = some (.int .i64 px) ∧ w'.cell? ⟨bC, oC + k * 3 + 1, none⟩ = some (.int .i64 ru) ∧ w'.cell? ⟨bC, oC + k * 3 + 2, none⟩ = some (.slice ABu blu.length pBu))) (by kernel_rfl) ?_ (fun hHeld => ?_)
        · exact ⟨RC.cell 0, RC.cell 1, RC.cell 2, RU9.cell 0, u0', u1', u2'⟩
        have hSS : (fun w' : World => (w'.cell? ⟨gc, 0, none⟩ = some (.int .i64 px) ∧ w'.cell? ⟨gc, 1, none⟩ = some (.int .i64 rx) ∧ w'.cell? ⟨gc, 2, none⟩ = some (.slice ABx blu.length pBx) ∧ w'.cell? ⟨gu, 0, none⟩ = some (.slice (some ⟨bC, oC, none⟩) codes.length c) ∧ w'.cell? ⟨bC, oC + k * 3, none⟩ = some (.int .i64 px) ∧ w'.cell? ⟨bC, oC + k * 3 + 1, none⟩ = some (.int .i64 ru) ∧ w'.cell? ⟨bC, oC + k * 3 + 2, none⟩ = some (.slice ABu blu.length pBu))) wq.drew := ⟨RC.cell 0, RC.cell 1, RC.cell 2, RU9.cell 0, u0', u1', u2'⟩
        refine tk (i := 0) ?_
        try simp only [ap]
        refine tk (i := 1) ?_
        try simp only [ap]
        refine tk (i := 2) ?_
        try simp only [ap]
        refine tk (i := 3) ?_
        try simp only [ap]
        refine tk (i := 4) ?_
        try simp only [ap]
        refine tk (i := 5) ?_
        try simp only [ap]
        refine tk (i := 6) ?_
        try simp only [ap]
        refine tk (i := 7) ?_
        try simp only [ap]
        refine tk (i := 8) ?_
        try simp only [ap]
        refine tk (i := 9) ?_
        try simp only [ap]
        refine tk (i := 10) ?_
        try simp only [ap]
        refine tk (i := 11) ?_
        try simp only [ap]
        refine tk (i := 12) ?_
        try simp only [ap]
        refine tk (i := 13) ?_
        try simp only [ap]
        refine tk (i := 14) ?_
        try simp only [ap]
        refine tk (i := 15) ?_
        try simp only [ap]
        refine tk (i := 16) ?_
        try simp only [ap]
        refine tk (i := 17) ?_
        try simp only [ap]
        refine tk (i := 18) ?_
        try simp only [ap]
        refine tk (i := 19) ?_
        try simp only [ap]
        refine tk (i := 20) ?_
        try simp only [ap]
        refine tk (i := 21) ?_
        try simp only [ap]
        refine tk (i := 22) ?_
        try simp only [ap]
        refine tk (i := 23) ?_
        try simp only [ap]
        refine tk (i := 24) ?_
        try simp only [ap]
        refine tk (i := 25) ?_
        try simp only [ap]
        refine tk (i := 26) ?_
        try simp only [ap]
        refine tk (i := 27) ?_
        try simp only [ap]
        refine tk (i := 28) ?_
        try simp only [ap]
        refine tk (i := 29) ?_
        try simp only [ap]
        refine tk (i := 30) ?_
        try simp only [ap]
        refine tk (i := 31) ?_
        try simp only [ap]
        refine tk (i := 32) ?_
        try simp only [ap]
        refine wpAnyH_done (by kernel_rfl) ?_ _
        go_wp2_with fail
        go_roundw
        case rel => exact ⟨k + 1, by omega, by go_num, el2⟩
        case measure => simp [intOf]; omega
      case neg =>
        have hkn : ¬ (k : Int) < (R.length : Int) := by omega
        have yU_21 : (wr).cell? ⟨gu, 0, none⟩ = some (.slice (some ⟨bC, oC, none⟩) codes.length c) := RU_20.cell 0
        have yX_22 : (wr).cell? ⟨w3.heap.size, 0, none⟩ = some (.slice Ax R.length px) := RX_20.cell 0
        have yA_23 : (wr).cell? ⟨w5.heap.size, 0, none⟩ = some (.slice Aa R.length pa) := RA_20.cell 0
        go_upto_region 15 with fail
        refine wp_region_held_drew (S := fun w' => (w'.cell? ⟨w5.heap.size, 0, none⟩ = some (.slice Aa R.length pa) ∧ w'.cell? ⟨w3.heap.size, 0, none⟩ = some (.slice Ax R.length px) ∧ w'.cell? ⟨gu, 0, none⟩ = some (.slice (some ⟨bC, oC, none⟩) codes.length c))) (by kernel_rfl) ?_ (fun hHeld => ?_)
        · exact ⟨RA_20.cell 0, RX_20.cell 0, RU_20.cell 0⟩
        have ed24 : Below wr.heap.size wr wr.drew := (Below.refl _ _).drew
        have hb25 : Below w.heap.size w wr.drew := hb20.trans (ed24.mono hb20.size)
        have sz25 : (wr).heap.size ≤ wr.drew.heap.size := ed24.size
        have RU_25 : Row (wr.drew) (gu) 28 #[.slice (some ⟨bC, oC, none⟩) codes.length c] := RU_20.below ed24 RU_20.lt
        have RX_25 : Row (wr.drew) (w3.heap.size) 28 #[.slice Ax R.length px] := RX_20.below ed24 RX_20.lt
        have RW_25 : Row (wr.drew) (w4.heap.size) 28 #[.slice Ay R.length py] := RW_20.below ed24 RW_20.lt
        have RA_25 : Row (wr.drew) (w5.heap.size) 28 #[.slice Aa R.length pa] := RA_20.below ed24 RA_20.lt
        have Xu_25 : Sl false (codeS false) (wr.drew) (w.heap.size) (hU) codes (.slice (some ⟨bC, oC, none⟩) codes.length c) := Xu_20.below ed24 (by first | omega | (simp; omega) | (simp at *; omega))
        have Xx_25 : Sl false (codeS false) (wr.drew) (w2.heap.size) (w3.heap.size) R (.slice Ax R.length px) := Xx_20.below ed24 (by first | omega | (simp; omega) | (simp at *; omega))
        have Xy_25 : Sl false (codeS false) (wr.drew) ((w3.alloc (.cells #[.slice Ax R.length px] 28)).heap.size) (w4.heap.size) R (.slice Ay R.length py) := Xy_20.below ed24 (by first | omega | (simp; omega) | (simp at *; omega))
        have Xa_25 : Sl false (codeS false) (wr.drew) (k3.heap.size) (w5.heap.size) R (.slice Aa R.length pa) := Xa_20.below ed24 (by first | omega | (simp; omega) | (simp at *; omega))
        clear yU_21 yX_22 yA_23
        clear RU_20 RX_20 RW_20 RA_20 Xu_20 Xx_20 Xy_20 Xa_20
        obtain ⟨wd24, hwd24⟩ : ∃ x, x = wr.drew := ⟨_, rfl⟩
        rw [← hwd24] at hHeld RU_25 RX_25 RW_25 RA_25 Xu_25 Xx_25 Xy_25 Xa_25 hb25 sz25 ⊢
        clear hwd24 ed24
        refine tk (i := 0) ?_
        try simp only [ap]
        refine tk (i := 1) ?_
        try simp only [ap]
        refine tk (i := 2) ?_
        try simp only [ap]
        refine tk (i := 3) ?_
        try simp only [ap]
        refine reg_call (i := 4) (by kernel_rfl) rfl (fun K hK => ?_)
        go_simp
        refine (impl_SameUnits R (.slice Aa R.length pa) R (.slice Ax R.length px) _ (k3.heap.size) (w5.heap.size) (w2.heap.size) (w3.heap.size) (by omega) (by omega) Xa_25 Xx_25).mono ?_
        rintro e m1 ⟨he_, em1⟩
        rw [eqB_true rfl] at he_
        subst he_
        have hb26 : Below w.heap.size w m1 := hb25.trans (em1.mono hb25.size)
        have sz26 : (wd24).heap.size ≤ m1.heap.size := em1.size
        have RU_26 : Row (m1) (gu) 28 #[.slice (some ⟨bC, oC, none⟩) codes.length c] := RU_25.below em1 RU_25.lt
        have RX_26 : Row (m1) (w3.heap.size) 28 #[.slice Ax R.length px] := RX_25.below em1 RX_25.lt
        have RW_26 : Row (m1) (w4.heap.size) 28 #[.slice Ay R.length py] := RW_25.below em1 RW_25.lt
        have RA_26 : Row (m1) (w5.heap.size) 28 #[.slice Aa R.length pa] := RA_25.below em1 RA_25.lt
        have Xu_26 : Sl false (codeS false) (m1) (w.heap.size) (hU) codes (.slice (some ⟨bC, oC, none⟩) codes.length c) := Xu_25.below em1 (by first | omega | (simp; omega) | (simp at *; omega))
        have Xx_26 : Sl false (codeS false) (m1) (w2.heap.size) (w3.heap.size) R (.slice Ax R.length px) := Xx_25.below em1 (by first | omega | (simp; omega) | (simp at *; omega))
        have Xy_26 : Sl false (codeS false) (m1) ((w3.alloc (.cells #[.slice Ax R.length px] 28)).heap.size) (w4.heap.size) R (.slice Ay R.length py) := Xy_25.below em1 (by first | omega | (simp; omega) | (simp at *; omega))
        have Xa_26 : Sl false (codeS false) (m1) (k3.heap.size) (w5.heap.size) R (.slice Aa R.length pa) := Xa_25.below em1 (by first | omega | (simp; omega) | (simp at *; omega))
        clear RU_25 RX_25 RW_25 RA_25 Xu_25 Xx_25 Xy_25 Xa_25
        refine hK.out _ _ ?_ (fun hHeld => ?_)
        · exact ⟨RA_26.cell 0, RX_26.cell 0, RU_26.cell 0⟩
        clear hK K
        try simp only [ap]
        refine tk (i := 5) ?_
        try simp only [ap]
        refine tk (i := 6) ?_
        try simp only [ap]
        refine tk (i := 7) ?_
        try simp only [ap]
        refine reg_call (i := 8) (by kernel_rfl) rfl (fun K hK => ?_)
        go_simp
        refine (impl_UnitValid R (.slice Ax R.length px) _ (w2.heap.size) (w3.heap.size) (by omega) hNR Xx_26).mono ?_
        rintro e m2 ⟨he_, em2⟩
        rw [hVR.out] at he_
        subst he_
        have hb27 : Below w.heap.size w m2 := hb26.trans (em2.mono hb26.size)
        have sz27 : (m1).heap.size ≤ m2.heap.size := em2.size
        have RU_27 : Row (m2) (gu) 28 #[.slice (some ⟨bC, oC, none⟩) codes.length c] := RU_26.below em2 RU_26.lt
        have RX_27 : Row (m2) (w3.heap.size) 28 #[.slice Ax R.length px] := RX_26.below em2 RX_26.lt
        have RW_27 : Row (m2) (w4.heap.size) 28 #[.slice Ay R.length py] := RW_26.below em2 RW_26.lt
        have RA_27 : Row (m2) (w5.heap.size) 28 #[.slice Aa R.length pa] := RA_26.below em2 RA_26.lt
        have Xu_27 : Sl false (codeS false) (m2) (w.heap.size) (hU) codes (.slice (some ⟨bC, oC, none⟩) codes.length c) := Xu_26.below em2 (by first | omega | (simp; omega) | (simp at *; omega))
        have Xx_27 : Sl false (codeS false) (m2) (w2.heap.size) (w3.heap.size) R (.slice Ax R.length px) := Xx_26.below em2 (by first | omega | (simp; omega) | (simp at *; omega))
        have Xy_27 : Sl false (codeS false) (m2) ((w3.alloc (.cells #[.slice Ax R.length px] 28)).heap.size) (w4.heap.size) R (.slice Ay R.length py) := Xy_26.below em2 (by first | omega | (simp; omega) | (simp at *; omega))
        have Xa_27 : Sl false (codeS false) (m2) (k3.heap.size) (w5.heap.size) R (.slice Aa R.length pa) := Xa_26.below em2 (by first | omega | (simp; omega) | (simp at *; omega))
        clear RU_26 RX_26 RW_26 RA_26 Xu_26 Xx_26 Xy_26 Xa_26
        refine hK.out _ _ ?_ (fun hHeld => ?_)
        · exact ⟨RA_27.cell 0, RX_27.cell 0, RU_27.cell 0⟩
        clear hK K
        try simp only [ap]
        refine tk (i := 9) ?_
        try simp only [ap]
        refine tk (i := 10) ?_
        try simp only [ap]
        refine tk (i := 11) ?_
        try simp only [ap]
        refine tk (i := 13) ?_
        try simp only [ap]
        refine reg_call (i := 12) (by kernel_rfl) rfl (fun K hK => ?_)
        go_simp
        refine (impl_InsCount R (.slice Ax R.length px) _ (w2.heap.size) (w3.heap.size) (by omega) hNR Xx_27).mono ?_
        rintro e m3 ⟨he_, em3⟩
        rw [hCR.out] at he_
        subst he_
        have hb28 : Below w.heap.size w m3 := hb27.trans (em3.mono hb27.size)
        have sz28 : (m2).heap.size ≤ m3.heap.size := em3.size
        have RU_28 : Row (m3) (gu) 28 #[.slice (some ⟨bC, oC, none⟩) codes.length c] := RU_27.below em3 RU_27.lt
        have RX_28 : Row (m3) (w3.heap.size) 28 #[.slice Ax R.length px] := RX_27.below em3 RX_27.lt
        have RW_28 : Row (m3) (w4.heap.size) 28 #[.slice Ay R.length py] := RW_27.below em3 RW_27.lt
        have RA_28 : Row (m3) (w5.heap.size) 28 #[.slice Aa R.length pa] := RA_27.below em3 RA_27.lt
        have Xu_28 : Sl false (codeS false) (m3) (w.heap.size) (hU) codes (.slice (some ⟨bC, oC, none⟩) codes.length c) := Xu_27.below em3 (by first | omega | (simp; omega) | (simp at *; omega))
        have Xx_28 : Sl false (codeS false) (m3) (w2.heap.size) (w3.heap.size) R (.slice Ax R.length px) := Xx_27.below em3 (by first | omega | (simp; omega) | (simp at *; omega))
        have Xy_28 : Sl false (codeS false) (m3) ((w3.alloc (.cells #[.slice Ax R.length px] 28)).heap.size) (w4.heap.size) R (.slice Ay R.length py) := Xy_27.below em3 (by first | omega | (simp; omega) | (simp at *; omega))
        have Xa_28 : Sl false (codeS false) (m3) (k3.heap.size) (w5.heap.size) R (.slice Aa R.length pa) := Xa_27.below em3 (by first | omega | (simp; omega) | (simp at *; omega))
        clear RU_27 RX_27 RW_27 RA_27 Xu_27 Xx_27 Xy_27 Xa_27
        refine hK.out _ _ ?_ (fun hHeld => ?_)
        · exact ⟨RA_28.cell 0, RX_28.cell 0, RU_28.cell 0⟩
        clear hK K
        try simp only [ap]
        refine reg_call (i := 14) (by kernel_rfl) rfl (fun K hK => ?_)
        go_simp
        refine (impl_InsCount codes (.slice (some ⟨bC, oC, none⟩) codes.length c) _ (w.heap.size) (hU) (by omega) hN Xu_28).mono ?_
        rintro e m4 ⟨he_, em4⟩
        rw [hC.out] at he_
        subst he_
        have hb29 : Below w.heap.size w m4 := hb28.trans (em4.mono hb28.size)
        have sz29 : (m3).heap.size ≤ m4.heap.size := em4.size
        have RU_29 : Row (m4) (gu) 28 #[.slice (some ⟨bC, oC, none⟩) codes.length c] := RU_28.below em4 RU_28.lt
        have RX_29 : Row (m4) (w3.heap.size) 28 #[.slice Ax R.length px] := RX_28.below em4 RX_28.lt
        have RW_29 : Row (m4) (w4.heap.size) 28 #[.slice Ay R.length py] := RW_28.below em4 RW_28.lt
        have RA_29 : Row (m4) (w5.heap.size) 28 #[.slice Aa R.length pa] := RA_28.below em4 RA_28.lt
        have Xu_29 : Sl false (codeS false) (m4) (w.heap.size) (hU) codes (.slice (some ⟨bC, oC, none⟩) codes.length c) := Xu_28.below em4 (by first | omega | (simp; omega) | (simp at *; omega))
        have Xx_29 : Sl false (codeS false) (m4) (w2.heap.size) (w3.heap.size) R (.slice Ax R.length px) := Xx_28.below em4 (by first | omega | (simp; omega) | (simp at *; omega))
        have Xy_29 : Sl false (codeS false) (m4) ((w3.alloc (.cells #[.slice Ax R.length px] 28)).heap.size) (w4.heap.size) R (.slice Ay R.length py) := Xy_28.below em4 (by first | omega | (simp; omega) | (simp at *; omega))
        have Xa_29 : Sl false (codeS false) (m4) (k3.heap.size) (w5.heap.size) R (.slice Aa R.length pa) := Xa_28.below em4 (by first | omega | (simp; omega) | (simp at *; omega))
        clear RU_28 RX_28 RW_28 RA_28 Xu_28 Xx_28 Xy_28 Xa_28
        refine hK.out _ _ ?_ (fun hHeld => ?_)
        · exact ⟨RA_29.cell 0, RX_29.cell 0, RU_29.cell 0⟩
        clear hK K
        try simp only [ap]
        refine tk (i := 15) ?_
        try simp only [ap]
        refine tk (i := 16) ?_
        try simp only [ap]
        refine tk (i := 17) ?_
        try simp only [ap]
        refine wpAnyH_done (by kernel_rfl) ?_ _
        go_wp2_with fail
        go_ret
        exact ⟨rfl, hb29⟩

set_option maxRecDepth 100000 in
theorem fnTightRegs_lifted (os : Os) (started : os.Started) (H : Type) (enc : TypeId × Value → H) :
    ReturnsInHanded {} Try.checked os 4 .any (Rows.fnTightRegsSpec.pre6 enc Try.prog Try.f4 Rows.fnTightRegsRow.domain false) (Rows.fnTightRegsSpec.post enc Try.prog Try.f4 false true false false) := by
  refine returnsInHanded_of_change (C := Try.checked) own started (by kernel_rfl) Try.func4
    (ChangeSpec.witness6 (enc := enc) (C := Try.checked) false ⟨#[], #[.slice none 0 0], []⟩ 8 (by kernel_rfl) (by kernel_rfl) (by kernel_rfl) (by kernel_rfl)) ?_
  intro W base args ds gs before hval0 hW hcnd _
  have hval : ∀ (j : Nat) t v, Try.f4.params[j]? = some t → args[j]? = some v → Value.okWide Try.prog W .any base t v := hval0
  obtain ⟨p, q, hA0, hV, hrest⟩ := id hW
  have hA : DataW.TrodAll enc Try.prog W 0 (fun _ => true) true Try.f4.params.toList args.toList ds p := hA0
  rw [Try.params4] at hA hval
  obtain ⟨v0, d0, rfl, rfl, h0⟩ := trodAll_one hA
  obtain ⟨rfl, rfl⟩ := trodVars_none hV
  obtain ⟨a, len, cap, rfl⟩ := okWide_slice Try.underlying35 (hval 0 _ v0 rfl rfl)
  obtain ⟨fuel0, hf0⟩ := h0
  obtain ⟨da0, vv, hv0, ha0⟩ := dec_slice Try.underlying35 (by kernel_rfl) (by decide) dec_u8 hf0
  simp only [Value.cells, List.cons.injEq, and_true] at hv0
  subst hv0
  have hcall := law_FnTightRegs da0 _ W ha0
  refine hcall.mono fun e W' ⟨he, hb⟩ => ?_
  subst he
  exact ⟨_, rfl, post_true laidO hW rfl (by kernel_rfl) Try.underlying4 (by rw [Try.params4]; intro t ht; simp only [List.mem_cons, List.not_mem_nil, or_false] at ht; subst ht; exact ⟨by kernel_rfl, of_decide_eq_true (by kernel_rfl)⟩) rfl rfl rfl hb⟩

set_option maxRecDepth 100000 in
set_option maxHeartbeats 1000000 in
theorem fnTightRegs_facts : joinedFacts Try.prog 4 Try.f4 Rows.fnTightRegsSpec Rows.fnTightRegsRow = true := by
  unfold joinedFacts
  exact and_mk (and_mk (and_mk (and_mk (and_mk (and_mk (and_mk (and_mk (and_mk (and_mk (and_mk (and_mk (and_mk (and_mk (and_mk (and_mk (and_mk (and_mk (and_mk (and_mk (and_mk (and_mk (and_mk (and_mk (and_mk (and_mk (and_mk (and_mk (and_mk (and_mk (and_mk (by as_aux_lemma => kernel_rfl) laidO) mapsRowedO) (by as_aux_lemma => kernel_rfl)) (by as_aux_lemma => kernel_rfl)) (by as_aux_lemma => kernel_rfl)) (by as_aux_lemma => kernel_rfl)) (by as_aux_lemma => kernel_rfl)) (by as_aux_lemma => kernel_rfl)) (by as_aux_lemma => kernel_rfl)) (by as_aux_lemma => kernel_rfl)) (by as_aux_lemma => kernel_rfl)) (by as_aux_lemma => kernel_rfl)) (by as_aux_lemma => kernel_rfl)) (by as_aux_lemma => kernel_rfl)) (by as_aux_lemma => kernel_rfl)) (by as_aux_lemma => kernel_rfl)) (by as_aux_lemma => kernel_rfl)) (by as_aux_lemma => kernel_rfl)) (by as_aux_lemma => kernel_rfl)) (by as_aux_lemma => kernel_rfl)) (by as_aux_lemma => kernel_rfl)) (by rw [plainKeysO]; rfl)) (by as_aux_lemma => kernel_rfl)) stopsHeardO) mayEnter) (by rw [liftsFinal]; rfl)) (by rw [makeCut]; rfl)) (by as_aux_lemma => kernel_rfl)) (by as_aux_lemma => kernel_rfl)) (by as_aux_lemma => kernel_rfl)) (by as_aux_lemma => kernel_rfl)

theorem fnTightRegs_holds : Rows.FnTightRegsSaid :=
  OpenClaim.holds_of_wide 4 Try.f4 rfl rfl rfl rfl rfl rfl rfl ⟨rfl, rfl, rfl, rfl, rfl⟩ rfl rfl rfl rfl rfl (by kernel_rfl) Try.func4 fnTightRegs_facts
    (of_decide_eq_true (by kernel_rfl)) (by unfold Func.isWrapper; first | (rw [if_pos (by decide +kernel)]; kernel_rfl) | (rw [if_neg (by decide +kernel)]; exact ⟨rfl, rfl⟩))
    (fun os started H enc _ => fnTightRegs_lifted os started H enc)
end Go.Proofs.Ytgcjccoglcgcoaa
