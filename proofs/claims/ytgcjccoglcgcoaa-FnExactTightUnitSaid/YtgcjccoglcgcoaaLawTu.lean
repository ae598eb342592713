/-
  The law FnExactTightUnit: it returns true for all arguments. No condition.
-/
import Derived.Test.YtgcjccoglcgcoaaStu
import Derived.Test.YtgcjccoglcgcoaaHkF
import Derived.Test.YtgcjccoglcgcoaaEq
import Derived.Test.YtgcjccoglcgcoaaDec
import Derived.Test.YtgcjccoglcgcoaaFacts
namespace Go.Proofs.Ytgcjccoglcgcoaa
open Go.RowKit Go.ChangeShapes Go.WideShapes Go.Deep
set_option linter.unusedVariables false
set_option linter.unusedSimpArgs false
/-- an answer in new memory: the codes R, and whether they are one -/
def TightQ (R : List CodeD) (ub : Bool) (w : World) (e : Ending) (w' : World) : Prop :=
  ∃ (v : Value) (f : List Nat), e = .returned (.tuple #[.agg #[v], .bool ub]) ∧ SlF cdF 39 w' f R v ∧ f.Nodup ∧ (∀ x ∈ f, w.heap.size ≤ x) ∧ Below w.heap.size w w'
theorem unit_slm {m : Bool} {w : World} {lo B : Nat} {a : UnitD} {v : Value} (h : (unitS m).rep w lo B a [v]) : Sl m (codeS m) w lo B a.codes v := by
  obtain ⟨c0, e0, u0, e1, g0⟩ := h
  injection e0 with e0
  injection e1 with e1
  rw [e0, e1]
  exact g0
theorem codeN_tight (c : CodeD) : codeN (tightC c) = codeN c := by
  have h1 : ∀ (σ : Int → Int) (x : BlkD), blkN (renBlk σ x) = blkN x := fun σ x => by
    unfold blkN renBlk
    simp only [List.length_map]
    rw [sumBy_map phiN phiN (renPhi σ) (fun a => by simp [phiN, renPhi]) x.phis, sumBy_map insN insN (renIns σ) (fun a => by simp [insN, renIns]) x.ins]
  show (c.blocks.map _).length + sumBy blkN (c.blocks.map _) = _
  rw [List.length_map, sumBy_map blkN blkN _ (h1 _)]
  rfl
theorem tight_size (codes : List CodeD) : (if unitB codes = true then tightU codes else []).length + sumBy codeN (if unitB codes = true then tightU codes else []) ≤ codes.length + sumBy codeN codes := by
  split
  · unfold tightU
    rw [List.length_map, sumBy_map codeN codeN tightC codeN_tight]
    exact Nat.le_refl _
  · simp [sumBy]
set_option maxRecDepth 100000 in
set_option maxHeartbeats 8000000 in
theorem lawq_TightUnit (R : List CodeD) (ub : Bool) (codes : List CodeD) (v0 : Value) (w : World) (h0 : Sl false (codeS false) w 0 w.heap.size codes v0) (hsz : codes.length + sumBy codeN codes ≤ 1048576 → R.length + sumBy codeN R ≤ 1048576)
    (HS : ∀ (v : Value) (w : World) (lo B : Nat), B ≤ w.heap.size → codes.length + sumBy codeN codes ≤ 1048576 → Sl false (codeS false) w lo B codes v → Calls Try.prog 6 #[.agg #[v]] w (TightQ R ub w))
    (HI : ∀ (v : Value) (w : World) (lo B : Nat), B ≤ w.heap.size → codes.length + sumBy codeN codes ≤ 1048576 → Sl false (codeS false) w lo B codes v → Calls Try.prog 8 #[.agg #[v]] w (TightQ R ub w)) :
    Calls Try.prog 3 #[.agg #[v0]] w (Yes w) := by
  have hb0 : Below w.heap.size w (w.alloc (.cells #[v0] 24)) := (Below.refl _ _).alloc (Nat.le_refl _) _
  have sz0 : (w.alloc (.cells #[v0] 24)).heap.size = w.heap.size + 1 := by simp
  have RL_0 : Row (w.alloc (.cells #[v0] 24)) w.heap.size 24 #[v0] := Row.new _ _ _
  replace HS := Lib.hid HS
  replace HI := Lib.hid HI
  go_enter Try.func3, Try.ntmps3
  go_wp2_with fail
  refine (sz_Unit codes v0 1048576 _ 0 w.heap.size (by omega) (by omega) hb0.size (h0.below hb0 (Nat.le_refl _))).mono ?_
  rintro e w1 ⟨r0, rfl, a0, b0, c0, e0⟩
  have hb1 : Below w.heap.size w w1 := hb0.trans (e0.mono hb0.size)
  have sz1 : (w.alloc (.cells #[v0] 24)).heap.size ≤ w1.heap.size := e0.size
  have RL_1 : Row (w1) (w.heap.size) 24 #[v0] := RL_0.below e0 RL_0.lt
  clear RL_0
  have C0 := Lib.hid c0
  clear c0
  by_cases hr0 : r0 < 0
  · go_wp2_with fail
    go_ret
    exact ⟨rfl, hb1⟩
  have hN : codes.length + sumBy codeN codes ≤ 1048576 := by
    have := C0.out (by omega)
    omega
  have hNR := hsz hN
  have hM3 := cC_le R
  have hr0' : 0 ≤ r0 := by omega
  clear C0 a0 b0 hsz
  have yL_2 : (w1).cell? ⟨w.heap.size, 0, none⟩ = some (v0) := RL_1.cell 0
  go_wp2_with fail
  refine (to_Unit codes v0 _ 0 w.heap.size hb1.size hN (h0.below hb1 (Nat.le_refl _))).mono ?_
  rintro e w2 ⟨cs, rfl, hx, es⟩
  obtain ⟨xs, rfl, qs⟩ := unit_open (hx false)
  have ts := unit_slm (hx true)
  clear hx
  obtain ⟨As, ps, hf, _, _⟩ := qs.form
  change _ = Value.slice As codes.length ps at hf
  subst hf
  replace qs : Sl false (codeS false) w2 (w1.heap.size) w2.heap.size codes (.slice As codes.length ps) := qs
  replace ts : Sl true (codeS true) w2 (w1.heap.size) w2.heap.size codes (.slice As codes.length ps) := ts
  have hb3 : Below w.heap.size w w2 := hb1.trans (es.mono hb1.size)
  have sz3 : (w1).heap.size ≤ w2.heap.size := es.size
  have RL_3 : Row (w2) (w.heap.size) 24 #[v0] := RL_1.below es RL_1.lt
  clear yL_2
  clear RL_1
  go_wp2_with fail
  refine (HS.out (.slice As codes.length ps) _ (w1.heap.size) (w2.heap.size) (by first | omega | (simp; omega) | (simp at *; omega)) hN qs).mono ?_
  rintro e w3 ⟨v', fw, rfl, sw, nw, gw, ew⟩
  obtain ⟨Aw, pw, hf, _, _⟩ := sw.form
  subst hf
  have lw : ∀ x ∈ fw, w2.heap.size ≤ x ∧ x < w3.heap.size := fun x hx => ⟨gw x hx, sw.lt x hx⟩
  have qw : Sl false (codeS false) w3 (w2.heap.size) (w3.heap.size) R (.slice Aw R.length pw) := sw.cods lw
  have hb4 : Below w.heap.size w w3 := hb3.trans (ew.mono hb3.size)
  have sz4 : (w2).heap.size ≤ w3.heap.size := ew.size
  have RL_4 : Row (w3) (w.heap.size) 24 #[v0] := RL_3.below ew RL_3.lt
  clear RL_3
  go_upto_region 6 with fail
  have hb5 : Below w.heap.size w (w3.alloc (.cells #[.slice Aw R.length pw] 28)) := hb4.alloc hb4.size _
  have sz5 : (w3.alloc (.cells #[.slice Aw R.length pw] 28)).heap.size = w3.heap.size + 1 := by simp
  have RL_5 : Row (w3.alloc (.cells #[.slice Aw R.length pw] 28)) (w.heap.size) 24 #[v0] := RL_4.alloc _
  have Xw_5 : Sl false (codeS false) (w3.alloc (.cells #[.slice Aw R.length pw] 28)) (w2.heap.size) (w3.heap.size) R (.slice Aw R.length pw) := qw.keep (Nat.le_refl _) (Nat.le_refl _) (fun b h1 h2 => Below.heap_alloc _ _ b (by omega))
  clear RL_4 qw
  have RW_5 : Row (w3.alloc (.cells #[.slice Aw R.length pw] 28)) w3.heap.size 28 #[.slice Aw R.length pw] := Row.new _ _ _
  have yL_6 : (w3.alloc (.cells #[.slice Aw R.length pw] 28)).cell? ⟨w.heap.size, 0, none⟩ = some (v0) := RL_5.cell 0
  go_wp2_with fail
  refine (to_Unit codes v0 _ 0 w.heap.size hb5.size hN (h0.below hb5 (Nat.le_refl _))).mono ?_
  rintro e u0 ⟨cs, rfl, hx, ex⟩
  obtain ⟨xx, rfl, qx⟩ := unit_open (hx false)
  have tx := unit_slm (hx true)
  clear hx
  obtain ⟨Ax, px, hf, _, _⟩ := qx.form
  change _ = Value.slice Ax codes.length px at hf
  subst hf
  replace qx : Sl false (codeS false) u0 ((w3.alloc (.cells #[.slice Aw R.length pw] 28)).heap.size) u0.heap.size codes (.slice Ax codes.length px) := qx
  replace tx : Sl true (codeS true) u0 ((w3.alloc (.cells #[.slice Aw R.length pw] 28)).heap.size) u0.heap.size codes (.slice Ax codes.length px) := tx
  have hb7 : Below w.heap.size w u0 := hb5.trans (ex.mono hb5.size)
  have sz7 : (w3.alloc (.cells #[.slice Aw R.length pw] 28)).heap.size ≤ u0.heap.size := ex.size
  have RL_7 : Row (u0) (w.heap.size) 24 #[v0] := RL_5.below ex RL_5.lt
  have RW_7 : Row (u0) (w3.heap.size) 28 #[.slice Aw R.length pw] := RW_5.below ex RW_5.lt
  have Xw_7 : Sl false (codeS false) (u0) (w2.heap.size) (w3.heap.size) R (.slice Aw R.length pw) := Xw_5.below ex (by first | omega | (simp; omega) | (simp at *; omega))
  clear yL_6
  clear RL_5 RW_5 Xw_5
  go_upto_region 7 with fail
  have hb8 : Below w.heap.size w (u0.alloc (.cells #[.slice Ax codes.length px] 28)) := hb7.alloc hb7.size _
  have sz8 : (u0.alloc (.cells #[.slice Ax codes.length px] 28)).heap.size = u0.heap.size + 1 := by simp
  have RL_8 : Row (u0.alloc (.cells #[.slice Ax codes.length px] 28)) (w.heap.size) 24 #[v0] := RL_7.alloc _
  have RW_8 : Row (u0.alloc (.cells #[.slice Ax codes.length px] 28)) (w3.heap.size) 28 #[.slice Aw R.length pw] := RW_7.alloc _
  have Xw_8 : Sl false (codeS false) (u0.alloc (.cells #[.slice Ax codes.length px] 28)) (w2.heap.size) (w3.heap.size) R (.slice Aw R.length pw) := Xw_7.keep (Nat.le_refl _) (Nat.le_refl _) (fun b h1 h2 => Below.heap_alloc _ _ b (by omega))
  have Xx_8 : Sl false (codeS false) (u0.alloc (.cells #[.slice Ax codes.length px] 28)) ((w3.alloc (.cells #[.slice Aw R.length pw] 28)).heap.size) (u0.heap.size) codes (.slice Ax codes.length px) := qx.keep (Nat.le_refl _) (Nat.le_refl _) (fun b h1 h2 => Below.heap_alloc _ _ b (by omega))
  have Xt_8 : Sl true (codeS true) (u0.alloc (.cells #[.slice Ax codes.length px] 28)) ((w3.alloc (.cells #[.slice Aw R.length pw] 28)).heap.size) (u0.heap.size) codes (.slice Ax codes.length px) := tx.keep (Nat.le_refl _) (Nat.le_refl _) (fun b h1 h2 => Below.heap_alloc _ _ b (by omega))
  clear RL_7 RW_7 Xw_7 qx tx
  have RA_8 : Row (u0.alloc (.cells #[.slice Ax codes.length px] 28)) u0.heap.size 28 #[.slice Ax codes.length px] := Row.new _ _ _
  have yA_9 : (u0.alloc (.cells #[.slice Ax codes.length px] 28)).cell? ⟨u0.heap.size, 0, none⟩ = some (.slice Ax codes.length px) := RA_8.cell 0
  go_wp2_with fail
  refine (HI.out (.slice Ax codes.length px) _ ((w3.alloc (.cells #[.slice Aw R.length pw] 28)).heap.size) (u0.heap.size) (by first | omega | (simp; omega) | (simp at *; omega)) hN Xx_8).mono ?_
  rintro e g0 ⟨v', fg, rfl, sg, ng, gg, eg⟩
  obtain ⟨Ag, pg, hf, _, _⟩ := sg.form
  subst hf
  have lg : ∀ x ∈ fg, (u0.alloc (.cells #[.slice Ax codes.length px] 28)).heap.size ≤ x ∧ x < g0.heap.size := fun x hx => ⟨gg x hx, sg.lt x hx⟩
  have qg : Sl false (codeS false) g0 ((u0.alloc (.cells #[.slice Ax codes.length px] 28)).heap.size) (g0.heap.size) R (.slice Ag R.length pg) := sg.cods lg
  have hb10 : Below w.heap.size w g0 := hb8.trans (eg.mono hb8.size)
  have sz10 : (u0.alloc (.cells #[.slice Ax codes.length px] 28)).heap.size ≤ g0.heap.size := eg.size
  have RL_10 : Row (g0) (w.heap.size) 24 #[v0] := RL_8.below eg RL_8.lt
  have RW_10 : Row (g0) (w3.heap.size) 28 #[.slice Aw R.length pw] := RW_8.below eg RW_8.lt
  have RA_10 : Row (g0) (u0.heap.size) 28 #[.slice Ax codes.length px] := RA_8.below eg RA_8.lt
  have Xw_10 : Sl false (codeS false) (g0) (w2.heap.size) (w3.heap.size) R (.slice Aw R.length pw) := Xw_8.below eg (by first | omega | (simp; omega) | (simp at *; omega))
  have Xx_10 : Sl false (codeS false) (g0) ((w3.alloc (.cells #[.slice Aw R.length pw] 28)).heap.size) (u0.heap.size) codes (.slice Ax codes.length px) := Xx_8.below eg (by first | omega | (simp; omega) | (simp at *; omega))
  have Xt_10 : Sl true (codeS true) (g0) ((w3.alloc (.cells #[.slice Aw R.length pw] 28)).heap.size) (u0.heap.size) codes (.slice Ax codes.length px) := Xt_8.below eg (by first | omega | (simp; omega) | (simp at *; omega))
  clear yA_9
  clear RL_8 RW_8 RA_8 Xw_8 Xx_8 Xt_8
  go_upto_region 8 with fail
  have hb11 : Below w.heap.size w (g0.alloc (.cells #[.slice Ag R.length pg] 28)) := hb10.alloc hb10.size _
  have sz11 : (g0.alloc (.cells #[.slice Ag R.length pg] 28)).heap.size = g0.heap.size + 1 := by simp
  have RL_11 : Row (g0.alloc (.cells #[.slice Ag R.length pg] 28)) (w.heap.size) 24 #[v0] := RL_10.alloc _
  have RW_11 : Row (g0.alloc (.cells #[.slice Ag R.length pg] 28)) (w3.heap.size) 28 #[.slice Aw R.length pw] := RW_10.alloc _
  have RA_11 : Row (g0.alloc (.cells #[.slice Ag R.length pg] 28)) (u0.heap.size) 28 #[.slice Ax codes.length px] := RA_10.alloc _
  have Xw_11 : Sl false (codeS false) (g0.alloc (.cells #[.slice Ag R.length pg] 28)) (w2.heap.size) (w3.heap.size) R (.slice Aw R.length pw) := Xw_10.keep (Nat.le_refl _) (Nat.le_refl _) (fun b h1 h2 => Below.heap_alloc _ _ b (by omega))
  have Xx_11 : Sl false (codeS false) (g0.alloc (.cells #[.slice Ag R.length pg] 28)) ((w3.alloc (.cells #[.slice Aw R.length pw] 28)).heap.size) (u0.heap.size) codes (.slice Ax codes.length px) := Xx_10.keep (Nat.le_refl _) (Nat.le_refl _) (fun b h1 h2 => Below.heap_alloc _ _ b (by omega))
  have Xt_11 : Sl true (codeS true) (g0.alloc (.cells #[.slice Ag R.length pg] 28)) ((w3.alloc (.cells #[.slice Aw R.length pw] 28)).heap.size) (u0.heap.size) codes (.slice Ax codes.length px) := Xt_10.keep (Nat.le_refl _) (Nat.le_refl _) (fun b h1 h2 => Below.heap_alloc _ _ b (by omega))
  have Xg_11 : Sl false (codeS false) (g0.alloc (.cells #[.slice Ag R.length pg] 28)) ((u0.alloc (.cells #[.slice Ax codes.length px] 28)).heap.size) (g0.heap.size) R (.slice Ag R.length pg) := qg.keep (Nat.le_refl _) (Nat.le_refl _) (fun b h1 h2 => Below.heap_alloc _ _ b (by omega))
  have Xf_11 : SlF cdF 39 (g0.alloc (.cells #[.slice Ag R.length pg] 28)) fg R (.slice Ag R.length pg) := sg.keep (fun b hb => Below.heap_alloc _ _ b (sg.lt b hb))
  clear RL_10 RW_10 RA_10 Xw_10 Xx_10 Xt_10 qg sg
  have RG_11 : Row (g0.alloc (.cells #[.slice Ag R.length pg] 28)) g0.heap.size 28 #[.slice Ag R.length pg] := Row.new _ _ _
  have yW_12 : (g0.alloc (.cells #[.slice Ag R.length pg] 28)).cell? ⟨w3.heap.size, 0, none⟩ = some (.slice Aw R.length pw) := RW_11.cell 0
  have yG_13 : (g0.alloc (.cells #[.slice Ag R.length pg] 28)).cell? ⟨g0.heap.size, 0, none⟩ = some (.slice Ag R.length pg) := RG_11.cell 0
  go_wp2_with fail
  refine (eq_Unit R (.slice Ag R.length pg) (.slice Aw R.length pw) _ ((u0.alloc (.cells #[.slice Ax codes.length px] 28)).heap.size) (g0.heap.size) (w2.heap.size) (w3.heap.size) (by omega) (by omega) Xg_11 Xw_11).mono ?_
  rintro e k1 ⟨rfl, ek1⟩
  have hb14 : Below w.heap.size w k1 := hb11.trans (ek1.mono hb11.size)
  have sz14 : (g0.alloc (.cells #[.slice Ag R.length pg] 28)).heap.size ≤ k1.heap.size := ek1.size
  have RL_14 : Row (k1) (w.heap.size) 24 #[v0] := RL_11.below ek1 RL_11.lt
  have RW_14 : Row (k1) (w3.heap.size) 28 #[.slice Aw R.length pw] := RW_11.below ek1 RW_11.lt
  have RA_14 : Row (k1) (u0.heap.size) 28 #[.slice Ax codes.length px] := RA_11.below ek1 RA_11.lt
  have RG_14 : Row (k1) (g0.heap.size) 28 #[.slice Ag R.length pg] := RG_11.below ek1 RG_11.lt
  have Xw_14 : Sl false (codeS false) (k1) (w2.heap.size) (w3.heap.size) R (.slice Aw R.length pw) := Xw_11.below ek1 (by first | omega | (simp; omega) | (simp at *; omega))
  have Xx_14 : Sl false (codeS false) (k1) ((w3.alloc (.cells #[.slice Aw R.length pw] 28)).heap.size) (u0.heap.size) codes (.slice Ax codes.length px) := Xx_11.below ek1 (by first | omega | (simp; omega) | (simp at *; omega))
  have Xt_14 : Sl true (codeS true) (k1) ((w3.alloc (.cells #[.slice Aw R.length pw] 28)).heap.size) (u0.heap.size) codes (.slice Ax codes.length px) := Xt_11.below ek1 (by first | omega | (simp; omega) | (simp at *; omega))
  have Xg_14 : Sl false (codeS false) (k1) ((u0.alloc (.cells #[.slice Ax codes.length px] 28)).heap.size) (g0.heap.size) R (.slice Ag R.length pg) := Xg_11.below ek1 (by first | omega | (simp; omega) | (simp at *; omega))
  have Xf_14 : SlF cdF 39 (k1) fg R (.slice Ag R.length pg) := Xf_11.keep (fun b hb => ek1.block b (Xf_11.lt b hb))
  clear yW_12 yG_13
  clear RL_11 RW_11 RA_11 RG_11 Xw_11 Xx_11 Xt_11 Xg_11 Xf_11
  have yL_15 : (k1).cell? ⟨w.heap.size, 0, none⟩ = some (v0) := RL_14.cell 0
  have yA_16 : (k1).cell? ⟨u0.heap.size, 0, none⟩ = some (.slice Ax codes.length px) := RA_14.cell 0
  go_wp2_with fail
  have hbd : Below w.heap.size w k1.drew := hb14.drew
  have DL : Row (k1.drew) (w.heap.size) 24 #[v0] := RL_14.drew
  have DW : Row (k1.drew) (w3.heap.size) 28 #[.slice Aw R.length pw] := RW_14.drew
  have DA : Row (k1.drew) (u0.heap.size) 28 #[.slice Ax codes.length px] := RA_14.drew
  have DG : Row (k1.drew) (g0.heap.size) 28 #[.slice Ag R.length pg] := RG_14.drew
  have dx : Sl false (codeS false) k1.drew ((w3.alloc (.cells #[.slice Aw R.length pw] 28)).heap.size) (u0.heap.size) codes (.slice Ax codes.length px) := Xx_14.keep (Nat.le_refl _) (Nat.le_refl _) (fun _ _ _ => rfl)
  have szd : k1.heap.size ≤ k1.drew.heap.size := Nat.le_refl _
  go_region_held3 (fun w' => w'.cell? ⟨w.heap.size, 0, none⟩ = some (v0) ∧ w'.cell? ⟨u0.heap.size, 0, none⟩ = some (.slice Ax codes.length px)) (refine ⟨?_, ?_⟩ <;> assumption) (first | (go_at_call 7; refine (to_Unit codes v0 k1.drew 0 w.heap.size hbd.size hN (h0.below hbd (Nat.le_refl _))).mono ?_; rintro e va ⟨cs, rfl, hx, ea⟩; obtain ⟨xz, rfl, qz⟩ := unit_open (hx false); clear hx; obtain ⟨Az, pz, hfz, _, _⟩ := qz.form; change _ = Value.slice Az codes.length pz at hfz; subst hfz; have hba : Below w.heap.size w va := hbd.trans (ea.mono hbd.size); have sea := ea.size; have PL := DL.below ea DL.lt; have PA := DA.below ea DA.lt; have ma0 : va.cell? ⟨w.heap.size, 0, none⟩ = some (v0) := PL.cell 0; have ma1 : va.cell? ⟨u0.heap.size, 0, none⟩ = some (.slice Ax codes.length px) := PA.cell 0) | (go_at_call 9; refine (eq_Unit codes (.slice Ax codes.length px) (.slice Az codes.length pz) va ((w3.alloc (.cells #[.slice Aw R.length pw] 28)).heap.size) (u0.heap.size) k1.drew.heap.size va.heap.size (by omega) (Nat.le_refl _) (dx.below ea (by omega)) qz).mono ?_; rintro e vb ⟨rfl, eb⟩; have hbb : Below w.heap.size w vb := hba.trans (eb.mono hba.size); have seb := eb.size; have QL := PL.below eb PL.lt; have QA := PA.below eb PA.lt; have na0 : vb.cell? ⟨w.heap.size, 0, none⟩ = some (v0) := QL.cell 0; have na1 : vb.cell? ⟨u0.heap.size, 0, none⟩ = some (.slice Ax codes.length px) := QA.cell 0))
  have ec : Below k1.heap.size k1 vb := ((Below.refl _ _).drew.trans (ea.mono (Nat.le_refl _))).trans (eb.mono ea.size)
  clear ma0 ma1 na0 na1 qz PL PA QL QA dx DL DW DA DG
  clear yL_15 yA_16
  have hb17 : Below w.heap.size w vb := hb14.trans (ec.mono hb14.size)
  have sz17 : (k1).heap.size ≤ vb.heap.size := ec.size
  have RL_17 : Row (vb) (w.heap.size) 24 #[v0] := RL_14.below ec RL_14.lt
  have RW_17 : Row (vb) (w3.heap.size) 28 #[.slice Aw R.length pw] := RW_14.below ec RW_14.lt
  have RA_17 : Row (vb) (u0.heap.size) 28 #[.slice Ax codes.length px] := RA_14.below ec RA_14.lt
  have RG_17 : Row (vb) (g0.heap.size) 28 #[.slice Ag R.length pg] := RG_14.below ec RG_14.lt
  have Xw_17 : Sl false (codeS false) (vb) (w2.heap.size) (w3.heap.size) R (.slice Aw R.length pw) := Xw_14.below ec (by first | omega | (simp; omega) | (simp at *; omega))
  have Xx_17 : Sl false (codeS false) (vb) ((w3.alloc (.cells #[.slice Aw R.length pw] 28)).heap.size) (u0.heap.size) codes (.slice Ax codes.length px) := Xx_14.below ec (by first | omega | (simp; omega) | (simp at *; omega))
  have Xt_17 : Sl true (codeS true) (vb) ((w3.alloc (.cells #[.slice Aw R.length pw] 28)).heap.size) (u0.heap.size) codes (.slice Ax codes.length px) := Xt_14.below ec (by first | omega | (simp; omega) | (simp at *; omega))
  have Xg_17 : Sl false (codeS false) (vb) ((u0.alloc (.cells #[.slice Ax codes.length px] 28)).heap.size) (g0.heap.size) R (.slice Ag R.length pg) := Xg_14.below ec (by first | omega | (simp; omega) | (simp at *; omega))
  have Xf_17 : SlF cdF 39 (vb) fg R (.slice Ag R.length pg) := Xf_14.keep (fun b hb => ec.block b (Xf_14.lt b hb))
  clear RL_14 RW_14 RA_14 RG_14 Xw_14 Xx_14 Xt_14 Xg_14 Xf_14
  have yA_18 : (vb).cell? ⟨u0.heap.size, 0, none⟩ = some (.slice Ax codes.length px) := RA_17.cell 0
  go_wp2_with fail
  refine (mark_Unit (.slice Ax codes.length px) codes 1 _ ((w3.alloc (.cells #[.slice Aw R.length pw] 28)).heap.size) (u0.heap.size) (by omega) (by omega) (by omega) Xt_17).mono ?_
  rintro e m0 ⟨r1, rfl, k1', k2', sf⟩
  have hb19 : Below w.heap.size w (vb.alloc (.cells #[.slice Ax codes.length px] 28)) := hb17.alloc hb17.size _
  have sz19 : (vb.alloc (.cells #[.slice Ax codes.length px] 28)).heap.size = vb.heap.size + 1 := by simp
  have RL_19 : Row (vb.alloc (.cells #[.slice Ax codes.length px] 28)) (w.heap.size) 24 #[v0] := RL_17.alloc _
  have RW_19 : Row (vb.alloc (.cells #[.slice Ax codes.length px] 28)) (w3.heap.size) 28 #[.slice Aw R.length pw] := RW_17.alloc _
  have RA_19 : Row (vb.alloc (.cells #[.slice Ax codes.length px] 28)) (u0.heap.size) 28 #[.slice Ax codes.length px] := RA_17.alloc _
  have RG_19 : Row (vb.alloc (.cells #[.slice Ax codes.length px] 28)) (g0.heap.size) 28 #[.slice Ag R.length pg] := RG_17.alloc _
  have Xw_19 : Sl false (codeS false) (vb.alloc (.cells #[.slice Ax codes.length px] 28)) (w2.heap.size) (w3.heap.size) R (.slice Aw R.length pw) := Xw_17.keep (Nat.le_refl _) (Nat.le_refl _) (fun b h1 h2 => Below.heap_alloc _ _ b (by omega))
  have Xx_19 : Sl false (codeS false) (vb.alloc (.cells #[.slice Ax codes.length px] 28)) ((w3.alloc (.cells #[.slice Aw R.length pw] 28)).heap.size) (u0.heap.size) codes (.slice Ax codes.length px) := Xx_17.keep (Nat.le_refl _) (Nat.le_refl _) (fun b h1 h2 => Below.heap_alloc _ _ b (by omega))
  have Xt_19 : Sl true (codeS true) (vb.alloc (.cells #[.slice Ax codes.length px] 28)) ((w3.alloc (.cells #[.slice Aw R.length pw] 28)).heap.size) (u0.heap.size) codes (.slice Ax codes.length px) := Xt_17.keep (Nat.le_refl _) (Nat.le_refl _) (fun b h1 h2 => Below.heap_alloc _ _ b (by omega))
  have Xg_19 : Sl false (codeS false) (vb.alloc (.cells #[.slice Ax codes.length px] 28)) ((u0.alloc (.cells #[.slice Ax codes.length px] 28)).heap.size) (g0.heap.size) R (.slice Ag R.length pg) := Xg_17.keep (Nat.le_refl _) (Nat.le_refl _) (fun b h1 h2 => Below.heap_alloc _ _ b (by omega))
  have Xf_19 : SlF cdF 39 (vb.alloc (.cells #[.slice Ax codes.length px] 28)) fg R (.slice Ag R.length pg) := Xf_17.keep (fun b hb => Below.heap_alloc _ _ b (Xf_17.lt b hb))
  clear yA_18
  clear RL_17 RW_17 RA_17 RG_17 Xw_17 Xx_17 Xt_17 Xg_17 Xf_17
  have hb20 : Below w.heap.size w m0 := hb19.trans (sf.below (by omega))
  have sz20 : (vb.alloc (.cells #[.slice Ax codes.length px] 28)).heap.size ≤ m0.heap.size := Nat.le_of_eq sf.size.symm
  have RL_20 : Row (m0) (w.heap.size) 24 #[v0] := RL_19.soft sf (by omega)
  have RW_20 : Row (m0) (w3.heap.size) 28 #[.slice Aw R.length pw] := RW_19.soft sf (by omega)
  have RA_20 : Row (m0) (u0.heap.size) 28 #[.slice Ax codes.length px] := RA_19.soft sf (by omega)
  have RG_20 : Row (m0) (g0.heap.size) 28 #[.slice Ag R.length pg] := RG_19.soft sf (by omega)
  have Xw_20 : Sl false (codeS false) (m0) (w2.heap.size) (w3.heap.size) R (.slice Aw R.length pw) := Xw_19.keep (Nat.le_refl _) (Nat.le_refl _) (fun b h1 h2 => sf.out b (by omega))
  have Xg_20 : Sl false (codeS false) (m0) ((u0.alloc (.cells #[.slice Ax codes.length px] 28)).heap.size) (g0.heap.size) R (.slice Ag R.length pg) := Xg_19.keep (Nat.le_refl _) (Nat.le_refl _) (fun b h1 h2 => sf.out b (by omega))
  have Xf_20 : SlF cdF 39 (m0) fg R (.slice Ag R.length pg) := Xf_19.keep (fun b hb => sf.out b (by have := lg b hb; omega))
  clear RL_19 RW_19 RA_19 RG_19 Xw_19 Xx_19 Xt_19 Xg_19 Xf_19
  have hr1 : ¬ r1 < 0 := by omega
  have yW_21 : (m0).cell? ⟨w3.heap.size, 0, none⟩ = some (.slice Aw R.length pw) := RW_20.cell 0
  have yG_22 : (m0).cell? ⟨g0.heap.size, 0, none⟩ = some (.slice Ag R.length pg) := RG_20.cell 0
  go_wp2_with fail
  refine (eq_Unit R (.slice Ag R.length pg) (.slice Aw R.length pw) _ ((u0.alloc (.cells #[.slice Ax codes.length px] 28)).heap.size) (g0.heap.size) (w2.heap.size) (w3.heap.size) (by omega) (by omega) Xg_20 Xw_20).mono ?_
  rintro e k2 ⟨rfl, ek2⟩
  have hb23 : Below w.heap.size w k2 := hb20.trans (ek2.mono hb20.size)
  have sz23 : (m0).heap.size ≤ k2.heap.size := ek2.size
  have RL_23 : Row (k2) (w.heap.size) 24 #[v0] := RL_20.below ek2 RL_20.lt
  have RW_23 : Row (k2) (w3.heap.size) 28 #[.slice Aw R.length pw] := RW_20.below ek2 RW_20.lt
  have RA_23 : Row (k2) (u0.heap.size) 28 #[.slice Ax codes.length px] := RA_20.below ek2 RA_20.lt
  have RG_23 : Row (k2) (g0.heap.size) 28 #[.slice Ag R.length pg] := RG_20.below ek2 RG_20.lt
  have Xw_23 : Sl false (codeS false) (k2) (w2.heap.size) (w3.heap.size) R (.slice Aw R.length pw) := Xw_20.below ek2 (by first | omega | (simp; omega) | (simp at *; omega))
  have Xg_23 : Sl false (codeS false) (k2) ((u0.alloc (.cells #[.slice Ax codes.length px] 28)).heap.size) (g0.heap.size) R (.slice Ag R.length pg) := Xg_20.below ek2 (by first | omega | (simp; omega) | (simp at *; omega))
  have Xf_23 : SlF cdF 39 (k2) fg R (.slice Ag R.length pg) := Xf_20.keep (fun b hb => ek2.block b (Xf_20.lt b hb))
  clear yW_21 yG_22
  clear RL_20 RW_20 RA_20 RG_20 Xw_20 Xg_20 Xf_20
  have yG_24 : (k2).cell? ⟨g0.heap.size, 0, none⟩ = some (.slice Ag R.length pg) := RG_23.cell 0
  go_wp2_with fail
  have hMg : k2.heap.size + 1 ∉ fg := fun h => by have := lg _ h; omega
  refine (markF_Unit R Ag pg (k2.heap.size + 1) 1 _ fg Xf_23 ng hMg (by omega) (by omega) (by omega) hNR).mono ?_
  rintro e m1 ⟨rfl, sm, b0, kp⟩
  have sz25 : (k2).heap.size ≤ m1.heap.size := b0.size
  have hb25 : Below w.heap.size w m1 := hb23.trans ⟨b0.os, b0.tape, b0.output, b0.size, fun x hx => kp x (fun h => by have := lg x h; omega) (by omega)⟩
  have RL_25 : Row (m1) (w.heap.size) 24 #[v0] := (kp _ (fun h => by have := lg _ h; omega) RL_23.lt).trans RL_23
  have RW_25 : Row (m1) (w3.heap.size) 28 #[.slice Aw R.length pw] := (kp _ (fun h => by have := lg _ h; omega) RW_23.lt).trans RW_23
  have RA_25 : Row (m1) (u0.heap.size) 28 #[.slice Ax codes.length px] := (kp _ (fun h => by have := lg _ h; omega) RA_23.lt).trans RA_23
  have RG_25 : Row (m1) (g0.heap.size) 28 #[.slice Ag R.length pg] := (kp _ (fun h => by have := lg _ h; omega) RG_23.lt).trans RG_23
  have Xw_25 : Sl false (codeS false) (m1) (w2.heap.size) (w3.heap.size) R (.slice Aw R.length pw) := Xw_23.keep (Nat.le_refl _) (Nat.le_refl _) (fun b h1 h2 => kp b (fun h => by have := lg b h; omega) (by omega))
  clear yG_24
  clear RL_23 RW_23 RA_23 RG_23 Xw_23 Xg_23 Xf_23
  have qm : Sl false (codeS false) m1 ((u0.alloc (.cells #[.slice Ax codes.length px] 28)).heap.size) (g0.heap.size) (mkL cC mC R 1) (.slice Ag R.length pg) := by
    have := sm.cods (m := false) lg
    exact this
  have hq0 : ¬ (1 : Int) + (sumBy cC R : Nat) < 0 := by omega
  have yG_26 : (m1).cell? ⟨g0.heap.size, 0, none⟩ = some (.slice Ag R.length pg) := RG_25.cell 0
  go_wp2_with fail
  refine (heldF_Unit R (.slice Ag R.length pg) 1 _ ((u0.alloc (.cells #[.slice Ax codes.length px] 28)).heap.size) (g0.heap.size) (by omega) (by omega) (by omega) hNR qm).mono ?_
  rintro e h1 ⟨rfl, eh1⟩
  have hb27 : Below w.heap.size w h1 := hb25.trans (eh1.mono hb25.size)
  have sz27 : (m1).heap.size ≤ h1.heap.size := eh1.size
  have RL_27 : Row (h1) (w.heap.size) 24 #[v0] := RL_25.below eh1 RL_25.lt
  have RW_27 : Row (h1) (w3.heap.size) 28 #[.slice Aw R.length pw] := RW_25.below eh1 RW_25.lt
  have RA_27 : Row (h1) (u0.heap.size) 28 #[.slice Ax codes.length px] := RA_25.below eh1 RA_25.lt
  have RG_27 : Row (h1) (g0.heap.size) 28 #[.slice Ag R.length pg] := RG_25.below eh1 RG_25.lt
  have Xw_27 : Sl false (codeS false) (h1) (w2.heap.size) (w3.heap.size) R (.slice Aw R.length pw) := Xw_25.below eh1 (by first | omega | (simp; omega) | (simp at *; omega))
  have Xm_27 : Sl false (codeS false) (h1) ((u0.alloc (.cells #[.slice Ax codes.length px] 28)).heap.size) (g0.heap.size) (mkL cC mC R 1) (.slice Ag R.length pg) := qm.below eh1 (by first | omega | (simp; omega) | (simp at *; omega))
  clear yG_26
  clear RL_25 RW_25 RA_25 RG_25 Xw_25 qm
  have yL_28 : (h1).cell? ⟨w.heap.size, 0, none⟩ = some (v0) := RL_27.cell 0
  go_wp2_with fail
  refine (to_Unit codes v0 _ 0 w.heap.size hb27.size hN (h0.below hb27 (Nat.le_refl _))).mono ?_
  rintro e u2 ⟨cs, rfl, hx, ey⟩
  obtain ⟨xy, rfl, qy⟩ := unit_open (hx false)
  have ty := unit_slm (hx true)
  clear hx
  obtain ⟨Ay, py, hf, _, _⟩ := qy.form
  change _ = Value.slice Ay codes.length py at hf
  subst hf
  replace qy : Sl false (codeS false) u2 (h1.heap.size) u2.heap.size codes (.slice Ay codes.length py) := qy
  replace ty : Sl true (codeS true) u2 (h1.heap.size) u2.heap.size codes (.slice Ay codes.length py) := ty
  have hb29 : Below w.heap.size w u2 := hb27.trans (ey.mono hb27.size)
  have sz29 : (h1).heap.size ≤ u2.heap.size := ey.size
  have RL_29 : Row (u2) (w.heap.size) 24 #[v0] := RL_27.below ey RL_27.lt
  have RW_29 : Row (u2) (w3.heap.size) 28 #[.slice Aw R.length pw] := RW_27.below ey RW_27.lt
  have RA_29 : Row (u2) (u0.heap.size) 28 #[.slice Ax codes.length px] := RA_27.below ey RA_27.lt
  have RG_29 : Row (u2) (g0.heap.size) 28 #[.slice Ag R.length pg] := RG_27.below ey RG_27.lt
  have Xw_29 : Sl false (codeS false) (u2) (w2.heap.size) (w3.heap.size) R (.slice Aw R.length pw) := Xw_27.below ey (by first | omega | (simp; omega) | (simp at *; omega))
  have Xm_29 : Sl false (codeS false) (u2) ((u0.alloc (.cells #[.slice Ax codes.length px] 28)).heap.size) (g0.heap.size) (mkL cC mC R 1) (.slice Ag R.length pg) := Xm_27.below ey (by first | omega | (simp; omega) | (simp at *; omega))
  clear yL_28
  clear RL_27 RW_27 RA_27 RG_27 Xw_27 Xm_27
  go_wp2_with fail
  refine (HI.out (.slice Ay codes.length py) _ (h1.heap.size) (u2.heap.size) (by first | omega | (simp; omega) | (simp at *; omega)) hN qy).mono ?_
  rintro e g2 ⟨v', fh, rfl, sh, nh, gh, eh⟩
  obtain ⟨Ah, ph, hf, _, _⟩ := sh.form
  subst hf
  have lh : ∀ x ∈ fh, u2.heap.size ≤ x ∧ x < g2.heap.size := fun x hx => ⟨gh x hx, sh.lt x hx⟩
  have qh : Sl false (codeS false) g2 (u2.heap.size) (g2.heap.size) R (.slice Ah R.length ph) := sh.cods lh
  have hb30 : Below w.heap.size w g2 := hb29.trans (eh.mono hb29.size)
  have sz30 : (u2).heap.size ≤ g2.heap.size := eh.size
  have RL_30 : Row (g2) (w.heap.size) 24 #[v0] := RL_29.below eh RL_29.lt
  have RW_30 : Row (g2) (w3.heap.size) 28 #[.slice Aw R.length pw] := RW_29.below eh RW_29.lt
  have RA_30 : Row (g2) (u0.heap.size) 28 #[.slice Ax codes.length px] := RA_29.below eh RA_29.lt
  have RG_30 : Row (g2) (g0.heap.size) 28 #[.slice Ag R.length pg] := RG_29.below eh RG_29.lt
  have Xw_30 : Sl false (codeS false) (g2) (w2.heap.size) (w3.heap.size) R (.slice Aw R.length pw) := Xw_29.below eh (by first | omega | (simp; omega) | (simp at *; omega))
  have Xm_30 : Sl false (codeS false) (g2) ((u0.alloc (.cells #[.slice Ax codes.length px] 28)).heap.size) (g0.heap.size) (mkL cC mC R 1) (.slice Ag R.length pg) := Xm_29.below eh (by first | omega | (simp; omega) | (simp at *; omega))
  clear RL_29 RW_29 RA_29 RG_29 Xw_29 Xm_29
  go_upto_region 25 with fail
  have hb31 : Below w.heap.size w (g2.alloc (.cells #[.slice Ah R.length ph] 28)) := hb30.alloc hb30.size _
  have sz31 : (g2.alloc (.cells #[.slice Ah R.length ph] 28)).heap.size = g2.heap.size + 1 := by simp
  have RL_31 : Row (g2.alloc (.cells #[.slice Ah R.length ph] 28)) (w.heap.size) 24 #[v0] := RL_30.alloc _
  have RW_31 : Row (g2.alloc (.cells #[.slice Ah R.length ph] 28)) (w3.heap.size) 28 #[.slice Aw R.length pw] := RW_30.alloc _
  have RA_31 : Row (g2.alloc (.cells #[.slice Ah R.length ph] 28)) (u0.heap.size) 28 #[.slice Ax codes.length px] := RA_30.alloc _
  have RG_31 : Row (g2.alloc (.cells #[.slice Ah R.length ph] 28)) (g0.heap.size) 28 #[.slice Ag R.length pg] := RG_30.alloc _
  have Xw_31 : Sl false (codeS false) (g2.alloc (.cells #[.slice Ah R.length ph] 28)) (w2.heap.size) (w3.heap.size) R (.slice Aw R.length pw) := Xw_30.keep (Nat.le_refl _) (Nat.le_refl _) (fun b h1 h2 => Below.heap_alloc _ _ b (by omega))
  have Xm_31 : Sl false (codeS false) (g2.alloc (.cells #[.slice Ah R.length ph] 28)) ((u0.alloc (.cells #[.slice Ax codes.length px] 28)).heap.size) (g0.heap.size) (mkL cC mC R 1) (.slice Ag R.length pg) := Xm_30.keep (Nat.le_refl _) (Nat.le_refl _) (fun b h1 h2 => Below.heap_alloc _ _ b (by omega))
  have Xh_31 : Sl false (codeS false) (g2.alloc (.cells #[.slice Ah R.length ph] 28)) (u2.heap.size) (g2.heap.size) R (.slice Ah R.length ph) := qh.keep (Nat.le_refl _) (Nat.le_refl _) (fun b h1 h2 => Below.heap_alloc _ _ b (by omega))
  clear RL_30 RW_30 RA_30 RG_30 Xw_30 Xm_30 qh
  have RH_31 : Row (g2.alloc (.cells #[.slice Ah R.length ph] 28)) g2.heap.size 28 #[.slice Ah R.length ph] := Row.new _ _ _
  have yW_32 : (g2.alloc (.cells #[.slice Ah R.length ph] 28)).cell? ⟨w3.heap.size, 0, none⟩ = some (.slice Aw R.length pw) := RW_31.cell 0
  have yH_33 : (g2.alloc (.cells #[.slice Ah R.length ph] 28)).cell? ⟨g2.heap.size, 0, none⟩ = some (.slice Ah R.length ph) := RH_31.cell 0
  go_wp2_with fail
  refine (eq_Unit R (.slice Ah R.length ph) (.slice Aw R.length pw) _ (u2.heap.size) (g2.heap.size) (w2.heap.size) (w3.heap.size) (by omega) (by omega) Xh_31 Xw_31).mono ?_
  rintro e k3 ⟨rfl, ek3⟩
  have hb34 : Below w.heap.size w k3 := hb31.trans (ek3.mono hb31.size)
  have sz34 : (g2.alloc (.cells #[.slice Ah R.length ph] 28)).heap.size ≤ k3.heap.size := ek3.size
  have RL_34 : Row (k3) (w.heap.size) 24 #[v0] := RL_31.below ek3 RL_31.lt
  have RW_34 : Row (k3) (w3.heap.size) 28 #[.slice Aw R.length pw] := RW_31.below ek3 RW_31.lt
  have RA_34 : Row (k3) (u0.heap.size) 28 #[.slice Ax codes.length px] := RA_31.below ek3 RA_31.lt
  have RG_34 : Row (k3) (g0.heap.size) 28 #[.slice Ag R.length pg] := RG_31.below ek3 RG_31.lt
  have RH_34 : Row (k3) (g2.heap.size) 28 #[.slice Ah R.length ph] := RH_31.below ek3 RH_31.lt
  have Xw_34 : Sl false (codeS false) (k3) (w2.heap.size) (w3.heap.size) R (.slice Aw R.length pw) := Xw_31.below ek3 (by first | omega | (simp; omega) | (simp at *; omega))
  have Xm_34 : Sl false (codeS false) (k3) ((u0.alloc (.cells #[.slice Ax codes.length px] 28)).heap.size) (g0.heap.size) (mkL cC mC R 1) (.slice Ag R.length pg) := Xm_31.below ek3 (by first | omega | (simp; omega) | (simp at *; omega))
  have Xh_34 : Sl false (codeS false) (k3) (u2.heap.size) (g2.heap.size) R (.slice Ah R.length ph) := Xh_31.below ek3 (by first | omega | (simp; omega) | (simp at *; omega))
  clear yW_32 yH_33
  clear RL_31 RW_31 RA_31 RG_31 RH_31 Xw_31 Xm_31 Xh_31
  have yG_35 : (k3).cell? ⟨g0.heap.size, 0, none⟩ = some (.slice Ag R.length pg) := RG_34.cell 0
  go_wp2_with fail
  refine (heldF_Unit R (.slice Ag R.length pg) 1 _ ((u0.alloc (.cells #[.slice Ax codes.length px] 28)).heap.size) (g0.heap.size) (by omega) (by omega) (by omega) hNR Xm_34).mono ?_
  rintro e h2 ⟨rfl, eh2⟩
  have hb36 : Below w.heap.size w h2 := hb34.trans (eh2.mono hb34.size)
  have sz36 : (k3).heap.size ≤ h2.heap.size := eh2.size
  have RL_36 : Row (h2) (w.heap.size) 24 #[v0] := RL_34.below eh2 RL_34.lt
  have RW_36 : Row (h2) (w3.heap.size) 28 #[.slice Aw R.length pw] := RW_34.below eh2 RW_34.lt
  have RA_36 : Row (h2) (u0.heap.size) 28 #[.slice Ax codes.length px] := RA_34.below eh2 RA_34.lt
  have RG_36 : Row (h2) (g0.heap.size) 28 #[.slice Ag R.length pg] := RG_34.below eh2 RG_34.lt
  have RH_36 : Row (h2) (g2.heap.size) 28 #[.slice Ah R.length ph] := RH_34.below eh2 RH_34.lt
  have Xw_36 : Sl false (codeS false) (h2) (w2.heap.size) (w3.heap.size) R (.slice Aw R.length pw) := Xw_34.below eh2 (by first | omega | (simp; omega) | (simp at *; omega))
  have Xm_36 : Sl false (codeS false) (h2) ((u0.alloc (.cells #[.slice Ax codes.length px] 28)).heap.size) (g0.heap.size) (mkL cC mC R 1) (.slice Ag R.length pg) := Xm_34.below eh2 (by first | omega | (simp; omega) | (simp at *; omega))
  have Xh_36 : Sl false (codeS false) (h2) (u2.heap.size) (g2.heap.size) R (.slice Ah R.length ph) := Xh_34.below eh2 (by first | omega | (simp; omega) | (simp at *; omega))
  clear yG_35
  clear RL_34 RW_34 RA_34 RG_34 RH_34 Xw_34 Xm_34 Xh_34
  go_wp2_with fail
  go_ret
  exact ⟨rfl, hb36⟩
theorem law_FnExactTightUnit (codes : List CodeD) (v0 : Value) (w : World) (h0 : Sl false (codeS false) w 0 w.heap.size codes v0) : Calls Try.prog 3 #[.agg #[v0]] w (Yes w) :=
  lawq_TightUnit (if unitB codes = true then tightU codes else []) (unitB codes) codes v0 w h0 (fun h => Nat.le_trans (tight_size codes) h) (fun v w lo B h1 h2 h3 => spec_TightUnit codes v w lo B h1 h2 h3) (fun v w lo B h1 h2 h3 => impl_TightUnit codes v w lo B h1 h2 h3)

set_option maxRecDepth 100000 in
theorem fnExactTightUnit_lifted (os : Os) (started : os.Started) (H : Type) (enc : TypeId × Value → H) :
    ReturnsInHanded {} Try.checked os 3 .any (Rows.fnExactTightUnitSpec.pre6 enc Try.prog Try.f3 Rows.fnExactTightUnitRow.domain false) (Rows.fnExactTightUnitSpec.post enc Try.prog Try.f3 false true false false) := by
  refine returnsInHanded_of_change (C := Try.checked) own started (by kernel_rfl) Try.func3
    (ChangeSpec.witness6 (enc := enc) (C := Try.checked) false ⟨#[], #[.agg #[.slice none 0 0]], []⟩ 8 (by kernel_rfl) (by kernel_rfl) (by kernel_rfl) (by kernel_rfl)) ?_
  intro W base args ds gs before hval0 hW hcnd _
  have hval : ∀ (j : Nat) t v, Try.f3.params[j]? = some t → args[j]? = some v → Value.okWide Try.prog W .any base t v := hval0
  obtain ⟨p, q, hA0, hV, hrest⟩ := id hW
  have hA : DataW.TrodAll enc Try.prog W 0 (fun _ => true) true Try.f3.params.toList args.toList ds p := hA0
  rw [Try.params3] at hA hval
  obtain ⟨v0, d0, rfl, rfl, h0⟩ := trodAll_one hA
  obtain ⟨rfl, rfl⟩ := trodVars_none hV
  obtain ⟨cs0, rfl, -⟩ := okWide_struct Try.underlying24 (hval 0 _ v0 rfl rfl)
  obtain ⟨fuel0, hf0⟩ := h0
  obtain ⟨da0, ha0⟩ := dec_Unit hf0
  obtain ⟨s0_0, e0, g0_0⟩ := unit_open ha0
  obtain ⟨t0_0⟩ := da0
  obtain ⟨cs0⟩ := cs0
  simp only [Value.cells] at e0
  subst e0
  have hcall := law_FnExactTightUnit t0_0 s0_0 W g0_0
  refine hcall.mono fun e W' ⟨he, hb⟩ => ?_
  subst he
  exact ⟨_, rfl, post_true laidO hW rfl (by kernel_rfl) Try.underlying4 (by rw [Try.params3]; intro t ht; simp only [List.mem_cons, List.not_mem_nil, or_false] at ht; subst ht; exact ⟨by kernel_rfl, of_decide_eq_true (by kernel_rfl)⟩) rfl rfl rfl hb⟩

set_option maxRecDepth 100000 in
set_option maxHeartbeats 1000000 in
theorem fnExactTightUnit_facts : joinedFacts Try.prog 3 Try.f3 Rows.fnExactTightUnitSpec Rows.fnExactTightUnitRow = true := by
  unfold joinedFacts
  exact and_mk (and_mk (and_mk (and_mk (and_mk (and_mk (and_mk (and_mk (and_mk (and_mk (and_mk (and_mk (and_mk (and_mk (and_mk (and_mk (and_mk (and_mk (and_mk (and_mk (and_mk (and_mk (and_mk (and_mk (and_mk (and_mk (and_mk (and_mk (and_mk (and_mk (and_mk (by as_aux_lemma => kernel_rfl) laidO) mapsRowedO) (by as_aux_lemma => kernel_rfl)) (by as_aux_lemma => kernel_rfl)) (by as_aux_lemma => kernel_rfl)) (by as_aux_lemma => kernel_rfl)) (by as_aux_lemma => kernel_rfl)) (by as_aux_lemma => kernel_rfl)) (by as_aux_lemma => kernel_rfl)) (by as_aux_lemma => kernel_rfl)) (by as_aux_lemma => kernel_rfl)) (by as_aux_lemma => kernel_rfl)) (by as_aux_lemma => kernel_rfl)) (by as_aux_lemma => kernel_rfl)) (by as_aux_lemma => kernel_rfl)) (by as_aux_lemma => kernel_rfl)) (by as_aux_lemma => kernel_rfl)) (by as_aux_lemma => kernel_rfl)) (by as_aux_lemma => kernel_rfl)) (by as_aux_lemma => kernel_rfl)) (by as_aux_lemma => kernel_rfl)) (by rw [plainKeysO]; rfl)) (by as_aux_lemma => kernel_rfl)) stopsHeardO) mayEnter) (by rw [liftsFinal]; rfl)) (by rw [makeCut]; rfl)) (by as_aux_lemma => kernel_rfl)) (by as_aux_lemma => kernel_rfl)) (by as_aux_lemma => kernel_rfl)) (by as_aux_lemma => kernel_rfl)

theorem fnExactTightUnit_holds : Rows.FnExactTightUnitSaid :=
  OpenClaim.holds_of_wide 3 Try.f3 rfl rfl rfl rfl rfl rfl rfl ⟨rfl, rfl, rfl, rfl, rfl⟩ rfl rfl rfl rfl rfl (by kernel_rfl) Try.func3 fnExactTightUnit_facts
    (of_decide_eq_true (by kernel_rfl)) (by unfold Func.isWrapper; first | (rw [if_pos (by decide +kernel)]; kernel_rfl) | (rw [if_neg (by decide +kernel)]; exact ⟨rfl, rfl⟩))
    (fun os started H enc _ => fnExactTightUnit_lifted os started H enc)

end Go.Proofs.Ytgcjccoglcgcoaa
