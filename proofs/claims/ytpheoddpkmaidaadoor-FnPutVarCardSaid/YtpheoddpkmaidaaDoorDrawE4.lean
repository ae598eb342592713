/-
  What the draws answer: an expression, with calls. Condition: few numbers have been picked.
-/
import Derived.Test.YtpheoddpkmaidaaDoorDrawE3
namespace Go.Proofs.YtpheoddpkmaidaaDoor
open Go.RowKit Go.ChangeShapes Go.WideShapes Go.Deep
set_option linter.unusedSimpArgs false
set_option linter.unusedVariables false
/-- how many numbers it takes -/
def kA (d : Nat) : Nat := kE d + 90
set_option maxRecDepth 100000 in
set_option maxHeartbeats 16000000 in
theorem any_ok (d : Nat) (hd : d ≤ 7) (x : Int) (hx : x = (d : Int)) (l : List UInt8) (g p : Nat) (w : World) (h : RdAt w g l p) (hp : p + kA d ≤ 900000) :
    Calls Tryd.prog 38 #[.pointer (some ⟨g, 0, none⟩), .int .i64 x] w (DrE g l p (kA d) 8 w) := by
  subst hx
  have hkA : kA d = kE d + 90 := rfl
  have hgw := h.lt
  have hbA : Below w.heap.size w (w.alloc (.cells #[.int .i64 0, .int .i64 0, .string ⟨#[]⟩, .slice none 0 0] 25)) := (Below.refl _ _).alloc (Nat.le_refl _) _
  have R0 : Row (w.alloc (.cells #[.int .i64 0, .int .i64 0, .string ⟨#[]⟩, .slice none 0 0] 25)) w.heap.size 25 #[.int .i64 0, .int .i64 0, .string ⟨#[]⟩, .slice none 0 0] := Row.new w _ _
  have hB0 : But g w (w.alloc (.cells #[.int .i64 0, .int .i64 0, .string ⟨#[]⟩, .slice none 0 0] 25)) := (But.refl w).alloc hgw _
  have h0 := h.below hbA hgw
  have hlt0 : w.heap.size < (w.alloc (.cells #[.int .i64 0, .int .i64 0, .string ⟨#[]⟩, .slice none 0 0] 25)).heap.size := by simp
  have hs1 : (w.alloc (.cells #[.int .i64 0, .int .i64 0, .string ⟨#[]⟩, .slice none 0 0] 25)).heap.size = w.heap.size + 1 := by simp
  have L1 := lit_str (w.alloc (.cells #[.int .i64 0, .int .i64 0, .string ⟨#[]⟩, .slice none 0 0] 25)) [⟨#[97]⟩, ⟨#[98]⟩, ⟨#[120]⟩, ⟨#[103, 111]⟩] (nm_ml (nm_all (by decide +kernel))) (by decide)
  rw [hs1] at L1
  have st1 := (Below.refl _ (w.alloc (.cells #[.int .i64 0, .int .i64 0, .string ⟨#[]⟩, .slice none 0 0] 25))).alloc (Nat.le_refl _) (.cells (([⟨#[97]⟩, ⟨#[98]⟩, ⟨#[120]⟩, ⟨#[103, 111]⟩] : List ByteArray).map Value.string).toArray 9)
  have hsz1 : w.heap.size + 1 + 1 = ((w.alloc (.cells #[.int .i64 0, .int .i64 0, .string ⟨#[]⟩, .slice none 0 0] 25)).alloc (.cells (([⟨#[97]⟩, ⟨#[98]⟩, ⟨#[120]⟩, ⟨#[103, 111]⟩] : List ByteArray).map Value.string).toArray 9)).heap.size := by simp
  have hBs1 := hB0.alloc hgw (.cells (([⟨#[97]⟩, ⟨#[98]⟩, ⟨#[120]⟩, ⟨#[103, 111]⟩] : List ByteArray).map Value.string).toArray 9)
  have Rs1 := R0.alloc (.cells (([⟨#[97]⟩, ⟨#[98]⟩, ⟨#[120]⟩, ⟨#[103, 111]⟩] : List ByteArray).map Value.string).toArray 9)
  have hs1' := h0.lt
  go_enter Tryd.func38, Tryd.ntmps38
  go_wp2_with fail
  refine (expr_ok d (by omega) _ rfl [⟨#[97]⟩, ⟨#[98]⟩, ⟨#[120]⟩, ⟨#[103, 111]⟩] (nm_all (by decide +kernel)) (by decide) _ _ _ l g p _ (h0.below st1 hs1') (by omega) L1 (by omega) (Nat.le_refl _)).mono ?_
  rintro e w2 ⟨p2, op, n, name, kids, A3, c3, rfl, h2, hp2, hb2, hE0⟩
  have hE : ExV d (w.heap.size + 1) op n name kids (.slice A3 kids.length c3) w2 := hE0.lower (Nat.le_refl _) (by rw [← hsz1]; omega)
  have R2 := hb2.row Rs1 hgw
  have hB2 := hBs1.trans hb2
  have hg2 := h2.lt
  have hsz2 : w.heap.size + 1 + 1 ≤ w2.heap.size := hsz1 ▸ hb2.1.size
  have hlo2 : g < w.heap.size + 1 := by omega
  have st3 := (Below.refl _ w2).alloc (Nat.le_refl _) (.cells #[.int .i64 op, .int .i64 n, .string name, .slice A3 kids.length c3] 25)
  have B3 : Row (w2.alloc (.cells #[.int .i64 op, .int .i64 n, .string name, .slice A3 kids.length c3] 25)) w2.heap.size 25 #[.int .i64 op, .int .i64 n, .string name, .slice A3 kids.length c3] := Row.new _ _ _
  have h3 := h2.below st3 hg2
  clear hb2 hE0 L1 Rs1 hBs1 st1 R0 hB0
  go_wp2_with fail
  refine (pick_ok 3 (by omega) (by omega) l g p2 _ h3 (by omega)).mono ?_
  rintro e w4 ⟨v, p4, rfl, h4, hp4, hb4, k, hk, rfl⟩
  have R4 := hb4.row (R2.alloc (.cells #[.int .i64 op, .int .i64 n, .string name, .slice A3 kids.length c3] 25)) hgw
  have B4 := hb4.row B3 hg2
  have hB24 : But g w2 w4 := ((But.refl w2).alloc hg2 _).trans hb4
  have hB4 := hB2.trans hB24
  have hsz4 := B4.lt
  clear R2 B3 hb4 st3 h3
  by_cases k0 : k = 0
  case neg =>
    have q0 : (0 : Int) < (k : Int) := by omega
    have s0 : w4.cell? ⟨w.heap.size, 0, none⟩ = some (.int .i64 0) := R4.cell 0
    have s1 : w4.cell? ⟨w.heap.size, 1, none⟩ = some (.int .i64 0) := R4.cell 1
    have s2 : w4.cell? ⟨w.heap.size, 2, none⟩ = some (.string ⟨#[]⟩) := R4.cell 2
    have s3 : w4.cell? ⟨w.heap.size, 3, none⟩ = some (.slice none 0 0) := R4.cell 3
    have sf0 : w4.frozen? ⟨w.heap.size, 0, none⟩ = false := R4.frozen 0
    have sf1 : w4.frozen? ⟨w.heap.size, 1, none⟩ = false := R4.frozen 1
    have sf2 : w4.frozen? ⟨w.heap.size, 2, none⟩ = false := R4.frozen 2
    have sf3 : w4.frozen? ⟨w.heap.size, 3, none⟩ = false := R4.frozen 3
    have y0 : w4.cell? ⟨w2.heap.size, 0, none⟩ = some (.int .i64 op) := B4.cell 0
    have y1 : w4.cell? ⟨w2.heap.size, 1, none⟩ = some (.int .i64 n) := B4.cell 1
    have y2 : w4.cell? ⟨w2.heap.size, 2, none⟩ = some (.string name) := B4.cell 2
    have y3 : w4.cell? ⟨w2.heap.size, 3, none⟩ = some (.slice A3 kids.length c3) := B4.cell 3
    have yf0 : w4.frozen? ⟨w2.heap.size, 0, none⟩ = false := B4.frozen 0
    have yf1 : w4.frozen? ⟨w2.heap.size, 1, none⟩ = false := B4.frozen 1
    have yf2 : w4.frozen? ⟨w2.heap.size, 2, none⟩ = false := B4.frozen 2
    have yf3 : w4.frozen? ⟨w2.heap.size, 3, none⟩ = false := B4.frozen 3
    have F := Lib.hid (DrE.fin (p := p) (K := kA d) hgw h4 (by omega) hB4 ((hE.but hB24 hlo2).lower (show d ≤ 8 by omega) (Nat.le_refl _)) (Nat.lt_succ_self _))
    go_wp2_with fail
    refine bodyPost_ret (v := .agg #[.int .i64 op, .int .i64 n, .string name, .slice A3 kids.length c3]) (by simp [results, Tryd.results38, go_sem, s0, s1, s2, s3]) rfl F.out
  subst k0
  have L5 := lit_str w4 [⟨#[102]⟩, ⟨#[103]⟩, ⟨#[97]⟩] (nm_ml (nm_all (by decide +kernel))) (by decide)
  have st5 := (Below.refl _ w4).alloc (Nat.le_refl _) (.cells (([⟨#[102]⟩, ⟨#[103]⟩, ⟨#[97]⟩] : List ByteArray).map Value.string).toArray 9)
  have hg4 := h4.lt
  go_wp2_with fail
  refine (of_ok [⟨#[102]⟩, ⟨#[103]⟩, ⟨#[97]⟩] (by decide) (by decide) NmOk (nm_all (by decide +kernel)) _ _ _ l g p4 _ (h4.below st5 hg4) (by omega) L5 hg4 (Nat.le_refl _)).mono ?_
  rintro e w5 ⟨v, p5, rfl, h5, hp5, hb5, s, hs, rfl⟩
  have R5 := hb5.row (R4.alloc (.cells (([⟨#[102]⟩, ⟨#[103]⟩, ⟨#[97]⟩] : List ByteArray).map Value.string).toArray 9)) hgw
  have B5 := hb5.row (B4.alloc (.cells (([⟨#[102]⟩, ⟨#[103]⟩, ⟨#[97]⟩] : List ByteArray).map Value.string).toArray 9)) hg2
  have hB25 : But g w2 w5 := (hB24.alloc hg2 _).trans hb5
  have hB5 := hB2.trans hB25
  have hg5 := h5.lt
  have hsz5 := B5.lt
  have st6 := (Below.refl _ w5).alloc (Nat.le_refl _) (.cells #[.int .i64 13, .int .i64 0, .string s, .slice none 0 0] 25)
  have C6 : Row (w5.alloc (.cells #[.int .i64 13, .int .i64 0, .string s, .slice none 0 0] 25)) w5.heap.size 25 #[.int .i64 13, .int .i64 0, .string s, .slice none 0 0] := Row.new _ _ _
  clear R4 B4 hB24 hB4 hb5 st5 L5 h4 hsz4
  go_wp2_with fail
  refine (pick_ok 4 (by omega) (by omega) l g p5 _ (h5.below st6 hg5) (by omega)).mono ?_
  rintro e w7 ⟨v, p7, rfl, h7, hp7, hb7, k7, hk7, rfl⟩
  have R7 := hb7.row (R5.alloc (.cells #[.int .i64 13, .int .i64 0, .string s, .slice none 0 0] 25)) hgw
  have B7 := hb7.row (B5.alloc (.cells #[.int .i64 13, .int .i64 0, .string s, .slice none 0 0] 25)) hg2
  have C7 := hb7.row C6 hg5
  have hB27 : But g w2 w7 := (hB25.alloc hg2 _).trans hb7
  have hB7 := hB2.trans hB27
  clear R5 B5 C6 hB25 hB5 hb7 st6 h5
  go_wp2_with fail
  go_loopw [7] (fun t wr => ∃ (j p' : Nat) (ks : List Ex) (vk : Value), t = .int .i64 (j : Int) ∧ j ≤ 3 ∧ ks.length + j ≤ 3 ∧ p' + j * 28 ≤ p + kE d + 87 ∧ RdAt wr g l p' ∧ But g w wr ∧ But g w2 wr ∧ Row wr w.heap.size 25 #[.int .i64 0, .int .i64 0, .string ⟨#[]⟩, .slice none 0 0] ∧ Row wr w2.heap.size 25 #[.int .i64 op, .int .i64 n, .string name, .slice A3 kids.length c3] ∧ Row wr w5.heap.size 25 #[.int .i64 13, .int .i64 0, .string s, vk] ∧ OwnT (fun m => exT m 3) 25 wr (w5.heap.size + 1) vk ks ∧ Hid (∀ k ∈ ks, NoZ k)) (fun t _ => (intOf t).toNat)
  case atStart => exact ⟨k7, p7, [], .slice none 0 0, rfl, by omega, by simp; omega, by omega, h7, hB7, hB27, R7, B7, C7, OwnT.nil_ _ _ _ _, (fun k hk => by cases hk)⟩
  case round =>
    obtain ⟨j, p', ks, vk, rfl, hj, hkj, hpj, hR, hB, hB2w, R, Bx, C, own, HZ⟩ := hrel
    obtain ⟨A6, c6, rfl, hlc6, hcm6⟩ := own.form
    have hgr := hR.lt
    have C5 := C.lt
    by_cases hj0 : 0 < j
    · have hj1 : (0 : Int) < (j : Int) := by omega
      have hB2 := hB2w
      clear hB2w hE h7 hB7 hB27 R7 B7 C7
      go_wp2_with fail
      refine wp_region_held_drew (S := fun w' => True) (by kernel_rfl) ?_ (fun hHeld => ?_)
      · trivial
      generalize hwd : wr.drew = wd at hHeld ⊢
      have hRd : RdAt wd g l p' := by rw [← hwd]; exact hR.below ((Below.refl g.succ wr).drew) (Nat.lt_succ_self _)
      have hgd := hRd.lt
      have hBd : But g w wd := by rw [← hwd]; exact ⟨hB.1.drew, hB.2⟩
      have hB2d : But g w2 wd := by rw [← hwd]; exact ⟨hB2.1.drew, hB2.2⟩
      have Rd : Row wd w.heap.size 25 #[.int .i64 0, .int .i64 0, .string ⟨#[]⟩, .slice none 0 0] := by rw [← hwd]; exact R.drew
      have Bd : Row wd w2.heap.size 25 #[.int .i64 op, .int .i64 n, .string name, .slice A3 kids.length c3] := by rw [← hwd]; exact Bx.drew
      have Cd : Row wd w5.heap.size 25 #[.int .i64 13, .int .i64 0, .string s, .slice A6 ks.length c6] := by rw [← hwd]; exact C.drew
      have ownd : OwnT (fun m => exT m 3) 25 wd (w5.heap.size + 1) (.slice A6 ks.length c6) ks := by rw [← hwd]; exact own.keepT (fun _ _ _ => rfl) (Nat.le_refl _)
      have kd : wd.cell? ⟨w5.heap.size, 3, none⟩ = some (.slice A6 ks.length c6) := Cd.cell 3
      have hg5d : w5.heap.size < wd.heap.size := Cd.lt
      obtain ⟨xs, pp, qq, own0, hp0⟩ := ownd
      clear hwd own C Bx R hB hB2 hR
      refine reg_take (i := 0) (v := ?v1) rfl (by kernel_rfl) (by kernel_rfl) (by kernel_rfl) (fun _ _ _ h => h) (Or.inl ⟨by kernel_rfl, ?h1⟩) trivial ?r1
      case h1 => (intro w hSw; (try dsimp only at hSw); go_simp; try with_reducible rfl)
      try simp only [Act.put, List.setIfInBounds_toArray, List.set_cons_zero, List.set_cons_succ]
      refine reg_take (i := 2) (v := ?v2) rfl (by kernel_rfl) (by kernel_rfl) (by kernel_rfl) (fun _ _ _ h => h) (Or.inl ⟨by kernel_rfl, ?h2⟩) trivial ?r2
      case h2 => (intro w hSw; (try dsimp only at hSw); go_simp; try with_reducible rfl)
      try simp only [Act.put, List.setIfInBounds_toArray, List.set_cons_zero, List.set_cons_succ]
      refine reg_call2 (i := 1) (j := 3) (by kernel_rfl) rfl rfl (fun K hK => ?_) (fun K hK => ?_)
      · go_simp
        refine hK.out _ _ trivial (fun hHeld => ?_)
        clear hK K
        try simp only [Act.put, List.setIfInBounds_toArray, List.set_cons_zero, List.set_cons_succ]
        refine reg_call (i := 3) (by kernel_rfl) rfl (fun K hK => ?_)
        go_simp
        have L8 := lit_str wd [⟨#[97]⟩, ⟨#[98]⟩] (nm_ml (nm_all (by decide +kernel))) (by decide)
        have st8 := (Below.refl _ wd).alloc (Nat.le_refl _) (.cells (([⟨#[97]⟩, ⟨#[98]⟩] : List ByteArray).map Value.string).toArray 9)
        have CA := Cd.alloc (.cells (([⟨#[97]⟩, ⟨#[98]⟩] : List ByteArray).map Value.string).toArray 9)
        have kA : (wd.alloc (.cells (([⟨#[97]⟩, ⟨#[98]⟩] : List ByteArray).map Value.string).toArray 9)).cell? ⟨w5.heap.size, 3, none⟩ = some (.slice A6 ks.length c6) := CA.cell 3
        refine hK.out _ _ trivial (fun hHeld => ?_)
        clear hK K
        try simp only [Act.put, List.setIfInBounds_toArray, List.set_cons_zero, List.set_cons_succ]
        refine reg_call (i := 4) (by kernel_rfl) rfl (fun K hK => ?_)
        go_simp
        refine (expr_ok 2 (by omega) 2 rfl [⟨#[97]⟩, ⟨#[98]⟩] (nm_all (by decide +kernel)) (by decide) _ _ _ l g p' _ (hRd.below st8 hgd) (by have : kE 2 = 28 := rfl; omega) L8 hgd (Nat.le_refl _)).mono ?_
        rintro e w8 ⟨p8, op', n', name', kids', A7, c7, rfl, h8, hp8, hb8, hE8⟩
        have hd8 : But g wd w8 := ((But.refl wd).alloc hgd _).trans hb8
        have C8 := hd8.row Cd hg5
        have hE8' : ExV 2 wd.heap.size op' n' name' kids' (.slice A7 kids'.length c7) w8 := hE8.lower (Nat.le_refl _) st8.size
        have own8 := own_keep own0 (fun b h1 h2 => hd8.2 b (by omega) h2)
        have sz8 := hd8.1.size
        have k8 : w8.cell? ⟨w5.heap.size, 3, none⟩ = some (.slice A6 ks.length c6) := C8.cell 3
        refine hK.out _ _ trivial (fun hHeld => ?_)
        clear hK K
        try simp only [Act.put, List.setIfInBounds_toArray, List.set_cons_zero, List.set_cons_succ]
        refine reg_call (i := 5) (by kernel_rfl) rfl (fun K hK => ?_)
        go_simp
        have CR := C8.alloc (.cells #[.int .i64 op', .int .i64 n', .string name', .slice A7 kids'.length c7] 25)
        have kR : (w8.alloc (.cells #[.int .i64 op', .int .i64 n', .string name', .slice A7 kids'.length c7] 25)).cell? ⟨w5.heap.size, 3, none⟩ = some (.slice A6 ks.length c6) := CR.cell 3
        refine hK.out _ _ trivial (fun hHeld => ?_)
        clear hK K
        try simp only [Act.put, List.setIfInBounds_toArray, List.set_cons_zero, List.set_cons_succ]
        refine reg_call (i := 6) (by kernel_rfl) rfl (fun K hK => ?_)
        obtain ⟨v9, w9, r9, own9, g9, hat9⟩ := append_one w8 (w5.heap.size + 1) 23 (.slice A6 ks.length c6) ks.length xs own8 op' n' name' A7 kids'.length c7 (by omega) (by omega)
        rw [if_pos (show Region.wanted _ _ = true by kernel_rfl)]
        refine Lib.wp_append_run_sl _ _ _ 23 rfl _ _ rfl rfl r9 ?_
        clear r9
        obtain ⟨gv9, cv9, rfl⟩ := own_form own9 (Nat.succ_pos _)
        have hgr9 : Below (w5.heap.size + 1) w8 w9 := ((Below.refl _ _).alloc (by omega) _).grown g9 (by simp; omega) (fun r hr => own_ge own8 hr)
        have C9 : Row w9 w5.heap.size 25 #[.int .i64 13, .int .i64 0, .string s, .slice A6 ks.length c6] := C8.below hgr9 (Nat.lt_succ_self _)
        have k9 : w9.cell? ⟨w5.heap.size, 3, none⟩ = some (.slice A6 ks.length c6) := C9.cell 3
        have f9 : w9.frozen? ⟨w5.heap.size, 3, none⟩ = false := C9.frozen 3
        refine hK.out _ _ trivial (fun hHeld => ?_)
        clear hK K
        try simp only [Act.put, List.setIfInBounds_toArray, List.set_cons_zero, List.set_cons_succ]
        refine reg_take (i := 7) (v := ?v3) rfl (by kernel_rfl) (by kernel_rfl) (by kernel_rfl) (fun _ _ _ h => h) (Or.inl ⟨by kernel_rfl, ?h3⟩) trivial ?r3
        case h3 => (intro w hSw; (try dsimp only at hSw); go_simp; try with_reducible rfl)
        try simp only [Act.put, List.setIfInBounds_toArray, List.set_cons_zero, List.set_cons_succ]
        refine reg_call (i := 8) (by kernel_rfl) rfl (fun K hK => ?_)
        go_simp
        refine hK.out _ _ trivial (fun hHeld => ?_)
        clear hK K
        try simp only [Act.put, List.setIfInBounds_toArray, List.set_cons_zero, List.set_cons_succ]
        refine wpAnyH_done (by kernel_rfl) ?_ _
        have own9' := snoc_fin (d := 3) own0 hp0 (fun b h1 h2 => hd8.2 b (by omega) h2) sz8 (by omega) (fun m => hE8'.rep m) own9 g9 hat9
        have nz9 : Hid (∀ k ∈ ks ++ [Ex.mk op' n' name' kids'], NoZ k) := by
          intro k hk
          rcases List.mem_append.1 hk with hk | hk
          · exact HZ.out k hk
          · obtain rfl := List.mem_singleton.1 hk; exact hE8'.noZ
        have hw9 : Below (w5.heap.size + 1) wd w9 ∨ True := Or.inr trivial
        have hBw : But g w (w9.setCell ⟨w5.heap.size, 3, none⟩ (.slice (some ⟨gv9, 0, none⟩) (ks.length + 1) cv9)) := ((hBd.trans hd8).thenB (hgr9.mono (by omega)) hgw).setNew hgw (by show w.heap.size ≤ w5.heap.size; omega) _
        have hB2' : But g w2 (w9.setCell ⟨w5.heap.size, 3, none⟩ (.slice (some ⟨gv9, 0, none⟩) (ks.length + 1) cv9)) := ((hB2d.trans hd8).thenB (hgr9.mono (by omega)) hg2).setNew hg2 (by show w2.heap.size ≤ w5.heap.size; omega) _
        have R9 : Row (w9.setCell ⟨w5.heap.size, 3, none⟩ (.slice (some ⟨gv9, 0, none⟩) (ks.length + 1) cv9)) w.heap.size 25 #[.int .i64 0, .int .i64 0, .string ⟨#[]⟩, .slice none 0 0] := ((hd8.row Rd hgw).below hgr9 (by omega)).far (by show w.heap.size ≠ w5.heap.size; omega) _
        have B9 : Row (w9.setCell ⟨w5.heap.size, 3, none⟩ (.slice (some ⟨gv9, 0, none⟩) (ks.length + 1) cv9)) w2.heap.size 25 #[.int .i64 op, .int .i64 n, .string name, .slice A3 kids.length c3] := ((hd8.row Bd hg2).below hgr9 (by omega)).far (by show w2.heap.size ≠ w5.heap.size; omega) _
        have C10 := C9.set_ 3 (.slice (some ⟨gv9, 0, none⟩) (ks.length + 1) cv9)
        have D9 : RdAt (w9.setCell ⟨w5.heap.size, 3, none⟩ (.slice (some ⟨gv9, 0, none⟩) (ks.length + 1) cv9)) g l p8 := (h8.below hgr9 (by omega)).below ((Below.refl w5.heap.size _).setCell (p := ⟨w5.heap.size, 3, none⟩) (Nat.le_refl _) _) (by omega)
        have own10 : OwnT (fun m => exT m 3) 25 (w9.setCell ⟨w5.heap.size, 3, none⟩ (.slice (some ⟨gv9, 0, none⟩) (ks.length + 1) cv9)) (w5.heap.size + 1) (.slice (some ⟨gv9, 0, none⟩) (ks.length + 1) cv9) (ks ++ [Ex.mk op' n' name' kids']) := own9'.keepT (fun b h1 h2 => Below.heap_setCell _ _ _ b (by show b ≠ w5.heap.size; omega)) (by simp [World.setCell])
        clear own9' own9 g9 hat9 hgr9 C9 k9 f9
        go_wp2_with fail
        go_roundw
        case rel => exact ⟨j - 1, p8, ks ++ [Ex.mk op' n' name' kids'], .slice (some ⟨gv9, 0, none⟩) (ks.length + 1) cv9, by go_num, by omega, by simp; omega, by have : kE 2 = 28 := rfl; omega, D9, hBw, hB2', R9, B9, C10, own10, nz9⟩
        case measure => simp [intOf]; omega
      · go_simp
        have L8 := lit_str wd [⟨#[97]⟩, ⟨#[98]⟩] (nm_ml (nm_all (by decide +kernel))) (by decide)
        have st8 := (Below.refl _ wd).alloc (Nat.le_refl _) (.cells (([⟨#[97]⟩, ⟨#[98]⟩] : List ByteArray).map Value.string).toArray 9)
        have CA := Cd.alloc (.cells (([⟨#[97]⟩, ⟨#[98]⟩] : List ByteArray).map Value.string).toArray 9)
        have kA : (wd.alloc (.cells (([⟨#[97]⟩, ⟨#[98]⟩] : List ByteArray).map Value.string).toArray 9)).cell? ⟨w5.heap.size, 3, none⟩ = some (.slice A6 ks.length c6) := CA.cell 3
        refine hK.out _ _ trivial (fun hHeld => ?_)
        clear hK K
        try simp only [Act.put, List.setIfInBounds_toArray, List.set_cons_zero, List.set_cons_succ]
        refine reg_call2 (i := 1) (j := 4) (by kernel_rfl) rfl rfl (fun K hK => ?_) (fun K hK => ?_)
        · go_simp
          refine hK.out _ _ trivial (fun hHeld => ?_)
          clear hK K
          try simp only [Act.put, List.setIfInBounds_toArray, List.set_cons_zero, List.set_cons_succ]
          refine reg_call (i := 4) (by kernel_rfl) rfl (fun K hK => ?_)
          go_simp
          refine (expr_ok 2 (by omega) 2 rfl [⟨#[97]⟩, ⟨#[98]⟩] (nm_all (by decide +kernel)) (by decide) _ _ _ l g p' _ (hRd.below st8 hgd) (by have : kE 2 = 28 := rfl; omega) L8 hgd (Nat.le_refl _)).mono ?_
          rintro e w8 ⟨p8, op', n', name', kids', A7, c7, rfl, h8, hp8, hb8, hE8⟩
          have hd8 : But g wd w8 := ((But.refl wd).alloc hgd _).trans hb8
          have C8 := hd8.row Cd hg5
          have hE8' : ExV 2 wd.heap.size op' n' name' kids' (.slice A7 kids'.length c7) w8 := hE8.lower (Nat.le_refl _) st8.size
          have own8 := own_keep own0 (fun b h1 h2 => hd8.2 b (by omega) h2)
          have sz8 := hd8.1.size
          have k8 : w8.cell? ⟨w5.heap.size, 3, none⟩ = some (.slice A6 ks.length c6) := C8.cell 3
          refine hK.out _ _ trivial (fun hHeld => ?_)
          clear hK K
          try simp only [Act.put, List.setIfInBounds_toArray, List.set_cons_zero, List.set_cons_succ]
          refine reg_call (i := 5) (by kernel_rfl) rfl (fun K hK => ?_)
          go_simp
          have CR := C8.alloc (.cells #[.int .i64 op', .int .i64 n', .string name', .slice A7 kids'.length c7] 25)
          have kR : (w8.alloc (.cells #[.int .i64 op', .int .i64 n', .string name', .slice A7 kids'.length c7] 25)).cell? ⟨w5.heap.size, 3, none⟩ = some (.slice A6 ks.length c6) := CR.cell 3
          refine hK.out _ _ trivial (fun hHeld => ?_)
          clear hK K
          try simp only [Act.put, List.setIfInBounds_toArray, List.set_cons_zero, List.set_cons_succ]
          refine reg_call (i := 6) (by kernel_rfl) rfl (fun K hK => ?_)
          obtain ⟨v9, w9, r9, own9, g9, hat9⟩ := append_one w8 (w5.heap.size + 1) 23 (.slice A6 ks.length c6) ks.length xs own8 op' n' name' A7 kids'.length c7 (by omega) (by omega)
          rw [if_pos (show Region.wanted _ _ = true by kernel_rfl)]
          refine Lib.wp_append_run_sl _ _ _ 23 rfl _ _ rfl rfl r9 ?_
          clear r9
          obtain ⟨gv9, cv9, rfl⟩ := own_form own9 (Nat.succ_pos _)
          have hgr9 : Below (w5.heap.size + 1) w8 w9 := ((Below.refl _ _).alloc (by omega) _).grown g9 (by simp; omega) (fun r hr => own_ge own8 hr)
          have C9 : Row w9 w5.heap.size 25 #[.int .i64 13, .int .i64 0, .string s, .slice A6 ks.length c6] := C8.below hgr9 (Nat.lt_succ_self _)
          have k9 : w9.cell? ⟨w5.heap.size, 3, none⟩ = some (.slice A6 ks.length c6) := C9.cell 3
          have f9 : w9.frozen? ⟨w5.heap.size, 3, none⟩ = false := C9.frozen 3
          refine hK.out _ _ trivial (fun hHeld => ?_)
          clear hK K
          try simp only [Act.put, List.setIfInBounds_toArray, List.set_cons_zero, List.set_cons_succ]
          refine reg_take (i := 7) (v := ?v4) rfl (by kernel_rfl) (by kernel_rfl) (by kernel_rfl) (fun _ _ _ h => h) (Or.inl ⟨by kernel_rfl, ?h4⟩) trivial ?r4
          case h4 => (intro w hSw; (try dsimp only at hSw); go_simp; try with_reducible rfl)
          try simp only [Act.put, List.setIfInBounds_toArray, List.set_cons_zero, List.set_cons_succ]
          refine reg_call (i := 8) (by kernel_rfl) rfl (fun K hK => ?_)
          go_simp
          refine hK.out _ _ trivial (fun hHeld => ?_)
          clear hK K
          try simp only [Act.put, List.setIfInBounds_toArray, List.set_cons_zero, List.set_cons_succ]
          refine wpAnyH_done (by kernel_rfl) ?_ _
          have own9' := snoc_fin (d := 3) own0 hp0 (fun b h1 h2 => hd8.2 b (by omega) h2) sz8 (by omega) (fun m => hE8'.rep m) own9 g9 hat9
          have nz9 : Hid (∀ k ∈ ks ++ [Ex.mk op' n' name' kids'], NoZ k) := by
            intro k hk
            rcases List.mem_append.1 hk with hk | hk
            · exact HZ.out k hk
            · obtain rfl := List.mem_singleton.1 hk; exact hE8'.noZ
          have hw9 : Below (w5.heap.size + 1) wd w9 ∨ True := Or.inr trivial
          have hBw : But g w (w9.setCell ⟨w5.heap.size, 3, none⟩ (.slice (some ⟨gv9, 0, none⟩) (ks.length + 1) cv9)) := ((hBd.trans hd8).thenB (hgr9.mono (by omega)) hgw).setNew hgw (by show w.heap.size ≤ w5.heap.size; omega) _
          have hB2' : But g w2 (w9.setCell ⟨w5.heap.size, 3, none⟩ (.slice (some ⟨gv9, 0, none⟩) (ks.length + 1) cv9)) := ((hB2d.trans hd8).thenB (hgr9.mono (by omega)) hg2).setNew hg2 (by show w2.heap.size ≤ w5.heap.size; omega) _
          have R9 : Row (w9.setCell ⟨w5.heap.size, 3, none⟩ (.slice (some ⟨gv9, 0, none⟩) (ks.length + 1) cv9)) w.heap.size 25 #[.int .i64 0, .int .i64 0, .string ⟨#[]⟩, .slice none 0 0] := ((hd8.row Rd hgw).below hgr9 (by omega)).far (by show w.heap.size ≠ w5.heap.size; omega) _
          have B9 : Row (w9.setCell ⟨w5.heap.size, 3, none⟩ (.slice (some ⟨gv9, 0, none⟩) (ks.length + 1) cv9)) w2.heap.size 25 #[.int .i64 op, .int .i64 n, .string name, .slice A3 kids.length c3] := ((hd8.row Bd hg2).below hgr9 (by omega)).far (by show w2.heap.size ≠ w5.heap.size; omega) _
          have C10 := C9.set_ 3 (.slice (some ⟨gv9, 0, none⟩) (ks.length + 1) cv9)
          have D9 : RdAt (w9.setCell ⟨w5.heap.size, 3, none⟩ (.slice (some ⟨gv9, 0, none⟩) (ks.length + 1) cv9)) g l p8 := (h8.below hgr9 (by omega)).below ((Below.refl w5.heap.size _).setCell (p := ⟨w5.heap.size, 3, none⟩) (Nat.le_refl _) _) (by omega)
          have own10 : OwnT (fun m => exT m 3) 25 (w9.setCell ⟨w5.heap.size, 3, none⟩ (.slice (some ⟨gv9, 0, none⟩) (ks.length + 1) cv9)) (w5.heap.size + 1) (.slice (some ⟨gv9, 0, none⟩) (ks.length + 1) cv9) (ks ++ [Ex.mk op' n' name' kids']) := own9'.keepT (fun b h1 h2 => Below.heap_setCell _ _ _ b (by show b ≠ w5.heap.size; omega)) (by simp [World.setCell])
          clear own9' own9 g9 hat9 hgr9 C9 k9 f9
          go_wp2_with fail
          go_roundw
          case rel => exact ⟨j - 1, p8, ks ++ [Ex.mk op' n' name' kids'], .slice (some ⟨gv9, 0, none⟩) (ks.length + 1) cv9, by go_num, by omega, by simp; omega, by have : kE 2 = 28 := rfl; omega, D9, hBw, hB2', R9, B9, C10, own10, nz9⟩
          case measure => simp [intOf]; omega
        · go_simp
          refine (expr_ok 2 (by omega) 2 rfl [⟨#[97]⟩, ⟨#[98]⟩] (nm_all (by decide +kernel)) (by decide) _ _ _ l g p' _ (hRd.below st8 hgd) (by have : kE 2 = 28 := rfl; omega) L8 hgd (Nat.le_refl _)).mono ?_
          rintro e w8 ⟨p8, op', n', name', kids', A7, c7, rfl, h8, hp8, hb8, hE8⟩
          have hd8 : But g wd w8 := ((But.refl wd).alloc hgd _).trans hb8
          have C8 := hd8.row Cd hg5
          have hE8' : ExV 2 wd.heap.size op' n' name' kids' (.slice A7 kids'.length c7) w8 := hE8.lower (Nat.le_refl _) st8.size
          have own8 := own_keep own0 (fun b h1 h2 => hd8.2 b (by omega) h2)
          have sz8 := hd8.1.size
          have k8 : w8.cell? ⟨w5.heap.size, 3, none⟩ = some (.slice A6 ks.length c6) := C8.cell 3
          refine hK.out _ _ trivial (fun hHeld => ?_)
          clear hK K
          try simp only [Act.put, List.setIfInBounds_toArray, List.set_cons_zero, List.set_cons_succ]
          refine reg_call2 (i := 1) (j := 5) (by kernel_rfl) rfl rfl (fun K hK => ?_) (fun K hK => ?_)
          · go_simp
            refine hK.out _ _ trivial (fun hHeld => ?_)
            clear hK K
            try simp only [Act.put, List.setIfInBounds_toArray, List.set_cons_zero, List.set_cons_succ]
            refine reg_call (i := 5) (by kernel_rfl) rfl (fun K hK => ?_)
            go_simp
            have CR := C8.alloc (.cells #[.int .i64 op', .int .i64 n', .string name', .slice A7 kids'.length c7] 25)
            have kR : (w8.alloc (.cells #[.int .i64 op', .int .i64 n', .string name', .slice A7 kids'.length c7] 25)).cell? ⟨w5.heap.size, 3, none⟩ = some (.slice A6 ks.length c6) := CR.cell 3
            refine hK.out _ _ trivial (fun hHeld => ?_)
            clear hK K
            try simp only [Act.put, List.setIfInBounds_toArray, List.set_cons_zero, List.set_cons_succ]
            refine reg_call (i := 6) (by kernel_rfl) rfl (fun K hK => ?_)
            obtain ⟨v9, w9, r9, own9, g9, hat9⟩ := append_one w8 (w5.heap.size + 1) 23 (.slice A6 ks.length c6) ks.length xs own8 op' n' name' A7 kids'.length c7 (by omega) (by omega)
            rw [if_pos (show Region.wanted _ _ = true by kernel_rfl)]
            refine Lib.wp_append_run_sl _ _ _ 23 rfl _ _ rfl rfl r9 ?_
            clear r9
            obtain ⟨gv9, cv9, rfl⟩ := own_form own9 (Nat.succ_pos _)
            have hgr9 : Below (w5.heap.size + 1) w8 w9 := ((Below.refl _ _).alloc (by omega) _).grown g9 (by simp; omega) (fun r hr => own_ge own8 hr)
            have C9 : Row w9 w5.heap.size 25 #[.int .i64 13, .int .i64 0, .string s, .slice A6 ks.length c6] := C8.below hgr9 (Nat.lt_succ_self _)
            have k9 : w9.cell? ⟨w5.heap.size, 3, none⟩ = some (.slice A6 ks.length c6) := C9.cell 3
            have f9 : w9.frozen? ⟨w5.heap.size, 3, none⟩ = false := C9.frozen 3
            refine hK.out _ _ trivial (fun hHeld => ?_)
            clear hK K
            try simp only [Act.put, List.setIfInBounds_toArray, List.set_cons_zero, List.set_cons_succ]
            refine reg_take (i := 7) (v := ?v5) rfl (by kernel_rfl) (by kernel_rfl) (by kernel_rfl) (fun _ _ _ h => h) (Or.inl ⟨by kernel_rfl, ?h5⟩) trivial ?r5
            case h5 => (intro w hSw; (try dsimp only at hSw); go_simp; try with_reducible rfl)
            try simp only [Act.put, List.setIfInBounds_toArray, List.set_cons_zero, List.set_cons_succ]
            refine reg_call (i := 8) (by kernel_rfl) rfl (fun K hK => ?_)
            go_simp
            refine hK.out _ _ trivial (fun hHeld => ?_)
            clear hK K
            try simp only [Act.put, List.setIfInBounds_toArray, List.set_cons_zero, List.set_cons_succ]
            refine wpAnyH_done (by kernel_rfl) ?_ _
            have own9' := snoc_fin (d := 3) own0 hp0 (fun b h1 h2 => hd8.2 b (by omega) h2) sz8 (by omega) (fun m => hE8'.rep m) own9 g9 hat9
            have nz9 : Hid (∀ k ∈ ks ++ [Ex.mk op' n' name' kids'], NoZ k) := by
              intro k hk
              rcases List.mem_append.1 hk with hk | hk
              · exact HZ.out k hk
              · obtain rfl := List.mem_singleton.1 hk; exact hE8'.noZ
            have hw9 : Below (w5.heap.size + 1) wd w9 ∨ True := Or.inr trivial
            have hBw : But g w (w9.setCell ⟨w5.heap.size, 3, none⟩ (.slice (some ⟨gv9, 0, none⟩) (ks.length + 1) cv9)) := ((hBd.trans hd8).thenB (hgr9.mono (by omega)) hgw).setNew hgw (by show w.heap.size ≤ w5.heap.size; omega) _
            have hB2' : But g w2 (w9.setCell ⟨w5.heap.size, 3, none⟩ (.slice (some ⟨gv9, 0, none⟩) (ks.length + 1) cv9)) := ((hB2d.trans hd8).thenB (hgr9.mono (by omega)) hg2).setNew hg2 (by show w2.heap.size ≤ w5.heap.size; omega) _
            have R9 : Row (w9.setCell ⟨w5.heap.size, 3, none⟩ (.slice (some ⟨gv9, 0, none⟩) (ks.length + 1) cv9)) w.heap.size 25 #[.int .i64 0, .int .i64 0, .string ⟨#[]⟩, .slice none 0 0] := ((hd8.row Rd hgw).below hgr9 (by omega)).far (by show w.heap.size ≠ w5.heap.size; omega) _
            have B9 : Row (w9.setCell ⟨w5.heap.size, 3, none⟩ (.slice (some ⟨gv9, 0, none⟩) (ks.length + 1) cv9)) w2.heap.size 25 #[.int .i64 op, .int .i64 n, .string name, .slice A3 kids.length c3] := ((hd8.row Bd hg2).below hgr9 (by omega)).far (by show w2.heap.size ≠ w5.heap.size; omega) _
            have C10 := C9.set_ 3 (.slice (some ⟨gv9, 0, none⟩) (ks.length + 1) cv9)
            have D9 : RdAt (w9.setCell ⟨w5.heap.size, 3, none⟩ (.slice (some ⟨gv9, 0, none⟩) (ks.length + 1) cv9)) g l p8 := (h8.below hgr9 (by omega)).below ((Below.refl w5.heap.size _).setCell (p := ⟨w5.heap.size, 3, none⟩) (Nat.le_refl _) _) (by omega)
            have own10 : OwnT (fun m => exT m 3) 25 (w9.setCell ⟨w5.heap.size, 3, none⟩ (.slice (some ⟨gv9, 0, none⟩) (ks.length + 1) cv9)) (w5.heap.size + 1) (.slice (some ⟨gv9, 0, none⟩) (ks.length + 1) cv9) (ks ++ [Ex.mk op' n' name' kids']) := own9'.keepT (fun b h1 h2 => Below.heap_setCell _ _ _ b (by show b ≠ w5.heap.size; omega)) (by simp [World.setCell])
            clear own9' own9 g9 hat9 hgr9 C9 k9 f9
            go_wp2_with fail
            go_roundw
            case rel => exact ⟨j - 1, p8, ks ++ [Ex.mk op' n' name' kids'], .slice (some ⟨gv9, 0, none⟩) (ks.length + 1) cv9, by go_num, by omega, by simp; omega, by have : kE 2 = 28 := rfl; omega, D9, hBw, hB2', R9, B9, C10, own10, nz9⟩
            case measure => simp [intOf]; omega
          · go_simp
            have CR := C8.alloc (.cells #[.int .i64 op', .int .i64 n', .string name', .slice A7 kids'.length c7] 25)
            have kR : (w8.alloc (.cells #[.int .i64 op', .int .i64 n', .string name', .slice A7 kids'.length c7] 25)).cell? ⟨w5.heap.size, 3, none⟩ = some (.slice A6 ks.length c6) := CR.cell 3
            refine hK.out _ _ trivial (fun hHeld => ?_)
            clear hK K
            try simp only [Act.put, List.setIfInBounds_toArray, List.set_cons_zero, List.set_cons_succ]
            refine reg_call (i := 1) (by kernel_rfl) rfl (fun K hK => ?_)
            go_simp
            refine hK.out _ _ trivial (fun hHeld => ?_)
            clear hK K
            try simp only [Act.put, List.setIfInBounds_toArray, List.set_cons_zero, List.set_cons_succ]
            refine reg_call (i := 6) (by kernel_rfl) rfl (fun K hK => ?_)
            obtain ⟨v9, w9, r9, own9, g9, hat9⟩ := append_one w8 (w5.heap.size + 1) 23 (.slice A6 ks.length c6) ks.length xs own8 op' n' name' A7 kids'.length c7 (by omega) (by omega)
            rw [if_pos (show Region.wanted _ _ = true by kernel_rfl)]
            refine Lib.wp_append_run_sl _ _ _ 23 rfl _ _ rfl rfl r9 ?_
            clear r9
            obtain ⟨gv9, cv9, rfl⟩ := own_form own9 (Nat.succ_pos _)
            have hgr9 : Below (w5.heap.size + 1) w8 w9 := ((Below.refl _ _).alloc (by omega) _).grown g9 (by simp; omega) (fun r hr => own_ge own8 hr)
            have C9 : Row w9 w5.heap.size 25 #[.int .i64 13, .int .i64 0, .string s, .slice A6 ks.length c6] := C8.below hgr9 (Nat.lt_succ_self _)
            have k9 : w9.cell? ⟨w5.heap.size, 3, none⟩ = some (.slice A6 ks.length c6) := C9.cell 3
            have f9 : w9.frozen? ⟨w5.heap.size, 3, none⟩ = false := C9.frozen 3
            refine hK.out _ _ trivial (fun hHeld => ?_)
            clear hK K
            try simp only [Act.put, List.setIfInBounds_toArray, List.set_cons_zero, List.set_cons_succ]
            refine reg_take (i := 7) (v := ?v6) rfl (by kernel_rfl) (by kernel_rfl) (by kernel_rfl) (fun _ _ _ h => h) (Or.inl ⟨by kernel_rfl, ?h6⟩) trivial ?r6
            case h6 => (intro w hSw; (try dsimp only at hSw); go_simp; try with_reducible rfl)
            try simp only [Act.put, List.setIfInBounds_toArray, List.set_cons_zero, List.set_cons_succ]
            refine reg_call (i := 8) (by kernel_rfl) rfl (fun K hK => ?_)
            go_simp
            refine hK.out _ _ trivial (fun hHeld => ?_)
            clear hK K
            try simp only [Act.put, List.setIfInBounds_toArray, List.set_cons_zero, List.set_cons_succ]
            refine wpAnyH_done (by kernel_rfl) ?_ _
            have own9' := snoc_fin (d := 3) own0 hp0 (fun b h1 h2 => hd8.2 b (by omega) h2) sz8 (by omega) (fun m => hE8'.rep m) own9 g9 hat9
            have nz9 : Hid (∀ k ∈ ks ++ [Ex.mk op' n' name' kids'], NoZ k) := by
              intro k hk
              rcases List.mem_append.1 hk with hk | hk
              · exact HZ.out k hk
              · obtain rfl := List.mem_singleton.1 hk; exact hE8'.noZ
            have hw9 : Below (w5.heap.size + 1) wd w9 ∨ True := Or.inr trivial
            have hBw : But g w (w9.setCell ⟨w5.heap.size, 3, none⟩ (.slice (some ⟨gv9, 0, none⟩) (ks.length + 1) cv9)) := ((hBd.trans hd8).thenB (hgr9.mono (by omega)) hgw).setNew hgw (by show w.heap.size ≤ w5.heap.size; omega) _
            have hB2' : But g w2 (w9.setCell ⟨w5.heap.size, 3, none⟩ (.slice (some ⟨gv9, 0, none⟩) (ks.length + 1) cv9)) := ((hB2d.trans hd8).thenB (hgr9.mono (by omega)) hg2).setNew hg2 (by show w2.heap.size ≤ w5.heap.size; omega) _
            have R9 : Row (w9.setCell ⟨w5.heap.size, 3, none⟩ (.slice (some ⟨gv9, 0, none⟩) (ks.length + 1) cv9)) w.heap.size 25 #[.int .i64 0, .int .i64 0, .string ⟨#[]⟩, .slice none 0 0] := ((hd8.row Rd hgw).below hgr9 (by omega)).far (by show w.heap.size ≠ w5.heap.size; omega) _
            have B9 : Row (w9.setCell ⟨w5.heap.size, 3, none⟩ (.slice (some ⟨gv9, 0, none⟩) (ks.length + 1) cv9)) w2.heap.size 25 #[.int .i64 op, .int .i64 n, .string name, .slice A3 kids.length c3] := ((hd8.row Bd hg2).below hgr9 (by omega)).far (by show w2.heap.size ≠ w5.heap.size; omega) _
            have C10 := C9.set_ 3 (.slice (some ⟨gv9, 0, none⟩) (ks.length + 1) cv9)
            have D9 : RdAt (w9.setCell ⟨w5.heap.size, 3, none⟩ (.slice (some ⟨gv9, 0, none⟩) (ks.length + 1) cv9)) g l p8 := (h8.below hgr9 (by omega)).below ((Below.refl w5.heap.size _).setCell (p := ⟨w5.heap.size, 3, none⟩) (Nat.le_refl _) _) (by omega)
            have own10 : OwnT (fun m => exT m 3) 25 (w9.setCell ⟨w5.heap.size, 3, none⟩ (.slice (some ⟨gv9, 0, none⟩) (ks.length + 1) cv9)) (w5.heap.size + 1) (.slice (some ⟨gv9, 0, none⟩) (ks.length + 1) cv9) (ks ++ [Ex.mk op' n' name' kids']) := own9'.keepT (fun b h1 h2 => Below.heap_setCell _ _ _ b (by show b ≠ w5.heap.size; omega)) (by simp [World.setCell])
            clear own9' own9 g9 hat9 hgr9 C9 k9 f9
            go_wp2_with fail
            go_roundw
            case rel => exact ⟨j - 1, p8, ks ++ [Ex.mk op' n' name' kids'], .slice (some ⟨gv9, 0, none⟩) (ks.length + 1) cv9, by go_num, by omega, by simp; omega, by have : kE 2 = 28 := rfl; omega, D9, hBw, hB2', R9, B9, C10, own10, nz9⟩
            case measure => simp [intOf]; omega
    · obtain rfl : j = 0 := by omega
      go_wp2_with fail
      refine (pick_ok 2 (by omega) (by omega) l g p' _ hR (by omega)).mono ?_
      rintro e w9 ⟨v, p9, rfl, h9, hp9, hb9, k9, hk9, rfl⟩
      have R9 := hb9.row R hgw
      have B9 := hb9.row Bx hg2
      have C9 := hb9.row C hg5
      have hB9 := hB.trans hb9
      have hB29 := hB2w.trans hb9
      have own9 := own.but hb9 (by omega)
      have hg9 := h9.lt
      have hsz9 := C9.lt
      have hEC : ExV 3 (w5.heap.size + 1) 13 0 s ks (.slice A6 ks.length c6) w9 := ⟨⟨by omega, by omega⟩, ⟨by omega, by omega⟩, hs.1, hs.2, HZ.out, by omega, own9⟩
      have y0 : w9.cell? ⟨w2.heap.size, 0, none⟩ = some (.int .i64 op) := B9.cell 0
      have y1 : w9.cell? ⟨w2.heap.size, 1, none⟩ = some (.int .i64 n) := B9.cell 1
      have y2 : w9.cell? ⟨w2.heap.size, 2, none⟩ = some (.string name) := B9.cell 2
      have y3 : w9.cell? ⟨w2.heap.size, 3, none⟩ = some (.slice A3 kids.length c3) := B9.cell 3
      have yf0 : w9.frozen? ⟨w2.heap.size, 0, none⟩ = false := B9.frozen 0
      have yf1 : w9.frozen? ⟨w2.heap.size, 1, none⟩ = false := B9.frozen 1
      have yf2 : w9.frozen? ⟨w2.heap.size, 2, none⟩ = false := B9.frozen 2
      have yf3 : w9.frozen? ⟨w2.heap.size, 3, none⟩ = false := B9.frozen 3
      have x0 : w9.cell? ⟨w5.heap.size, 0, none⟩ = some (.int .i64 13) := C9.cell 0
      have x1 : w9.cell? ⟨w5.heap.size, 1, none⟩ = some (.int .i64 0) := C9.cell 1
      have x2 : w9.cell? ⟨w5.heap.size, 2, none⟩ = some (.string s) := C9.cell 2
      have x3 : w9.cell? ⟨w5.heap.size, 3, none⟩ = some (.slice A6 ks.length c6) := C9.cell 3
      have xf0 : w9.frozen? ⟨w5.heap.size, 0, none⟩ = false := C9.frozen 0
      have xf1 : w9.frozen? ⟨w5.heap.size, 1, none⟩ = false := C9.frozen 1
      have xf2 : w9.frozen? ⟨w5.heap.size, 2, none⟩ = false := C9.frozen 2
      have xf3 : w9.frozen? ⟨w5.heap.size, 3, none⟩ = false := C9.frozen 3
      by_cases kz : k9 = 0
      · subst kz
        have s0 : w9.cell? ⟨w.heap.size, 0, none⟩ = some (.int .i64 0) := R9.cell 0
        have s1 : w9.cell? ⟨w.heap.size, 1, none⟩ = some (.int .i64 0) := R9.cell 1
        have s2 : w9.cell? ⟨w.heap.size, 2, none⟩ = some (.string ⟨#[]⟩) := R9.cell 2
        have s3 : w9.cell? ⟨w.heap.size, 3, none⟩ = some (.slice none 0 0) := R9.cell 3
        have sf0 : w9.frozen? ⟨w.heap.size, 0, none⟩ = false := R9.frozen 0
        have sf1 : w9.frozen? ⟨w.heap.size, 1, none⟩ = false := R9.frozen 1
        have sf2 : w9.frozen? ⟨w.heap.size, 2, none⟩ = false := R9.frozen 2
        have sf3 : w9.frozen? ⟨w.heap.size, 3, none⟩ = false := R9.frozen 3
        have F := Lib.hid (DrE.fin (p := p) (K := kA d) hgw h9 (by omega) hB9 (hEC.lower (show 3 ≤ 8 by omega) (Nat.le_refl _)) (by omega))
        clear own own9 hEC
        go_wp2_with fail
        refine bodyPost_ret (v := .agg #[.int .i64 13, .int .i64 0, .string s, .slice A6 ks.length c6]) (by simp [results, Tryd.results38, go_sem, s0, s1, s2, s3]) rfl F.out
      · have qz : ((k9 : Int) == 0) = false := by simpa using kz
        have st10 := (Below.refl _ w9).alloc (Nat.le_refl _) (.cells #[.int .i64 op, .int .i64 n, .string name, .slice A3 kids.length c3, .int .i64 13, .int .i64 0, .string s, .slice A6 ks.length c6] 25)
        have R10 := R9.alloc (.cells #[.int .i64 op, .int .i64 n, .string name, .slice A3 kids.length c3, .int .i64 13, .int .i64 0, .string s, .slice A6 ks.length c6] 25)
        have RN : Row (w9.alloc (.cells #[.int .i64 op, .int .i64 n, .string name, .slice A3 kids.length c3, .int .i64 13, .int .i64 0, .string s, .slice A6 ks.length c6] 25)) w9.heap.size 25 #[.int .i64 op, .int .i64 n, .string name, .slice A3 kids.length c3, .int .i64 13, .int .i64 0, .string s, .slice A6 ks.length c6] := Row.new _ _ _
        have own10 : OwnT (fun m => exT m 8) 25 (w9.alloc (.cells #[.int .i64 op, .int .i64 n, .string name, .slice A3 kids.length c3, .int .i64 13, .int .i64 0, .string s, .slice A6 ks.length c6] 25)) (w.heap.size + 1) (.slice (some ⟨w9.heap.size, 0, none⟩) 2 2) [.mk op n name kids, .mk 13 0 s ks] :=
          own_two (p := w.heap.size + 1) (q := w2.heap.size) (p' := w5.heap.size + 1) (q' := w9.heap.size) RN (by omega) (Nat.le_refl _) (by omega) (by omega) (by omega) st10.size (Or.inr (Nat.le_refl _))
            (fun m => exT_le m (show d + 1 ≤ 8 by omega) ((exT m (d + 1)).below ((exT m (d + 1)).keep (hE.rep m) (Nat.le_refl _) (Nat.le_refl _) (fun b h1 h2 => hB29.2 b (by omega) h2)) st10 (by omega))) (fun m => exT_le m (show 4 ≤ 8 by omega) ((exT m 4).below (hEC.rep m) st10 (Nat.le_refl _)))
        have hEN : ExV 8 (w.heap.size + 1) 3 0 ⟨#[]⟩ [.mk op n name kids, .mk 13 0 s ks] (.slice (some ⟨w9.heap.size, 0, none⟩) 2 2) (w9.alloc (.cells #[.int .i64 op, .int .i64 n, .string name, .slice A3 kids.length c3, .int .i64 13, .int .i64 0, .string s, .slice A6 ks.length c6] 25)) :=
          ⟨⟨by omega, by omega⟩, ⟨by omega, by omega⟩, ok_empty.1, ok_empty.2, (fun k hk => by
            rcases List.mem_cons.1 hk with rfl | hk
            · exact hE.noZ
            · obtain rfl := List.mem_singleton.1 hk; exact hEC.noZ), by simp, own10⟩
        have F := Lib.hid (DrE.fin (p := p) (K := kA d) (kids := [.mk op n name kids, .mk 13 0 s ks]) hgw (h9.below st10 hg9) (by omega) (hB9.alloc hgw _) hEN (Nat.lt_succ_self _))
        have s0 : (w9.alloc (.cells #[.int .i64 op, .int .i64 n, .string name, .slice A3 kids.length c3, .int .i64 13, .int .i64 0, .string s, .slice A6 ks.length c6] 25)).cell? ⟨w.heap.size, 0, none⟩ = some (.int .i64 0) := R10.cell 0
        have s1 : (w9.alloc (.cells #[.int .i64 op, .int .i64 n, .string name, .slice A3 kids.length c3, .int .i64 13, .int .i64 0, .string s, .slice A6 ks.length c6] 25)).cell? ⟨w.heap.size, 1, none⟩ = some (.int .i64 0) := R10.cell 1
        have s2 : (w9.alloc (.cells #[.int .i64 op, .int .i64 n, .string name, .slice A3 kids.length c3, .int .i64 13, .int .i64 0, .string s, .slice A6 ks.length c6] 25)).cell? ⟨w.heap.size, 2, none⟩ = some (.string ⟨#[]⟩) := R10.cell 2
        have s3 : (w9.alloc (.cells #[.int .i64 op, .int .i64 n, .string name, .slice A3 kids.length c3, .int .i64 13, .int .i64 0, .string s, .slice A6 ks.length c6] 25)).cell? ⟨w.heap.size, 3, none⟩ = some (.slice none 0 0) := R10.cell 3
        have sf0 : (w9.alloc (.cells #[.int .i64 op, .int .i64 n, .string name, .slice A3 kids.length c3, .int .i64 13, .int .i64 0, .string s, .slice A6 ks.length c6] 25)).frozen? ⟨w.heap.size, 0, none⟩ = false := R10.frozen 0
        have sf1 : (w9.alloc (.cells #[.int .i64 op, .int .i64 n, .string name, .slice A3 kids.length c3, .int .i64 13, .int .i64 0, .string s, .slice A6 ks.length c6] 25)).frozen? ⟨w.heap.size, 1, none⟩ = false := R10.frozen 1
        have sf2 : (w9.alloc (.cells #[.int .i64 op, .int .i64 n, .string name, .slice A3 kids.length c3, .int .i64 13, .int .i64 0, .string s, .slice A6 ks.length c6] 25)).frozen? ⟨w.heap.size, 2, none⟩ = false := R10.frozen 2
        have sf3 : (w9.alloc (.cells #[.int .i64 op, .int .i64 n, .string name, .slice A3 kids.length c3, .int .i64 13, .int .i64 0, .string s, .slice A6 ks.length c6] 25)).frozen? ⟨w.heap.size, 3, none⟩ = false := R10.frozen 3
        clear own own9 own10 hEN hEC RN st10
        go_wp2_with fail
        refine bodyPost_ret (v := .agg #[.int .i64 3, .int .i64 0, .string ⟨#[]⟩, .slice (some ⟨w9.heap.size, 0, none⟩) 2 2]) (by simp [results, Tryd.results38, go_sem, s0, s1, s2, s3]) rfl F.out
end Go.Proofs.YtpheoddpkmaidaaDoor
