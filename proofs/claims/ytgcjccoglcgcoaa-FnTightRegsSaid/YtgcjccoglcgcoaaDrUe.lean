/-
  Several texts in one: DrU5, DrU6.
-/
import Derived.Test.YtgcjccoglcgcoaaRegT
import Derived.Test.YtgcjccoglcgcoaaDrU4
import Derived.Test.YtgcjccoglcgcoaaTyA
import Derived.Test.YtgcjccoglcgcoaaPreds
import Derived.Test.YtgcjccoglcgcoaaSet5
import Derived.Deep.MidRow
namespace Go.Proofs.Ytgcjccoglcgcoaa
open Go.RowKit Go.ChangeShapes Go.WideShapes Go.Deep
variable {D : Nat}
set_option linter.unusedVariables false
set_option linter.unusedSimpArgs false
/-- a number picked below n, or 0 -/
theorem pick_any (n : Nat) (hn2 : n ≤ 1000000) (l : List UInt8) (g p : Nat) (w : World) (h : RdAt w g l p) (hp : p ≤ 1000000) :
    Calls Try.prog 49 #[.pointer (some ⟨g, 0, none⟩), .int .i64 (n : Int)] w (DrP g l p 1 (fun v _ => ∃ k : Nat, k ≤ n ∧ (1 ≤ n → k < n) ∧ v = .int .i64 (k : Int)) w) := by
  by_cases hn : 1 ≤ n
  · refine (pick_ok n hn hn2 l g p w h hp).mono ?_
    rintro e w' ⟨v, p', rfl, h1, h2, h3, k, hk, rfl⟩
    exact ⟨_, p', rfl, h1, h2, h3, k, by omega, fun _ => hk, rfl⟩
  obtain rfl : n = 0 := by omega
  obtain ⟨A, cap, R, S, hl⟩ := h
  have y0 : w.cell? ⟨g, 0, none⟩ = some (.slice A l.length cap) := R.cell 0
  have y1 : w.cell? ⟨g, 1, none⟩ = some (.int .i64 (p : Int)) := R.cell 1
  have f1 : w.frozen? ⟨g, 1, none⟩ = false := R.frozen 1
  have R1 : Row (w.setCell ⟨g, 1, none⟩ (.int .i64 ((p : Int) + 1))) g 87 #[.slice A l.length cap, .int .i64 ((p : Int) + 1)] := R.set_ 1 _
  have S1 : Sl false byS (w.setCell ⟨g, 1, none⟩ (.int .i64 ((p : Int) + 1))) 0 g l (.slice A l.length cap) := S.keep (Nat.le_refl _) (Nat.le_refl _) fun b _ hb => Below.heap_setCell _ _ _ b (by show b ≠ g; omega)
  have B1 : ButR g w (w.setCell ⟨g, 1, none⟩ (.int .i64 ((p : Int) + 1))) := ⟨(Below.refl g w).setCell (p := ⟨g, 1, none⟩) (Nat.le_refl g) _, fun b h1 h2 => Below.heap_setCell _ _ _ b (by show b ≠ g; omega)⟩
  have D1 : RdAt (w.setCell ⟨g, 1, none⟩ (.int .i64 ((p : Int) + 1))) g l (p + 1) := ⟨A, cap, R1, S1, hl⟩
  have HL : Hid (l.length ≤ 2000) := hl
  clear hl
  go_enter Try.func49, Try.ntmps49
  go_wp2_with fail
  go_ret
  exact ⟨_, p + 1, rfl, D1, Nat.le_refl _, B1, 0, by omega, fun h => absurd h (by omega), rfl⟩
/-- the row of codes, and one of them -/
theorem cods_row {lo : Nat} {w : World} {A : Option Addr} {n cap : Nat} (h : TyCods D lo w (.slice A n cap)) {i : Nat} (hi : i < n) : ∃ (b m r : Nat) (A9 : Option Addr) (nb cb : Nat) (cur : Array Value), A = some ⟨b, 0, none⟩ ∧ lo ≤ b ∧ m ≤ 3 ∧ r ≤ 300 ∧ Row w b 39 cur ∧ cur[i * 3]? = some (.int .i64 (m : Int)) ∧ cur[i * 3 + 1]? = some (.int .i64 (r : Int)) ∧ cur[i * 3 + 2]? = some (.slice A9 nb cb) ∧ TyBlks D lo w (.slice A9 nb cb) ∧ 0 < nb ∧ nb ≤ 10 ∧ nb ≤ cb ∧ cb ≤ maxLen ∧ n ≤ 10 := by
  obtain ⟨A1, n1, cap1, e1, k1, k2, k3, k4⟩ := h
  injection e1 with e1 e2 e3
  subst e1
  subst e2
  subst e3
  obtain ⟨b, cur, rfl, hb, R, hs, hc⟩ := k4 (by omega)
  obtain ⟨u0, c0, p0⟩ := hc (i * 3) (by omega)
  obtain ⟨u1, c1, p1⟩ := hc (i * 3 + 1) (by omega)
  obtain ⟨u2, c2, p2⟩ := hc (i * 3 + 2) (by omega)
  unfold CodP at p0 p1 p2
  rw [if_pos (by omega)] at p0
  rw [if_neg (by omega), if_pos (by omega)] at p1
  rw [if_neg (by omega), if_neg (by omega)] at p2
  obtain ⟨m, hm, rfl⟩ := p0
  obtain ⟨r, hr, rfl⟩ := p1
  obtain ⟨ty, A9, nb, cb, rfl, hnb⟩ := p2
  obtain ⟨_, _, _, e, h1, h2, h3, _⟩ := id ty
  injection e with e1 e2 e3
  exact ⟨b, m, r, A9, nb, cb, cur, rfl, hb, hm, hr, R, c0, c1, c2, ty, hnb, by omega, by omega, by omega, k1⟩
theorem TyS.form {t : TypeId} {size N lo : Nat} {w : World} {P : Nat → Value → Prop} {v : Value} (h : TyS t size N lo w P v) : ∃ A n cap, v = .slice A n cap ∧ n ≤ N ∧ n ≤ cap ∧ cap ≤ maxLen := by
  obtain ⟨A, n, cap, rfl, h1, h2, h3, _⟩ := h
  exact ⟨A, n, cap, rfl, h1, h2, h3⟩
/-- the row of blocks, and one of them -/
theorem blks_row {lo : Nat} {w : World} {A : Option Addr} {n cap : Nat} (h : TyBlks D lo w (.slice A n cap)) {i : Nat} (hi : i < n) : ∃ (b : Nat) (A0 : Option Addr) (n0 c0 : Nat) (A1 : Option Addr) (n1 c1 : Nat) (j o : Int) (A4 : Option Addr) (n4 c4 : Nat) (cur : Array Value), A = some ⟨b, 0, none⟩ ∧ lo ≤ b ∧ Row w b 65 cur ∧ cur[i * 5]? = some (.slice A0 n0 c0) ∧ cur[i * 5 + 1]? = some (.slice A1 n1 c1) ∧ cur[i * 5 + 2]? = some (.int .i64 j) ∧ cur[i * 5 + 3]? = some (.int .i64 o) ∧ cur[i * 5 + 4]? = some (.slice A4 n4 c4) ∧ TyPhis D lo w (.slice A0 n0 c0) ∧ TyInss D lo w (.slice A1 n1 c1) ∧ I64 j ∧ I64 o ∧ TyI D lo w (.slice A4 n4 c4) := by
  obtain ⟨Aa, na, capa, e1, k1, k2, k3, k4⟩ := h
  injection e1 with e1 e2 e3
  subst e1
  subst e2
  subst e3
  obtain ⟨b, cur, rfl, hb, R, hs, hc⟩ := k4 (by omega)
  obtain ⟨u0, c0, p0⟩ := hc (i * 5) (by omega)
  obtain ⟨u1, c1, p1⟩ := hc (i * 5 + 1) (by omega)
  obtain ⟨u2, c2, p2⟩ := hc (i * 5 + 2) (by omega)
  obtain ⟨u3, c3, p3⟩ := hc (i * 5 + 3) (by omega)
  obtain ⟨u4, c4, p4⟩ := hc (i * 5 + 4) (by omega)
  unfold BlkP at p0 p1 p2 p3 p4
  rw [if_pos (by omega)] at p0
  rw [if_neg (by omega), if_pos (by omega)] at p1
  rw [if_neg (by omega), if_neg (by omega), if_neg (by omega)] at p2
  rw [if_neg (by omega), if_neg (by omega), if_neg (by omega)] at p3
  rw [if_neg (by omega), if_neg (by omega), if_pos (by omega)] at p4
  obtain ⟨A0, n0, k0, rfl, _⟩ := TyS.form p0
  obtain ⟨A1, n1, k1, rfl, _⟩ := TyS.form p1
  obtain ⟨j, hj, rfl⟩ := p2
  obtain ⟨o, ho, rfl⟩ := p3
  obtain ⟨A4, n4, k4, rfl, _⟩ := TyS.form p4
  exact ⟨b, A0, n0, k0, A1, n1, k1, j, o, A4, n4, k4, cur, rfl, hb, R, c0, c1, c2, c3, c4, p0, p1, hj, ho, p4⟩
theorem append_int (w : World) (lo : Nat) (A : Option Addr) (j c : Nat) (h : TyI D lo w (.slice A j c)) (n : Int) (hn : I64 n) (hj : j + 1 ≤ 30 + D) (hj2 : j + 1 ≤ 1000) (hlo : lo ≤ w.heap.size) :
    AppP D lo 3 w (w.alloc (.cells #[.int .i64 n] 3)) (TyI D lo) j ((Builtin.append_ #[63, 63] 63 #[.slice A j c, .slice (some ⟨w.heap.size, 0, none⟩) 1 1]).run Try.prog (w.alloc (.cells #[.int .i64 n] 3))) := by
  obtain ⟨i0, hi, hz0, hz1, hz2⟩ := info_parts Try.info_int
  have hc : Chg D lo w (w.alloc (.cells #[.int .i64 n] 3)) := Chg.below ((Below.refl _ _).alloc (Nat.le_refl _) _)
  obtain ⟨A', c', w', r9, ty9, ch9, r, g9, hr9⟩ := run_append_ty (D := D) (P := Try.prog) (w.alloc (.cells #[.int .i64 n] 3)) 63 63 3 i0 (.int .i64 0) 1 8 (30 + D) lo (fun _ u => IntP u) Try.underlying63 hi hz0 hz1 hz2 rfl (by decide) A j c (h.keep hc) ⟨w.heap.size, 0, none⟩ 1 [.int .i64 n] rfl (new_one w n) (by intro u hu; simp at hu; subst hu; rfl) (int_new lo _ _ n hn) (by omega) hj2 (by omega) (Nat.le_trans hlo (by simp))
  exact ⟨A', c', w', r9, ty9, hc.kept.trans ch9.kept, grown_row g9 hr9, r, g9, fun b hb => (hr9 b hb).1⟩
theorem OK.blkPhis {lo : Nat} {w : World} {j : Nat} {v : Value} (hj : j % 5 = 0) (h : TyPhis D lo w v) : OK D lo w 65 j v := Or.inr (Or.inr (Or.inr (Or.inl ⟨rfl, by unfold BlkP; rw [if_pos hj]; exact h⟩)))
/-- a unit as a draw answers it -/
def UnitV (D lo : Nat) (w : World) (v : Value) : Prop := ∃ (A : Option Addr) (n cap : Nat), v = .agg #[.slice A n cap] ∧ 1 ≤ n ∧ TyCods D lo w (.slice A n cap)
theorem unit_fin {g p p6 K rb n c : Nat} {A : Option Addr} {l : List UInt8} {w w6 : World} {cs : Array Value} (hgw : g < w.heap.size) (hrb : w.heap.size ≤ rb) (h6 : RdAt w6 g l p6) (hp6 : p6 ≤ p + K) (hB : ButR g w w6) (R : Row w6 rb 28 cs) (hn : 1 ≤ n) (ty : TyCods D w.heap.size w6 (.slice A n c)) :
    DrP g l p K (fun v w' => UnitV D w.heap.size w' v) w (.returned (.agg #[.slice A n c])) (w6.setCell ⟨rb, 0, none⟩ (.slice A n c)) := by
  refine ⟨_, p6, rfl, h6.below ((Below.refl rb w6).setCell (p := ⟨rb, 0, none⟩) (Nat.le_refl _) _) (by omega), hp6, hB.setNew hgw hrb _, A, n, c, rfl, hn, ty.keep (Chg.set R (OK.ofCods ty))⟩
set_option maxRecDepth 100000 in
set_option maxHeartbeats 4000000 in
theorem unit_ok (l : List UInt8) (g p : Nat) (w : World) (h : RdAt w g l p) (hp : p ≤ 700000) :
    Calls Try.prog 48 #[.pointer (some ⟨g, 0, none⟩)] w (DrP g l p 4000 (fun v w' => UnitV 3 w.heap.size w' v) w) := by
  have hgw := h.lt
  have hgu : g < w.heap.size + 1 := by omega
  obtain ⟨W1, hW1⟩ : ∃ W1, W1 = (w.alloc (.cells #[.slice none 0 0] 28)).alloc (.cells #[.slice none 0 0] 28) := ⟨_, rfl⟩
  have hB1 : ButR g w W1 := by rw [hW1]; exact ((ButR.refl w).alloc hgw _).alloc hgw _
  have h1 : RdAt W1 g l p := by rw [hW1]; exact h.below (((Below.refl _ _).alloc (Nat.le_refl _) _).alloc (by simp) _) hgw
  have RR : Row W1 w.heap.size 28 #[.slice none 0 0] := by rw [hW1]; exact (Row.new w _ _).alloc _
  have RU : Row W1 (w.heap.size + 1) 28 #[.slice none 0 0] := by rw [hW1]; simpa using Row.new (w.alloc (.cells #[.slice none 0 0] 28)) 28 #[.slice none 0 0]
  have L2 := lit_int W1 [1, 2, 1, 3] (i64_of (by decide)) (by decide)
  go_enter Try.func48, Try.ntmps48
  go_wp2_with fail
  have hs1 : W1.heap.size = w.heap.size + 1 + 1 := by rw [hW1]; simp
  have hg1 := h1.lt
  rw [← hW1, ← hs1]
  refine (num_ok [1, 2, 1, 3] (by decide) (by decide) (fun s => ∃ q : Nat, (1 ≤ q ∧ q ≤ 3) ∧ s = (q : Int)) (by intro s hs; simp at hs; exact ⟨s.toNat, by omega, by omega⟩) _ _ _ l g p _ (h1.below ((Below.refl _ _).alloc (Nat.le_refl _) _) hg1) (by omega) L2 hg1 (Nat.le_refl _)).mono ?_
  rintro e w2 ⟨v, p2, rfl, h2, hp2, hb2, s, ⟨q0, hq0, rfl⟩, rfl⟩
  have hB2 : ButR g w w2 := (hB1.alloc hgw _).trans hb2
  replace RU := hb2.row (RU.alloc _) hgu
  replace RR := hb2.row (RR.alloc _) hgw
  clear hW1 hB1 h1 L2 hb2 hs1 hg1
  go_wp2_with fail
  go_loopw [4] (fun t wr => ∃ (q e p3 : Nat) (A : Option Addr) (c : Nat), t = .int .i64 (q : Int) ∧ q + e ≤ 3 ∧ 1 ≤ q + e ∧ p3 ≤ p + 1 + 1000 * e ∧ RdAt wr g l p3 ∧ ButR g w wr ∧ Row wr (w.heap.size + 1) 28 #[.slice A e c] ∧ Row wr w.heap.size 28 #[.slice none 0 0] ∧ TyCods 0 w.heap.size wr (.slice A e c)) (fun t _ => (intOf t).toNat)
  case atStart => exact ⟨q0, 0, p2, none, 0, rfl, by omega, by omega, by omega, h2, hB2, RU, RR, TyCods.nil_ _ _⟩
  case round =>
    clear RU RR h2 hB2
    obtain ⟨q, e, p3, A, c, rfl, hqe, hqe1, hp3, hR, hB, RU, RR, ty⟩ := hrel
    by_cases hq : 0 < q
    case pos =>
      have hq1 : (0 : Int) < (q : Int) := by omega
      go_wp2_with fail
      refine wp_region_held_drew (S := fun _ => True) (by kernel_rfl) ?_ (fun hHeld => ?_)
      · exact trivial
      generalize hwd : wr.drew = wd at hHeld ⊢
      have hRd : RdAt wd g l p3 := by rw [← hwd]; exact hR.below ((Below.refl g.succ wr).drew) (Nat.lt_succ_self _)
      have hBd : ButR g w wd := by rw [← hwd]; exact ⟨hB.1.drew, hB.2⟩
      have Ud : Row wd (w.heap.size + 1) 28 #[.slice A e c] := by rw [← hwd]; exact RU.drew
      have Rd : Row wd w.heap.size 28 #[.slice none 0 0] := by rw [← hwd]; exact RR.drew
      have tyd : TyCods 0 w.heap.size wd (.slice A e c) := by rw [← hwd]; exact ty
      have kd : wd.cell? ⟨w.heap.size + 1, 0, none⟩ = some (.slice A e c) := Ud.cell 0
      clear hwd RU RR ty hB hR
      refine tk (i := 0) ?_
      try simp only [ap]
      refine tk (i := 2) ?_
      try simp only [ap]
      refine reg_call2 (i := 1) (j := 3) (by kernel_rfl) rfl rfl (fun K hK => ?_) (fun K hK => ?_)
      · go_simp
        refine hK.out _ _ ?_ (fun hHeld => ?_)
        · exact trivial
        clear hK K
        try simp only [ap]
        refine reg_call (i := 3) (by kernel_rfl) rfl (fun K hK => ?_)
        go_simp
        refine hK.out _ _ ?_ (fun hHeld => ?_)
        · exact trivial
        clear hK K
        try simp only [ap]
        refine reg_call (i := 4) (by kernel_rfl) rfl (fun K hK => ?_)
        go_simp
        refine (code_ok (D := 0) (.slice A e c) l g p3 w.heap.size wd hgw hBd.size hRd (by omega) tyd).mono ?_
        rintro e_ w8 ⟨v, p8, rfl, h8, hp8, hb8, m, r, vb, rfl, hm, hr1, hr2, hvb, hne⟩
        have U8 := hb8.row Ud hgu
        have R8 := hb8.row Rd hgw
        have k8 : w8.cell? ⟨w.heap.size + 1, 0, none⟩ = some (.slice A e c) := U8.cell 0
        have ty8 := tyd.keep (hb8.chg hgw)
        have hvb8 := hvb.lower hBd.size
        have hs8 : w.heap.size ≤ w8.heap.size := Nat.le_trans hBd.size hb8.size
        refine hK.out _ _ ?_ (fun hHeld => ?_)
        · exact trivial
        clear hK K
        try simp only [ap]
        refine reg_call (i := 5) (by kernel_rfl) rfl (fun K hK => ?_)
        go_simp
        have UR := U8.alloc (.cells #[.int .i64 (m : Int), .int .i64 (r : Int), vb] 39)
        have RRr := R8.alloc (.cells #[.int .i64 (m : Int), .int .i64 (r : Int), vb] 39)
        have kR : (w8.alloc (.cells #[.int .i64 (m : Int), .int .i64 (r : Int), vb] 39)).cell? ⟨w.heap.size + 1, 0, none⟩ = some (.slice A e c) := UR.cell 0
        refine hK.out _ _ ?_ (fun hHeld => ?_)
        · exact trivial
        clear hK K
        try simp only [ap]
        refine reg_call (i := 6) (by kernel_rfl) rfl (fun K hK => ?_)
        obtain ⟨A10, c10, w9, r9, ty9, kp9, hf9, rr, g9, hr9⟩ := append_cod (D := 0) w8 w.heap.size A e c ty8 m r vb hm hr2 hvb8 hne (by omega) hs8
        rw [if_pos (show Region.wanted _ _ = true by kernel_rfl)]
        refine Lib.wp_append_run_sl _ _ _ 26 rfl _ _ rfl rfl r9 ?_
        clear r9
        have U9 := hf9 _ _ _ (by decide) UR
        have R9 := hf9 _ _ _ (by decide) RRr
        have k9 : w9.cell? ⟨w.heap.size + 1, 0, none⟩ = some (.slice A e c) := U9.cell 0
        have f9 : w9.frozen? ⟨w.heap.size + 1, 0, none⟩ = false := U9.frozen 0
        have ch10 : Chg 0 w.heap.size w9 (w9.setCell ⟨w.heap.size + 1, 0, none⟩ (.slice A10 (e + 1) c10)) := Chg.set U9 (OK.ofCods ty9)
        refine hK.out _ _ ?_ (fun hHeld => ?_)
        · exact trivial
        clear hK K
        try simp only [ap]
        refine tk (i := 7) ?_
        try simp only [ap]
        refine reg_call (i := 8) (by kernel_rfl) rfl (fun K hK => ?_)
        go_simp
        refine hK.out _ _ ?_ (fun hHeld => ?_)
        · exact trivial
        clear hK K
        try simp only [ap]
        refine wpAnyH_done (by kernel_rfl) ?_ _
        have U10 := U9.set_ 0 (.slice A10 (e + 1) c10)
        have R10 := R9.far (p := ⟨w.heap.size + 1, 0, none⟩) (by show w.heap.size ≠ w.heap.size + 1; omega) (.slice A10 (e + 1) c10)
        have hB9 : ButR g w w9 := grown_but ((hBd.trans hb8).alloc hgw (.cells #[.int .i64 (m : Int), .int .i64 (r : Int), vb] 39)) g9 hr9
        have h9 : RdAt w9 g l p8 := grown_rd (h8.below ((Below.refl _ w8).alloc (Nat.le_refl _) (.cells #[.int .i64 (m : Int), .int .i64 (r : Int), vb] 39)) h8.lt) g9 (fun b hb => Nat.lt_of_lt_of_le hgw (hr9 b hb))
        have hB10 : ButR g w (w9.setCell ⟨w.heap.size + 1, 0, none⟩ (.slice A10 (e + 1) c10)) := hB9.setNew hgw (by show w.heap.size ≤ w.heap.size + 1; omega) _
        have h10 : RdAt (w9.setCell ⟨w.heap.size + 1, 0, none⟩ (.slice A10 (e + 1) c10)) g l p8 := h9.below ((Below.refl (w.heap.size + 1) _).setCell (p := ⟨w.heap.size + 1, 0, none⟩) (Nat.le_refl _) _) hgu
        go_wp2_with fail
        go_roundw
        case rel => exact ⟨q - 1, e + 1, p8, A10, c10, by go_num, by omega, by omega, by omega, h10, hB10, U10, R10, ty9.keep ch10⟩
        case measure => simp [intOf]; omega
      · go_simp
        refine hK.out _ _ ?_ (fun hHeld => ?_)
        · exact trivial
        clear hK K
        try simp only [ap]
        refine reg_call2 (i := 1) (j := 4) (by kernel_rfl) rfl rfl (fun K hK => ?_) (fun K hK => ?_)
        · go_simp
          refine hK.out _ _ ?_ (fun hHeld => ?_)
          · exact trivial
          clear hK K
          try simp only [ap]
          refine reg_call (i := 4) (by kernel_rfl) rfl (fun K hK => ?_)
          go_simp
          refine (code_ok (D := 0) (.slice A e c) l g p3 w.heap.size wd hgw hBd.size hRd (by omega) tyd).mono ?_
          rintro e_ w8 ⟨v, p8, rfl, h8, hp8, hb8, m, r, vb, rfl, hm, hr1, hr2, hvb, hne⟩
          have U8 := hb8.row Ud hgu
          have R8 := hb8.row Rd hgw
          have k8 : w8.cell? ⟨w.heap.size + 1, 0, none⟩ = some (.slice A e c) := U8.cell 0
          have ty8 := tyd.keep (hb8.chg hgw)
          have hvb8 := hvb.lower hBd.size
          have hs8 : w.heap.size ≤ w8.heap.size := Nat.le_trans hBd.size hb8.size
          refine hK.out _ _ ?_ (fun hHeld => ?_)
          · exact trivial
          clear hK K
          try simp only [ap]
          refine reg_call (i := 5) (by kernel_rfl) rfl (fun K hK => ?_)
          go_simp
          have UR := U8.alloc (.cells #[.int .i64 (m : Int), .int .i64 (r : Int), vb] 39)
          have RRr := R8.alloc (.cells #[.int .i64 (m : Int), .int .i64 (r : Int), vb] 39)
          have kR : (w8.alloc (.cells #[.int .i64 (m : Int), .int .i64 (r : Int), vb] 39)).cell? ⟨w.heap.size + 1, 0, none⟩ = some (.slice A e c) := UR.cell 0
          refine hK.out _ _ ?_ (fun hHeld => ?_)
          · exact trivial
          clear hK K
          try simp only [ap]
          refine reg_call (i := 6) (by kernel_rfl) rfl (fun K hK => ?_)
          obtain ⟨A10, c10, w9, r9, ty9, kp9, hf9, rr, g9, hr9⟩ := append_cod (D := 0) w8 w.heap.size A e c ty8 m r vb hm hr2 hvb8 hne (by omega) hs8
          rw [if_pos (show Region.wanted _ _ = true by kernel_rfl)]
          refine Lib.wp_append_run_sl _ _ _ 26 rfl _ _ rfl rfl r9 ?_
          clear r9
          have U9 := hf9 _ _ _ (by decide) UR
          have R9 := hf9 _ _ _ (by decide) RRr
          have k9 : w9.cell? ⟨w.heap.size + 1, 0, none⟩ = some (.slice A e c) := U9.cell 0
          have f9 : w9.frozen? ⟨w.heap.size + 1, 0, none⟩ = false := U9.frozen 0
          have ch10 : Chg 0 w.heap.size w9 (w9.setCell ⟨w.heap.size + 1, 0, none⟩ (.slice A10 (e + 1) c10)) := Chg.set U9 (OK.ofCods ty9)
          refine hK.out _ _ ?_ (fun hHeld => ?_)
          · exact trivial
          clear hK K
          try simp only [ap]
          refine tk (i := 7) ?_
          try simp only [ap]
          refine reg_call (i := 8) (by kernel_rfl) rfl (fun K hK => ?_)
          go_simp
          refine hK.out _ _ ?_ (fun hHeld => ?_)
          · exact trivial
          clear hK K
          try simp only [ap]
          refine wpAnyH_done (by kernel_rfl) ?_ _
          have U10 := U9.set_ 0 (.slice A10 (e + 1) c10)
          have R10 := R9.far (p := ⟨w.heap.size + 1, 0, none⟩) (by show w.heap.size ≠ w.heap.size + 1; omega) (.slice A10 (e + 1) c10)
          have hB9 : ButR g w w9 := grown_but ((hBd.trans hb8).alloc hgw (.cells #[.int .i64 (m : Int), .int .i64 (r : Int), vb] 39)) g9 hr9
          have h9 : RdAt w9 g l p8 := grown_rd (h8.below ((Below.refl _ w8).alloc (Nat.le_refl _) (.cells #[.int .i64 (m : Int), .int .i64 (r : Int), vb] 39)) h8.lt) g9 (fun b hb => Nat.lt_of_lt_of_le hgw (hr9 b hb))
          have hB10 : ButR g w (w9.setCell ⟨w.heap.size + 1, 0, none⟩ (.slice A10 (e + 1) c10)) := hB9.setNew hgw (by show w.heap.size ≤ w.heap.size + 1; omega) _
          have h10 : RdAt (w9.setCell ⟨w.heap.size + 1, 0, none⟩ (.slice A10 (e + 1) c10)) g l p8 := h9.below ((Below.refl (w.heap.size + 1) _).setCell (p := ⟨w.heap.size + 1, 0, none⟩) (Nat.le_refl _) _) hgu
          go_wp2_with fail
          go_roundw
          case rel => exact ⟨q - 1, e + 1, p8, A10, c10, by go_num, by omega, by omega, by omega, h10, hB10, U10, R10, ty9.keep ch10⟩
          case measure => simp [intOf]; omega
        · go_simp
          refine (code_ok (D := 0) (.slice A e c) l g p3 w.heap.size wd hgw hBd.size hRd (by omega) tyd).mono ?_
          rintro e_ w8 ⟨v, p8, rfl, h8, hp8, hb8, m, r, vb, rfl, hm, hr1, hr2, hvb, hne⟩
          have U8 := hb8.row Ud hgu
          have R8 := hb8.row Rd hgw
          have k8 : w8.cell? ⟨w.heap.size + 1, 0, none⟩ = some (.slice A e c) := U8.cell 0
          have ty8 := tyd.keep (hb8.chg hgw)
          have hvb8 := hvb.lower hBd.size
          have hs8 : w.heap.size ≤ w8.heap.size := Nat.le_trans hBd.size hb8.size
          refine hK.out _ _ ?_ (fun hHeld => ?_)
          · exact trivial
          clear hK K
          try simp only [ap]
          refine reg_call2 (i := 1) (j := 5) (by kernel_rfl) rfl rfl (fun K hK => ?_) (fun K hK => ?_)
          · go_simp
            refine hK.out _ _ ?_ (fun hHeld => ?_)
            · exact trivial
            clear hK K
            try simp only [ap]
            refine reg_call (i := 5) (by kernel_rfl) rfl (fun K hK => ?_)
            go_simp
            have UR := U8.alloc (.cells #[.int .i64 (m : Int), .int .i64 (r : Int), vb] 39)
            have RRr := R8.alloc (.cells #[.int .i64 (m : Int), .int .i64 (r : Int), vb] 39)
            have kR : (w8.alloc (.cells #[.int .i64 (m : Int), .int .i64 (r : Int), vb] 39)).cell? ⟨w.heap.size + 1, 0, none⟩ = some (.slice A e c) := UR.cell 0
            refine hK.out _ _ ?_ (fun hHeld => ?_)
            · exact trivial
            clear hK K
            try simp only [ap]
            refine reg_call (i := 6) (by kernel_rfl) rfl (fun K hK => ?_)
            obtain ⟨A10, c10, w9, r9, ty9, kp9, hf9, rr, g9, hr9⟩ := append_cod (D := 0) w8 w.heap.size A e c ty8 m r vb hm hr2 hvb8 hne (by omega) hs8
            rw [if_pos (show Region.wanted _ _ = true by kernel_rfl)]
            refine Lib.wp_append_run_sl _ _ _ 26 rfl _ _ rfl rfl r9 ?_
            clear r9
            have U9 := hf9 _ _ _ (by decide) UR
            have R9 := hf9 _ _ _ (by decide) RRr
            have k9 : w9.cell? ⟨w.heap.size + 1, 0, none⟩ = some (.slice A e c) := U9.cell 0
            have f9 : w9.frozen? ⟨w.heap.size + 1, 0, none⟩ = false := U9.frozen 0
            have ch10 : Chg 0 w.heap.size w9 (w9.setCell ⟨w.heap.size + 1, 0, none⟩ (.slice A10 (e + 1) c10)) := Chg.set U9 (OK.ofCods ty9)
            refine hK.out _ _ ?_ (fun hHeld => ?_)
            · exact trivial
            clear hK K
            try simp only [ap]
            refine tk (i := 7) ?_
            try simp only [ap]
            refine reg_call (i := 8) (by kernel_rfl) rfl (fun K hK => ?_)
            go_simp
            refine hK.out _ _ ?_ (fun hHeld => ?_)
            · exact trivial
            clear hK K
            try simp only [ap]
            refine wpAnyH_done (by kernel_rfl) ?_ _
            have U10 := U9.set_ 0 (.slice A10 (e + 1) c10)
            have R10 := R9.far (p := ⟨w.heap.size + 1, 0, none⟩) (by show w.heap.size ≠ w.heap.size + 1; omega) (.slice A10 (e + 1) c10)
            have hB9 : ButR g w w9 := grown_but ((hBd.trans hb8).alloc hgw (.cells #[.int .i64 (m : Int), .int .i64 (r : Int), vb] 39)) g9 hr9
            have h9 : RdAt w9 g l p8 := grown_rd (h8.below ((Below.refl _ w8).alloc (Nat.le_refl _) (.cells #[.int .i64 (m : Int), .int .i64 (r : Int), vb] 39)) h8.lt) g9 (fun b hb => Nat.lt_of_lt_of_le hgw (hr9 b hb))
            have hB10 : ButR g w (w9.setCell ⟨w.heap.size + 1, 0, none⟩ (.slice A10 (e + 1) c10)) := hB9.setNew hgw (by show w.heap.size ≤ w.heap.size + 1; omega) _
            have h10 : RdAt (w9.setCell ⟨w.heap.size + 1, 0, none⟩ (.slice A10 (e + 1) c10)) g l p8 := h9.below ((Below.refl (w.heap.size + 1) _).setCell (p := ⟨w.heap.size + 1, 0, none⟩) (Nat.le_refl _) _) hgu
            go_wp2_with fail
            go_roundw
            case rel => exact ⟨q - 1, e + 1, p8, A10, c10, by go_num, by omega, by omega, by omega, h10, hB10, U10, R10, ty9.keep ch10⟩
            case measure => simp [intOf]; omega
          · go_simp
            have UR := U8.alloc (.cells #[.int .i64 (m : Int), .int .i64 (r : Int), vb] 39)
            have RRr := R8.alloc (.cells #[.int .i64 (m : Int), .int .i64 (r : Int), vb] 39)
            have kR : (w8.alloc (.cells #[.int .i64 (m : Int), .int .i64 (r : Int), vb] 39)).cell? ⟨w.heap.size + 1, 0, none⟩ = some (.slice A e c) := UR.cell 0
            refine hK.out _ _ ?_ (fun hHeld => ?_)
            · exact trivial
            clear hK K
            try simp only [ap]
            refine reg_call (i := 1) (by kernel_rfl) rfl (fun K hK => ?_)
            go_simp
            refine hK.out _ _ ?_ (fun hHeld => ?_)
            · exact trivial
            clear hK K
            try simp only [ap]
            refine reg_call (i := 6) (by kernel_rfl) rfl (fun K hK => ?_)
            obtain ⟨A10, c10, w9, r9, ty9, kp9, hf9, rr, g9, hr9⟩ := append_cod (D := 0) w8 w.heap.size A e c ty8 m r vb hm hr2 hvb8 hne (by omega) hs8
            rw [if_pos (show Region.wanted _ _ = true by kernel_rfl)]
            refine Lib.wp_append_run_sl _ _ _ 26 rfl _ _ rfl rfl r9 ?_
            clear r9
            have U9 := hf9 _ _ _ (by decide) UR
            have R9 := hf9 _ _ _ (by decide) RRr
            have k9 : w9.cell? ⟨w.heap.size + 1, 0, none⟩ = some (.slice A e c) := U9.cell 0
            have f9 : w9.frozen? ⟨w.heap.size + 1, 0, none⟩ = false := U9.frozen 0
            have ch10 : Chg 0 w.heap.size w9 (w9.setCell ⟨w.heap.size + 1, 0, none⟩ (.slice A10 (e + 1) c10)) := Chg.set U9 (OK.ofCods ty9)
            refine hK.out _ _ ?_ (fun hHeld => ?_)
            · exact trivial
            clear hK K
            try simp only [ap]
            refine tk (i := 7) ?_
            try simp only [ap]
            refine reg_call (i := 8) (by kernel_rfl) rfl (fun K hK => ?_)
            go_simp
            refine hK.out _ _ ?_ (fun hHeld => ?_)
            · exact trivial
            clear hK K
            try simp only [ap]
            refine wpAnyH_done (by kernel_rfl) ?_ _
            have U10 := U9.set_ 0 (.slice A10 (e + 1) c10)
            have R10 := R9.far (p := ⟨w.heap.size + 1, 0, none⟩) (by show w.heap.size ≠ w.heap.size + 1; omega) (.slice A10 (e + 1) c10)
            have hB9 : ButR g w w9 := grown_but ((hBd.trans hb8).alloc hgw (.cells #[.int .i64 (m : Int), .int .i64 (r : Int), vb] 39)) g9 hr9
            have h9 : RdAt w9 g l p8 := grown_rd (h8.below ((Below.refl _ w8).alloc (Nat.le_refl _) (.cells #[.int .i64 (m : Int), .int .i64 (r : Int), vb] 39)) h8.lt) g9 (fun b hb => Nat.lt_of_lt_of_le hgw (hr9 b hb))
            have hB10 : ButR g w (w9.setCell ⟨w.heap.size + 1, 0, none⟩ (.slice A10 (e + 1) c10)) := hB9.setNew hgw (by show w.heap.size ≤ w.heap.size + 1; omega) _
            have h10 : RdAt (w9.setCell ⟨w.heap.size + 1, 0, none⟩ (.slice A10 (e + 1) c10)) g l p8 := h9.below ((Below.refl (w.heap.size + 1) _).setCell (p := ⟨w.heap.size + 1, 0, none⟩) (Nat.le_refl _) _) hgu
            go_wp2_with fail
            go_roundw
            case rel => exact ⟨q - 1, e + 1, p8, A10, c10, by go_num, by omega, by omega, by omega, h10, hB10, U10, R10, ty9.keep ch10⟩
            case measure => simp [intOf]; omega
    have hq1 : ¬ (0 : Int) < (q : Int) := by omega
    obtain rfl : q = 0 := by omega
    obtain ⟨n, hn⟩ : ∃ n, n = e := ⟨_, rfl⟩
    rw [← hn] at hqe hqe1 hp3 RU ty
    clear hn e
    have hs1 := hR.lt
    have L1 := lit_int wr [0, 0, 1, 3] (i64_of (by decide)) (by decide)
    go_wp2_with fail
    refine (num_ok [0, 0, 1, 3] (by decide) (by decide) (fun s => ∃ q : Nat, q ≤ 3 ∧ s = (q : Int)) (by intro s hs; simp at hs; exact ⟨s.toNat, by omega, by omega⟩) _ _ _ l g p3 _ (hR.below ((Below.refl _ _).alloc (Nat.le_refl _) _) hs1) (by omega) L1 hs1 (Nat.le_refl _)).mono ?_
    rintro e_ w4 ⟨v, p4, rfl, h4, hp4, hb4, s, ⟨q1, hq1', rfl⟩, rfl⟩
    have hb4' := ((ButR.refl wr).alloc hR.lt (.cells #[.int .i64 0, .int .i64 0, .int .i64 1, .int .i64 3] 3)).trans hb4
    replace RU := hb4'.row RU hgu
    replace RR := hb4'.row RR hgw
    replace ty := ty.keep (hb4'.chg hgw)
    replace hB := hB.trans hb4'
    clear hb4 hb4' L1 hR hs1 hq1
    go_wp2_with fail
    go_loopw [5] (fun t wr => ∃ (q k p5 : Nat), t = .int .i64 (q : Int) ∧ q + k ≤ 3 ∧ p5 ≤ p + 3002 + 30 * k ∧ RdAt wr g l p5 ∧ ButR g w wr ∧ Row wr (w.heap.size + 1) 28 #[.slice A n c] ∧ Row wr w.heap.size 28 #[.slice none 0 0] ∧ TyCods k w.heap.size wr (.slice A n c)) (fun t _ => (intOf t).toNat)
    case atStart => exact ⟨q1, 0, p4, rfl, by omega, by omega, h4, hB, RU, RR, ty⟩
    case round =>
      clear RU RR h4 hB ty
      obtain ⟨q, k, p5, rfl, hqk, hp5, hR, hB, RU, RR, ty⟩ := hrel
      by_cases hq : 0 < q
      case neg =>
        have hq1 : ¬ (0 : Int) < (q : Int) := by omega
        have F := Lib.hid (unit_fin (D := 3) (p := p) (K := 4000) hgw (Nat.le_refl _) hR (by omega) hB RR (by omega) (ty.up (by omega)))
        have s0 : wr.cell? ⟨w.heap.size, 0, none⟩ = some (.slice none 0 0) := RR.cell 0
        have sf0 : wr.frozen? ⟨w.heap.size, 0, none⟩ = false := RR.frozen 0
        have x0 : wr.cell? ⟨w.heap.size + 1, 0, none⟩ = some (.slice A n c) := RU.cell 0
        go_wp2_with fail
        refine bodyPost_ret (v := .agg #[.slice A n c]) (by simp [results, Try.results48, go_sem, s0]) rfl F.out
      have hq1 : (0 : Int) < (q : Int) := by omega
      obtain ⟨bC, _, _, _, _, _, _, rfl, hlC, _⟩ := cods_row ty (show 0 < n by omega)
      have hgC : g < bC := by omega
      have x0 : wr.cell? ⟨w.heap.size + 1, 0, none⟩ = some (.slice (some ⟨bC, 0, none⟩) n c) := RU.cell 0
      go_upto_region 9 with fail
      refine wp_region_held_drew (S := fun w' => (w'.cell? ⟨w.heap.size + 1, 0, none⟩ = some (.slice (some ⟨bC, 0, none⟩) n c))) (by kernel_rfl) ?_ (fun hHeld => ?_)
      · first | exact x0 | exact x6
      refine tk (i := 0) ?_
      try simp only [ap]
      refine tk (i := 1) ?_
      try simp only [ap]
      refine tk (i := 2) ?_
      try simp only [ap]
      refine tk (i := 3) ?_
      try simp only [ap]
      refine tk (i := 4) ?_
      try simp only [ap]
      refine tk (i := 5) ?_
      try simp only [ap]
      refine reg_call (i := 6) (by kernel_rfl) rfl (fun K hK => ?_)
      go_simp
      (refine (pick_ok n (by omega) (by omega) l g p5 wr.drew (hR.below ((Below.refl (g + 1) wr).drew) (Nat.lt_succ_self _)) (by omega)).mono ?_; rintro e_ w6 ⟨v, p6, rfl, h6, hp6, hb6, i, hi, rfl⟩; have RU6 := hb6.row (show Row wr.drew (w.heap.size + 1) 28 _ from RU) hgu; have x6 : w6.cell? ⟨w.heap.size + 1, 0, none⟩ = some (.slice (some ⟨bC, 0, none⟩) n c) := RU6.cell 0; have i1 : (i : Int) < (n : Int) := by omega)
      refine hK.out _ _ ?_ (fun hHeld => ?_)
      · first | exact x0 | exact x6
      clear hK K
      try simp only [ap]
      refine tk (i := 7) ?_
      try simp only [ap]
      refine tk (i := 8) ?_
      try simp only [ap]
      refine wpAnyH_done (by kernel_rfl) ?_ _
      have RR6 := hb6.row (show Row wr.drew w.heap.size 28 _ from RR) hgw
      have ty6 : TyCods k w.heap.size w6 _ := (show TyCods k w.heap.size wr.drew _ from ty).keep (hb6.chg hgw)
      have hB6 : ButR g w w6 := (show ButR g w wr.drew from ⟨hB.1.drew, hB.2⟩).trans hb6
      clear RU RR ty hB hR x0 x6 hb6 hHeld
      obtain ⟨bC', m, r, A9, nb, cb, cur, eA, _, hm, hr, RC6, q0, q1, q2, tb6, hnb, hnb2, hnb3, hnb4, _⟩ := cods_row ty6 hi
      injection eA with eA
      injection eA with eA
      subst eA
      have y2 : w6.cell? ⟨bC, i * 3 + 2, none⟩ = some (.slice A9 nb cb) := (RC6.cell _).trans q2
      go_wp2_with fail
      refine (pick_ok nb (by omega) (by omega) l g p6 w6 h6 (by omega)).mono ?_
      rintro e_ w7 ⟨v, p7, rfl, h7, hp7, hb7, b, hb, rfl⟩
      have RC7 := hb7.row RC6 hgC
      have y1 : w7.cell? ⟨bC, i * 3 + 1, none⟩ = some (.int .i64 (r : Int)) := (RC7.cell _).trans q1
      go_wp2_with fail
      refine (pick_any r (by omega) l g p7 w7 h7 (by omega)).mono ?_
      rintro e_ w8 ⟨v, p8, rfl, h8, hp8, hb8, t, ht, _, rfl⟩
      have hb68 := hb7.trans hb8
      have RU8 := hb68.row RU6 hgu
      have RR8 := hb68.row RR6 hgw
      have ty8 := ty6.keep (hb68.chg hgw)
      have tb8 := tb6.keep (hb68.chg hgw)
      have RC8 := hb68.row RC6 hgC
      have hB8 := hB6.trans hb68
      clear RU6 RR6 ty6 tb6 RC6 RC7 hB6 h6 h7 hb7 hb8 hb68 y1 y2
      go_upto_region 12 with fail
      have hcp := RU8.lt
      have RP := Row.new w8 69 #[.int .i64 (t : Int), .slice none 0 0]
      have chp : Chg k w.heap.size w8 (w8.alloc (.cells #[.int .i64 (t : Int), .slice none 0 0] 69)) := Chg.below ((Below.refl _ _).alloc (Nat.le_refl _) _)
      replace ty8 := ty8.keep chp
      obtain ⟨bB, A0, n0, c0, _, _, _, _, _, _, _, _, curB, rfl, hlB, RB, z0, _, _, _, _, tp8, _⟩ := blks_row tb8 hb
      replace tb8 := tb8.keep chp
      replace tp8 := tp8.keep chp
      replace RU8 := RU8.alloc (.cells #[.int .i64 (t : Int), .slice none 0 0] 69)
      replace RR8 := RR8.alloc (.cells #[.int .i64 (t : Int), .slice none 0 0] 69)
      replace RC8 := RC8.alloc (.cells #[.int .i64 (t : Int), .slice none 0 0] 69)
      replace RB := RB.alloc (.cells #[.int .i64 (t : Int), .slice none 0 0] 69)
      replace h8 : RdAt (w8.alloc (.cells #[.int .i64 (t : Int), .slice none 0 0] 69)) g l p8 := h8.below ((Below.refl _ _).alloc (Nat.le_refl _) _) h8.lt
      replace hB8 : ButR g w (w8.alloc (.cells #[.int .i64 (t : Int), .slice none 0 0] 69)) := hB8.alloc hgw _
      clear chp
      generalize w8.alloc (.cells #[.int .i64 (t : Int), .slice none 0 0] 69) = wx at RP ty8 tb8 tp8 RU8 RR8 RC8 RB h8 hB8 ⊢
      generalize w8.heap.size = gp at RP hcp ⊢
      have hgp : g < gp := by omega
      have y0 : wx.cell? ⟨bC, i * 3, none⟩ = some (.int .i64 (m : Int)) := (RC8.cell _).trans q0
      have y1 : wx.cell? ⟨bC, i * 3 + 1, none⟩ = some (.int .i64 (r : Int)) := (RC8.cell _).trans q1
      have y2 : wx.cell? ⟨bC, i * 3 + 2, none⟩ = some (.slice (some ⟨bB, 0, none⟩) nb cb) := (RC8.cell _).trans q2
      obtain ⟨blocks, hbl, _, _, hbs⟩ := tb8.sl (by omega)
      go_wp2_with fail
      refine (spec_l7Preds (m : Int) (r : Int) blocks _ (b : Int) wx w.heap.size wx.heap.size (Nat.le_refl _) (by omega) hbs).mono ?_
      rintro e_ w9 ⟨vp, rfl, hvp, hbp⟩
      obtain ⟨Ap, pp, rfl, _, _⟩ := (hvp false).form
      have hL := Nat.le_trans (predsFrom_len (b : Int) blocks 0) hbl
      generalize (predsFrom (b : Int) 0 blocks).length = L at hL ⊢
      have ch9 : Chg k w.heap.size wx w9 := Chg.below hbp
      replace ty8 := ty8.keep ch9
      replace tb8 := tb8.keep ch9
      replace tp8 := tp8.keep ch9
      replace RU8 := RU8.below hbp RU8.lt
      replace RR8 := RR8.below hbp RR8.lt
      replace RC8 := RC8.below hbp RC8.lt
      replace RB := RB.below hbp RB.lt
      replace RP := RP.below hbp RP.lt
      replace hB8 := hB8.trans (ButR.of_below h8.lt hbp)
      replace h8 := h8.below hbp h8.lt
      clear hvp hbp ch9 y0 y1 y2 hbs
      go_wp2_with fail
      go_loopw [60] (fun u wr => ∃ (e p9 : Nat) (A8 : Option Addr) (c8 : Nat), u = .int .i64 (e : Int) ∧ e ≤ L ∧ p9 ≤ p8 + e ∧ RdAt wr g l p9 ∧ ButR g w wr ∧ Row wr gp 69 #[.int .i64 (t : Int), .slice A8 e c8] ∧ Row wr bC 39 cur ∧ Row wr bB 65 curB ∧ Row wr (w.heap.size + 1) 28 #[.slice (some ⟨bC, 0, none⟩) n c] ∧ Row wr w.heap.size 28 #[.slice none 0 0] ∧ TyI k w.heap.size wr (.slice A8 e c8) ∧ TyPhis k w.heap.size wr (.slice A0 n0 c0) ∧ TyCods k w.heap.size wr (.slice (some ⟨bC, 0, none⟩) n c)) (fun u _ => L - (intOf u).toNat)
      case atStart => exact ⟨0, p8, none, 0, rfl, by omega, by omega, h8, hB8, RP, RC8, RB, RU8, RR8, TyI.nil_ _ _, tp8, ty8⟩
      case round =>
        clear RP RC8 RB RU8 RR8 tp8 ty8 tb8 h8 hB8
        obtain ⟨e, p9, A8, c8, rfl, heL, hp9, hR, hB, RP, RC, RB, RU, RR, tyi, tyq, ty⟩ := hrel
        by_cases hL1 : e < L
        case pos =>
          have hL2 : (e : Int) < (L : Int) := by omega
          have x1 : wr.cell? ⟨bC, i * 3 + 1, none⟩ = some (.int .i64 (r : Int)) := (RC.cell _).trans q1
          go_wp2_with fail
          refine wp_region_held_drew (S := fun w' => (w'.cell? ⟨bC, i * 3 + 1, none⟩ = some (.int .i64 (r : Int)))) (by kernel_rfl) ?_ (fun hHeld => ?_)
          · exact x1
          clear x1
          have hCp : bC ≠ gp := fun e => row_ne RC (e ▸ RP) (by decide)
          have hBp : bB ≠ gp := fun e => row_ne RB (e ▸ RP) (by decide)
          have hUp : w.heap.size + 1 ≠ gp := by omega
          have hRp : w.heap.size ≠ gp := by omega
          have hgB : g < bB := by omega
          generalize hwd : wr.drew = wd at hHeld ⊢
          have hRd : RdAt wd g l p9 := by rw [← hwd]; exact hR.below ((Below.refl g.succ wr).drew) (Nat.lt_succ_self _)
          have hBd : ButR g w wd := by rw [← hwd]; exact ⟨hB.1.drew, hB.2⟩
          have Pd := RP.drew
          rw [hwd] at Pd
          have Cd := RC.drew
          rw [hwd] at Cd
          have Bd := RB.drew
          rw [hwd] at Bd
          have Ud := RU.drew
          rw [hwd] at Ud
          have Rd := RR.drew
          rw [hwd] at Rd
          have tid : TyI k w.heap.size wd (.slice A8 e c8) := by rw [← hwd]; exact tyi
          have tqd : TyPhis k w.heap.size wd (.slice A0 n0 c0) := by rw [← hwd]; exact tyq
          have tyd : TyCods k w.heap.size wd (.slice (some ⟨bC, 0, none⟩) n c) := by rw [← hwd]; exact ty
          have kd : wd.cell? ⟨gp, 1, none⟩ = some (.slice A8 e c8) := Pd.cell 1
          have xd : wd.cell? ⟨bC, i * 3 + 1, none⟩ = some (.int .i64 (r : Int)) := (Cd.cell _).trans q1
          clear hwd RP RC RB RU RR tyi tyq ty hB hR
          refine tk (i := 0) ?_
          try simp only [ap]
          refine tk (i := 2) ?_
          try simp only [ap]
          refine tk (i := 3) ?_
          try simp only [ap]
          refine tk (i := 4) ?_
          try simp only [ap]
          refine tk (i := 5) ?_
          try simp only [ap]
          refine tk (i := 6) ?_
          try simp only [ap]
          refine reg_call2 (i := 1) (j := 7) (by kernel_rfl) rfl rfl (fun K hK => ?_) (fun K hK => ?_)
          · go_simp
            refine hK.out _ _ ?_ (fun hHeld => ?_)
            · first | exact xd | exact x8 | exact xR | exact x9 | exact x10
            clear hK K
            try simp only [ap]
            refine reg_call (i := 7) (by kernel_rfl) rfl (fun K hK => ?_)
            go_simp
            refine (pick_any r (by omega) l g p9 wd hRd (by omega)).mono ?_
            rintro e_ w8 ⟨v, p8, rfl, h8, hp8, hb8, t8, ht8, _, rfl⟩
            have P8 := hb8.row Pd hgp
            have C8 := hb8.row Cd hgC
            have B8 := hb8.row Bd hgB
            have U8 := hb8.row Ud hgu
            have R8 := hb8.row Rd hgw
            have k8 : w8.cell? ⟨gp, 1, none⟩ = some (.slice A8 e c8) := P8.cell 1
            have x8 : w8.cell? ⟨bC, i * 3 + 1, none⟩ = some (.int .i64 (r : Int)) := (C8.cell _).trans q1
            have ti8 := tid.keep (hb8.chg hgw)
            have tq8 := tqd.keep (hb8.chg hgw)
            have ty8 := tyd.keep (hb8.chg hgw)
            have hs8 : w.heap.size ≤ w8.heap.size := Nat.le_trans hBd.size hb8.size
            refine hK.out _ _ ?_ (fun hHeld => ?_)
            · first | exact xd | exact x8 | exact xR | exact x9 | exact x10
            clear hK K
            try simp only [ap]
            refine reg_call (i := 8) (by kernel_rfl) rfl (fun K hK => ?_)
            go_simp
            have PR := P8.alloc (.cells #[.int .i64 (t8 : Int)] 3)
            have CR := C8.alloc (.cells #[.int .i64 (t8 : Int)] 3)
            have BR := B8.alloc (.cells #[.int .i64 (t8 : Int)] 3)
            have UR := U8.alloc (.cells #[.int .i64 (t8 : Int)] 3)
            have RR := R8.alloc (.cells #[.int .i64 (t8 : Int)] 3)
            have kR : (w8.alloc (.cells #[.int .i64 (t8 : Int)] 3)).cell? ⟨gp, 1, none⟩ = some (.slice A8 e c8) := PR.cell 1
            have xR : (w8.alloc (.cells #[.int .i64 (t8 : Int)] 3)).cell? ⟨bC, i * 3 + 1, none⟩ = some (.int .i64 (r : Int)) := (CR.cell _).trans q1
            refine hK.out _ _ ?_ (fun hHeld => ?_)
            · first | exact xd | exact x8 | exact xR | exact x9 | exact x10
            clear hK K
            try simp only [ap]
            refine reg_call (i := 9) (by kernel_rfl) rfl (fun K hK => ?_)
            obtain ⟨A10, c10, w9, r9, ti9, kp9, hf9, rr, g9, hr9⟩ := append_int (D := k) w8 w.heap.size A8 e c8 ti8 (t8 : Int) (i64_nat (by omega)) (by omega) (by omega) hs8
            rw [if_pos (show Region.wanted _ _ = true by kernel_rfl)]
            refine Lib.wp_append_run_sl _ _ _ 63 rfl _ _ rfl rfl r9 ?_
            clear r9
            have P9 := hf9 _ _ _ (by decide) PR
            have C9 := hf9 _ _ _ (by decide) CR
            have B9 := hf9 _ _ _ (by decide) BR
            have U9 := hf9 _ _ _ (by decide) UR
            have R9 := hf9 _ _ _ (by decide) RR
            have tq9 := tq8.kept kp9
            have ty9 := ty8.kept kp9
            have k9 : w9.cell? ⟨gp, 1, none⟩ = some (.slice A8 e c8) := P9.cell 1
            have x9 : w9.cell? ⟨bC, i * 3 + 1, none⟩ = some (.int .i64 (r : Int)) := (C9.cell _).trans q1
            have f9 : w9.frozen? ⟨gp, 1, none⟩ = false := P9.frozen 1
            have ch10 : Chg k w.heap.size w9 (w9.setCell ⟨gp, 1, none⟩ (.slice A10 (e + 1) c10)) := Chg.set P9 (OK.ofI ti9)
            have C10 := C9.far (p := ⟨gp, 1, none⟩) hCp (.slice A10 (e + 1) c10)
            have x10 : (w9.setCell ⟨gp, 1, none⟩ (.slice A10 (e + 1) c10)).cell? ⟨bC, i * 3 + 1, none⟩ = some (.int .i64 (r : Int)) := (C10.cell _).trans q1
            refine hK.out _ _ ?_ (fun hHeld => ?_)
            · first | exact xd | exact x8 | exact xR | exact x9 | exact x10
            clear hK K
            try simp only [ap]
            refine tk (i := 10) ?_
            try simp only [ap]
            refine reg_call (i := 11) (by kernel_rfl) rfl (fun K hK => ?_)
            go_simp
            refine hK.out _ _ ?_ (fun hHeld => ?_)
            · first | exact xd | exact x8 | exact xR | exact x9 | exact x10
            clear hK K
            try simp only [ap]
            refine wpAnyH_done (by kernel_rfl) ?_ _
            have P10 := P9.set_ 1 (.slice A10 (e + 1) c10)
            have B10 := B9.far (p := ⟨gp, 1, none⟩) hBp (.slice A10 (e + 1) c10)
            have U10 := U9.far (p := ⟨gp, 1, none⟩) hUp (.slice A10 (e + 1) c10)
            have R10 := R9.far (p := ⟨gp, 1, none⟩) hRp (.slice A10 (e + 1) c10)
            have hB9 : ButR g w w9 := grown_but ((hBd.trans hb8).alloc hgw (.cells #[.int .i64 (t8 : Int)] 3)) g9 hr9
            have h9 : RdAt w9 g l p8 := grown_rd (h8.below ((Below.refl _ w8).alloc (Nat.le_refl _) (.cells #[.int .i64 (t8 : Int)] 3)) h8.lt) g9 (fun b hb => Nat.lt_of_lt_of_le hgw (hr9 b hb))
            have hB10 : ButR g w (w9.setCell ⟨gp, 1, none⟩ (.slice A10 (e + 1) c10)) := hB9.setNew hgw (by show w.heap.size ≤ gp; omega) _
            have h10 : RdAt (w9.setCell ⟨gp, 1, none⟩ (.slice A10 (e + 1) c10)) g l p8 := h9.below ((Below.refl gp _).setCell (p := ⟨gp, 1, none⟩) (Nat.le_refl _) _) hgp
            go_wp2_with fail
            go_roundw
            case rel => exact ⟨e + 1, p8, A10, c10, by go_num, by omega, by omega, h10, hB10, P10, C10, B10, U10, R10, ti9.keep ch10, tq9.keep ch10, ty9.keep ch10⟩
            case measure => simp [intOf]; omega
          · go_simp
            refine (pick_any r (by omega) l g p9 wd hRd (by omega)).mono ?_
            rintro e_ w8 ⟨v, p8, rfl, h8, hp8, hb8, t8, ht8, _, rfl⟩
            have P8 := hb8.row Pd hgp
            have C8 := hb8.row Cd hgC
            have B8 := hb8.row Bd hgB
            have U8 := hb8.row Ud hgu
            have R8 := hb8.row Rd hgw
            have k8 : w8.cell? ⟨gp, 1, none⟩ = some (.slice A8 e c8) := P8.cell 1
            have x8 : w8.cell? ⟨bC, i * 3 + 1, none⟩ = some (.int .i64 (r : Int)) := (C8.cell _).trans q1
            have ti8 := tid.keep (hb8.chg hgw)
            have tq8 := tqd.keep (hb8.chg hgw)
            have ty8 := tyd.keep (hb8.chg hgw)
            have hs8 : w.heap.size ≤ w8.heap.size := Nat.le_trans hBd.size hb8.size
            refine hK.out _ _ ?_ (fun hHeld => ?_)
            · first | exact xd | exact x8 | exact xR | exact x9 | exact x10
            clear hK K
            try simp only [ap]
            refine reg_call2 (i := 1) (j := 8) (by kernel_rfl) rfl rfl (fun K hK => ?_) (fun K hK => ?_)
            · go_simp
              refine hK.out _ _ ?_ (fun hHeld => ?_)
              · first | exact xd | exact x8 | exact xR | exact x9 | exact x10
              clear hK K
              try simp only [ap]
              refine reg_call (i := 8) (by kernel_rfl) rfl (fun K hK => ?_)
              go_simp
              have PR := P8.alloc (.cells #[.int .i64 (t8 : Int)] 3)
              have CR := C8.alloc (.cells #[.int .i64 (t8 : Int)] 3)
              have BR := B8.alloc (.cells #[.int .i64 (t8 : Int)] 3)
              have UR := U8.alloc (.cells #[.int .i64 (t8 : Int)] 3)
              have RR := R8.alloc (.cells #[.int .i64 (t8 : Int)] 3)
              have kR : (w8.alloc (.cells #[.int .i64 (t8 : Int)] 3)).cell? ⟨gp, 1, none⟩ = some (.slice A8 e c8) := PR.cell 1
              have xR : (w8.alloc (.cells #[.int .i64 (t8 : Int)] 3)).cell? ⟨bC, i * 3 + 1, none⟩ = some (.int .i64 (r : Int)) := (CR.cell _).trans q1
              refine hK.out _ _ ?_ (fun hHeld => ?_)
              · first | exact xd | exact x8 | exact xR | exact x9 | exact x10
              clear hK K
              try simp only [ap]
              refine reg_call (i := 9) (by kernel_rfl) rfl (fun K hK => ?_)
              obtain ⟨A10, c10, w9, r9, ti9, kp9, hf9, rr, g9, hr9⟩ := append_int (D := k) w8 w.heap.size A8 e c8 ti8 (t8 : Int) (i64_nat (by omega)) (by omega) (by omega) hs8
              rw [if_pos (show Region.wanted _ _ = true by kernel_rfl)]
              refine Lib.wp_append_run_sl _ _ _ 63 rfl _ _ rfl rfl r9 ?_
              clear r9
              have P9 := hf9 _ _ _ (by decide) PR
              have C9 := hf9 _ _ _ (by decide) CR
              have B9 := hf9 _ _ _ (by decide) BR
              have U9 := hf9 _ _ _ (by decide) UR
              have R9 := hf9 _ _ _ (by decide) RR
              have tq9 := tq8.kept kp9
              have ty9 := ty8.kept kp9
              have k9 : w9.cell? ⟨gp, 1, none⟩ = some (.slice A8 e c8) := P9.cell 1
              have x9 : w9.cell? ⟨bC, i * 3 + 1, none⟩ = some (.int .i64 (r : Int)) := (C9.cell _).trans q1
              have f9 : w9.frozen? ⟨gp, 1, none⟩ = false := P9.frozen 1
              have ch10 : Chg k w.heap.size w9 (w9.setCell ⟨gp, 1, none⟩ (.slice A10 (e + 1) c10)) := Chg.set P9 (OK.ofI ti9)
              have C10 := C9.far (p := ⟨gp, 1, none⟩) hCp (.slice A10 (e + 1) c10)
              have x10 : (w9.setCell ⟨gp, 1, none⟩ (.slice A10 (e + 1) c10)).cell? ⟨bC, i * 3 + 1, none⟩ = some (.int .i64 (r : Int)) := (C10.cell _).trans q1
              refine hK.out _ _ ?_ (fun hHeld => ?_)
              · first | exact xd | exact x8 | exact xR | exact x9 | exact x10
              clear hK K
              try simp only [ap]
              refine tk (i := 10) ?_
              try simp only [ap]
              refine reg_call (i := 11) (by kernel_rfl) rfl (fun K hK => ?_)
              go_simp
              refine hK.out _ _ ?_ (fun hHeld => ?_)
              · first | exact xd | exact x8 | exact xR | exact x9 | exact x10
              clear hK K
              try simp only [ap]
              refine wpAnyH_done (by kernel_rfl) ?_ _
              have P10 := P9.set_ 1 (.slice A10 (e + 1) c10)
              have B10 := B9.far (p := ⟨gp, 1, none⟩) hBp (.slice A10 (e + 1) c10)
              have U10 := U9.far (p := ⟨gp, 1, none⟩) hUp (.slice A10 (e + 1) c10)
              have R10 := R9.far (p := ⟨gp, 1, none⟩) hRp (.slice A10 (e + 1) c10)
              have hB9 : ButR g w w9 := grown_but ((hBd.trans hb8).alloc hgw (.cells #[.int .i64 (t8 : Int)] 3)) g9 hr9
              have h9 : RdAt w9 g l p8 := grown_rd (h8.below ((Below.refl _ w8).alloc (Nat.le_refl _) (.cells #[.int .i64 (t8 : Int)] 3)) h8.lt) g9 (fun b hb => Nat.lt_of_lt_of_le hgw (hr9 b hb))
              have hB10 : ButR g w (w9.setCell ⟨gp, 1, none⟩ (.slice A10 (e + 1) c10)) := hB9.setNew hgw (by show w.heap.size ≤ gp; omega) _
              have h10 : RdAt (w9.setCell ⟨gp, 1, none⟩ (.slice A10 (e + 1) c10)) g l p8 := h9.below ((Below.refl gp _).setCell (p := ⟨gp, 1, none⟩) (Nat.le_refl _) _) hgp
              go_wp2_with fail
              go_roundw
              case rel => exact ⟨e + 1, p8, A10, c10, by go_num, by omega, by omega, h10, hB10, P10, C10, B10, U10, R10, ti9.keep ch10, tq9.keep ch10, ty9.keep ch10⟩
              case measure => simp [intOf]; omega
            · go_simp
              have PR := P8.alloc (.cells #[.int .i64 (t8 : Int)] 3)
              have CR := C8.alloc (.cells #[.int .i64 (t8 : Int)] 3)
              have BR := B8.alloc (.cells #[.int .i64 (t8 : Int)] 3)
              have UR := U8.alloc (.cells #[.int .i64 (t8 : Int)] 3)
              have RR := R8.alloc (.cells #[.int .i64 (t8 : Int)] 3)
              have kR : (w8.alloc (.cells #[.int .i64 (t8 : Int)] 3)).cell? ⟨gp, 1, none⟩ = some (.slice A8 e c8) := PR.cell 1
              have xR : (w8.alloc (.cells #[.int .i64 (t8 : Int)] 3)).cell? ⟨bC, i * 3 + 1, none⟩ = some (.int .i64 (r : Int)) := (CR.cell _).trans q1
              refine hK.out _ _ ?_ (fun hHeld => ?_)
              · first | exact xd | exact x8 | exact xR | exact x9 | exact x10
              clear hK K
              try simp only [ap]
              refine reg_call (i := 1) (by kernel_rfl) rfl (fun K hK => ?_)
              go_simp
              refine hK.out _ _ ?_ (fun hHeld => ?_)
              · first | exact xd | exact x8 | exact xR | exact x9 | exact x10
              clear hK K
              try simp only [ap]
              refine reg_call (i := 9) (by kernel_rfl) rfl (fun K hK => ?_)
              obtain ⟨A10, c10, w9, r9, ti9, kp9, hf9, rr, g9, hr9⟩ := append_int (D := k) w8 w.heap.size A8 e c8 ti8 (t8 : Int) (i64_nat (by omega)) (by omega) (by omega) hs8
              rw [if_pos (show Region.wanted _ _ = true by kernel_rfl)]
              refine Lib.wp_append_run_sl _ _ _ 63 rfl _ _ rfl rfl r9 ?_
              clear r9
              have P9 := hf9 _ _ _ (by decide) PR
              have C9 := hf9 _ _ _ (by decide) CR
              have B9 := hf9 _ _ _ (by decide) BR
              have U9 := hf9 _ _ _ (by decide) UR
              have R9 := hf9 _ _ _ (by decide) RR
              have tq9 := tq8.kept kp9
              have ty9 := ty8.kept kp9
              have k9 : w9.cell? ⟨gp, 1, none⟩ = some (.slice A8 e c8) := P9.cell 1
              have x9 : w9.cell? ⟨bC, i * 3 + 1, none⟩ = some (.int .i64 (r : Int)) := (C9.cell _).trans q1
              have f9 : w9.frozen? ⟨gp, 1, none⟩ = false := P9.frozen 1
              have ch10 : Chg k w.heap.size w9 (w9.setCell ⟨gp, 1, none⟩ (.slice A10 (e + 1) c10)) := Chg.set P9 (OK.ofI ti9)
              have C10 := C9.far (p := ⟨gp, 1, none⟩) hCp (.slice A10 (e + 1) c10)
              have x10 : (w9.setCell ⟨gp, 1, none⟩ (.slice A10 (e + 1) c10)).cell? ⟨bC, i * 3 + 1, none⟩ = some (.int .i64 (r : Int)) := (C10.cell _).trans q1
              refine hK.out _ _ ?_ (fun hHeld => ?_)
              · first | exact xd | exact x8 | exact xR | exact x9 | exact x10
              clear hK K
              try simp only [ap]
              refine tk (i := 10) ?_
              try simp only [ap]
              refine reg_call (i := 11) (by kernel_rfl) rfl (fun K hK => ?_)
              go_simp
              refine hK.out _ _ ?_ (fun hHeld => ?_)
              · first | exact xd | exact x8 | exact xR | exact x9 | exact x10
              clear hK K
              try simp only [ap]
              refine wpAnyH_done (by kernel_rfl) ?_ _
              have P10 := P9.set_ 1 (.slice A10 (e + 1) c10)
              have B10 := B9.far (p := ⟨gp, 1, none⟩) hBp (.slice A10 (e + 1) c10)
              have U10 := U9.far (p := ⟨gp, 1, none⟩) hUp (.slice A10 (e + 1) c10)
              have R10 := R9.far (p := ⟨gp, 1, none⟩) hRp (.slice A10 (e + 1) c10)
              have hB9 : ButR g w w9 := grown_but ((hBd.trans hb8).alloc hgw (.cells #[.int .i64 (t8 : Int)] 3)) g9 hr9
              have h9 : RdAt w9 g l p8 := grown_rd (h8.below ((Below.refl _ w8).alloc (Nat.le_refl _) (.cells #[.int .i64 (t8 : Int)] 3)) h8.lt) g9 (fun b hb => Nat.lt_of_lt_of_le hgw (hr9 b hb))
              have hB10 : ButR g w (w9.setCell ⟨gp, 1, none⟩ (.slice A10 (e + 1) c10)) := hB9.setNew hgw (by show w.heap.size ≤ gp; omega) _
              have h10 : RdAt (w9.setCell ⟨gp, 1, none⟩ (.slice A10 (e + 1) c10)) g l p8 := h9.below ((Below.refl gp _).setCell (p := ⟨gp, 1, none⟩) (Nat.le_refl _) _) hgp
              go_wp2_with fail
              go_roundw
              case rel => exact ⟨e + 1, p8, A10, c10, by go_num, by omega, by omega, h10, hB10, P10, C10, B10, U10, R10, ti9.keep ch10, tq9.keep ch10, ty9.keep ch10⟩
              case measure => simp [intOf]; omega
        have hL2 : ¬ (e : Int) < (L : Int) := by omega
        obtain rfl : e = L := by omega
        by_cases hb0 : 0 < b
        case neg =>
          have hb1 : ¬ (0 : Int) < (b : Int) := by omega
          go_wp2_with fail
          exact ⟨⟨q - 1, k + 1, p9, by go_num, by omega, by omega, hR, hB, RU, RR, ty.up (by omega)⟩, by simp [intOf]; omega⟩
        have hb1 : (0 : Int) < (b : Int) := by omega
        have x2 : wr.cell? ⟨bC, i * 3 + 2, none⟩ = some (.slice (some ⟨bB, 0, none⟩) nb cb) := (RC.cell _).trans q2
        have hbn : (b : Int) < (nb : Int) := by omega
        go_wp2_with fail
        refine wp_region_held_drew (S := fun w' => (w'.cell? ⟨bC, i * 3 + 2, none⟩ = some (.slice (some ⟨bB, 0, none⟩) nb cb))) (by kernel_rfl) ?_ (fun hHeld => ?_)
        · exact x2
        clear x2
        have hCB : bC ≠ bB := fun e => row_ne RC (e ▸ RB) (by decide)
        have hUB : w.heap.size + 1 ≠ bB := fun e => row_ne RU (e ▸ RB) (by decide)
        have hRB : w.heap.size ≠ bB := fun e => row_ne RR (e ▸ RB) (by decide)
        have hgB : g < bB := by omega
        have hn0 : n0 ≤ 4 + k := by
          obtain ⟨_, _, _, hfm, hn0, _, _⟩ := TyS.form tyq
          injection hfm with _ hfm _
          omega
        generalize hwd : wr.drew = wd at hHeld ⊢
        have hRd : RdAt wd g l p9 := by rw [← hwd]; exact hR.below ((Below.refl g.succ wr).drew) (Nat.lt_succ_self _)
        have hBd : ButR g w wd := by rw [← hwd]; exact ⟨hB.1.drew, hB.2⟩
        have Pd := RP.drew
        rw [hwd] at Pd
        have Cd := RC.drew
        rw [hwd] at Cd
        have Bd := RB.drew
        rw [hwd] at Bd
        have Ud := RU.drew
        rw [hwd] at Ud
        have Rd := RR.drew
        rw [hwd] at Rd
        have tid : TyI k w.heap.size wd (.slice A8 e c8) := by rw [← hwd]; exact tyi
        have tqd : TyPhis k w.heap.size wd (.slice A0 n0 c0) := by rw [← hwd]; exact tyq
        have tyd : TyCods k w.heap.size wd (.slice (some ⟨bC, 0, none⟩) n c) := by rw [← hwd]; exact ty
        have kd0 : wd.cell? ⟨gp, 0, none⟩ = some (.int .i64 (t : Int)) := Pd.cell 0
        have kd1 : wd.cell? ⟨gp, 1, none⟩ = some (.slice A8 e c8) := Pd.cell 1
        have zd : wd.cell? ⟨bB, b * 5, none⟩ = some (.slice A0 n0 c0) := (Bd.cell _).trans z0
        have xd : wd.cell? ⟨bC, i * 3 + 2, none⟩ = some (.slice (some ⟨bB, 0, none⟩) nb cb) := (Cd.cell _).trans q2
        clear hwd RP RC RB RU RR tyi tyq ty hB hR
        refine tk (i := 0) ?_
        try simp only [ap]
        refine tk (i := 1) ?_
        try simp only [ap]
        refine tk (i := 2) ?_
        try simp only [ap]
        refine tk (i := 3) ?_
        try simp only [ap]
        refine tk (i := 4) ?_
        try simp only [ap]
        refine tk (i := 5) ?_
        try simp only [ap]
        refine tk (i := 6) ?_
        try simp only [ap]
        refine tk (i := 7) ?_
        try simp only [ap]
        refine tk (i := 8) ?_
        try simp only [ap]
        refine tk (i := 9) ?_
        try simp only [ap]
        refine tk (i := 10) ?_
        try simp only [ap]
        refine tk (i := 11) ?_
        try simp only [ap]
        refine reg_call2 (i := 12) (j := 13) (by kernel_rfl) rfl rfl (fun K hK => ?_) (fun K hK => ?_)
        · go_simp
          refine hK.out _ _ ?_ (fun hHeld => ?_)
          · first | exact xd | exact xR | exact x9 | exact x10
          clear hK K
          try simp only [ap]
          refine reg_call (i := 13) (by kernel_rfl) rfl (fun K hK => ?_)
          go_simp
          refine hK.out _ _ ?_ (fun hHeld => ?_)
          · first | exact xd | exact xR | exact x9 | exact x10
          clear hK K
          try simp only [ap]
          refine reg_call (i := 14) (by kernel_rfl) rfl (fun K hK => ?_)
          go_simp
          have CR := Cd.alloc (.cells #[.int .i64 (t : Int), .slice A8 e c8] 69)
          have BR := Bd.alloc (.cells #[.int .i64 (t : Int), .slice A8 e c8] 69)
          have UR := Ud.alloc (.cells #[.int .i64 (t : Int), .slice A8 e c8] 69)
          have RR := Rd.alloc (.cells #[.int .i64 (t : Int), .slice A8 e c8] 69)
          have zR : (wd.alloc (.cells #[.int .i64 (t : Int), .slice A8 e c8] 69)).cell? ⟨bB, b * 5, none⟩ = some (.slice A0 n0 c0) := (BR.cell _).trans z0
          have xR : (wd.alloc (.cells #[.int .i64 (t : Int), .slice A8 e c8] 69)).cell? ⟨bC, i * 3 + 2, none⟩ = some (.slice (some ⟨bB, 0, none⟩) nb cb) := (CR.cell _).trans q2
          refine hK.out _ _ ?_ (fun hHeld => ?_)
          · first | exact xd | exact xR | exact x9 | exact x10
          clear hK K
          try simp only [ap]
          refine reg_call (i := 15) (by kernel_rfl) rfl (fun K hK => ?_)
          obtain ⟨A10, c10, w9, r9, tq9, kp9, hf9, rr, g9, hr9⟩ := append_phi (D := k + 1) wd w.heap.size A0 n0 c0 (tqd.up (by omega)) (t : Int) (.slice A8 e c8) (i64_nat (by omega)) (tid.up (by omega)) (by omega) (by omega) hBd.size
          rw [if_pos (show Region.wanted _ _ = true by kernel_rfl)]
          refine Lib.wp_append_run_sl _ _ _ 61 rfl _ _ rfl rfl r9 ?_
          clear r9
          have C9 := hf9 _ _ _ (by decide) CR
          have B9 := hf9 _ _ _ (by decide) BR
          have U9 := hf9 _ _ _ (by decide) UR
          have R9 := hf9 _ _ _ (by decide) RR
          have ty9 := (tyd.up (show k ≤ k + 1 by omega)).kept kp9
          have z9 : w9.cell? ⟨bB, b * 5, none⟩ = some (.slice A0 n0 c0) := (B9.cell _).trans z0
          have x9 : w9.cell? ⟨bC, i * 3 + 2, none⟩ = some (.slice (some ⟨bB, 0, none⟩) nb cb) := (C9.cell _).trans q2
          have f9 : w9.frozen? ⟨bB, b * 5, none⟩ = false := B9.frozen _
          have ch10 : Chg (k + 1) w.heap.size w9 (w9.setCell ⟨bB, b * 5, none⟩ (.slice A10 (n0 + 1) c10)) := Chg.set B9 (OK.blkPhis (by omega) tq9)
          have C10 := C9.far (p := ⟨bB, b * 5, none⟩) hCB (.slice A10 (n0 + 1) c10)
          have x10 : (w9.setCell ⟨bB, b * 5, none⟩ (.slice A10 (n0 + 1) c10)).cell? ⟨bC, i * 3 + 2, none⟩ = some (.slice (some ⟨bB, 0, none⟩) nb cb) := (C10.cell _).trans q2
          refine hK.out _ _ ?_ (fun hHeld => ?_)
          · first | exact xd | exact xR | exact x9 | exact x10
          clear hK K
          try simp only [ap]
          refine tk (i := 16) ?_
          try simp only [ap]
          refine tk (i := 17) ?_
          try simp only [ap]
          refine reg_call (i := 18) (by kernel_rfl) rfl (fun K hK => ?_)
          go_simp
          refine hK.out _ _ ?_ (fun hHeld => ?_)
          · first | exact xd | exact xR | exact x9 | exact x10
          clear hK K
          try simp only [ap]
          refine wpAnyH_done (by kernel_rfl) ?_ _
          have U10 := U9.far (p := ⟨bB, b * 5, none⟩) hUB (.slice A10 (n0 + 1) c10)
          have R10 := R9.far (p := ⟨bB, b * 5, none⟩) hRB (.slice A10 (n0 + 1) c10)
          have hB9 : ButR g w w9 := grown_but (hBd.alloc hgw (.cells #[.int .i64 (t : Int), .slice A8 e c8] 69)) g9 hr9
          have h9 : RdAt w9 g l p9 := grown_rd (hRd.below ((Below.refl _ wd).alloc (Nat.le_refl _) (.cells #[.int .i64 (t : Int), .slice A8 e c8] 69)) hRd.lt) g9 (fun b hb => Nat.lt_of_lt_of_le hgw (hr9 b hb))
          have hB10 : ButR g w (w9.setCell ⟨bB, b * 5, none⟩ (.slice A10 (n0 + 1) c10)) := hB9.setNew hgw (by show w.heap.size ≤ bB; omega) _
          have h10 : RdAt (w9.setCell ⟨bB, b * 5, none⟩ (.slice A10 (n0 + 1) c10)) g l p9 := h9.below ((Below.refl bB _).setCell (p := ⟨bB, b * 5, none⟩) (Nat.le_refl _) _) hgB
          go_wp2_with fail
          go_roundw
          case rel => exact ⟨q - 1, k + 1, p9, by go_num, by omega, by omega, h10, hB10, U10, R10, ty9.keep ch10⟩
          case measure => simp [intOf]; omega
        · go_simp
          refine hK.out _ _ ?_ (fun hHeld => ?_)
          · first | exact xd | exact xR | exact x9 | exact x10
          clear hK K
          try simp only [ap]
          refine reg_call2 (i := 12) (j := 14) (by kernel_rfl) rfl rfl (fun K hK => ?_) (fun K hK => ?_)
          · go_simp
            refine hK.out _ _ ?_ (fun hHeld => ?_)
            · first | exact xd | exact xR | exact x9 | exact x10
            clear hK K
            try simp only [ap]
            refine reg_call (i := 14) (by kernel_rfl) rfl (fun K hK => ?_)
            go_simp
            have CR := Cd.alloc (.cells #[.int .i64 (t : Int), .slice A8 e c8] 69)
            have BR := Bd.alloc (.cells #[.int .i64 (t : Int), .slice A8 e c8] 69)
            have UR := Ud.alloc (.cells #[.int .i64 (t : Int), .slice A8 e c8] 69)
            have RR := Rd.alloc (.cells #[.int .i64 (t : Int), .slice A8 e c8] 69)
            have zR : (wd.alloc (.cells #[.int .i64 (t : Int), .slice A8 e c8] 69)).cell? ⟨bB, b * 5, none⟩ = some (.slice A0 n0 c0) := (BR.cell _).trans z0
            have xR : (wd.alloc (.cells #[.int .i64 (t : Int), .slice A8 e c8] 69)).cell? ⟨bC, i * 3 + 2, none⟩ = some (.slice (some ⟨bB, 0, none⟩) nb cb) := (CR.cell _).trans q2
            refine hK.out _ _ ?_ (fun hHeld => ?_)
            · first | exact xd | exact xR | exact x9 | exact x10
            clear hK K
            try simp only [ap]
            refine reg_call (i := 15) (by kernel_rfl) rfl (fun K hK => ?_)
            obtain ⟨A10, c10, w9, r9, tq9, kp9, hf9, rr, g9, hr9⟩ := append_phi (D := k + 1) wd w.heap.size A0 n0 c0 (tqd.up (by omega)) (t : Int) (.slice A8 e c8) (i64_nat (by omega)) (tid.up (by omega)) (by omega) (by omega) hBd.size
            rw [if_pos (show Region.wanted _ _ = true by kernel_rfl)]
            refine Lib.wp_append_run_sl _ _ _ 61 rfl _ _ rfl rfl r9 ?_
            clear r9
            have C9 := hf9 _ _ _ (by decide) CR
            have B9 := hf9 _ _ _ (by decide) BR
            have U9 := hf9 _ _ _ (by decide) UR
            have R9 := hf9 _ _ _ (by decide) RR
            have ty9 := (tyd.up (show k ≤ k + 1 by omega)).kept kp9
            have z9 : w9.cell? ⟨bB, b * 5, none⟩ = some (.slice A0 n0 c0) := (B9.cell _).trans z0
            have x9 : w9.cell? ⟨bC, i * 3 + 2, none⟩ = some (.slice (some ⟨bB, 0, none⟩) nb cb) := (C9.cell _).trans q2
            have f9 : w9.frozen? ⟨bB, b * 5, none⟩ = false := B9.frozen _
            have ch10 : Chg (k + 1) w.heap.size w9 (w9.setCell ⟨bB, b * 5, none⟩ (.slice A10 (n0 + 1) c10)) := Chg.set B9 (OK.blkPhis (by omega) tq9)
            have C10 := C9.far (p := ⟨bB, b * 5, none⟩) hCB (.slice A10 (n0 + 1) c10)
            have x10 : (w9.setCell ⟨bB, b * 5, none⟩ (.slice A10 (n0 + 1) c10)).cell? ⟨bC, i * 3 + 2, none⟩ = some (.slice (some ⟨bB, 0, none⟩) nb cb) := (C10.cell _).trans q2
            refine hK.out _ _ ?_ (fun hHeld => ?_)
            · first | exact xd | exact xR | exact x9 | exact x10
            clear hK K
            try simp only [ap]
            refine tk (i := 16) ?_
            try simp only [ap]
            refine tk (i := 17) ?_
            try simp only [ap]
            refine reg_call (i := 18) (by kernel_rfl) rfl (fun K hK => ?_)
            go_simp
            refine hK.out _ _ ?_ (fun hHeld => ?_)
            · first | exact xd | exact xR | exact x9 | exact x10
            clear hK K
            try simp only [ap]
            refine wpAnyH_done (by kernel_rfl) ?_ _
            have U10 := U9.far (p := ⟨bB, b * 5, none⟩) hUB (.slice A10 (n0 + 1) c10)
            have R10 := R9.far (p := ⟨bB, b * 5, none⟩) hRB (.slice A10 (n0 + 1) c10)
            have hB9 : ButR g w w9 := grown_but (hBd.alloc hgw (.cells #[.int .i64 (t : Int), .slice A8 e c8] 69)) g9 hr9
            have h9 : RdAt w9 g l p9 := grown_rd (hRd.below ((Below.refl _ wd).alloc (Nat.le_refl _) (.cells #[.int .i64 (t : Int), .slice A8 e c8] 69)) hRd.lt) g9 (fun b hb => Nat.lt_of_lt_of_le hgw (hr9 b hb))
            have hB10 : ButR g w (w9.setCell ⟨bB, b * 5, none⟩ (.slice A10 (n0 + 1) c10)) := hB9.setNew hgw (by show w.heap.size ≤ bB; omega) _
            have h10 : RdAt (w9.setCell ⟨bB, b * 5, none⟩ (.slice A10 (n0 + 1) c10)) g l p9 := h9.below ((Below.refl bB _).setCell (p := ⟨bB, b * 5, none⟩) (Nat.le_refl _) _) hgB
            go_wp2_with fail
            go_roundw
            case rel => exact ⟨q - 1, k + 1, p9, by go_num, by omega, by omega, h10, hB10, U10, R10, ty9.keep ch10⟩
            case measure => simp [intOf]; omega
          · go_simp
            have CR := Cd.alloc (.cells #[.int .i64 (t : Int), .slice A8 e c8] 69)
            have BR := Bd.alloc (.cells #[.int .i64 (t : Int), .slice A8 e c8] 69)
            have UR := Ud.alloc (.cells #[.int .i64 (t : Int), .slice A8 e c8] 69)
            have RR := Rd.alloc (.cells #[.int .i64 (t : Int), .slice A8 e c8] 69)
            have zR : (wd.alloc (.cells #[.int .i64 (t : Int), .slice A8 e c8] 69)).cell? ⟨bB, b * 5, none⟩ = some (.slice A0 n0 c0) := (BR.cell _).trans z0
            have xR : (wd.alloc (.cells #[.int .i64 (t : Int), .slice A8 e c8] 69)).cell? ⟨bC, i * 3 + 2, none⟩ = some (.slice (some ⟨bB, 0, none⟩) nb cb) := (CR.cell _).trans q2
            refine hK.out _ _ ?_ (fun hHeld => ?_)
            · first | exact xd | exact xR | exact x9 | exact x10
            clear hK K
            try simp only [ap]
            refine reg_call (i := 12) (by kernel_rfl) rfl (fun K hK => ?_)
            go_simp
            refine hK.out _ _ ?_ (fun hHeld => ?_)
            · first | exact xd | exact xR | exact x9 | exact x10
            clear hK K
            try simp only [ap]
            refine reg_call (i := 15) (by kernel_rfl) rfl (fun K hK => ?_)
            obtain ⟨A10, c10, w9, r9, tq9, kp9, hf9, rr, g9, hr9⟩ := append_phi (D := k + 1) wd w.heap.size A0 n0 c0 (tqd.up (by omega)) (t : Int) (.slice A8 e c8) (i64_nat (by omega)) (tid.up (by omega)) (by omega) (by omega) hBd.size
            rw [if_pos (show Region.wanted _ _ = true by kernel_rfl)]
            refine Lib.wp_append_run_sl _ _ _ 61 rfl _ _ rfl rfl r9 ?_
            clear r9
            have C9 := hf9 _ _ _ (by decide) CR
            have B9 := hf9 _ _ _ (by decide) BR
            have U9 := hf9 _ _ _ (by decide) UR
            have R9 := hf9 _ _ _ (by decide) RR
            have ty9 := (tyd.up (show k ≤ k + 1 by omega)).kept kp9
            have z9 : w9.cell? ⟨bB, b * 5, none⟩ = some (.slice A0 n0 c0) := (B9.cell _).trans z0
            have x9 : w9.cell? ⟨bC, i * 3 + 2, none⟩ = some (.slice (some ⟨bB, 0, none⟩) nb cb) := (C9.cell _).trans q2
            have f9 : w9.frozen? ⟨bB, b * 5, none⟩ = false := B9.frozen _
            have ch10 : Chg (k + 1) w.heap.size w9 (w9.setCell ⟨bB, b * 5, none⟩ (.slice A10 (n0 + 1) c10)) := Chg.set B9 (OK.blkPhis (by omega) tq9)
            have C10 := C9.far (p := ⟨bB, b * 5, none⟩) hCB (.slice A10 (n0 + 1) c10)
            have x10 : (w9.setCell ⟨bB, b * 5, none⟩ (.slice A10 (n0 + 1) c10)).cell? ⟨bC, i * 3 + 2, none⟩ = some (.slice (some ⟨bB, 0, none⟩) nb cb) := (C10.cell _).trans q2
            refine hK.out _ _ ?_ (fun hHeld => ?_)
            · first | exact xd | exact xR | exact x9 | exact x10
            clear hK K
            try simp only [ap]
            refine tk (i := 16) ?_
            try simp only [ap]
            refine tk (i := 17) ?_
            try simp only [ap]
            refine reg_call (i := 18) (by kernel_rfl) rfl (fun K hK => ?_)
            go_simp
            refine hK.out _ _ ?_ (fun hHeld => ?_)
            · first | exact xd | exact xR | exact x9 | exact x10
            clear hK K
            try simp only [ap]
            refine wpAnyH_done (by kernel_rfl) ?_ _
            have U10 := U9.far (p := ⟨bB, b * 5, none⟩) hUB (.slice A10 (n0 + 1) c10)
            have R10 := R9.far (p := ⟨bB, b * 5, none⟩) hRB (.slice A10 (n0 + 1) c10)
            have hB9 : ButR g w w9 := grown_but (hBd.alloc hgw (.cells #[.int .i64 (t : Int), .slice A8 e c8] 69)) g9 hr9
            have h9 : RdAt w9 g l p9 := grown_rd (hRd.below ((Below.refl _ wd).alloc (Nat.le_refl _) (.cells #[.int .i64 (t : Int), .slice A8 e c8] 69)) hRd.lt) g9 (fun b hb => Nat.lt_of_lt_of_le hgw (hr9 b hb))
            have hB10 : ButR g w (w9.setCell ⟨bB, b * 5, none⟩ (.slice A10 (n0 + 1) c10)) := hB9.setNew hgw (by show w.heap.size ≤ bB; omega) _
            have h10 : RdAt (w9.setCell ⟨bB, b * 5, none⟩ (.slice A10 (n0 + 1) c10)) g l p9 := h9.below ((Below.refl bB _).setCell (p := ⟨bB, b * 5, none⟩) (Nat.le_refl _) _) hgB
            go_wp2_with fail
            go_roundw
            case rel => exact ⟨q - 1, k + 1, p9, by go_num, by omega, by omega, h10, hB10, U10, R10, ty9.keep ch10⟩
            case measure => simp [intOf]; omega
end Go.Proofs.Ytgcjccoglcgcoaa

namespace Go.Proofs.Ytgcjccoglcgcoaa
open Go.RowKit Go.ChangeShapes Go.WideShapes Go.Deep
variable {D : Nat}
set_option linter.unusedVariables false
set_option linter.unusedSimpArgs false
/-- the row of instructions, and one of them -/
theorem inss_row {lo : Nat} {w : World} {A : Option Addr} {n cap : Nat} (h : TyInss D lo w (.slice A n cap)) {i : Nat} (hi : i < n) : ∃ (b : Nat) (op t : Int) (A1 : Option Addr) (n1 c1 : Nat) (m : Int) (cur : Array Value), A = some ⟨b, 0, none⟩ ∧ lo ≤ b ∧ Row w b 72 cur ∧ cur[i * 4]? = some (.int .i64 op) ∧ cur[i * 4 + 1]? = some (.int .i64 t) ∧ cur[i * 4 + 2]? = some (.slice A1 n1 c1) ∧ cur[i * 4 + 3]? = some (.int .i64 m) ∧ I64 op ∧ I64 t ∧ I64 m ∧ TyI D lo w (.slice A1 n1 c1) := by
  obtain ⟨Aa, na, capa, e1, k1, k2, k3, k4⟩ := h
  injection e1 with e1 e2 e3
  subst e1
  subst e2
  subst e3
  obtain ⟨b, cur, rfl, hb, R, hs, hc⟩ := k4 (by omega)
  obtain ⟨u0, c0, p0⟩ := hc (i * 4) (by omega)
  obtain ⟨u1, c1, p1⟩ := hc (i * 4 + 1) (by omega)
  obtain ⟨u2, c2, p2⟩ := hc (i * 4 + 2) (by omega)
  obtain ⟨u3, c3, p3⟩ := hc (i * 4 + 3) (by omega)
  unfold InsP at p0 p1 p2 p3
  rw [if_neg (by omega)] at p0 p1 p3
  rw [if_pos (by omega)] at p2
  obtain ⟨op, ho, rfl⟩ := p0
  obtain ⟨t, ht, rfl⟩ := p1
  obtain ⟨A1, n1, k1, rfl, _⟩ := TyS.form p2
  obtain ⟨m, hm, rfl⟩ := p3
  exact ⟨b, op, t, A1, n1, k1, m, cur, rfl, hb, R, c0, c1, c2, c3, ho, ht, hm, p2⟩
end Go.Proofs.Ytgcjccoglcgcoaa
