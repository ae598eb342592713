/-
  The draws of units: l7Some. Condition: few numbers have been picked; the unit's memory goes by types.
-/
import Derived.Test.YtgcjccoglcgcoaaRegT
import Derived.Test.YtgcjccoglcgcoaaDrU1
import Derived.Test.YtgcjccoglcgcoaaSet4
import Derived.Lib.SlFresh
namespace Go.Proofs.Ytgcjccoglcgcoaa
open Go.RowKit Go.ChangeShapes Go.WideShapes Go.Deep
variable {D : Nat}
set_option linter.unusedVariables false
set_option linter.unusedSimpArgs false
/-- an instruction as a draw answers it -/
def InsV (D lo : Nat) (w : World) (v : Value) : Prop := ∃ (op to n : Int) (va : Value), v = .agg #[.int .i64 op, .int .i64 to, va, .int .i64 n] ∧ I64 op ∧ I64 to ∧ I64 n ∧ TyI D lo w va
theorem args14 (w : World) : Calls Try.prog 96 #[.int .i64 14] w (RetW (.int .i64 (-1)) w) := by
  go_enter Try.func96, Try.ntmps96
  go_wp2_with fail
  refine (spec_l1In 14 3 9 _).mono ?_
  rintro e w1 ⟨rfl, rfl⟩
  rw [show inB 14 3 9 = false by decide]
  go_wp2_with fail
  go_ret
  exact RetW.mk rfl rfl
theorem opsL_in : ∀ s ∈ ([1, 1, 2, 3, 4, 5, 8, 9, 10, 13, 3, 6, 7, 11, 12, 14] : List Int), inB s 1 14 = true := by
  intro s hs
  simp only [List.mem_cons, List.not_mem_nil, or_false] at hs
  rcases hs with h | h | h | h | h | h | h | h | h | h | h | h | h | h | h | h <;> subst h <;> decide
/-- the codes of a unit: how many, and the parameters of one -/
theorem cods_get {lo : Nat} {w : World} {A : Option Addr} {n cap : Nat} (h : TyCods D lo w (.slice A n cap)) {i : Nat} (hi : i < n) : ∃ (b m r : Nat) (vb : Value), A = some ⟨b, 0, none⟩ ∧ lo ≤ b ∧ m ≤ 3 ∧ r ≤ 300 ∧ w.cell? ⟨b, i * 3, none⟩ = some (.int .i64 (m : Int)) ∧ w.cell? ⟨b, i * 3 + 1, none⟩ = some (.int .i64 (r : Int)) ∧ w.cell? ⟨b, i * 3 + 2, none⟩ = some vb ∧ TyBlks D lo w vb ∧ NonE vb := by
  obtain ⟨A1, n1, cap1, e1, k1, k2, k3, k4⟩ := h
  injection e1 with e1 e2 e3
  subst e1
  subst e2
  subst e3
  obtain ⟨b, cur, rfl, hb, R, hs, hc⟩ := k4 (by omega)
  obtain ⟨u0, c0, p0⟩ := hc (i * 3) (by omega)
  obtain ⟨u1, c1, p1⟩ := hc (i * 3 + 1) (by omega)
  obtain ⟨u2, c2, p2⟩ := hc (i * 3 + 2) (by omega)
  unfold CodP at p0 p1 p2
  rw [if_pos (by omega)] at p0
  rw [if_neg (by omega), if_pos (by omega)] at p1
  rw [if_neg (by omega), if_neg (by omega)] at p2
  obtain ⟨m, hm, rfl⟩ := p0
  obtain ⟨r, hr, rfl⟩ := p1
  exact ⟨b, m, r, u2, rfl, hb, hm, hr, (R.cell _).trans c0, (R.cell _).trans c1, (R.cell _).trans c2, p2.1, p2.2⟩
theorem TyI.far {lo : Nat} {w w' : World} {v : Value} (h : TyI D lo w v) (hk : ∀ (b : Nat) (cur : Array Value), Row w b 3 cur → w'.heap[b]? = w.heap[b]?) : TyI D lo w' v := by
  obtain ⟨A, n, cap, rfl, h1, h2, h3, h4⟩ := h
  refine ⟨A, n, cap, rfl, h1, h2, h3, fun hc => ?_⟩
  obtain ⟨b, cur, rfl, hb, R, hs, hcs⟩ := h4 hc
  exact ⟨b, cur, rfl, hb, (hk b cur R).trans R, hs, hcs⟩
theorem TyI.nil_ (lo : Nat) (w : World) : TyI D lo w (.slice none 0 0) := ⟨none, 0, 0, rfl, by omega, by omega, by simp [maxLen], fun h => absurd h (by omega)⟩
theorem TyI.one (lo : Nat) (w : World) (n : Int) (hn : I64 n) (hlo : lo ≤ w.heap.size) : TyI D lo (w.alloc (.cells #[.int .i64 n] 3)) (.slice (some ⟨w.heap.size, 0, none⟩) 1 1) := by
  refine ⟨_, 1, 1, rfl, by omega, by omega, by simp [maxLen], fun _ => ⟨w.heap.size, _, rfl, hlo, Row.new w _ _, rfl, fun j hj => ?_⟩⟩
  obtain rfl : j = 0 := by omega
  exact ⟨_, rfl, n, hn, rfl⟩
theorem TyI.lower {lo lo' : Nat} {w : World} {v : Value} (h : TyI D lo w v) (hl : lo' ≤ lo) : TyI D lo' w v := by
  obtain ⟨A, n, cap, rfl, h1, h2, h3, h4⟩ := h
  refine ⟨A, n, cap, rfl, h1, h2, h3, fun hc => ?_⟩
  obtain ⟨b, cur, rfl, hb, R⟩ := h4 hc
  exact ⟨b, cur, rfl, by omega, R⟩
theorem new_one (w : World) (n : Int) : ∀ (q : Nat) (u : Value), ([Value.int .i64 n] : List Value)[q]? = some u → (w.alloc (.cells #[.int .i64 n] 3)).cell? ((⟨w.heap.size, 0, none⟩ : Addr).add q) = some u := cell_one_new _ _ _
theorem int_new (lo : Nat) (w : World) (m : Nat) (n : Int) (hn : I64 n) : ∀ (q : Nat) (u : Value), ([Value.int .i64 n] : List Value)[q]? = some u → IntP u ∧ OK D lo w 3 (m * 1 + q) u := by
  intro q u hu
  have hq : q < 1 := by simpa using (List.getElem?_eq_some_iff.1 hu).1
  obtain rfl : q = 0 := by omega
  simp at hu
  subst hu
  exact ⟨⟨n, hn, rfl⟩, Or.inl ⟨rfl, n, hn, rfl⟩⟩
theorem row_ne {w : World} {b : Nat} {t t' : TypeId} {c c' : Array Value} (h : Row w b t c) (h' : Row w b t' c') (hne : t ≠ t') : False := by
  have e2 := h.symm.trans h'
  injection e2 with e2
  injection e2 with e2 e3
  exact hne e3
theorem grown_row {lo : Nat} {w w' : World} {e : TypeId} {r : Option Nat} (g : w.grownBy w' r) (hr : ∀ b, r = some b → lo ≤ b ∧ ∃ cur, Row w b e cur) : ∀ (b : Nat) (t : TypeId) (cs : Array Value), t ≠ e → Row w b t cs → Row w' b t cs := fun b t cs hne R => (g.block b R.lt (fun h => by
  obtain ⟨_, cur, Rb⟩ := hr b h.symm
  exact row_ne R Rb hne)).trans R
theorem grown_but {gg : Nat} {w0 w w' : World} {r : Option Nat} (h : ButR gg w0 w) (g : w.grownBy w' r) (hr : ∀ b, r = some b → w0.heap.size ≤ b) (hgg : gg < w0.heap.size := by assumption) : ButR gg w0 w' :=
  ⟨⟨g.os.trans h.1.os, g.tape.trans h.1.tape, g.output.trans h.1.output, Nat.le_trans h.1.size g.size, fun b hb => (g.block b (Nat.lt_of_lt_of_le (Nat.lt_trans hb hgg) h.1.size) (fun e => by have := hr b e.symm; omega)).trans (h.1.block b hb)⟩,
    fun b h1 h2 => (g.block b (Nat.lt_of_lt_of_le h2 h.1.size) (fun e => by have := hr b e.symm; omega)).trans (h.2 b h1 h2)⟩
theorem grown_rd {gg p : Nat} {l : List UInt8} {w w' : World} {r : Option Nat} (h : RdAt w gg l p) (g : w.grownBy w' r) (hr : ∀ b, r = some b → gg < b) : RdAt w' gg l p :=
  h.below (B := gg + 1) ⟨g.os, g.tape, g.output, g.size, fun b hb => g.block b (by have := h.lt; omega) (fun e => by have := hr b e.symm; omega)⟩ (Nat.lt_succ_self _)
theorem ButR.setNew {gg : Nat} {w w' : World} (h : ButR gg w w') (hg : gg < w.heap.size) {p : Addr} (hp : w.heap.size ≤ p.block) (v : Value) : ButR gg w (w'.setCell p v) :=
  ⟨h.1.setCell (by omega) v, fun b h1 h2 => (Below.heap_setCell _ _ _ b (by omega)).trans (h.2 b h1 h2)⟩
/-- the answer is laid into the result's cells -/
theorem some_fin {g p p6 K lo rb : Nat} {l : List UInt8} {w w6 : World} {cs : Array Value} {op to n : Int} {va : Value} (hgw : g < w.heap.size) (hrb : w.heap.size ≤ rb) (h6 : RdAt w6 g l p6) (hp6 : p6 ≤ p + K) (hB : ButR g w w6) (R : Row w6 rb 72 cs) (h1 : I64 op) (h2 : I64 to) (h3 : I64 n) (hva : TyI D lo w6 va) :
    DrP g l p K (fun v w' => InsV D lo w' v) w (.returned (.agg #[.int .i64 op, .int .i64 to, va, .int .i64 n])) (set4 w6 rb (.int .i64 op) (.int .i64 to) va (.int .i64 n)) := by
  refine ⟨_, p6, rfl, h6.below (set4_below w6 rb _ _ _ _ (Nat.le_refl _)) (by omega), hp6, ⟨hB.1.trans (set4_below w6 rb _ _ _ _ (by omega)), fun b hb1 hb2 => ?_⟩, op, to, n, va, rfl, h1, h2, h3, hva.far fun b cur Rb => ?_⟩
  · rw [set4_block w6 rb _ _ _ _ b (by omega)]
    exact hB.2 b hb1 hb2
  · refine set4_block w6 rb _ _ _ _ b fun e => ?_
    subst e
    have e2 := R.symm.trans Rb
    injection e2 with e2
    injection e2 with e2 e3
    exact absurd e3 (by decide)
set_option maxRecDepth 100000 in
set_option maxHeartbeats 4000000 in
theorem some_ok (v0 : Value) (regs : Nat) (hr1 : 1 ≤ regs) (hr2 : regs ≤ 300) (l : List UInt8) (g p lo : Nat) (w : World) (hglo : g < lo) (hlo : lo ≤ w.heap.size) (h : RdAt w g l p) (hp : p ≤ 900000) (hu : TyCods D lo w v0) :
    Calls Try.prog 105 #[.pointer (some ⟨g, 0, none⟩), .agg #[v0], .int .i64 (regs : Int)] w (DrP g l p 10 (fun v w' => InsV D w.heap.size w' v) w) := by
  obtain ⟨A, nc, cap, rfl, hn1, hn2, hn3, hn4⟩ := id hu
  obtain ⟨i0, hi, hz0, hz1, hz2⟩ := info_parts Try.info_int
  clear hn4
  have hgw := h.lt
  obtain ⟨W1, hW1⟩ : ∃ W1, W1 = (w.alloc (.cells #[.slice A nc cap] 28)).alloc (.cells #[.int .i64 0, .int .i64 0, .slice none 0 0, .int .i64 0] 72) := ⟨_, rfl⟩
  have hB1 : ButR g w W1 := by rw [hW1]; exact ((ButR.refl w).alloc hgw _).alloc hgw _
  have h1 : RdAt W1 g l p := by rw [hW1]; exact h.below (((Below.refl _ _).alloc (Nat.le_refl _) _).alloc (by simp) _) hgw
  have RU : Row W1 w.heap.size 28 #[.slice A nc cap] := by rw [hW1]; exact (Row.new w _ _).alloc _
  have RR : Row W1 (w.heap.size + 1) 72 #[.int .i64 0, .int .i64 0, .slice none 0 0, .int .i64 0] := by rw [hW1]; simpa using Row.new (w.alloc (.cells #[.slice A nc cap] 28)) 72 #[.int .i64 0, .int .i64 0, .slice none 0 0, .int .i64 0]
  have L2 := lit_int W1 [1, 1, 2, 3, 4, 5, 8, 9, 10, 13, 3, 6, 7, 11, 12, 14] (i64_of (by decide)) (by decide)
  go_enter Try.func105, Try.ntmps105
  go_wp2_with fail
  have hs1 : W1.heap.size = w.heap.size + 1 + 1 := by rw [hW1]; simp
  have hg1 := h1.lt
  rw [← hW1, ← hs1]
  refine (num_ok [1, 1, 2, 3, 4, 5, 8, 9, 10, 13, 3, 6, 7, 11, 12, 14] (by decide) (by decide) (fun s => inB s 1 14 = true) opsL_in _ _ _ l g p _ (h1.below ((Below.refl _ _).alloc (Nat.le_refl _) _) hg1) (by omega) L2 hg1 (Nat.le_refl _)).mono ?_
  rintro e w2 ⟨v, p2, rfl, h2, hp2, hb2, op, hop, rfl⟩
  have hB2 : ButR g w w2 := (hB1.alloc hgw _).trans hb2
  replace RU := hb2.row (RU.alloc _) hgw
  replace RR := hb2.row (RR.alloc _) (by omega)
  have hs2 : w.heap.size + 1 + 1 < w2.heap.size := by
    have := hb2.size
    simp at this
    omega
  clear hW1 hB1 h1 L2 hb2 hs1 hg1
  go_wp2_with fail
  refine (pick_ok regs hr1 (by omega) l g p2 _ h2 (by omega)).mono ?_
  rintro e w3 ⟨v, p3, rfl, h3, hp3, hb3, k, hk, rfl⟩
  replace RU := hb3.row RU hgw
  replace RR := hb3.row RR (by omega)
  have hB3 := hB2.trans hb3
  have hs3 : w.heap.size + 1 + 1 < w3.heap.size := Nat.lt_of_lt_of_le hs2 hb3.size
  clear hB2 h2 hb3 hs2
  go_wp2_with fail
  have RX := Row.new w3 72 #[.int .i64 op, .int .i64 (k : Int), .slice none 0 0, .int .i64 0]
  replace RU := RU.alloc (.cells #[.int .i64 op, .int .i64 (k : Int), .slice none 0 0, .int .i64 0] 72)
  replace RR := RR.alloc (.cells #[.int .i64 op, .int .i64 (k : Int), .slice none 0 0, .int .i64 0] 72)
  have h4 : RdAt (w3.alloc (.cells #[.int .i64 op, .int .i64 (k : Int), .slice none 0 0, .int .i64 0] 72)) g l p3 := h3.below ((Below.refl _ _).alloc (Nat.le_refl _) _) h3.lt
  have hB4 : ButR g w (w3.alloc (.cells #[.int .i64 op, .int .i64 (k : Int), .slice none 0 0, .int .i64 0] 72)) := hB3.alloc hgw _
  clear hB3 h3
  generalize w3.alloc (.cells #[.int .i64 op, .int .i64 (k : Int), .slice none 0 0, .int .i64 0] 72) = w4 at RX RU RR h4 hB4 ⊢
  generalize w3.heap.size = gx at RX hs3 ⊢
  have hopr := inB_out hop
  have hgx : g < gx := by omega
  have hgr : g < w.heap.size + 1 := by omega
  have hu4 := hu.keep (hB4.chg hglo)
  by_cases h14 : op = 14
  · subst h14
    refine (args14 w4).mono ?_
    rintro e w5 ⟨rfl, rfl⟩
    have yu : w4.cell? ⟨w.heap.size, 0, none⟩ = some (.slice A nc cap) := RU.cell 0
    by_cases hnc : nc = 0
    · subst hnc
      go_wp2_with fail
      refine (pick_ok regs hr1 (by omega) l g p3 _ h4 (by omega)).mono ?_
      rintro e w5 ⟨v, p5, rfl, h5, hp5, hb5, k5, hk5, rfl⟩
      have hlo5 : lo ≤ w5.heap.size := Nat.le_trans hlo (Nat.le_trans hB4.size hb5.size)
      have R6 := (hb5.row RR (by omega)).alloc (.cells #[.int .i64 (k5 : Int)] 3)
      have F := Lib.hid (some_fin (D := D) (p := p) (K := 10) (rb := w.heap.size + 1) (op := 13) (to := -1) (n := 0) hgw (by omega) (h5.below ((Below.refl _ _).alloc (Nat.le_refl _) _) h5.lt) (by omega) ((hB4.trans hb5).alloc hgw _) R6 ⟨by omega, by omega⟩ ⟨by omega, by omega⟩ ⟨by omega, by omega⟩ (TyI.one w.heap.size w5 (k5 : Int) ⟨by omega, by omega⟩ (Nat.le_trans hB4.size hb5.size)))
      have s0 : (w5.alloc (.cells #[.int .i64 (k5 : Int)] 3)).cell? ⟨w.heap.size + 1, 0, none⟩ = some (.int .i64 0) := R6.cell 0
      have sf0 : (w5.alloc (.cells #[.int .i64 (k5 : Int)] 3)).frozen? ⟨w.heap.size + 1, 0, none⟩ = false := R6.frozen 0
      have s1 : (w5.alloc (.cells #[.int .i64 (k5 : Int)] 3)).cell? ⟨w.heap.size + 1, 1, none⟩ = some (.int .i64 0) := R6.cell 1
      have sf1 : (w5.alloc (.cells #[.int .i64 (k5 : Int)] 3)).frozen? ⟨w.heap.size + 1, 1, none⟩ = false := R6.frozen 1
      have s2 : (w5.alloc (.cells #[.int .i64 (k5 : Int)] 3)).cell? ⟨w.heap.size + 1, 2, none⟩ = some (.slice none 0 0) := R6.cell 2
      have sf2 : (w5.alloc (.cells #[.int .i64 (k5 : Int)] 3)).frozen? ⟨w.heap.size + 1, 2, none⟩ = false := R6.frozen 2
      have s3 : (w5.alloc (.cells #[.int .i64 (k5 : Int)] 3)).cell? ⟨w.heap.size + 1, 3, none⟩ = some (.int .i64 0) := R6.cell 3
      have sf3 : (w5.alloc (.cells #[.int .i64 (k5 : Int)] 3)).frozen? ⟨w.heap.size + 1, 3, none⟩ = false := R6.frozen 3
      go_wp2_with fail
      refine bodyPost_ret (v := .agg #[.int .i64 13, .int .i64 (-1), .slice (some ⟨w5.heap.size, 0, none⟩) 1 1, .int .i64 0]) (by simp [results, Try.results105, go_sem, s0, s1, s2, s3]) rfl F.out
    · have hnc1 : ¬ (nc : Int) = 0 := by omega
      have hnc2 : ((nc : Int) == 0) = false := by simpa using hnc1
      go_wp2_with fail
      refine (pick_ok nc (by omega) (by omega) l g p3 _ h4 (by omega)).mono ?_
      rintro e w5 ⟨v, p5, rfl, h5, hp5, hb5, k5, hk5, rfl⟩
      have hB5 := hB4.trans hb5
      replace RX := hb5.row RX hgx
      replace RR := hb5.row RR hgr
      replace RU := hb5.row RU hgw
      clear hb5 yu
      have hBl : ButR g w (w5.setCell ⟨gx, 3, none⟩ (.int .i64 (k5 : Int))) := hB5.setNew hgw (by show w.heap.size ≤ gx; omega) _
      obtain ⟨b, m, r, vb, rfl, hlb, hm3, hr3, q0, _⟩ := cods_get hu hk5
      have q1 : (w5.setCell ⟨gx, 3, none⟩ (.int .i64 (k5 : Int))).cell? ⟨b, k5 * 3, none⟩ = some (.int .i64 (m : Int)) := (World.cell?_of_block (a := ⟨b, k5 * 3, none⟩) (hBl.2 b (by omega) (World.block_lt_of_cell? w _ q0))).trans q0
      have f3 : w5.frozen? ⟨gx, 3, none⟩ = false := RX.frozen 3
      have c3 : w5.cell? ⟨gx, 3, none⟩ = some (.int .i64 0) := RX.cell 3
      have hl : RdAt (w5.setCell ⟨gx, 3, none⟩ (.int .i64 (k5 : Int))) g l p5 := h5.below ((Below.refl gx _).setCell (p := ⟨gx, 3, none⟩) (Nat.le_refl _) _) hgx
      replace RU := RU.far (p := ⟨gx, 3, none⟩) (by show w.heap.size ≠ gx; omega) (.int .i64 (k5 : Int))
      have y0 : w5.cell? ⟨w.heap.size, 0, none⟩ = some (.slice (some ⟨b, 0, none⟩) nc cap) := (World.cell?_of_block (a := ⟨w.heap.size, 0, none⟩) (Below.heap_setCell w5 ⟨gx, 3, none⟩ (.int .i64 (k5 : Int)) w.heap.size (by show w.heap.size ≠ gx; omega)).symm).trans (RU.cell 0)
      have yu : (w5.setCell ⟨gx, 3, none⟩ (.int .i64 (k5 : Int))).cell? ⟨w.heap.size, 0, none⟩ = some (.slice (some ⟨b, 0, none⟩) nc cap) := RU.cell 0
      replace RR := RR.far (p := ⟨gx, 3, none⟩) (by show w.heap.size + 1 ≠ gx; omega) (.int .i64 (k5 : Int))
      replace RX : Row (w5.setCell ⟨gx, 3, none⟩ (.int .i64 (k5 : Int))) gx 72 #[.int .i64 14, .int .i64 (k : Int), .slice none 0 0, .int .i64 (k5 : Int)] := RX.set_ 3 _
      have x3 : (w5.setCell ⟨gx, 3, none⟩ (.int .i64 (k5 : Int))).cell? ⟨gx, 3, none⟩ = some (.int .i64 (k5 : Int)) := RX.cell 3
      have hkn : (k5 : Int) < (nc : Int) := by omega
      have hki : (0 : Int) ≤ (k5 : Int) := by omega
      have hM3 : (m : Int) ≤ 3 := by omega
      go_wp2_with fail
      refine (spec_l7Makes 14 _).mono ?_
      rintro e w6 ⟨rfl, rfl⟩
      rw [show setsB 14 = true by decide]

      go_wp2_with fail
      go_loopw [10] (fun i wr => ∃ (j p' : Nat) (A9 : Option Addr) (c9 : Nat), j ≤ 3 ∧ i = .int .i64 (j : Int) ∧ p' ≤ p + 4 + j ∧ RdAt wr g l p' ∧ ButR g w wr ∧ Row wr gx 72 #[.int .i64 14, .int .i64 (k : Int), .slice A9 j c9, .int .i64 (k5 : Int)] ∧ Row wr (w.heap.size + 1) 72 #[.int .i64 0, .int .i64 0, .slice none 0 0, .int .i64 0] ∧ TyI D w.heap.size wr (.slice A9 j c9)) (fun i _ => 3 - (intOf i).toNat)
      case atStart => exact ⟨0, p5, none, 0, by omega, rfl, by omega, hl, hBl, RX, RR, TyI.nil_ _ _⟩
      case round =>
        clear hl hBl RX RR
        obtain ⟨j, p', A9, c9, hj, rfl, hp', hR, hB, RX, RR, ty⟩ := hrel
        by_cases hjm : (j : Int) < (m : Int)
        case neg =>
          have F := Lib.hid (some_fin (D := D) (p := p) (K := 10) (rb := w.heap.size + 1) (op := 14) (to := (k : Int)) (n := (k5 : Int)) hgw (by omega) hR (by omega) hB RR ⟨by omega, by omega⟩ ⟨by omega, by omega⟩ ⟨by omega, by omega⟩ ty)
          have s0 : wr.cell? ⟨w.heap.size + 1, 0, none⟩ = some (.int .i64 0) := RR.cell 0
          have s1 : wr.cell? ⟨w.heap.size + 1, 1, none⟩ = some (.int .i64 0) := RR.cell 1
          have s2 : wr.cell? ⟨w.heap.size + 1, 2, none⟩ = some (.slice none 0 0) := RR.cell 2
          have s3 : wr.cell? ⟨w.heap.size + 1, 3, none⟩ = some (.int .i64 0) := RR.cell 3
          have sf0 : wr.frozen? ⟨w.heap.size + 1, 0, none⟩ = false := RR.frozen 0
          have sf1 : wr.frozen? ⟨w.heap.size + 1, 1, none⟩ = false := RR.frozen 1
          have sf2 : wr.frozen? ⟨w.heap.size + 1, 2, none⟩ = false := RR.frozen 2
          have sf3 : wr.frozen? ⟨w.heap.size + 1, 3, none⟩ = false := RR.frozen 3
          have x0 : wr.cell? ⟨gx, 0, none⟩ = some (.int .i64 14) := RX.cell 0
          have x1 : wr.cell? ⟨gx, 1, none⟩ = some (.int .i64 (k : Int)) := RX.cell 1
          have x2 : wr.cell? ⟨gx, 2, none⟩ = some (.slice A9 j c9) := RX.cell 2
          have x3 : wr.cell? ⟨gx, 3, none⟩ = some (.int .i64 (k5 : Int)) := RX.cell 3
          go_wp2_with fail
          refine bodyPost_ret (v := .agg #[.int .i64 14, .int .i64 (k : Int), .slice A9 j c9, .int .i64 (k5 : Int)]) (by simp [results, Try.results105, go_sem, s0, s1, s2, s3]) rfl F.out
        have hjm3 : j < 3 := by omega
        go_wp2_with fail
        refine wp_region_held_drew (S := fun w' => True) (by kernel_rfl) ?_ (fun hHeld => ?_)
        · trivial
        generalize hwd : wr.drew = wd at hHeld ⊢
        have hRd : RdAt wd g l p' := by rw [← hwd]; exact hR.below ((Below.refl g.succ wr).drew) (Nat.lt_succ_self _)
        have hBd : ButR g w wd := by rw [← hwd]; exact ⟨hB.1.drew, hB.2⟩
        have Rd : Row wd (w.heap.size + 1) 72 #[.int .i64 0, .int .i64 0, .slice none 0 0, .int .i64 0] := by rw [← hwd]; exact RR.drew
        have Cd : Row wd gx 72 #[.int .i64 14, .int .i64 (k : Int), .slice A9 j c9, .int .i64 (k5 : Int)] := by rw [← hwd]; exact RX.drew
        have tyd : TyI D w.heap.size wd (.slice A9 j c9) := by rw [← hwd]; exact ty
        have kd : wd.cell? ⟨gx, 2, none⟩ = some (.slice A9 j c9) := Cd.cell 2
        have hsd : w.heap.size ≤ wd.heap.size := hBd.size
        clear hwd RX RR ty hB hR
        refine reg_take (i := 0) (v := ?v1) rfl (by kernel_rfl) (by kernel_rfl) (by kernel_rfl) (fun _ _ _ h => h) (Or.inl ⟨by kernel_rfl, ?h1⟩) trivial ?r1
        case h1 => (intro w hSw; (try dsimp only at hSw); go_simp; try with_reducible rfl)
        try simp only [ap]
        refine reg_take (i := 2) (v := ?v2) rfl (by kernel_rfl) (by kernel_rfl) (by kernel_rfl) (fun _ _ _ h => h) (Or.inl ⟨by kernel_rfl, ?h2⟩) trivial ?r2
        case h2 => (intro w hSw; (try dsimp only at hSw); go_simp; try with_reducible rfl)
        try simp only [ap]
        refine reg_take (i := 3) (v := ?v3) rfl (by kernel_rfl) (by kernel_rfl) (by kernel_rfl) (fun _ _ _ h => h) (Or.inl ⟨by kernel_rfl, ?h3⟩) trivial ?r3
        case h3 => (intro w hSw; (try dsimp only at hSw); go_simp; try with_reducible rfl)
        try simp only [ap]
        refine reg_call2 (i := 1) (j := 4) (by kernel_rfl) rfl rfl (fun K hK => ?_) (fun K hK => ?_)
        · go_simp
          refine hK.out _ _ trivial (fun hHeld => ?_)
          clear hK K
          try simp only [ap]
          refine reg_call (i := 4) (by kernel_rfl) rfl (fun K hK => ?_)
          go_simp
          refine (pick_ok regs hr1 (by omega) l g p' wd hRd (by omega)).mono ?_
          rintro e w8 ⟨v, p8, rfl, h8, hp8, hb8, k8, hk8, rfl⟩
          have C8 := hb8.row Cd hgx
          have k8c : w8.cell? ⟨gx, 2, none⟩ = some (.slice A9 j c9) := C8.cell 2
          have R8 := hb8.row Rd hgr
          have t8 := tyd.keep (hb8.chg (show g < w.heap.size from hgw))
          refine hK.out _ _ trivial (fun hHeld => ?_)
          clear hK K
          try simp only [ap]
          refine reg_call (i := 5) (by kernel_rfl) rfl (fun K hK => ?_)
          go_simp
          have CR := C8.alloc (.cells #[.int .i64 (k8 : Int)] 3)
          have kR : (w8.alloc (.cells #[.int .i64 (k8 : Int)] 3)).cell? ⟨gx, 2, none⟩ = some (.slice A9 j c9) := CR.cell 2
          have RR8 := R8.alloc (.cells #[.int .i64 (k8 : Int)] 3)
          have t8R := t8.keep (Chg.below ((Below.refl _ w8).alloc (Nat.le_refl _) (.cells #[.int .i64 (k8 : Int)] 3)))
          have n8 : ∀ (q : Nat) (u : Value), ([Value.int .i64 (k8 : Int)] : List Value)[q]? = some u → (w8.alloc (.cells #[.int .i64 (k8 : Int)] 3)).cell? ((⟨w8.heap.size, 0, none⟩ : Addr).add q) = some u := new_one w8 (k8 : Int)
          refine hK.out _ _ trivial (fun hHeld => ?_)
          clear hK K
          try simp only [ap]
          refine reg_call (i := 6) (by kernel_rfl) rfl (fun K hK => ?_)
          obtain ⟨A10, c10, w9, r9, ty9, ch9, r, g9, hr9⟩ := run_append_ty (D := D) (P := Try.prog) (w8.alloc (.cells #[.int .i64 (k8 : Int)] 3)) 63 63 3 i0 (.int .i64 0) 1 8 (30 + D) w.heap.size (fun _ u => IntP u) Try.underlying63 hi hz0 hz1 hz2 rfl (by decide) A9 j c9 t8R ⟨w8.heap.size, 0, none⟩ 1 [.int .i64 (k8 : Int)] rfl n8 (by intro u hu; simp at hu; subst hu; rfl) (int_new w.heap.size _ _ (k8 : Int) ⟨by omega, by omega⟩) (by omega) (by omega) (by omega) (Nat.le_trans hsd (Nat.le_trans hb8.size (by simp)))
          rw [if_pos (show Region.wanted _ _ = true by kernel_rfl)]
          refine Lib.wp_append_run_sl _ _ _ 63 rfl _ _ rfl rfl r9 ?_
          clear r9
          have hf9 : ∀ (b : Nat) (t : TypeId) (cs : Array Value), t ≠ 3 → Row (w8.alloc (.cells #[.int .i64 (k8 : Int)] 3)) b t cs → Row w9 b t cs := grown_row g9 hr9
          have C9 := hf9 _ _ _ (by decide) CR
          have R9 := hf9 _ _ _ (by decide) RR8
          have k9 : w9.cell? ⟨gx, 2, none⟩ = some (.slice A9 j c9) := C9.cell 2
          have f9 : w9.frozen? ⟨gx, 2, none⟩ = false := C9.frozen 2
          refine hK.out _ _ trivial (fun hHeld => ?_)
          clear hK K
          try simp only [ap]
          refine reg_take (i := 7) (v := ?v4) rfl (by kernel_rfl) (by kernel_rfl) (by kernel_rfl) (fun _ _ _ h => h) (Or.inl ⟨by kernel_rfl, ?h4⟩) trivial ?r4
          case h4 => (intro w hSw; (try dsimp only at hSw); go_simp; try with_reducible rfl)
          try simp only [ap]
          refine reg_call (i := 8) (by kernel_rfl) rfl (fun K hK => ?_)
          go_simp
          refine hK.out _ _ trivial (fun hHeld => ?_)
          clear hK K
          try simp only [ap]
          refine wpAnyH_done (by kernel_rfl) ?_ _
          have C10 := C9.set_ 2 (.slice A10 (j + 1) c10)
          have hB9 : ButR g w w9 := grown_but ((hBd.trans hb8).alloc hgw (.cells #[.int .i64 (k8 : Int)] 3)) g9 (fun b hb => (hr9 b hb).1)
          have h9 : RdAt w9 g l p8 := grown_rd (h8.below ((Below.refl _ w8).alloc (Nat.le_refl _) (.cells #[.int .i64 (k8 : Int)] 3)) h8.lt) g9 (fun b hb => Nat.lt_of_lt_of_le hgw (hr9 b hb).1)
          have t10 : TyI D w.heap.size (w9.setCell ⟨gx, 2, none⟩ (.slice A10 (j + 1) c10)) (.slice A10 (j + 1) c10) := TyI.far ty9 (fun b cur Rb => Below.heap_setCell _ _ _ b (by show b ≠ gx; intro e; subst e; exact row_ne Rb C9 (by decide)))
          have hB10 : ButR g w (w9.setCell ⟨gx, 2, none⟩ (.slice A10 (j + 1) c10)) := hB9.setNew hgw (by show w.heap.size ≤ gx; omega) _
          have h10 : RdAt (w9.setCell ⟨gx, 2, none⟩ (.slice A10 (j + 1) c10)) g l p8 := h9.below ((Below.refl gx _).setCell (p := ⟨gx, 2, none⟩) (Nat.le_refl _) _) hgx
          have R10 := R9.far (p := ⟨gx, 2, none⟩) (by show w.heap.size + 1 ≠ gx; omega) (.slice A10 (j + 1) c10)
          go_wp2_with fail
          go_roundw
          case rel => exact ⟨j + 1, p8, A10, c10, by omega, by go_num, by omega, h10, hB10, C10, R10, t10⟩
          case measure => simp [intOf]; omega
        · go_simp
          refine (pick_ok regs hr1 (by omega) l g p' wd hRd (by omega)).mono ?_
          rintro e w8 ⟨v, p8, rfl, h8, hp8, hb8, k8, hk8, rfl⟩
          have C8 := hb8.row Cd hgx
          have k8c : w8.cell? ⟨gx, 2, none⟩ = some (.slice A9 j c9) := C8.cell 2
          have R8 := hb8.row Rd hgr
          have t8 := tyd.keep (hb8.chg (show g < w.heap.size from hgw))
          refine hK.out _ _ trivial (fun hHeld => ?_)
          clear hK K
          try simp only [ap]
          refine reg_call2 (i := 1) (j := 5) (by kernel_rfl) rfl rfl (fun K hK => ?_) (fun K hK => ?_)
          · go_simp
            refine hK.out _ _ trivial (fun hHeld => ?_)
            clear hK K
            try simp only [ap]
            refine reg_call (i := 5) (by kernel_rfl) rfl (fun K hK => ?_)
            go_simp
            have CR := C8.alloc (.cells #[.int .i64 (k8 : Int)] 3)
            have kR : (w8.alloc (.cells #[.int .i64 (k8 : Int)] 3)).cell? ⟨gx, 2, none⟩ = some (.slice A9 j c9) := CR.cell 2
            have RR8 := R8.alloc (.cells #[.int .i64 (k8 : Int)] 3)
            have t8R := t8.keep (Chg.below ((Below.refl _ w8).alloc (Nat.le_refl _) (.cells #[.int .i64 (k8 : Int)] 3)))
            have n8 : ∀ (q : Nat) (u : Value), ([Value.int .i64 (k8 : Int)] : List Value)[q]? = some u → (w8.alloc (.cells #[.int .i64 (k8 : Int)] 3)).cell? ((⟨w8.heap.size, 0, none⟩ : Addr).add q) = some u := new_one w8 (k8 : Int)
            refine hK.out _ _ trivial (fun hHeld => ?_)
            clear hK K
            try simp only [ap]
            refine reg_call (i := 6) (by kernel_rfl) rfl (fun K hK => ?_)
            obtain ⟨A10, c10, w9, r9, ty9, ch9, r, g9, hr9⟩ := run_append_ty (D := D) (P := Try.prog) (w8.alloc (.cells #[.int .i64 (k8 : Int)] 3)) 63 63 3 i0 (.int .i64 0) 1 8 (30 + D) w.heap.size (fun _ u => IntP u) Try.underlying63 hi hz0 hz1 hz2 rfl (by decide) A9 j c9 t8R ⟨w8.heap.size, 0, none⟩ 1 [.int .i64 (k8 : Int)] rfl n8 (by intro u hu; simp at hu; subst hu; rfl) (int_new w.heap.size _ _ (k8 : Int) ⟨by omega, by omega⟩) (by omega) (by omega) (by omega) (Nat.le_trans hsd (Nat.le_trans hb8.size (by simp)))
            rw [if_pos (show Region.wanted _ _ = true by kernel_rfl)]
            refine Lib.wp_append_run_sl _ _ _ 63 rfl _ _ rfl rfl r9 ?_
            clear r9
            have hf9 : ∀ (b : Nat) (t : TypeId) (cs : Array Value), t ≠ 3 → Row (w8.alloc (.cells #[.int .i64 (k8 : Int)] 3)) b t cs → Row w9 b t cs := grown_row g9 hr9
            have C9 := hf9 _ _ _ (by decide) CR
            have R9 := hf9 _ _ _ (by decide) RR8
            have k9 : w9.cell? ⟨gx, 2, none⟩ = some (.slice A9 j c9) := C9.cell 2
            have f9 : w9.frozen? ⟨gx, 2, none⟩ = false := C9.frozen 2
            refine hK.out _ _ trivial (fun hHeld => ?_)
            clear hK K
            try simp only [ap]
            refine reg_take (i := 7) (v := ?v5) rfl (by kernel_rfl) (by kernel_rfl) (by kernel_rfl) (fun _ _ _ h => h) (Or.inl ⟨by kernel_rfl, ?h5⟩) trivial ?r5
            case h5 => (intro w hSw; (try dsimp only at hSw); go_simp; try with_reducible rfl)
            try simp only [ap]
            refine reg_call (i := 8) (by kernel_rfl) rfl (fun K hK => ?_)
            go_simp
            refine hK.out _ _ trivial (fun hHeld => ?_)
            clear hK K
            try simp only [ap]
            refine wpAnyH_done (by kernel_rfl) ?_ _
            have C10 := C9.set_ 2 (.slice A10 (j + 1) c10)
            have hB9 : ButR g w w9 := grown_but ((hBd.trans hb8).alloc hgw (.cells #[.int .i64 (k8 : Int)] 3)) g9 (fun b hb => (hr9 b hb).1)
            have h9 : RdAt w9 g l p8 := grown_rd (h8.below ((Below.refl _ w8).alloc (Nat.le_refl _) (.cells #[.int .i64 (k8 : Int)] 3)) h8.lt) g9 (fun b hb => Nat.lt_of_lt_of_le hgw (hr9 b hb).1)
            have t10 : TyI D w.heap.size (w9.setCell ⟨gx, 2, none⟩ (.slice A10 (j + 1) c10)) (.slice A10 (j + 1) c10) := TyI.far ty9 (fun b cur Rb => Below.heap_setCell _ _ _ b (by show b ≠ gx; intro e; subst e; exact row_ne Rb C9 (by decide)))
            have hB10 : ButR g w (w9.setCell ⟨gx, 2, none⟩ (.slice A10 (j + 1) c10)) := hB9.setNew hgw (by show w.heap.size ≤ gx; omega) _
            have h10 : RdAt (w9.setCell ⟨gx, 2, none⟩ (.slice A10 (j + 1) c10)) g l p8 := h9.below ((Below.refl gx _).setCell (p := ⟨gx, 2, none⟩) (Nat.le_refl _) _) hgx
            have R10 := R9.far (p := ⟨gx, 2, none⟩) (by show w.heap.size + 1 ≠ gx; omega) (.slice A10 (j + 1) c10)
            go_wp2_with fail
            go_roundw
            case rel => exact ⟨j + 1, p8, A10, c10, by omega, by go_num, by omega, h10, hB10, C10, R10, t10⟩
            case measure => simp [intOf]; omega
          · go_simp
            have CR := C8.alloc (.cells #[.int .i64 (k8 : Int)] 3)
            have kR : (w8.alloc (.cells #[.int .i64 (k8 : Int)] 3)).cell? ⟨gx, 2, none⟩ = some (.slice A9 j c9) := CR.cell 2
            have RR8 := R8.alloc (.cells #[.int .i64 (k8 : Int)] 3)
            have t8R := t8.keep (Chg.below ((Below.refl _ w8).alloc (Nat.le_refl _) (.cells #[.int .i64 (k8 : Int)] 3)))
            have n8 : ∀ (q : Nat) (u : Value), ([Value.int .i64 (k8 : Int)] : List Value)[q]? = some u → (w8.alloc (.cells #[.int .i64 (k8 : Int)] 3)).cell? ((⟨w8.heap.size, 0, none⟩ : Addr).add q) = some u := new_one w8 (k8 : Int)
            refine hK.out _ _ trivial (fun hHeld => ?_)
            clear hK K
            try simp only [ap]
            refine reg_call (i := 1) (by kernel_rfl) rfl (fun K hK => ?_)
            go_simp
            refine hK.out _ _ trivial (fun hHeld => ?_)
            clear hK K
            try simp only [ap]
            refine reg_call (i := 6) (by kernel_rfl) rfl (fun K hK => ?_)
            obtain ⟨A10, c10, w9, r9, ty9, ch9, r, g9, hr9⟩ := run_append_ty (D := D) (P := Try.prog) (w8.alloc (.cells #[.int .i64 (k8 : Int)] 3)) 63 63 3 i0 (.int .i64 0) 1 8 (30 + D) w.heap.size (fun _ u => IntP u) Try.underlying63 hi hz0 hz1 hz2 rfl (by decide) A9 j c9 t8R ⟨w8.heap.size, 0, none⟩ 1 [.int .i64 (k8 : Int)] rfl n8 (by intro u hu; simp at hu; subst hu; rfl) (int_new w.heap.size _ _ (k8 : Int) ⟨by omega, by omega⟩) (by omega) (by omega) (by omega) (Nat.le_trans hsd (Nat.le_trans hb8.size (by simp)))
            rw [if_pos (show Region.wanted _ _ = true by kernel_rfl)]
            refine Lib.wp_append_run_sl _ _ _ 63 rfl _ _ rfl rfl r9 ?_
            clear r9
            have hf9 : ∀ (b : Nat) (t : TypeId) (cs : Array Value), t ≠ 3 → Row (w8.alloc (.cells #[.int .i64 (k8 : Int)] 3)) b t cs → Row w9 b t cs := grown_row g9 hr9
            have C9 := hf9 _ _ _ (by decide) CR
            have R9 := hf9 _ _ _ (by decide) RR8
            have k9 : w9.cell? ⟨gx, 2, none⟩ = some (.slice A9 j c9) := C9.cell 2
            have f9 : w9.frozen? ⟨gx, 2, none⟩ = false := C9.frozen 2
            refine hK.out _ _ trivial (fun hHeld => ?_)
            clear hK K
            try simp only [ap]
            refine reg_take (i := 7) (v := ?v6) rfl (by kernel_rfl) (by kernel_rfl) (by kernel_rfl) (fun _ _ _ h => h) (Or.inl ⟨by kernel_rfl, ?h6⟩) trivial ?r6
            case h6 => (intro w hSw; (try dsimp only at hSw); go_simp; try with_reducible rfl)
            try simp only [ap]
            refine reg_call (i := 8) (by kernel_rfl) rfl (fun K hK => ?_)
            go_simp
            refine hK.out _ _ trivial (fun hHeld => ?_)
            clear hK K
            try simp only [ap]
            refine wpAnyH_done (by kernel_rfl) ?_ _
            have C10 := C9.set_ 2 (.slice A10 (j + 1) c10)
            have hB9 : ButR g w w9 := grown_but ((hBd.trans hb8).alloc hgw (.cells #[.int .i64 (k8 : Int)] 3)) g9 (fun b hb => (hr9 b hb).1)
            have h9 : RdAt w9 g l p8 := grown_rd (h8.below ((Below.refl _ w8).alloc (Nat.le_refl _) (.cells #[.int .i64 (k8 : Int)] 3)) h8.lt) g9 (fun b hb => Nat.lt_of_lt_of_le hgw (hr9 b hb).1)
            have t10 : TyI D w.heap.size (w9.setCell ⟨gx, 2, none⟩ (.slice A10 (j + 1) c10)) (.slice A10 (j + 1) c10) := TyI.far ty9 (fun b cur Rb => Below.heap_setCell _ _ _ b (by show b ≠ gx; intro e; subst e; exact row_ne Rb C9 (by decide)))
            have hB10 : ButR g w (w9.setCell ⟨gx, 2, none⟩ (.slice A10 (j + 1) c10)) := hB9.setNew hgw (by show w.heap.size ≤ gx; omega) _
            have h10 : RdAt (w9.setCell ⟨gx, 2, none⟩ (.slice A10 (j + 1) c10)) g l p8 := h9.below ((Below.refl gx _).setCell (p := ⟨gx, 2, none⟩) (Nat.le_refl _) _) hgx
            have R10 := R9.far (p := ⟨gx, 2, none⟩) (by show w.heap.size + 1 ≠ gx; omega) (.slice A10 (j + 1) c10)
            go_wp2_with fail
            go_roundw
            case rel => exact ⟨j + 1, p8, A10, c10, by omega, by go_num, by omega, h10, hB10, C10, R10, t10⟩
            case measure => simp [intOf]; omega

  · refine (spec_l7Args op hop h14 w4).mono ?_
    rintro e w5 ⟨rfl, rfl⟩
    have e14 : (op == 14) = false := by simpa using h14
    have hM3 : argsN op ≤ 3 := by unfold argsN; split <;> (try split) <;> omega
    have hop64 : I64 op := ⟨by omega, by omega⟩
    obtain ⟨M, hM⟩ : ∃ M : Int, argsN op = M := ⟨_, rfl⟩
    rw [hM] at hM3 ⊢
    by_cases h1 : op = 1
    · subst h1
      have L4 := lit_int w4 [0, 1, 2, 3, 15, 16, 255] (i64_of (by decide)) (by decide)
      go_wp2_with fail
      refine (num_ok [0, 1, 2, 3, 15, 16, 255] (by decide) (by decide) (fun s => 0 ≤ s ∧ s ≤ 255) (by intro s hs; simp at hs; omega) _ _ _ l g p3 _ (h4.below ((Below.refl _ _).alloc (Nat.le_refl _) _) h4.lt) (by omega) L4 h4.lt (Nat.le_refl _)).mono ?_
      rintro e w5 ⟨v, p5, rfl, h5, hp5, hb5, n1, hn1, rfl⟩
      have hB5 := (hB4.alloc hgw (.cells #[.int .i64 0, .int .i64 1, .int .i64 2, .int .i64 3, .int .i64 15, .int .i64 16, .int .i64 255] 3)).trans hb5
      replace RX := hb5.row (RX.alloc _) hgx
      replace RR := hb5.row (RR.alloc _) hgr
      clear L4 hb5
      have f3 : w5.frozen? ⟨gx, 3, none⟩ = false := RX.frozen 3
      have c3 : w5.cell? ⟨gx, 3, none⟩ = some (.int .i64 0) := RX.cell 3
      go_wp2_with fail
      refine (spec_l7Makes 1 _).mono ?_
      rintro e w6 ⟨rfl, rfl⟩
      rw [show setsB 1 = true by decide]
      have hl : RdAt (w5.setCell ⟨gx, 3, none⟩ (.int .i64 n1)) g l p5 := h5.below ((Below.refl gx _).setCell (p := ⟨gx, 3, none⟩) (Nat.le_refl _) _) hgx
      have hBl : ButR g w (w5.setCell ⟨gx, 3, none⟩ (.int .i64 n1)) := hB5.setNew hgw (by show w.heap.size ≤ gx; omega) _
      replace RR := RR.far (p := ⟨gx, 3, none⟩) (by show w.heap.size + 1 ≠ gx; omega) (.int .i64 n1)
      replace RX : Row (w5.setCell ⟨gx, 3, none⟩ (.int .i64 n1)) gx 72 #[.int .i64 1, .int .i64 (k : Int), .slice none 0 0, .int .i64 n1] := RX.set_ 3 _

      go_wp2_with fail
      go_loopw [10] (fun i wr => ∃ (j p' : Nat) (A9 : Option Addr) (c9 : Nat), j ≤ 3 ∧ i = .int .i64 (j : Int) ∧ p' ≤ p + 4 + j ∧ RdAt wr g l p' ∧ ButR g w wr ∧ Row wr gx 72 #[.int .i64 1, .int .i64 (k : Int), .slice A9 j c9, .int .i64 n1] ∧ Row wr (w.heap.size + 1) 72 #[.int .i64 0, .int .i64 0, .slice none 0 0, .int .i64 0] ∧ TyI D w.heap.size wr (.slice A9 j c9)) (fun i _ => 3 - (intOf i).toNat)
      case atStart => exact ⟨0, p5, none, 0, by omega, rfl, by omega, hl, hBl, RX, RR, TyI.nil_ _ _⟩
      case round =>
        clear hl hBl RX RR
        obtain ⟨j, p', A9, c9, hj, rfl, hp', hR, hB, RX, RR, ty⟩ := hrel
        by_cases hjm : (j : Int) < M
        case neg =>
          have F := Lib.hid (some_fin (D := D) (p := p) (K := 10) (rb := w.heap.size + 1) (op := 1) (to := (k : Int)) (n := n1) hgw (by omega) hR (by omega) hB RR ⟨by omega, by omega⟩ ⟨by omega, by omega⟩ ⟨by omega, by omega⟩ ty)
          have s0 : wr.cell? ⟨w.heap.size + 1, 0, none⟩ = some (.int .i64 0) := RR.cell 0
          have s1 : wr.cell? ⟨w.heap.size + 1, 1, none⟩ = some (.int .i64 0) := RR.cell 1
          have s2 : wr.cell? ⟨w.heap.size + 1, 2, none⟩ = some (.slice none 0 0) := RR.cell 2
          have s3 : wr.cell? ⟨w.heap.size + 1, 3, none⟩ = some (.int .i64 0) := RR.cell 3
          have sf0 : wr.frozen? ⟨w.heap.size + 1, 0, none⟩ = false := RR.frozen 0
          have sf1 : wr.frozen? ⟨w.heap.size + 1, 1, none⟩ = false := RR.frozen 1
          have sf2 : wr.frozen? ⟨w.heap.size + 1, 2, none⟩ = false := RR.frozen 2
          have sf3 : wr.frozen? ⟨w.heap.size + 1, 3, none⟩ = false := RR.frozen 3
          have x0 : wr.cell? ⟨gx, 0, none⟩ = some (.int .i64 1) := RX.cell 0
          have x1 : wr.cell? ⟨gx, 1, none⟩ = some (.int .i64 (k : Int)) := RX.cell 1
          have x2 : wr.cell? ⟨gx, 2, none⟩ = some (.slice A9 j c9) := RX.cell 2
          have x3 : wr.cell? ⟨gx, 3, none⟩ = some (.int .i64 n1) := RX.cell 3
          go_wp2_with fail
          refine bodyPost_ret (v := .agg #[.int .i64 1, .int .i64 (k : Int), .slice A9 j c9, .int .i64 n1]) (by simp [results, Try.results105, go_sem, s0, s1, s2, s3]) rfl F.out
        have hjm3 : j < 3 := by omega
        go_wp2_with fail
        refine wp_region_held_drew (S := fun w' => True) (by kernel_rfl) ?_ (fun hHeld => ?_)
        · trivial
        generalize hwd : wr.drew = wd at hHeld ⊢
        have hRd : RdAt wd g l p' := by rw [← hwd]; exact hR.below ((Below.refl g.succ wr).drew) (Nat.lt_succ_self _)
        have hBd : ButR g w wd := by rw [← hwd]; exact ⟨hB.1.drew, hB.2⟩
        have Rd : Row wd (w.heap.size + 1) 72 #[.int .i64 0, .int .i64 0, .slice none 0 0, .int .i64 0] := by rw [← hwd]; exact RR.drew
        have Cd : Row wd gx 72 #[.int .i64 1, .int .i64 (k : Int), .slice A9 j c9, .int .i64 n1] := by rw [← hwd]; exact RX.drew
        have tyd : TyI D w.heap.size wd (.slice A9 j c9) := by rw [← hwd]; exact ty
        have kd : wd.cell? ⟨gx, 2, none⟩ = some (.slice A9 j c9) := Cd.cell 2
        have hsd : w.heap.size ≤ wd.heap.size := hBd.size
        clear hwd RX RR ty hB hR
        refine reg_take (i := 0) (v := ?v7) rfl (by kernel_rfl) (by kernel_rfl) (by kernel_rfl) (fun _ _ _ h => h) (Or.inl ⟨by kernel_rfl, ?h7⟩) trivial ?r7
        case h7 => (intro w hSw; (try dsimp only at hSw); go_simp; try with_reducible rfl)
        try simp only [ap]
        refine reg_take (i := 2) (v := ?v8) rfl (by kernel_rfl) (by kernel_rfl) (by kernel_rfl) (fun _ _ _ h => h) (Or.inl ⟨by kernel_rfl, ?h8⟩) trivial ?r8
        case h8 => (intro w hSw; (try dsimp only at hSw); go_simp; try with_reducible rfl)
        try simp only [ap]
        refine reg_take (i := 3) (v := ?v9) rfl (by kernel_rfl) (by kernel_rfl) (by kernel_rfl) (fun _ _ _ h => h) (Or.inl ⟨by kernel_rfl, ?h9⟩) trivial ?r9
        case h9 => (intro w hSw; (try dsimp only at hSw); go_simp; try with_reducible rfl)
        try simp only [ap]
        refine reg_call2 (i := 1) (j := 4) (by kernel_rfl) rfl rfl (fun K hK => ?_) (fun K hK => ?_)
        · go_simp
          refine hK.out _ _ trivial (fun hHeld => ?_)
          clear hK K
          try simp only [ap]
          refine reg_call (i := 4) (by kernel_rfl) rfl (fun K hK => ?_)
          go_simp
          refine (pick_ok regs hr1 (by omega) l g p' wd hRd (by omega)).mono ?_
          rintro e w8 ⟨v, p8, rfl, h8, hp8, hb8, k8, hk8, rfl⟩
          have C8 := hb8.row Cd hgx
          have k8c : w8.cell? ⟨gx, 2, none⟩ = some (.slice A9 j c9) := C8.cell 2
          have R8 := hb8.row Rd hgr
          have t8 := tyd.keep (hb8.chg (show g < w.heap.size from hgw))
          refine hK.out _ _ trivial (fun hHeld => ?_)
          clear hK K
          try simp only [ap]
          refine reg_call (i := 5) (by kernel_rfl) rfl (fun K hK => ?_)
          go_simp
          have CR := C8.alloc (.cells #[.int .i64 (k8 : Int)] 3)
          have kR : (w8.alloc (.cells #[.int .i64 (k8 : Int)] 3)).cell? ⟨gx, 2, none⟩ = some (.slice A9 j c9) := CR.cell 2
          have RR8 := R8.alloc (.cells #[.int .i64 (k8 : Int)] 3)
          have t8R := t8.keep (Chg.below ((Below.refl _ w8).alloc (Nat.le_refl _) (.cells #[.int .i64 (k8 : Int)] 3)))
          have n8 : ∀ (q : Nat) (u : Value), ([Value.int .i64 (k8 : Int)] : List Value)[q]? = some u → (w8.alloc (.cells #[.int .i64 (k8 : Int)] 3)).cell? ((⟨w8.heap.size, 0, none⟩ : Addr).add q) = some u := new_one w8 (k8 : Int)
          refine hK.out _ _ trivial (fun hHeld => ?_)
          clear hK K
          try simp only [ap]
          refine reg_call (i := 6) (by kernel_rfl) rfl (fun K hK => ?_)
          obtain ⟨A10, c10, w9, r9, ty9, ch9, r, g9, hr9⟩ := run_append_ty (D := D) (P := Try.prog) (w8.alloc (.cells #[.int .i64 (k8 : Int)] 3)) 63 63 3 i0 (.int .i64 0) 1 8 (30 + D) w.heap.size (fun _ u => IntP u) Try.underlying63 hi hz0 hz1 hz2 rfl (by decide) A9 j c9 t8R ⟨w8.heap.size, 0, none⟩ 1 [.int .i64 (k8 : Int)] rfl n8 (by intro u hu; simp at hu; subst hu; rfl) (int_new w.heap.size _ _ (k8 : Int) ⟨by omega, by omega⟩) (by omega) (by omega) (by omega) (Nat.le_trans hsd (Nat.le_trans hb8.size (by simp)))
          rw [if_pos (show Region.wanted _ _ = true by kernel_rfl)]
          refine Lib.wp_append_run_sl _ _ _ 63 rfl _ _ rfl rfl r9 ?_
          clear r9
          have hf9 : ∀ (b : Nat) (t : TypeId) (cs : Array Value), t ≠ 3 → Row (w8.alloc (.cells #[.int .i64 (k8 : Int)] 3)) b t cs → Row w9 b t cs := grown_row g9 hr9
          have C9 := hf9 _ _ _ (by decide) CR
          have R9 := hf9 _ _ _ (by decide) RR8
          have k9 : w9.cell? ⟨gx, 2, none⟩ = some (.slice A9 j c9) := C9.cell 2
          have f9 : w9.frozen? ⟨gx, 2, none⟩ = false := C9.frozen 2
          refine hK.out _ _ trivial (fun hHeld => ?_)
          clear hK K
          try simp only [ap]
          refine reg_take (i := 7) (v := ?v10) rfl (by kernel_rfl) (by kernel_rfl) (by kernel_rfl) (fun _ _ _ h => h) (Or.inl ⟨by kernel_rfl, ?h10⟩) trivial ?r10
          case h10 => (intro w hSw; (try dsimp only at hSw); go_simp; try with_reducible rfl)
          try simp only [ap]
          refine reg_call (i := 8) (by kernel_rfl) rfl (fun K hK => ?_)
          go_simp
          refine hK.out _ _ trivial (fun hHeld => ?_)
          clear hK K
          try simp only [ap]
          refine wpAnyH_done (by kernel_rfl) ?_ _
          have C10 := C9.set_ 2 (.slice A10 (j + 1) c10)
          have hB9 : ButR g w w9 := grown_but ((hBd.trans hb8).alloc hgw (.cells #[.int .i64 (k8 : Int)] 3)) g9 (fun b hb => (hr9 b hb).1)
          have h9 : RdAt w9 g l p8 := grown_rd (h8.below ((Below.refl _ w8).alloc (Nat.le_refl _) (.cells #[.int .i64 (k8 : Int)] 3)) h8.lt) g9 (fun b hb => Nat.lt_of_lt_of_le hgw (hr9 b hb).1)
          have t10 : TyI D w.heap.size (w9.setCell ⟨gx, 2, none⟩ (.slice A10 (j + 1) c10)) (.slice A10 (j + 1) c10) := TyI.far ty9 (fun b cur Rb => Below.heap_setCell _ _ _ b (by show b ≠ gx; intro e; subst e; exact row_ne Rb C9 (by decide)))
          have hB10 : ButR g w (w9.setCell ⟨gx, 2, none⟩ (.slice A10 (j + 1) c10)) := hB9.setNew hgw (by show w.heap.size ≤ gx; omega) _
          have h10 : RdAt (w9.setCell ⟨gx, 2, none⟩ (.slice A10 (j + 1) c10)) g l p8 := h9.below ((Below.refl gx _).setCell (p := ⟨gx, 2, none⟩) (Nat.le_refl _) _) hgx
          have R10 := R9.far (p := ⟨gx, 2, none⟩) (by show w.heap.size + 1 ≠ gx; omega) (.slice A10 (j + 1) c10)
          go_wp2_with fail
          go_roundw
          case rel => exact ⟨j + 1, p8, A10, c10, by omega, by go_num, by omega, h10, hB10, C10, R10, t10⟩
          case measure => simp [intOf]; omega
        · go_simp
          refine (pick_ok regs hr1 (by omega) l g p' wd hRd (by omega)).mono ?_
          rintro e w8 ⟨v, p8, rfl, h8, hp8, hb8, k8, hk8, rfl⟩
          have C8 := hb8.row Cd hgx
          have k8c : w8.cell? ⟨gx, 2, none⟩ = some (.slice A9 j c9) := C8.cell 2
          have R8 := hb8.row Rd hgr
          have t8 := tyd.keep (hb8.chg (show g < w.heap.size from hgw))
          refine hK.out _ _ trivial (fun hHeld => ?_)
          clear hK K
          try simp only [ap]
          refine reg_call2 (i := 1) (j := 5) (by kernel_rfl) rfl rfl (fun K hK => ?_) (fun K hK => ?_)
          · go_simp
            refine hK.out _ _ trivial (fun hHeld => ?_)
            clear hK K
            try simp only [ap]
            refine reg_call (i := 5) (by kernel_rfl) rfl (fun K hK => ?_)
            go_simp
            have CR := C8.alloc (.cells #[.int .i64 (k8 : Int)] 3)
            have kR : (w8.alloc (.cells #[.int .i64 (k8 : Int)] 3)).cell? ⟨gx, 2, none⟩ = some (.slice A9 j c9) := CR.cell 2
            have RR8 := R8.alloc (.cells #[.int .i64 (k8 : Int)] 3)
            have t8R := t8.keep (Chg.below ((Below.refl _ w8).alloc (Nat.le_refl _) (.cells #[.int .i64 (k8 : Int)] 3)))
            have n8 : ∀ (q : Nat) (u : Value), ([Value.int .i64 (k8 : Int)] : List Value)[q]? = some u → (w8.alloc (.cells #[.int .i64 (k8 : Int)] 3)).cell? ((⟨w8.heap.size, 0, none⟩ : Addr).add q) = some u := new_one w8 (k8 : Int)
            refine hK.out _ _ trivial (fun hHeld => ?_)
            clear hK K
            try simp only [ap]
            refine reg_call (i := 6) (by kernel_rfl) rfl (fun K hK => ?_)
            obtain ⟨A10, c10, w9, r9, ty9, ch9, r, g9, hr9⟩ := run_append_ty (D := D) (P := Try.prog) (w8.alloc (.cells #[.int .i64 (k8 : Int)] 3)) 63 63 3 i0 (.int .i64 0) 1 8 (30 + D) w.heap.size (fun _ u => IntP u) Try.underlying63 hi hz0 hz1 hz2 rfl (by decide) A9 j c9 t8R ⟨w8.heap.size, 0, none⟩ 1 [.int .i64 (k8 : Int)] rfl n8 (by intro u hu; simp at hu; subst hu; rfl) (int_new w.heap.size _ _ (k8 : Int) ⟨by omega, by omega⟩) (by omega) (by omega) (by omega) (Nat.le_trans hsd (Nat.le_trans hb8.size (by simp)))
            rw [if_pos (show Region.wanted _ _ = true by kernel_rfl)]
            refine Lib.wp_append_run_sl _ _ _ 63 rfl _ _ rfl rfl r9 ?_
            clear r9
            have hf9 : ∀ (b : Nat) (t : TypeId) (cs : Array Value), t ≠ 3 → Row (w8.alloc (.cells #[.int .i64 (k8 : Int)] 3)) b t cs → Row w9 b t cs := grown_row g9 hr9
            have C9 := hf9 _ _ _ (by decide) CR
            have R9 := hf9 _ _ _ (by decide) RR8
            have k9 : w9.cell? ⟨gx, 2, none⟩ = some (.slice A9 j c9) := C9.cell 2
            have f9 : w9.frozen? ⟨gx, 2, none⟩ = false := C9.frozen 2
            refine hK.out _ _ trivial (fun hHeld => ?_)
            clear hK K
            try simp only [ap]
            refine reg_take (i := 7) (v := ?v11) rfl (by kernel_rfl) (by kernel_rfl) (by kernel_rfl) (fun _ _ _ h => h) (Or.inl ⟨by kernel_rfl, ?h11⟩) trivial ?r11
            case h11 => (intro w hSw; (try dsimp only at hSw); go_simp; try with_reducible rfl)
            try simp only [ap]
            refine reg_call (i := 8) (by kernel_rfl) rfl (fun K hK => ?_)
            go_simp
            refine hK.out _ _ trivial (fun hHeld => ?_)
            clear hK K
            try simp only [ap]
            refine wpAnyH_done (by kernel_rfl) ?_ _
            have C10 := C9.set_ 2 (.slice A10 (j + 1) c10)
            have hB9 : ButR g w w9 := grown_but ((hBd.trans hb8).alloc hgw (.cells #[.int .i64 (k8 : Int)] 3)) g9 (fun b hb => (hr9 b hb).1)
            have h9 : RdAt w9 g l p8 := grown_rd (h8.below ((Below.refl _ w8).alloc (Nat.le_refl _) (.cells #[.int .i64 (k8 : Int)] 3)) h8.lt) g9 (fun b hb => Nat.lt_of_lt_of_le hgw (hr9 b hb).1)
            have t10 : TyI D w.heap.size (w9.setCell ⟨gx, 2, none⟩ (.slice A10 (j + 1) c10)) (.slice A10 (j + 1) c10) := TyI.far ty9 (fun b cur Rb => Below.heap_setCell _ _ _ b (by show b ≠ gx; intro e; subst e; exact row_ne Rb C9 (by decide)))
            have hB10 : ButR g w (w9.setCell ⟨gx, 2, none⟩ (.slice A10 (j + 1) c10)) := hB9.setNew hgw (by show w.heap.size ≤ gx; omega) _
            have h10 : RdAt (w9.setCell ⟨gx, 2, none⟩ (.slice A10 (j + 1) c10)) g l p8 := h9.below ((Below.refl gx _).setCell (p := ⟨gx, 2, none⟩) (Nat.le_refl _) _) hgx
            have R10 := R9.far (p := ⟨gx, 2, none⟩) (by show w.heap.size + 1 ≠ gx; omega) (.slice A10 (j + 1) c10)
            go_wp2_with fail
            go_roundw
            case rel => exact ⟨j + 1, p8, A10, c10, by omega, by go_num, by omega, h10, hB10, C10, R10, t10⟩
            case measure => simp [intOf]; omega
          · go_simp
            have CR := C8.alloc (.cells #[.int .i64 (k8 : Int)] 3)
            have kR : (w8.alloc (.cells #[.int .i64 (k8 : Int)] 3)).cell? ⟨gx, 2, none⟩ = some (.slice A9 j c9) := CR.cell 2
            have RR8 := R8.alloc (.cells #[.int .i64 (k8 : Int)] 3)
            have t8R := t8.keep (Chg.below ((Below.refl _ w8).alloc (Nat.le_refl _) (.cells #[.int .i64 (k8 : Int)] 3)))
            have n8 : ∀ (q : Nat) (u : Value), ([Value.int .i64 (k8 : Int)] : List Value)[q]? = some u → (w8.alloc (.cells #[.int .i64 (k8 : Int)] 3)).cell? ((⟨w8.heap.size, 0, none⟩ : Addr).add q) = some u := new_one w8 (k8 : Int)
            refine hK.out _ _ trivial (fun hHeld => ?_)
            clear hK K
            try simp only [ap]
            refine reg_call (i := 1) (by kernel_rfl) rfl (fun K hK => ?_)
            go_simp
            refine hK.out _ _ trivial (fun hHeld => ?_)
            clear hK K
            try simp only [ap]
            refine reg_call (i := 6) (by kernel_rfl) rfl (fun K hK => ?_)
            obtain ⟨A10, c10, w9, r9, ty9, ch9, r, g9, hr9⟩ := run_append_ty (D := D) (P := Try.prog) (w8.alloc (.cells #[.int .i64 (k8 : Int)] 3)) 63 63 3 i0 (.int .i64 0) 1 8 (30 + D) w.heap.size (fun _ u => IntP u) Try.underlying63 hi hz0 hz1 hz2 rfl (by decide) A9 j c9 t8R ⟨w8.heap.size, 0, none⟩ 1 [.int .i64 (k8 : Int)] rfl n8 (by intro u hu; simp at hu; subst hu; rfl) (int_new w.heap.size _ _ (k8 : Int) ⟨by omega, by omega⟩) (by omega) (by omega) (by omega) (Nat.le_trans hsd (Nat.le_trans hb8.size (by simp)))
            rw [if_pos (show Region.wanted _ _ = true by kernel_rfl)]
            refine Lib.wp_append_run_sl _ _ _ 63 rfl _ _ rfl rfl r9 ?_
            clear r9
            have hf9 : ∀ (b : Nat) (t : TypeId) (cs : Array Value), t ≠ 3 → Row (w8.alloc (.cells #[.int .i64 (k8 : Int)] 3)) b t cs → Row w9 b t cs := grown_row g9 hr9
            have C9 := hf9 _ _ _ (by decide) CR
            have R9 := hf9 _ _ _ (by decide) RR8
            have k9 : w9.cell? ⟨gx, 2, none⟩ = some (.slice A9 j c9) := C9.cell 2
            have f9 : w9.frozen? ⟨gx, 2, none⟩ = false := C9.frozen 2
            refine hK.out _ _ trivial (fun hHeld => ?_)
            clear hK K
            try simp only [ap]
            refine reg_take (i := 7) (v := ?v12) rfl (by kernel_rfl) (by kernel_rfl) (by kernel_rfl) (fun _ _ _ h => h) (Or.inl ⟨by kernel_rfl, ?h12⟩) trivial ?r12
            case h12 => (intro w hSw; (try dsimp only at hSw); go_simp; try with_reducible rfl)
            try simp only [ap]
            refine reg_call (i := 8) (by kernel_rfl) rfl (fun K hK => ?_)
            go_simp
            refine hK.out _ _ trivial (fun hHeld => ?_)
            clear hK K
            try simp only [ap]
            refine wpAnyH_done (by kernel_rfl) ?_ _
            have C10 := C9.set_ 2 (.slice A10 (j + 1) c10)
            have hB9 : ButR g w w9 := grown_but ((hBd.trans hb8).alloc hgw (.cells #[.int .i64 (k8 : Int)] 3)) g9 (fun b hb => (hr9 b hb).1)
            have h9 : RdAt w9 g l p8 := grown_rd (h8.below ((Below.refl _ w8).alloc (Nat.le_refl _) (.cells #[.int .i64 (k8 : Int)] 3)) h8.lt) g9 (fun b hb => Nat.lt_of_lt_of_le hgw (hr9 b hb).1)
            have t10 : TyI D w.heap.size (w9.setCell ⟨gx, 2, none⟩ (.slice A10 (j + 1) c10)) (.slice A10 (j + 1) c10) := TyI.far ty9 (fun b cur Rb => Below.heap_setCell _ _ _ b (by show b ≠ gx; intro e; subst e; exact row_ne Rb C9 (by decide)))
            have hB10 : ButR g w (w9.setCell ⟨gx, 2, none⟩ (.slice A10 (j + 1) c10)) := hB9.setNew hgw (by show w.heap.size ≤ gx; omega) _
            have h10 : RdAt (w9.setCell ⟨gx, 2, none⟩ (.slice A10 (j + 1) c10)) g l p8 := h9.below ((Below.refl gx _).setCell (p := ⟨gx, 2, none⟩) (Nat.le_refl _) _) hgx
            have R10 := R9.far (p := ⟨gx, 2, none⟩) (by show w.heap.size + 1 ≠ gx; omega) (.slice A10 (j + 1) c10)
            go_wp2_with fail
            go_roundw
            case rel => exact ⟨j + 1, p8, A10, c10, by omega, by go_num, by omega, h10, hB10, C10, R10, t10⟩
            case measure => simp [intOf]; omega

    · have e1 : (op == 1) = false := by simpa using h1
      cases hs : setsB op
      · replace hs := Lib.hid hs
        have f1 : w4.frozen? ⟨gx, 1, none⟩ = false := RX.frozen 1
        have c1 : w4.cell? ⟨gx, 1, none⟩ = some (.int .i64 (k : Int)) := RX.cell 1
        go_wp2_with fail
        refine (spec_l7Makes op _).mono ?_
        rintro e w6 ⟨rfl, rfl⟩
        rw [hs.out]
        have hl : RdAt (w4.setCell ⟨gx, 1, none⟩ (.int .i64 (-1))) g l p3 := h4.below ((Below.refl gx _).setCell (p := ⟨gx, 1, none⟩) (Nat.le_refl _) _) hgx
        have hBl : ButR g w (w4.setCell ⟨gx, 1, none⟩ (.int .i64 (-1))) := hB4.setNew hgw (by show w.heap.size ≤ gx; omega) _
        replace RR := RR.far (p := ⟨gx, 1, none⟩) (by show w.heap.size + 1 ≠ gx; omega) (.int .i64 (-1))
        replace RX : Row (w4.setCell ⟨gx, 1, none⟩ (.int .i64 (-1))) gx 72 #[.int .i64 op, .int .i64 (-1), .slice none 0 0, .int .i64 0] := RX.set_ 1 _

        go_wp2_with fail
        go_loopw [10] (fun i wr => ∃ (j p' : Nat) (A9 : Option Addr) (c9 : Nat), j ≤ 3 ∧ i = .int .i64 (j : Int) ∧ p' ≤ p + 4 + j ∧ RdAt wr g l p' ∧ ButR g w wr ∧ Row wr gx 72 #[.int .i64 op, .int .i64 (-1), .slice A9 j c9, .int .i64 0] ∧ Row wr (w.heap.size + 1) 72 #[.int .i64 0, .int .i64 0, .slice none 0 0, .int .i64 0] ∧ TyI D w.heap.size wr (.slice A9 j c9)) (fun i _ => 3 - (intOf i).toNat)
        case atStart => exact ⟨0, p3, none, 0, by omega, rfl, by omega, hl, hBl, RX, RR, TyI.nil_ _ _⟩
        case round =>
          clear hl hBl RX RR
          obtain ⟨j, p', A9, c9, hj, rfl, hp', hR, hB, RX, RR, ty⟩ := hrel
          by_cases hjm : (j : Int) < M
          case neg =>
            have F := Lib.hid (some_fin (D := D) (p := p) (K := 10) (rb := w.heap.size + 1) (op := op) (to := (-1)) (n := 0) hgw (by omega) hR (by omega) hB RR ⟨by omega, by omega⟩ ⟨by omega, by omega⟩ ⟨by omega, by omega⟩ ty)
            have s0 : wr.cell? ⟨w.heap.size + 1, 0, none⟩ = some (.int .i64 0) := RR.cell 0
            have s1 : wr.cell? ⟨w.heap.size + 1, 1, none⟩ = some (.int .i64 0) := RR.cell 1
            have s2 : wr.cell? ⟨w.heap.size + 1, 2, none⟩ = some (.slice none 0 0) := RR.cell 2
            have s3 : wr.cell? ⟨w.heap.size + 1, 3, none⟩ = some (.int .i64 0) := RR.cell 3
            have sf0 : wr.frozen? ⟨w.heap.size + 1, 0, none⟩ = false := RR.frozen 0
            have sf1 : wr.frozen? ⟨w.heap.size + 1, 1, none⟩ = false := RR.frozen 1
            have sf2 : wr.frozen? ⟨w.heap.size + 1, 2, none⟩ = false := RR.frozen 2
            have sf3 : wr.frozen? ⟨w.heap.size + 1, 3, none⟩ = false := RR.frozen 3
            have x0 : wr.cell? ⟨gx, 0, none⟩ = some (.int .i64 op) := RX.cell 0
            have x1 : wr.cell? ⟨gx, 1, none⟩ = some (.int .i64 (-1)) := RX.cell 1
            have x2 : wr.cell? ⟨gx, 2, none⟩ = some (.slice A9 j c9) := RX.cell 2
            have x3 : wr.cell? ⟨gx, 3, none⟩ = some (.int .i64 0) := RX.cell 3
            go_wp2_with fail
            refine bodyPost_ret (v := .agg #[.int .i64 op, .int .i64 (-1), .slice A9 j c9, .int .i64 0]) (by simp [results, Try.results105, go_sem, s0, s1, s2, s3]) rfl F.out
          have hjm3 : j < 3 := by omega
          go_wp2_with fail
          refine wp_region_held_drew (S := fun w' => True) (by kernel_rfl) ?_ (fun hHeld => ?_)
          · trivial
          generalize hwd : wr.drew = wd at hHeld ⊢
          have hRd : RdAt wd g l p' := by rw [← hwd]; exact hR.below ((Below.refl g.succ wr).drew) (Nat.lt_succ_self _)
          have hBd : ButR g w wd := by rw [← hwd]; exact ⟨hB.1.drew, hB.2⟩
          have Rd : Row wd (w.heap.size + 1) 72 #[.int .i64 0, .int .i64 0, .slice none 0 0, .int .i64 0] := by rw [← hwd]; exact RR.drew
          have Cd : Row wd gx 72 #[.int .i64 op, .int .i64 (-1), .slice A9 j c9, .int .i64 0] := by rw [← hwd]; exact RX.drew
          have tyd : TyI D w.heap.size wd (.slice A9 j c9) := by rw [← hwd]; exact ty
          have kd : wd.cell? ⟨gx, 2, none⟩ = some (.slice A9 j c9) := Cd.cell 2
          have hsd : w.heap.size ≤ wd.heap.size := hBd.size
          clear hwd RX RR ty hB hR
          refine reg_take (i := 0) (v := ?v13) rfl (by kernel_rfl) (by kernel_rfl) (by kernel_rfl) (fun _ _ _ h => h) (Or.inl ⟨by kernel_rfl, ?h13⟩) trivial ?r13
          case h13 => (intro w hSw; (try dsimp only at hSw); go_simp; try with_reducible rfl)
          try simp only [ap]
          refine reg_take (i := 2) (v := ?v14) rfl (by kernel_rfl) (by kernel_rfl) (by kernel_rfl) (fun _ _ _ h => h) (Or.inl ⟨by kernel_rfl, ?h14⟩) trivial ?r14
          case h14 => (intro w hSw; (try dsimp only at hSw); go_simp; try with_reducible rfl)
          try simp only [ap]
          refine reg_take (i := 3) (v := ?v15) rfl (by kernel_rfl) (by kernel_rfl) (by kernel_rfl) (fun _ _ _ h => h) (Or.inl ⟨by kernel_rfl, ?h15⟩) trivial ?r15
          case h15 => (intro w hSw; (try dsimp only at hSw); go_simp; try with_reducible rfl)
          try simp only [ap]
          refine reg_call2 (i := 1) (j := 4) (by kernel_rfl) rfl rfl (fun K hK => ?_) (fun K hK => ?_)
          · go_simp
            refine hK.out _ _ trivial (fun hHeld => ?_)
            clear hK K
            try simp only [ap]
            refine reg_call (i := 4) (by kernel_rfl) rfl (fun K hK => ?_)
            go_simp
            refine (pick_ok regs hr1 (by omega) l g p' wd hRd (by omega)).mono ?_
            rintro e w8 ⟨v, p8, rfl, h8, hp8, hb8, k8, hk8, rfl⟩
            have C8 := hb8.row Cd hgx
            have k8c : w8.cell? ⟨gx, 2, none⟩ = some (.slice A9 j c9) := C8.cell 2
            have R8 := hb8.row Rd hgr
            have t8 := tyd.keep (hb8.chg (show g < w.heap.size from hgw))
            refine hK.out _ _ trivial (fun hHeld => ?_)
            clear hK K
            try simp only [ap]
            refine reg_call (i := 5) (by kernel_rfl) rfl (fun K hK => ?_)
            go_simp
            have CR := C8.alloc (.cells #[.int .i64 (k8 : Int)] 3)
            have kR : (w8.alloc (.cells #[.int .i64 (k8 : Int)] 3)).cell? ⟨gx, 2, none⟩ = some (.slice A9 j c9) := CR.cell 2
            have RR8 := R8.alloc (.cells #[.int .i64 (k8 : Int)] 3)
            have t8R := t8.keep (Chg.below ((Below.refl _ w8).alloc (Nat.le_refl _) (.cells #[.int .i64 (k8 : Int)] 3)))
            have n8 : ∀ (q : Nat) (u : Value), ([Value.int .i64 (k8 : Int)] : List Value)[q]? = some u → (w8.alloc (.cells #[.int .i64 (k8 : Int)] 3)).cell? ((⟨w8.heap.size, 0, none⟩ : Addr).add q) = some u := new_one w8 (k8 : Int)
            refine hK.out _ _ trivial (fun hHeld => ?_)
            clear hK K
            try simp only [ap]
            refine reg_call (i := 6) (by kernel_rfl) rfl (fun K hK => ?_)
            obtain ⟨A10, c10, w9, r9, ty9, ch9, r, g9, hr9⟩ := run_append_ty (D := D) (P := Try.prog) (w8.alloc (.cells #[.int .i64 (k8 : Int)] 3)) 63 63 3 i0 (.int .i64 0) 1 8 (30 + D) w.heap.size (fun _ u => IntP u) Try.underlying63 hi hz0 hz1 hz2 rfl (by decide) A9 j c9 t8R ⟨w8.heap.size, 0, none⟩ 1 [.int .i64 (k8 : Int)] rfl n8 (by intro u hu; simp at hu; subst hu; rfl) (int_new w.heap.size _ _ (k8 : Int) ⟨by omega, by omega⟩) (by omega) (by omega) (by omega) (Nat.le_trans hsd (Nat.le_trans hb8.size (by simp)))
            rw [if_pos (show Region.wanted _ _ = true by kernel_rfl)]
            refine Lib.wp_append_run_sl _ _ _ 63 rfl _ _ rfl rfl r9 ?_
            clear r9
            have hf9 : ∀ (b : Nat) (t : TypeId) (cs : Array Value), t ≠ 3 → Row (w8.alloc (.cells #[.int .i64 (k8 : Int)] 3)) b t cs → Row w9 b t cs := grown_row g9 hr9
            have C9 := hf9 _ _ _ (by decide) CR
            have R9 := hf9 _ _ _ (by decide) RR8
            have k9 : w9.cell? ⟨gx, 2, none⟩ = some (.slice A9 j c9) := C9.cell 2
            have f9 : w9.frozen? ⟨gx, 2, none⟩ = false := C9.frozen 2
            refine hK.out _ _ trivial (fun hHeld => ?_)
            clear hK K
            try simp only [ap]
            refine reg_take (i := 7) (v := ?v16) rfl (by kernel_rfl) (by kernel_rfl) (by kernel_rfl) (fun _ _ _ h => h) (Or.inl ⟨by kernel_rfl, ?h16⟩) trivial ?r16
            case h16 => (intro w hSw; (try dsimp only at hSw); go_simp; try with_reducible rfl)
            try simp only [ap]
            refine reg_call (i := 8) (by kernel_rfl) rfl (fun K hK => ?_)
            go_simp
            refine hK.out _ _ trivial (fun hHeld => ?_)
            clear hK K
            try simp only [ap]
            refine wpAnyH_done (by kernel_rfl) ?_ _
            have C10 := C9.set_ 2 (.slice A10 (j + 1) c10)
            have hB9 : ButR g w w9 := grown_but ((hBd.trans hb8).alloc hgw (.cells #[.int .i64 (k8 : Int)] 3)) g9 (fun b hb => (hr9 b hb).1)
            have h9 : RdAt w9 g l p8 := grown_rd (h8.below ((Below.refl _ w8).alloc (Nat.le_refl _) (.cells #[.int .i64 (k8 : Int)] 3)) h8.lt) g9 (fun b hb => Nat.lt_of_lt_of_le hgw (hr9 b hb).1)
            have t10 : TyI D w.heap.size (w9.setCell ⟨gx, 2, none⟩ (.slice A10 (j + 1) c10)) (.slice A10 (j + 1) c10) := TyI.far ty9 (fun b cur Rb => Below.heap_setCell _ _ _ b (by show b ≠ gx; intro e; subst e; exact row_ne Rb C9 (by decide)))
            have hB10 : ButR g w (w9.setCell ⟨gx, 2, none⟩ (.slice A10 (j + 1) c10)) := hB9.setNew hgw (by show w.heap.size ≤ gx; omega) _
            have h10 : RdAt (w9.setCell ⟨gx, 2, none⟩ (.slice A10 (j + 1) c10)) g l p8 := h9.below ((Below.refl gx _).setCell (p := ⟨gx, 2, none⟩) (Nat.le_refl _) _) hgx
            have R10 := R9.far (p := ⟨gx, 2, none⟩) (by show w.heap.size + 1 ≠ gx; omega) (.slice A10 (j + 1) c10)
            go_wp2_with fail
            go_roundw
            case rel => exact ⟨j + 1, p8, A10, c10, by omega, by go_num, by omega, h10, hB10, C10, R10, t10⟩
            case measure => simp [intOf]; omega
          · go_simp
            refine (pick_ok regs hr1 (by omega) l g p' wd hRd (by omega)).mono ?_
            rintro e w8 ⟨v, p8, rfl, h8, hp8, hb8, k8, hk8, rfl⟩
            have C8 := hb8.row Cd hgx
            have k8c : w8.cell? ⟨gx, 2, none⟩ = some (.slice A9 j c9) := C8.cell 2
            have R8 := hb8.row Rd hgr
            have t8 := tyd.keep (hb8.chg (show g < w.heap.size from hgw))
            refine hK.out _ _ trivial (fun hHeld => ?_)
            clear hK K
            try simp only [ap]
            refine reg_call2 (i := 1) (j := 5) (by kernel_rfl) rfl rfl (fun K hK => ?_) (fun K hK => ?_)
            · go_simp
              refine hK.out _ _ trivial (fun hHeld => ?_)
              clear hK K
              try simp only [ap]
              refine reg_call (i := 5) (by kernel_rfl) rfl (fun K hK => ?_)
              go_simp
              have CR := C8.alloc (.cells #[.int .i64 (k8 : Int)] 3)
              have kR : (w8.alloc (.cells #[.int .i64 (k8 : Int)] 3)).cell? ⟨gx, 2, none⟩ = some (.slice A9 j c9) := CR.cell 2
              have RR8 := R8.alloc (.cells #[.int .i64 (k8 : Int)] 3)
              have t8R := t8.keep (Chg.below ((Below.refl _ w8).alloc (Nat.le_refl _) (.cells #[.int .i64 (k8 : Int)] 3)))
              have n8 : ∀ (q : Nat) (u : Value), ([Value.int .i64 (k8 : Int)] : List Value)[q]? = some u → (w8.alloc (.cells #[.int .i64 (k8 : Int)] 3)).cell? ((⟨w8.heap.size, 0, none⟩ : Addr).add q) = some u := new_one w8 (k8 : Int)
              refine hK.out _ _ trivial (fun hHeld => ?_)
              clear hK K
              try simp only [ap]
              refine reg_call (i := 6) (by kernel_rfl) rfl (fun K hK => ?_)
              obtain ⟨A10, c10, w9, r9, ty9, ch9, r, g9, hr9⟩ := run_append_ty (D := D) (P := Try.prog) (w8.alloc (.cells #[.int .i64 (k8 : Int)] 3)) 63 63 3 i0 (.int .i64 0) 1 8 (30 + D) w.heap.size (fun _ u => IntP u) Try.underlying63 hi hz0 hz1 hz2 rfl (by decide) A9 j c9 t8R ⟨w8.heap.size, 0, none⟩ 1 [.int .i64 (k8 : Int)] rfl n8 (by intro u hu; simp at hu; subst hu; rfl) (int_new w.heap.size _ _ (k8 : Int) ⟨by omega, by omega⟩) (by omega) (by omega) (by omega) (Nat.le_trans hsd (Nat.le_trans hb8.size (by simp)))
              rw [if_pos (show Region.wanted _ _ = true by kernel_rfl)]
              refine Lib.wp_append_run_sl _ _ _ 63 rfl _ _ rfl rfl r9 ?_
              clear r9
              have hf9 : ∀ (b : Nat) (t : TypeId) (cs : Array Value), t ≠ 3 → Row (w8.alloc (.cells #[.int .i64 (k8 : Int)] 3)) b t cs → Row w9 b t cs := grown_row g9 hr9
              have C9 := hf9 _ _ _ (by decide) CR
              have R9 := hf9 _ _ _ (by decide) RR8
              have k9 : w9.cell? ⟨gx, 2, none⟩ = some (.slice A9 j c9) := C9.cell 2
              have f9 : w9.frozen? ⟨gx, 2, none⟩ = false := C9.frozen 2
              refine hK.out _ _ trivial (fun hHeld => ?_)
              clear hK K
              try simp only [ap]
              refine reg_take (i := 7) (v := ?v17) rfl (by kernel_rfl) (by kernel_rfl) (by kernel_rfl) (fun _ _ _ h => h) (Or.inl ⟨by kernel_rfl, ?h17⟩) trivial ?r17
              case h17 => (intro w hSw; (try dsimp only at hSw); go_simp; try with_reducible rfl)
              try simp only [ap]
              refine reg_call (i := 8) (by kernel_rfl) rfl (fun K hK => ?_)
              go_simp
              refine hK.out _ _ trivial (fun hHeld => ?_)
              clear hK K
              try simp only [ap]
              refine wpAnyH_done (by kernel_rfl) ?_ _
              have C10 := C9.set_ 2 (.slice A10 (j + 1) c10)
              have hB9 : ButR g w w9 := grown_but ((hBd.trans hb8).alloc hgw (.cells #[.int .i64 (k8 : Int)] 3)) g9 (fun b hb => (hr9 b hb).1)
              have h9 : RdAt w9 g l p8 := grown_rd (h8.below ((Below.refl _ w8).alloc (Nat.le_refl _) (.cells #[.int .i64 (k8 : Int)] 3)) h8.lt) g9 (fun b hb => Nat.lt_of_lt_of_le hgw (hr9 b hb).1)
              have t10 : TyI D w.heap.size (w9.setCell ⟨gx, 2, none⟩ (.slice A10 (j + 1) c10)) (.slice A10 (j + 1) c10) := TyI.far ty9 (fun b cur Rb => Below.heap_setCell _ _ _ b (by show b ≠ gx; intro e; subst e; exact row_ne Rb C9 (by decide)))
              have hB10 : ButR g w (w9.setCell ⟨gx, 2, none⟩ (.slice A10 (j + 1) c10)) := hB9.setNew hgw (by show w.heap.size ≤ gx; omega) _
              have h10 : RdAt (w9.setCell ⟨gx, 2, none⟩ (.slice A10 (j + 1) c10)) g l p8 := h9.below ((Below.refl gx _).setCell (p := ⟨gx, 2, none⟩) (Nat.le_refl _) _) hgx
              have R10 := R9.far (p := ⟨gx, 2, none⟩) (by show w.heap.size + 1 ≠ gx; omega) (.slice A10 (j + 1) c10)
              go_wp2_with fail
              go_roundw
              case rel => exact ⟨j + 1, p8, A10, c10, by omega, by go_num, by omega, h10, hB10, C10, R10, t10⟩
              case measure => simp [intOf]; omega
            · go_simp
              have CR := C8.alloc (.cells #[.int .i64 (k8 : Int)] 3)
              have kR : (w8.alloc (.cells #[.int .i64 (k8 : Int)] 3)).cell? ⟨gx, 2, none⟩ = some (.slice A9 j c9) := CR.cell 2
              have RR8 := R8.alloc (.cells #[.int .i64 (k8 : Int)] 3)
              have t8R := t8.keep (Chg.below ((Below.refl _ w8).alloc (Nat.le_refl _) (.cells #[.int .i64 (k8 : Int)] 3)))
              have n8 : ∀ (q : Nat) (u : Value), ([Value.int .i64 (k8 : Int)] : List Value)[q]? = some u → (w8.alloc (.cells #[.int .i64 (k8 : Int)] 3)).cell? ((⟨w8.heap.size, 0, none⟩ : Addr).add q) = some u := new_one w8 (k8 : Int)
              refine hK.out _ _ trivial (fun hHeld => ?_)
              clear hK K
              try simp only [ap]
              refine reg_call (i := 1) (by kernel_rfl) rfl (fun K hK => ?_)
              go_simp
              refine hK.out _ _ trivial (fun hHeld => ?_)
              clear hK K
              try simp only [ap]
              refine reg_call (i := 6) (by kernel_rfl) rfl (fun K hK => ?_)
              obtain ⟨A10, c10, w9, r9, ty9, ch9, r, g9, hr9⟩ := run_append_ty (D := D) (P := Try.prog) (w8.alloc (.cells #[.int .i64 (k8 : Int)] 3)) 63 63 3 i0 (.int .i64 0) 1 8 (30 + D) w.heap.size (fun _ u => IntP u) Try.underlying63 hi hz0 hz1 hz2 rfl (by decide) A9 j c9 t8R ⟨w8.heap.size, 0, none⟩ 1 [.int .i64 (k8 : Int)] rfl n8 (by intro u hu; simp at hu; subst hu; rfl) (int_new w.heap.size _ _ (k8 : Int) ⟨by omega, by omega⟩) (by omega) (by omega) (by omega) (Nat.le_trans hsd (Nat.le_trans hb8.size (by simp)))
              rw [if_pos (show Region.wanted _ _ = true by kernel_rfl)]
              refine Lib.wp_append_run_sl _ _ _ 63 rfl _ _ rfl rfl r9 ?_
              clear r9
              have hf9 : ∀ (b : Nat) (t : TypeId) (cs : Array Value), t ≠ 3 → Row (w8.alloc (.cells #[.int .i64 (k8 : Int)] 3)) b t cs → Row w9 b t cs := grown_row g9 hr9
              have C9 := hf9 _ _ _ (by decide) CR
              have R9 := hf9 _ _ _ (by decide) RR8
              have k9 : w9.cell? ⟨gx, 2, none⟩ = some (.slice A9 j c9) := C9.cell 2
              have f9 : w9.frozen? ⟨gx, 2, none⟩ = false := C9.frozen 2
              refine hK.out _ _ trivial (fun hHeld => ?_)
              clear hK K
              try simp only [ap]
              refine reg_take (i := 7) (v := ?v18) rfl (by kernel_rfl) (by kernel_rfl) (by kernel_rfl) (fun _ _ _ h => h) (Or.inl ⟨by kernel_rfl, ?h18⟩) trivial ?r18
              case h18 => (intro w hSw; (try dsimp only at hSw); go_simp; try with_reducible rfl)
              try simp only [ap]
              refine reg_call (i := 8) (by kernel_rfl) rfl (fun K hK => ?_)
              go_simp
              refine hK.out _ _ trivial (fun hHeld => ?_)
              clear hK K
              try simp only [ap]
              refine wpAnyH_done (by kernel_rfl) ?_ _
              have C10 := C9.set_ 2 (.slice A10 (j + 1) c10)
              have hB9 : ButR g w w9 := grown_but ((hBd.trans hb8).alloc hgw (.cells #[.int .i64 (k8 : Int)] 3)) g9 (fun b hb => (hr9 b hb).1)
              have h9 : RdAt w9 g l p8 := grown_rd (h8.below ((Below.refl _ w8).alloc (Nat.le_refl _) (.cells #[.int .i64 (k8 : Int)] 3)) h8.lt) g9 (fun b hb => Nat.lt_of_lt_of_le hgw (hr9 b hb).1)
              have t10 : TyI D w.heap.size (w9.setCell ⟨gx, 2, none⟩ (.slice A10 (j + 1) c10)) (.slice A10 (j + 1) c10) := TyI.far ty9 (fun b cur Rb => Below.heap_setCell _ _ _ b (by show b ≠ gx; intro e; subst e; exact row_ne Rb C9 (by decide)))
              have hB10 : ButR g w (w9.setCell ⟨gx, 2, none⟩ (.slice A10 (j + 1) c10)) := hB9.setNew hgw (by show w.heap.size ≤ gx; omega) _
              have h10 : RdAt (w9.setCell ⟨gx, 2, none⟩ (.slice A10 (j + 1) c10)) g l p8 := h9.below ((Below.refl gx _).setCell (p := ⟨gx, 2, none⟩) (Nat.le_refl _) _) hgx
              have R10 := R9.far (p := ⟨gx, 2, none⟩) (by show w.heap.size + 1 ≠ gx; omega) (.slice A10 (j + 1) c10)
              go_wp2_with fail
              go_roundw
              case rel => exact ⟨j + 1, p8, A10, c10, by omega, by go_num, by omega, h10, hB10, C10, R10, t10⟩
              case measure => simp [intOf]; omega

      · replace hs := Lib.hid hs
        go_wp2_with fail
        refine (spec_l7Makes op _).mono ?_
        rintro e w6 ⟨rfl, rfl⟩
        rw [hs.out]
        have hl := h4
        have hBl := hB4
        go_wp2_with fail
        go_loopw [10] (fun i wr => ∃ (j p' : Nat) (A9 : Option Addr) (c9 : Nat), j ≤ 3 ∧ i = .int .i64 (j : Int) ∧ p' ≤ p + 4 + j ∧ RdAt wr g l p' ∧ ButR g w wr ∧ Row wr gx 72 #[.int .i64 op, .int .i64 (k : Int), .slice A9 j c9, .int .i64 0] ∧ Row wr (w.heap.size + 1) 72 #[.int .i64 0, .int .i64 0, .slice none 0 0, .int .i64 0] ∧ TyI D w.heap.size wr (.slice A9 j c9)) (fun i _ => 3 - (intOf i).toNat)
        case atStart => exact ⟨0, p3, none, 0, by omega, rfl, by omega, hl, hBl, RX, RR, TyI.nil_ _ _⟩
        case round =>
          clear hl hBl RX RR
          obtain ⟨j, p', A9, c9, hj, rfl, hp', hR, hB, RX, RR, ty⟩ := hrel
          by_cases hjm : (j : Int) < M
          case neg =>
            have F := Lib.hid (some_fin (D := D) (p := p) (K := 10) (rb := w.heap.size + 1) (op := op) (to := (k : Int)) (n := 0) hgw (by omega) hR (by omega) hB RR ⟨by omega, by omega⟩ ⟨by omega, by omega⟩ ⟨by omega, by omega⟩ ty)
            have s0 : wr.cell? ⟨w.heap.size + 1, 0, none⟩ = some (.int .i64 0) := RR.cell 0
            have s1 : wr.cell? ⟨w.heap.size + 1, 1, none⟩ = some (.int .i64 0) := RR.cell 1
            have s2 : wr.cell? ⟨w.heap.size + 1, 2, none⟩ = some (.slice none 0 0) := RR.cell 2
            have s3 : wr.cell? ⟨w.heap.size + 1, 3, none⟩ = some (.int .i64 0) := RR.cell 3
            have sf0 : wr.frozen? ⟨w.heap.size + 1, 0, none⟩ = false := RR.frozen 0
            have sf1 : wr.frozen? ⟨w.heap.size + 1, 1, none⟩ = false := RR.frozen 1
            have sf2 : wr.frozen? ⟨w.heap.size + 1, 2, none⟩ = false := RR.frozen 2
            have sf3 : wr.frozen? ⟨w.heap.size + 1, 3, none⟩ = false := RR.frozen 3
            have x0 : wr.cell? ⟨gx, 0, none⟩ = some (.int .i64 op) := RX.cell 0
            have x1 : wr.cell? ⟨gx, 1, none⟩ = some (.int .i64 (k : Int)) := RX.cell 1
            have x2 : wr.cell? ⟨gx, 2, none⟩ = some (.slice A9 j c9) := RX.cell 2
            have x3 : wr.cell? ⟨gx, 3, none⟩ = some (.int .i64 0) := RX.cell 3
            go_wp2_with fail
            refine bodyPost_ret (v := .agg #[.int .i64 op, .int .i64 (k : Int), .slice A9 j c9, .int .i64 0]) (by simp [results, Try.results105, go_sem, s0, s1, s2, s3]) rfl F.out
          have hjm3 : j < 3 := by omega
          go_wp2_with fail
          refine wp_region_held_drew (S := fun w' => True) (by kernel_rfl) ?_ (fun hHeld => ?_)
          · trivial
          generalize hwd : wr.drew = wd at hHeld ⊢
          have hRd : RdAt wd g l p' := by rw [← hwd]; exact hR.below ((Below.refl g.succ wr).drew) (Nat.lt_succ_self _)
          have hBd : ButR g w wd := by rw [← hwd]; exact ⟨hB.1.drew, hB.2⟩
          have Rd : Row wd (w.heap.size + 1) 72 #[.int .i64 0, .int .i64 0, .slice none 0 0, .int .i64 0] := by rw [← hwd]; exact RR.drew
          have Cd : Row wd gx 72 #[.int .i64 op, .int .i64 (k : Int), .slice A9 j c9, .int .i64 0] := by rw [← hwd]; exact RX.drew
          have tyd : TyI D w.heap.size wd (.slice A9 j c9) := by rw [← hwd]; exact ty
          have kd : wd.cell? ⟨gx, 2, none⟩ = some (.slice A9 j c9) := Cd.cell 2
          have hsd : w.heap.size ≤ wd.heap.size := hBd.size
          clear hwd RX RR ty hB hR
          refine reg_take (i := 0) (v := ?v19) rfl (by kernel_rfl) (by kernel_rfl) (by kernel_rfl) (fun _ _ _ h => h) (Or.inl ⟨by kernel_rfl, ?h19⟩) trivial ?r19
          case h19 => (intro w hSw; (try dsimp only at hSw); go_simp; try with_reducible rfl)
          try simp only [ap]
          refine reg_take (i := 2) (v := ?v20) rfl (by kernel_rfl) (by kernel_rfl) (by kernel_rfl) (fun _ _ _ h => h) (Or.inl ⟨by kernel_rfl, ?h20⟩) trivial ?r20
          case h20 => (intro w hSw; (try dsimp only at hSw); go_simp; try with_reducible rfl)
          try simp only [ap]
          refine reg_take (i := 3) (v := ?v21) rfl (by kernel_rfl) (by kernel_rfl) (by kernel_rfl) (fun _ _ _ h => h) (Or.inl ⟨by kernel_rfl, ?h21⟩) trivial ?r21
          case h21 => (intro w hSw; (try dsimp only at hSw); go_simp; try with_reducible rfl)
          try simp only [ap]
          refine reg_call2 (i := 1) (j := 4) (by kernel_rfl) rfl rfl (fun K hK => ?_) (fun K hK => ?_)
          · go_simp
            refine hK.out _ _ trivial (fun hHeld => ?_)
            clear hK K
            try simp only [ap]
            refine reg_call (i := 4) (by kernel_rfl) rfl (fun K hK => ?_)
            go_simp
            refine (pick_ok regs hr1 (by omega) l g p' wd hRd (by omega)).mono ?_
            rintro e w8 ⟨v, p8, rfl, h8, hp8, hb8, k8, hk8, rfl⟩
            have C8 := hb8.row Cd hgx
            have k8c : w8.cell? ⟨gx, 2, none⟩ = some (.slice A9 j c9) := C8.cell 2
            have R8 := hb8.row Rd hgr
            have t8 := tyd.keep (hb8.chg (show g < w.heap.size from hgw))
            refine hK.out _ _ trivial (fun hHeld => ?_)
            clear hK K
            try simp only [ap]
            refine reg_call (i := 5) (by kernel_rfl) rfl (fun K hK => ?_)
            go_simp
            have CR := C8.alloc (.cells #[.int .i64 (k8 : Int)] 3)
            have kR : (w8.alloc (.cells #[.int .i64 (k8 : Int)] 3)).cell? ⟨gx, 2, none⟩ = some (.slice A9 j c9) := CR.cell 2
            have RR8 := R8.alloc (.cells #[.int .i64 (k8 : Int)] 3)
            have t8R := t8.keep (Chg.below ((Below.refl _ w8).alloc (Nat.le_refl _) (.cells #[.int .i64 (k8 : Int)] 3)))
            have n8 : ∀ (q : Nat) (u : Value), ([Value.int .i64 (k8 : Int)] : List Value)[q]? = some u → (w8.alloc (.cells #[.int .i64 (k8 : Int)] 3)).cell? ((⟨w8.heap.size, 0, none⟩ : Addr).add q) = some u := new_one w8 (k8 : Int)
            refine hK.out _ _ trivial (fun hHeld => ?_)
            clear hK K
            try simp only [ap]
            refine reg_call (i := 6) (by kernel_rfl) rfl (fun K hK => ?_)
            obtain ⟨A10, c10, w9, r9, ty9, ch9, r, g9, hr9⟩ := run_append_ty (D := D) (P := Try.prog) (w8.alloc (.cells #[.int .i64 (k8 : Int)] 3)) 63 63 3 i0 (.int .i64 0) 1 8 (30 + D) w.heap.size (fun _ u => IntP u) Try.underlying63 hi hz0 hz1 hz2 rfl (by decide) A9 j c9 t8R ⟨w8.heap.size, 0, none⟩ 1 [.int .i64 (k8 : Int)] rfl n8 (by intro u hu; simp at hu; subst hu; rfl) (int_new w.heap.size _ _ (k8 : Int) ⟨by omega, by omega⟩) (by omega) (by omega) (by omega) (Nat.le_trans hsd (Nat.le_trans hb8.size (by simp)))
            rw [if_pos (show Region.wanted _ _ = true by kernel_rfl)]
            refine Lib.wp_append_run_sl _ _ _ 63 rfl _ _ rfl rfl r9 ?_
            clear r9
            have hf9 : ∀ (b : Nat) (t : TypeId) (cs : Array Value), t ≠ 3 → Row (w8.alloc (.cells #[.int .i64 (k8 : Int)] 3)) b t cs → Row w9 b t cs := grown_row g9 hr9
            have C9 := hf9 _ _ _ (by decide) CR
            have R9 := hf9 _ _ _ (by decide) RR8
            have k9 : w9.cell? ⟨gx, 2, none⟩ = some (.slice A9 j c9) := C9.cell 2
            have f9 : w9.frozen? ⟨gx, 2, none⟩ = false := C9.frozen 2
            refine hK.out _ _ trivial (fun hHeld => ?_)
            clear hK K
            try simp only [ap]
            refine reg_take (i := 7) (v := ?v22) rfl (by kernel_rfl) (by kernel_rfl) (by kernel_rfl) (fun _ _ _ h => h) (Or.inl ⟨by kernel_rfl, ?h22⟩) trivial ?r22
            case h22 => (intro w hSw; (try dsimp only at hSw); go_simp; try with_reducible rfl)
            try simp only [ap]
            refine reg_call (i := 8) (by kernel_rfl) rfl (fun K hK => ?_)
            go_simp
            refine hK.out _ _ trivial (fun hHeld => ?_)
            clear hK K
            try simp only [ap]
            refine wpAnyH_done (by kernel_rfl) ?_ _
            have C10 := C9.set_ 2 (.slice A10 (j + 1) c10)
            have hB9 : ButR g w w9 := grown_but ((hBd.trans hb8).alloc hgw (.cells #[.int .i64 (k8 : Int)] 3)) g9 (fun b hb => (hr9 b hb).1)
            have h9 : RdAt w9 g l p8 := grown_rd (h8.below ((Below.refl _ w8).alloc (Nat.le_refl _) (.cells #[.int .i64 (k8 : Int)] 3)) h8.lt) g9 (fun b hb => Nat.lt_of_lt_of_le hgw (hr9 b hb).1)
            have t10 : TyI D w.heap.size (w9.setCell ⟨gx, 2, none⟩ (.slice A10 (j + 1) c10)) (.slice A10 (j + 1) c10) := TyI.far ty9 (fun b cur Rb => Below.heap_setCell _ _ _ b (by show b ≠ gx; intro e; subst e; exact row_ne Rb C9 (by decide)))
            have hB10 : ButR g w (w9.setCell ⟨gx, 2, none⟩ (.slice A10 (j + 1) c10)) := hB9.setNew hgw (by show w.heap.size ≤ gx; omega) _
            have h10 : RdAt (w9.setCell ⟨gx, 2, none⟩ (.slice A10 (j + 1) c10)) g l p8 := h9.below ((Below.refl gx _).setCell (p := ⟨gx, 2, none⟩) (Nat.le_refl _) _) hgx
            have R10 := R9.far (p := ⟨gx, 2, none⟩) (by show w.heap.size + 1 ≠ gx; omega) (.slice A10 (j + 1) c10)
            go_wp2_with fail
            go_roundw
            case rel => exact ⟨j + 1, p8, A10, c10, by omega, by go_num, by omega, h10, hB10, C10, R10, t10⟩
            case measure => simp [intOf]; omega
          · go_simp
            refine (pick_ok regs hr1 (by omega) l g p' wd hRd (by omega)).mono ?_
            rintro e w8 ⟨v, p8, rfl, h8, hp8, hb8, k8, hk8, rfl⟩
            have C8 := hb8.row Cd hgx
            have k8c : w8.cell? ⟨gx, 2, none⟩ = some (.slice A9 j c9) := C8.cell 2
            have R8 := hb8.row Rd hgr
            have t8 := tyd.keep (hb8.chg (show g < w.heap.size from hgw))
            refine hK.out _ _ trivial (fun hHeld => ?_)
            clear hK K
            try simp only [ap]
            refine reg_call2 (i := 1) (j := 5) (by kernel_rfl) rfl rfl (fun K hK => ?_) (fun K hK => ?_)
            · go_simp
              refine hK.out _ _ trivial (fun hHeld => ?_)
              clear hK K
              try simp only [ap]
              refine reg_call (i := 5) (by kernel_rfl) rfl (fun K hK => ?_)
              go_simp
              have CR := C8.alloc (.cells #[.int .i64 (k8 : Int)] 3)
              have kR : (w8.alloc (.cells #[.int .i64 (k8 : Int)] 3)).cell? ⟨gx, 2, none⟩ = some (.slice A9 j c9) := CR.cell 2
              have RR8 := R8.alloc (.cells #[.int .i64 (k8 : Int)] 3)
              have t8R := t8.keep (Chg.below ((Below.refl _ w8).alloc (Nat.le_refl _) (.cells #[.int .i64 (k8 : Int)] 3)))
              have n8 : ∀ (q : Nat) (u : Value), ([Value.int .i64 (k8 : Int)] : List Value)[q]? = some u → (w8.alloc (.cells #[.int .i64 (k8 : Int)] 3)).cell? ((⟨w8.heap.size, 0, none⟩ : Addr).add q) = some u := new_one w8 (k8 : Int)
              refine hK.out _ _ trivial (fun hHeld => ?_)
              clear hK K
              try simp only [ap]
              refine reg_call (i := 6) (by kernel_rfl) rfl (fun K hK => ?_)
              obtain ⟨A10, c10, w9, r9, ty9, ch9, r, g9, hr9⟩ := run_append_ty (D := D) (P := Try.prog) (w8.alloc (.cells #[.int .i64 (k8 : Int)] 3)) 63 63 3 i0 (.int .i64 0) 1 8 (30 + D) w.heap.size (fun _ u => IntP u) Try.underlying63 hi hz0 hz1 hz2 rfl (by decide) A9 j c9 t8R ⟨w8.heap.size, 0, none⟩ 1 [.int .i64 (k8 : Int)] rfl n8 (by intro u hu; simp at hu; subst hu; rfl) (int_new w.heap.size _ _ (k8 : Int) ⟨by omega, by omega⟩) (by omega) (by omega) (by omega) (Nat.le_trans hsd (Nat.le_trans hb8.size (by simp)))
              rw [if_pos (show Region.wanted _ _ = true by kernel_rfl)]
              refine Lib.wp_append_run_sl _ _ _ 63 rfl _ _ rfl rfl r9 ?_
              clear r9
              have hf9 : ∀ (b : Nat) (t : TypeId) (cs : Array Value), t ≠ 3 → Row (w8.alloc (.cells #[.int .i64 (k8 : Int)] 3)) b t cs → Row w9 b t cs := grown_row g9 hr9
              have C9 := hf9 _ _ _ (by decide) CR
              have R9 := hf9 _ _ _ (by decide) RR8
              have k9 : w9.cell? ⟨gx, 2, none⟩ = some (.slice A9 j c9) := C9.cell 2
              have f9 : w9.frozen? ⟨gx, 2, none⟩ = false := C9.frozen 2
              refine hK.out _ _ trivial (fun hHeld => ?_)
              clear hK K
              try simp only [ap]
              refine reg_take (i := 7) (v := ?v23) rfl (by kernel_rfl) (by kernel_rfl) (by kernel_rfl) (fun _ _ _ h => h) (Or.inl ⟨by kernel_rfl, ?h23⟩) trivial ?r23
              case h23 => (intro w hSw; (try dsimp only at hSw); go_simp; try with_reducible rfl)
              try simp only [ap]
              refine reg_call (i := 8) (by kernel_rfl) rfl (fun K hK => ?_)
              go_simp
              refine hK.out _ _ trivial (fun hHeld => ?_)
              clear hK K
              try simp only [ap]
              refine wpAnyH_done (by kernel_rfl) ?_ _
              have C10 := C9.set_ 2 (.slice A10 (j + 1) c10)
              have hB9 : ButR g w w9 := grown_but ((hBd.trans hb8).alloc hgw (.cells #[.int .i64 (k8 : Int)] 3)) g9 (fun b hb => (hr9 b hb).1)
              have h9 : RdAt w9 g l p8 := grown_rd (h8.below ((Below.refl _ w8).alloc (Nat.le_refl _) (.cells #[.int .i64 (k8 : Int)] 3)) h8.lt) g9 (fun b hb => Nat.lt_of_lt_of_le hgw (hr9 b hb).1)
              have t10 : TyI D w.heap.size (w9.setCell ⟨gx, 2, none⟩ (.slice A10 (j + 1) c10)) (.slice A10 (j + 1) c10) := TyI.far ty9 (fun b cur Rb => Below.heap_setCell _ _ _ b (by show b ≠ gx; intro e; subst e; exact row_ne Rb C9 (by decide)))
              have hB10 : ButR g w (w9.setCell ⟨gx, 2, none⟩ (.slice A10 (j + 1) c10)) := hB9.setNew hgw (by show w.heap.size ≤ gx; omega) _
              have h10 : RdAt (w9.setCell ⟨gx, 2, none⟩ (.slice A10 (j + 1) c10)) g l p8 := h9.below ((Below.refl gx _).setCell (p := ⟨gx, 2, none⟩) (Nat.le_refl _) _) hgx
              have R10 := R9.far (p := ⟨gx, 2, none⟩) (by show w.heap.size + 1 ≠ gx; omega) (.slice A10 (j + 1) c10)
              go_wp2_with fail
              go_roundw
              case rel => exact ⟨j + 1, p8, A10, c10, by omega, by go_num, by omega, h10, hB10, C10, R10, t10⟩
              case measure => simp [intOf]; omega
            · go_simp
              have CR := C8.alloc (.cells #[.int .i64 (k8 : Int)] 3)
              have kR : (w8.alloc (.cells #[.int .i64 (k8 : Int)] 3)).cell? ⟨gx, 2, none⟩ = some (.slice A9 j c9) := CR.cell 2
              have RR8 := R8.alloc (.cells #[.int .i64 (k8 : Int)] 3)
              have t8R := t8.keep (Chg.below ((Below.refl _ w8).alloc (Nat.le_refl _) (.cells #[.int .i64 (k8 : Int)] 3)))
              have n8 : ∀ (q : Nat) (u : Value), ([Value.int .i64 (k8 : Int)] : List Value)[q]? = some u → (w8.alloc (.cells #[.int .i64 (k8 : Int)] 3)).cell? ((⟨w8.heap.size, 0, none⟩ : Addr).add q) = some u := new_one w8 (k8 : Int)
              refine hK.out _ _ trivial (fun hHeld => ?_)
              clear hK K
              try simp only [ap]
              refine reg_call (i := 1) (by kernel_rfl) rfl (fun K hK => ?_)
              go_simp
              refine hK.out _ _ trivial (fun hHeld => ?_)
              clear hK K
              try simp only [ap]
              refine reg_call (i := 6) (by kernel_rfl) rfl (fun K hK => ?_)
              obtain ⟨A10, c10, w9, r9, ty9, ch9, r, g9, hr9⟩ := run_append_ty (D := D) (P := Try.prog) (w8.alloc (.cells #[.int .i64 (k8 : Int)] 3)) 63 63 3 i0 (.int .i64 0) 1 8 (30 + D) w.heap.size (fun _ u => IntP u) Try.underlying63 hi hz0 hz1 hz2 rfl (by decide) A9 j c9 t8R ⟨w8.heap.size, 0, none⟩ 1 [.int .i64 (k8 : Int)] rfl n8 (by intro u hu; simp at hu; subst hu; rfl) (int_new w.heap.size _ _ (k8 : Int) ⟨by omega, by omega⟩) (by omega) (by omega) (by omega) (Nat.le_trans hsd (Nat.le_trans hb8.size (by simp)))
              rw [if_pos (show Region.wanted _ _ = true by kernel_rfl)]
              refine Lib.wp_append_run_sl _ _ _ 63 rfl _ _ rfl rfl r9 ?_
              clear r9
              have hf9 : ∀ (b : Nat) (t : TypeId) (cs : Array Value), t ≠ 3 → Row (w8.alloc (.cells #[.int .i64 (k8 : Int)] 3)) b t cs → Row w9 b t cs := grown_row g9 hr9
              have C9 := hf9 _ _ _ (by decide) CR
              have R9 := hf9 _ _ _ (by decide) RR8
              have k9 : w9.cell? ⟨gx, 2, none⟩ = some (.slice A9 j c9) := C9.cell 2
              have f9 : w9.frozen? ⟨gx, 2, none⟩ = false := C9.frozen 2
              refine hK.out _ _ trivial (fun hHeld => ?_)
              clear hK K
              try simp only [ap]
              refine reg_take (i := 7) (v := ?v24) rfl (by kernel_rfl) (by kernel_rfl) (by kernel_rfl) (fun _ _ _ h => h) (Or.inl ⟨by kernel_rfl, ?h24⟩) trivial ?r24
              case h24 => (intro w hSw; (try dsimp only at hSw); go_simp; try with_reducible rfl)
              try simp only [ap]
              refine reg_call (i := 8) (by kernel_rfl) rfl (fun K hK => ?_)
              go_simp
              refine hK.out _ _ trivial (fun hHeld => ?_)
              clear hK K
              try simp only [ap]
              refine wpAnyH_done (by kernel_rfl) ?_ _
              have C10 := C9.set_ 2 (.slice A10 (j + 1) c10)
              have hB9 : ButR g w w9 := grown_but ((hBd.trans hb8).alloc hgw (.cells #[.int .i64 (k8 : Int)] 3)) g9 (fun b hb => (hr9 b hb).1)
              have h9 : RdAt w9 g l p8 := grown_rd (h8.below ((Below.refl _ w8).alloc (Nat.le_refl _) (.cells #[.int .i64 (k8 : Int)] 3)) h8.lt) g9 (fun b hb => Nat.lt_of_lt_of_le hgw (hr9 b hb).1)
              have t10 : TyI D w.heap.size (w9.setCell ⟨gx, 2, none⟩ (.slice A10 (j + 1) c10)) (.slice A10 (j + 1) c10) := TyI.far ty9 (fun b cur Rb => Below.heap_setCell _ _ _ b (by show b ≠ gx; intro e; subst e; exact row_ne Rb C9 (by decide)))
              have hB10 : ButR g w (w9.setCell ⟨gx, 2, none⟩ (.slice A10 (j + 1) c10)) := hB9.setNew hgw (by show w.heap.size ≤ gx; omega) _
              have h10 : RdAt (w9.setCell ⟨gx, 2, none⟩ (.slice A10 (j + 1) c10)) g l p8 := h9.below ((Below.refl gx _).setCell (p := ⟨gx, 2, none⟩) (Nat.le_refl _) _) hgx
              have R10 := R9.far (p := ⟨gx, 2, none⟩) (by show w.heap.size + 1 ≠ gx; omega) (.slice A10 (j + 1) c10)
              go_wp2_with fail
              go_roundw
              case rel => exact ⟨j + 1, p8, A10, c10, by omega, by go_num, by omega, h10, hB10, C10, R10, t10⟩
              case measure => simp [intOf]; omega
end Go.Proofs.Ytgcjccoglcgcoaa
