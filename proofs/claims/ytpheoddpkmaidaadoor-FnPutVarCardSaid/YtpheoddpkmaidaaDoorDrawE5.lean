/-
  What the draws answer: an expression, one in five bent. Condition: few numbers have been picked.
-/
import Derived.Test.YtpheoddpkmaidaaDoorDrawE4
namespace Go.Proofs.YtpheoddpkmaidaaDoor
open Go.RowKit Go.ChangeShapes Go.WideShapes Go.Deep
set_option linter.unusedSimpArgs false
set_option linter.unusedVariables false
/-- one more, behind a draw; then the box is written -/
theorem snoc_box {d : Nat} {w0 w1 w4 w5 : World} {base b : Nat} {v v' : Value} {l : List Ex} {xs : List Value} {p q : Nat → Nat} {a : Ex} {cs : List Value} {o : Obj} (own : w0.ownsRow base 25 (exT true d).size v l.length xs) (hp : PartsT (fun m => exT m d) w0 base v l xs p q)
    (hk : ∀ b, base ≤ b → b < w0.heap.size → w1.heap[b]? = w0.heap[b]?) (hs : w0.heap.size ≤ w1.heap.size) (hbase : base ≤ w0.heap.size) (hr : ∀ m, (exT m d).rep w1 w0.heap.size w1.heap.size a cs)
    (own4 : w4.ownsRow base 25 (exT true d).size v' (l.length + 1) (xs ++ cs)) (hgrow : (w1.alloc o).grownBy w4 v.ownBlock) (hat : v'.ownBlock = v.ownBlock ∨ v'.ownBlock = some (w1.alloc o).heap.size)
    (hb : b < w0.heap.size) (hq : ∀ (i : Nat) (a : Ex), l[i]? = some a → q i ≤ b) (hv : v.ownBlock ≠ some b) (h5 : ∀ x, x ≠ b → w5.heap[x]? = w4.heap[x]?) (hs5 : w4.heap.size ≤ w5.heap.size) : OwnT (fun m => exT m d) 25 w5 base v' (l ++ [a]) := by
  have hz : ((w1.alloc o).heap.size : Nat) = w1.heap.size + 1 := by simp
  have hsn := PartsT.snoc (s := w0.heap.size) (hp.keepT hk hs) (own_keep own hk) hbase hs (fun i a ha => (hp i a ha).2.1) (fun b hb => (own.lt b hb).2) hr hgrow hat
  refine ⟨xs ++ cs, (fun i => if i < l.length then p i else w0.heap.size), (fun i => if i < l.length then q i else w1.heap.size), ?_, fun i x hx => ?_⟩
  rotate_left
  · obtain ⟨c1, c2, c3, c4, c5, ds, hd, hds⟩ := hsn i x hx
    refine ⟨c1, Nat.le_trans c2 hs5, c3, c4, c5, ds, fun m => (exT m d).keep (hd m) (Nat.le_refl _) (Nat.le_refl _) (fun y h1 h2 => h5 y ?_), hds⟩
    rintro rfl
    by_cases hi : i < l.length
    · simp only [if_pos hi] at h2
      have := hq i _ (List.getElem?_eq_getElem hi)
      omega
    · simp only [if_neg hi] at h1
      omega
  · rw [List.length_append]
    refine ⟨own4.1, ?_⟩
    rcases own4.2 with h1 | ⟨g, cap, cur, h1, h2, h3, h4⟩
    · exact Or.inl h1
    · refine Or.inr ⟨g, cap, cur, h1, h2, (h5 g ?_).trans h3, h4⟩
      rintro rfl
      have e : v'.ownBlock = some g := by rw [h1]; rfl
      rcases hat with h | h
      · exact hv (h ▸ e)
      · rw [h] at e
        have := Option.some.inj e
        omega
set_option maxRecDepth 100000 in
set_option maxHeartbeats 16000000 in
theorem bent_ok (l : List UInt8) (g p : Nat) (w : World) (h : RdAt w g l p) (hp : p ≤ 800000) :
    Calls Tryd.prog 40 #[.pointer (some ⟨g, 0, none⟩)] w (DrE g l p 2000 9 w) := by
  have hk4 : kA 4 = 214 := rfl
  have hk7 : kA 7 = 1110 := rfl
  have hgw := h.lt
  have hbA : Below w.heap.size w (w.alloc (.cells #[.int .i64 0, .int .i64 0, .string ⟨#[]⟩, .slice none 0 0] 25)) := (Below.refl _ _).alloc (Nat.le_refl _) _
  have R0 : Row (w.alloc (.cells #[.int .i64 0, .int .i64 0, .string ⟨#[]⟩, .slice none 0 0] 25)) w.heap.size 25 #[.int .i64 0, .int .i64 0, .string ⟨#[]⟩, .slice none 0 0] := Row.new w _ _
  have hB0 : But g w (w.alloc (.cells #[.int .i64 0, .int .i64 0, .string ⟨#[]⟩, .slice none 0 0] 25)) := (But.refl w).alloc hgw _
  have h0 := h.below hbA hgw
  have hlt0 : w.heap.size < (w.alloc (.cells #[.int .i64 0, .int .i64 0, .string ⟨#[]⟩, .slice none 0 0] 25)).heap.size := by simp
  have hs1 : (w.alloc (.cells #[.int .i64 0, .int .i64 0, .string ⟨#[]⟩, .slice none 0 0] 25)).heap.size = w.heap.size + 1 := by simp
  go_enter Tryd.func40, Tryd.ntmps40
  go_wp2_with fail
  refine (any_ok 4 (by omega) 4 rfl l g p _ h0 (by omega)).mono ?_
  rintro e w2 ⟨p2, op, n, name, kids, A3, c3, rfl, h2, hp2, hb2, hE0⟩
  have hE2 : ExV 8 (w.heap.size + 1) op n name kids (.slice A3 kids.length c3) w2 := hE0.lower (Nat.le_refl _) (Nat.le_of_eq hs1.symm)
  have R2 := hb2.row R0 hgw
  have hB2 := hB0.trans hb2
  have hg2 := h2.lt
  have hsz2 : w.heap.size + 1 ≤ w2.heap.size := hs1 ▸ hb2.1.size
  have hlo2 : g < w.heap.size + 1 := by omega
  have st3 := (Below.refl _ w2).alloc (Nat.le_refl _) (.cells #[.int .i64 op, .int .i64 n, .string name, .slice A3 kids.length c3] 25)
  have B3 : Row (w2.alloc (.cells #[.int .i64 op, .int .i64 n, .string name, .slice A3 kids.length c3] 25)) w2.heap.size 25 #[.int .i64 op, .int .i64 n, .string name, .slice A3 kids.length c3] := Row.new _ _ _
  have h3 := h2.below st3 hg2
  clear hb2 hE0 R0 hB0
  go_wp2_with fail
  refine (pick_ok 20 (by omega) (by omega) l g p2 _ h3 (by omega)).mono ?_
  rintro e w4 ⟨v, p4, rfl, h4, hp4, hb4, k, hk, rfl⟩
  have R4 := hb4.row (R2.alloc (.cells #[.int .i64 op, .int .i64 n, .string name, .slice A3 kids.length c3] 25)) hgw
  have B4 := hb4.row B3 hg2
  have hB24 : But g w2 w4 := ((But.refl w2).alloc hg2 _).trans hb4
  have hB4 := hB2.trans hB24
  have hsz4 := B4.lt
  have hE4 := hE2.but hB24 hlo2
  clear R2 B3 hb4 st3 h3
  have z0 : w4.cell? ⟨w2.heap.size, 0, none⟩ = some (.int .i64 op) := B4.cell 0
  have z1 : w4.cell? ⟨w2.heap.size, 1, none⟩ = some (.int .i64 n) := B4.cell 1
  have z2 : w4.cell? ⟨w2.heap.size, 2, none⟩ = some (.string name) := B4.cell 2
  have z3 : w4.cell? ⟨w2.heap.size, 3, none⟩ = some (.slice A3 kids.length c3) := B4.cell 3
  have zf0 : w4.frozen? ⟨w2.heap.size, 0, none⟩ = false := B4.frozen 0
  have zf1 : w4.frozen? ⟨w2.heap.size, 1, none⟩ = false := B4.frozen 1
  have zf2 : w4.frozen? ⟨w2.heap.size, 2, none⟩ = false := B4.frozen 2
  have zf3 : w4.frozen? ⟨w2.heap.size, 3, none⟩ = false := B4.frozen 3
  by_cases k0 : k = 0
  · subst k0
    have L5 := lit_int w4 [-1, 256, 3] (i64_of (by decide)) (by decide)
    have st5 := (Below.refl _ w4).alloc (Nat.le_refl _) (.cells ([-1, 256, 3].map (Value.int .i64)).toArray 3)
    have hg4 := h4.lt
    go_wp2_with fail
    refine (num_ok [-1, 256, 3] (by decide) (by decide) I64 (i64_of (by decide)) _ _ _ l g p4 _ (h4.below st5 hg4) (by omega) L5 hg4 (Nat.le_refl _)).mono ?_
    rintro e w5 ⟨v, p5, rfl, h5, hp5, hb5, y, hy, rfl⟩
    have R5 := hb5.row (R4.alloc (.cells ([-1, 256, 3].map (Value.int .i64)).toArray 3)) hgw
    have B5 := hb5.row (B4.alloc (.cells ([-1, 256, 3].map (Value.int .i64)).toArray 3)) hg2
    have hB5 := (hB4.alloc hgw (.cells ([-1, 256, 3].map (Value.int .i64)).toArray 3)).trans hb5
    have hE5 := (hE4.keepT (fun b h1 h2 => Below.heap_alloc w4 (.cells ([-1, 256, 3].map (Value.int .i64)).toArray 3) b h2) st5.size).but hb5 hlo2
    have hsz5 := B5.lt
    have hgs := hg2
    have y0 : w5.cell? ⟨w2.heap.size, 0, none⟩ = some (.int .i64 op) := B5.cell 0
    have y1 : w5.cell? ⟨w2.heap.size, 1, none⟩ = some (.int .i64 n) := B5.cell 1
    have y2 : w5.cell? ⟨w2.heap.size, 2, none⟩ = some (.string name) := B5.cell 2
    have y3 : w5.cell? ⟨w2.heap.size, 3, none⟩ = some (.slice A3 kids.length c3) := B5.cell 3
    have yf0 : w5.frozen? ⟨w2.heap.size, 0, none⟩ = false := B5.frozen 0
    have yf1 : w5.frozen? ⟨w2.heap.size, 1, none⟩ = false := B5.frozen 1
    have yf2 : w5.frozen? ⟨w2.heap.size, 2, none⟩ = false := B5.frozen 2
    have yf3 : w5.frozen? ⟨w2.heap.size, 3, none⟩ = false := B5.frozen 3
    have R6 : Row (w5.setCell ⟨w2.heap.size, 1, none⟩ (.int .i64 y)) w.heap.size 25 #[.int .i64 0, .int .i64 0, .string ⟨#[]⟩, .slice none 0 0] := R5.far (by show w.heap.size ≠ w2.heap.size; omega) _
    have B6 := B5.set_ 1 (.int .i64 y)
    have s0 : (w5.setCell ⟨w2.heap.size, 1, none⟩ (.int .i64 y)).cell? ⟨w.heap.size, 0, none⟩ = some (.int .i64 0) := R6.cell 0
    have s1 : (w5.setCell ⟨w2.heap.size, 1, none⟩ (.int .i64 y)).cell? ⟨w.heap.size, 1, none⟩ = some (.int .i64 0) := R6.cell 1
    have s2 : (w5.setCell ⟨w2.heap.size, 1, none⟩ (.int .i64 y)).cell? ⟨w.heap.size, 2, none⟩ = some (.string ⟨#[]⟩) := R6.cell 2
    have s3 : (w5.setCell ⟨w2.heap.size, 1, none⟩ (.int .i64 y)).cell? ⟨w.heap.size, 3, none⟩ = some (.slice none 0 0) := R6.cell 3
    have sf0 : (w5.setCell ⟨w2.heap.size, 1, none⟩ (.int .i64 y)).frozen? ⟨w.heap.size, 0, none⟩ = false := R6.frozen 0
    have sf1 : (w5.setCell ⟨w2.heap.size, 1, none⟩ (.int .i64 y)).frozen? ⟨w.heap.size, 1, none⟩ = false := R6.frozen 1
    have sf2 : (w5.setCell ⟨w2.heap.size, 1, none⟩ (.int .i64 y)).frozen? ⟨w.heap.size, 2, none⟩ = false := R6.frozen 2
    have sf3 : (w5.setCell ⟨w2.heap.size, 1, none⟩ (.int .i64 y)).frozen? ⟨w.heap.size, 3, none⟩ = false := R6.frozen 3
    have x0 : (w5.setCell ⟨w2.heap.size, 1, none⟩ (.int .i64 y)).cell? ⟨w2.heap.size, 0, none⟩ = some (.int .i64 op) := B6.cell 0
    have x1 : (w5.setCell ⟨w2.heap.size, 1, none⟩ (.int .i64 y)).cell? ⟨w2.heap.size, 1, none⟩ = some (.int .i64 y) := B6.cell 1
    have x2 : (w5.setCell ⟨w2.heap.size, 1, none⟩ (.int .i64 y)).cell? ⟨w2.heap.size, 2, none⟩ = some (.string name) := B6.cell 2
    have x3 : (w5.setCell ⟨w2.heap.size, 1, none⟩ (.int .i64 y)).cell? ⟨w2.heap.size, 3, none⟩ = some (.slice A3 kids.length c3) := B6.cell 3
    have xf0 : (w5.setCell ⟨w2.heap.size, 1, none⟩ (.int .i64 y)).frozen? ⟨w2.heap.size, 0, none⟩ = false := B6.frozen 0
    have xf1 : (w5.setCell ⟨w2.heap.size, 1, none⟩ (.int .i64 y)).frozen? ⟨w2.heap.size, 1, none⟩ = false := B6.frozen 1
    have xf2 : (w5.setCell ⟨w2.heap.size, 1, none⟩ (.int .i64 y)).frozen? ⟨w2.heap.size, 2, none⟩ = false := B6.frozen 2
    have xf3 : (w5.setCell ⟨w2.heap.size, 1, none⟩ (.int .i64 y)).frozen? ⟨w2.heap.size, 3, none⟩ = false := B6.frozen 3
    have hE6 : ExV 8 (w.heap.size + 1) op n name kids (.slice A3 kids.length c3) (w5.setCell ⟨w2.heap.size, 1, none⟩ (.int .i64 y)) := hE2.keepT (fun b h1 h2 => (Below.heap_setCell _ _ _ b (by show b ≠ w2.heap.size; omega)).trans ((hB24.alloc hg2 (.cells ([-1, 256, 3].map (Value.int .i64)).toArray 3)).trans hb5 |>.2 b (by omega) h2)) (by simp only [World.setCell, Array.size_modify]; omega)
    have h6 : RdAt (w5.setCell ⟨w2.heap.size, 1, none⟩ (.int .i64 y)) g l p5 := h5.below ((Below.refl w2.heap.size _).setCell (p := ⟨w2.heap.size, 1, none⟩) (Nat.le_refl _) _) hg2
    have hB6 : But g w (w5.setCell ⟨w2.heap.size, 1, none⟩ (.int .i64 y)) := hB5.setNew hgw (by show w.heap.size ≤ w2.heap.size; omega) _
    have hE7 : ExV 8 (w.heap.size + 1) op y name kids (.slice A3 kids.length c3) (w5.setCell ⟨w2.heap.size, 1, none⟩ (.int .i64 y)) := ⟨hE6.1, hy, hE6.2.2.1, hE6.2.2.2.1, hE6.2.2.2.2⟩
    have F := Lib.hid (DrE.fin (p := p) (K := 2000) hgw h6 (by omega) hB6 (hE7.lower (show 8 ≤ 9 by omega) (Nat.le_refl _)) (Nat.lt_succ_self _))
    clear hE4 hE5 hE6 hE7 hE2 hB6 hB5 hb5 hB4 hB24 st5 L5
    go_wp2_with fail
    refine bodyPost_ret (v := .agg #[.int .i64 op, .int .i64 y, .string name, .slice A3 kids.length c3]) (by simp [results, Tryd.results40, go_sem, s0, s1, s2, s3]) rfl F.out
  have q0 : ((k : Int) == 0) = false := by simp; omega
  by_cases k1 : k = 1
  · subst k1
    have L5 := lit_str w4 [⟨#[]⟩, ⟨#[100, 111]⟩, ⟨#[65]⟩, ⟨#[97, 98, 99, 100, 101]⟩, ⟨#[113]⟩] (nm_ml (nm_all (by decide +kernel))) (by decide)
    have st5 := (Below.refl _ w4).alloc (Nat.le_refl _) (.cells (([⟨#[]⟩, ⟨#[100, 111]⟩, ⟨#[65]⟩, ⟨#[97, 98, 99, 100, 101]⟩, ⟨#[113]⟩] : List ByteArray).map Value.string).toArray 9)
    have hg4 := h4.lt
    go_wp2_with fail
    refine (of_ok [⟨#[]⟩, ⟨#[100, 111]⟩, ⟨#[65]⟩, ⟨#[97, 98, 99, 100, 101]⟩, ⟨#[113]⟩] (by decide) (by decide) NmOk (nm_all (by decide +kernel)) _ _ _ l g p4 _ (h4.below st5 hg4) (by omega) L5 hg4 (Nat.le_refl _)).mono ?_
    rintro e w5 ⟨v, p5, rfl, h5, hp5, hb5, y, hy, rfl⟩
    have R5 := hb5.row (R4.alloc (.cells (([⟨#[]⟩, ⟨#[100, 111]⟩, ⟨#[65]⟩, ⟨#[97, 98, 99, 100, 101]⟩, ⟨#[113]⟩] : List ByteArray).map Value.string).toArray 9)) hgw
    have B5 := hb5.row (B4.alloc (.cells (([⟨#[]⟩, ⟨#[100, 111]⟩, ⟨#[65]⟩, ⟨#[97, 98, 99, 100, 101]⟩, ⟨#[113]⟩] : List ByteArray).map Value.string).toArray 9)) hg2
    have hB5 := (hB4.alloc hgw (.cells (([⟨#[]⟩, ⟨#[100, 111]⟩, ⟨#[65]⟩, ⟨#[97, 98, 99, 100, 101]⟩, ⟨#[113]⟩] : List ByteArray).map Value.string).toArray 9)).trans hb5
    have hE5 := (hE4.keepT (fun b h1 h2 => Below.heap_alloc w4 (.cells (([⟨#[]⟩, ⟨#[100, 111]⟩, ⟨#[65]⟩, ⟨#[97, 98, 99, 100, 101]⟩, ⟨#[113]⟩] : List ByteArray).map Value.string).toArray 9) b h2) st5.size).but hb5 hlo2
    have hsz5 := B5.lt
    have hgs := hg2
    have y0 : w5.cell? ⟨w2.heap.size, 0, none⟩ = some (.int .i64 op) := B5.cell 0
    have y1 : w5.cell? ⟨w2.heap.size, 1, none⟩ = some (.int .i64 n) := B5.cell 1
    have y2 : w5.cell? ⟨w2.heap.size, 2, none⟩ = some (.string name) := B5.cell 2
    have y3 : w5.cell? ⟨w2.heap.size, 3, none⟩ = some (.slice A3 kids.length c3) := B5.cell 3
    have yf0 : w5.frozen? ⟨w2.heap.size, 0, none⟩ = false := B5.frozen 0
    have yf1 : w5.frozen? ⟨w2.heap.size, 1, none⟩ = false := B5.frozen 1
    have yf2 : w5.frozen? ⟨w2.heap.size, 2, none⟩ = false := B5.frozen 2
    have yf3 : w5.frozen? ⟨w2.heap.size, 3, none⟩ = false := B5.frozen 3
    have R6 : Row (w5.setCell ⟨w2.heap.size, 2, none⟩ (.string y)) w.heap.size 25 #[.int .i64 0, .int .i64 0, .string ⟨#[]⟩, .slice none 0 0] := R5.far (by show w.heap.size ≠ w2.heap.size; omega) _
    have B6 := B5.set_ 2 (.string y)
    have s0 : (w5.setCell ⟨w2.heap.size, 2, none⟩ (.string y)).cell? ⟨w.heap.size, 0, none⟩ = some (.int .i64 0) := R6.cell 0
    have s1 : (w5.setCell ⟨w2.heap.size, 2, none⟩ (.string y)).cell? ⟨w.heap.size, 1, none⟩ = some (.int .i64 0) := R6.cell 1
    have s2 : (w5.setCell ⟨w2.heap.size, 2, none⟩ (.string y)).cell? ⟨w.heap.size, 2, none⟩ = some (.string ⟨#[]⟩) := R6.cell 2
    have s3 : (w5.setCell ⟨w2.heap.size, 2, none⟩ (.string y)).cell? ⟨w.heap.size, 3, none⟩ = some (.slice none 0 0) := R6.cell 3
    have sf0 : (w5.setCell ⟨w2.heap.size, 2, none⟩ (.string y)).frozen? ⟨w.heap.size, 0, none⟩ = false := R6.frozen 0
    have sf1 : (w5.setCell ⟨w2.heap.size, 2, none⟩ (.string y)).frozen? ⟨w.heap.size, 1, none⟩ = false := R6.frozen 1
    have sf2 : (w5.setCell ⟨w2.heap.size, 2, none⟩ (.string y)).frozen? ⟨w.heap.size, 2, none⟩ = false := R6.frozen 2
    have sf3 : (w5.setCell ⟨w2.heap.size, 2, none⟩ (.string y)).frozen? ⟨w.heap.size, 3, none⟩ = false := R6.frozen 3
    have x0 : (w5.setCell ⟨w2.heap.size, 2, none⟩ (.string y)).cell? ⟨w2.heap.size, 0, none⟩ = some (.int .i64 op) := B6.cell 0
    have x1 : (w5.setCell ⟨w2.heap.size, 2, none⟩ (.string y)).cell? ⟨w2.heap.size, 1, none⟩ = some (.int .i64 n) := B6.cell 1
    have x2 : (w5.setCell ⟨w2.heap.size, 2, none⟩ (.string y)).cell? ⟨w2.heap.size, 2, none⟩ = some (.string y) := B6.cell 2
    have x3 : (w5.setCell ⟨w2.heap.size, 2, none⟩ (.string y)).cell? ⟨w2.heap.size, 3, none⟩ = some (.slice A3 kids.length c3) := B6.cell 3
    have xf0 : (w5.setCell ⟨w2.heap.size, 2, none⟩ (.string y)).frozen? ⟨w2.heap.size, 0, none⟩ = false := B6.frozen 0
    have xf1 : (w5.setCell ⟨w2.heap.size, 2, none⟩ (.string y)).frozen? ⟨w2.heap.size, 1, none⟩ = false := B6.frozen 1
    have xf2 : (w5.setCell ⟨w2.heap.size, 2, none⟩ (.string y)).frozen? ⟨w2.heap.size, 2, none⟩ = false := B6.frozen 2
    have xf3 : (w5.setCell ⟨w2.heap.size, 2, none⟩ (.string y)).frozen? ⟨w2.heap.size, 3, none⟩ = false := B6.frozen 3
    have hE6 : ExV 8 (w.heap.size + 1) op n name kids (.slice A3 kids.length c3) (w5.setCell ⟨w2.heap.size, 2, none⟩ (.string y)) := hE2.keepT (fun b h1 h2 => (Below.heap_setCell _ _ _ b (by show b ≠ w2.heap.size; omega)).trans ((hB24.alloc hg2 (.cells (([⟨#[]⟩, ⟨#[100, 111]⟩, ⟨#[65]⟩, ⟨#[97, 98, 99, 100, 101]⟩, ⟨#[113]⟩] : List ByteArray).map Value.string).toArray 9)).trans hb5 |>.2 b (by omega) h2)) (by simp only [World.setCell, Array.size_modify]; omega)
    have h6 : RdAt (w5.setCell ⟨w2.heap.size, 2, none⟩ (.string y)) g l p5 := h5.below ((Below.refl w2.heap.size _).setCell (p := ⟨w2.heap.size, 2, none⟩) (Nat.le_refl _) _) hg2
    have hB6 : But g w (w5.setCell ⟨w2.heap.size, 2, none⟩ (.string y)) := hB5.setNew hgw (by show w.heap.size ≤ w2.heap.size; omega) _
    have hE7 : ExV 8 (w.heap.size + 1) op n y kids (.slice A3 kids.length c3) (w5.setCell ⟨w2.heap.size, 2, none⟩ (.string y)) := ⟨hE6.1, hE6.2.1, hy.1, hy.2, hE6.2.2.2.2⟩
    have F := Lib.hid (DrE.fin (p := p) (K := 2000) hgw h6 (by omega) hB6 (hE7.lower (show 8 ≤ 9 by omega) (Nat.le_refl _)) (Nat.lt_succ_self _))
    clear hE4 hE5 hE6 hE7 hE2 hB6 hB5 hb5 hB4 hB24 st5 L5
    go_wp2_with fail
    refine bodyPost_ret (v := .agg #[.int .i64 op, .int .i64 n, .string y, .slice A3 kids.length c3]) (by simp [results, Tryd.results40, go_sem, s0, s1, s2, s3]) rfl F.out
  have q1 : ((k : Int) == 1) = false := by simp; omega
  by_cases k2 : k = 2
  · subst k2
    have L5 := lit_int w4 [0, 14, -1, 5, 11] (i64_of (by decide)) (by decide)
    have st5 := (Below.refl _ w4).alloc (Nat.le_refl _) (.cells ([0, 14, -1, 5, 11].map (Value.int .i64)).toArray 3)
    have hg4 := h4.lt
    go_wp2_with fail
    refine (num_ok [0, 14, -1, 5, 11] (by decide) (by decide) I64 (i64_of (by decide)) _ _ _ l g p4 _ (h4.below st5 hg4) (by omega) L5 hg4 (Nat.le_refl _)).mono ?_
    rintro e w5 ⟨v, p5, rfl, h5, hp5, hb5, y, hy, rfl⟩
    have R5 := hb5.row (R4.alloc (.cells ([0, 14, -1, 5, 11].map (Value.int .i64)).toArray 3)) hgw
    have B5 := hb5.row (B4.alloc (.cells ([0, 14, -1, 5, 11].map (Value.int .i64)).toArray 3)) hg2
    have hB5 := (hB4.alloc hgw (.cells ([0, 14, -1, 5, 11].map (Value.int .i64)).toArray 3)).trans hb5
    have hE5 := (hE4.keepT (fun b h1 h2 => Below.heap_alloc w4 (.cells ([0, 14, -1, 5, 11].map (Value.int .i64)).toArray 3) b h2) st5.size).but hb5 hlo2
    have hsz5 := B5.lt
    have hgs := hg2
    have y0 : w5.cell? ⟨w2.heap.size, 0, none⟩ = some (.int .i64 op) := B5.cell 0
    have y1 : w5.cell? ⟨w2.heap.size, 1, none⟩ = some (.int .i64 n) := B5.cell 1
    have y2 : w5.cell? ⟨w2.heap.size, 2, none⟩ = some (.string name) := B5.cell 2
    have y3 : w5.cell? ⟨w2.heap.size, 3, none⟩ = some (.slice A3 kids.length c3) := B5.cell 3
    have yf0 : w5.frozen? ⟨w2.heap.size, 0, none⟩ = false := B5.frozen 0
    have yf1 : w5.frozen? ⟨w2.heap.size, 1, none⟩ = false := B5.frozen 1
    have yf2 : w5.frozen? ⟨w2.heap.size, 2, none⟩ = false := B5.frozen 2
    have yf3 : w5.frozen? ⟨w2.heap.size, 3, none⟩ = false := B5.frozen 3
    have R6 : Row (w5.setCell ⟨w2.heap.size, 0, none⟩ (.int .i64 y)) w.heap.size 25 #[.int .i64 0, .int .i64 0, .string ⟨#[]⟩, .slice none 0 0] := R5.far (by show w.heap.size ≠ w2.heap.size; omega) _
    have B6 := B5.set_ 0 (.int .i64 y)
    have s0 : (w5.setCell ⟨w2.heap.size, 0, none⟩ (.int .i64 y)).cell? ⟨w.heap.size, 0, none⟩ = some (.int .i64 0) := R6.cell 0
    have s1 : (w5.setCell ⟨w2.heap.size, 0, none⟩ (.int .i64 y)).cell? ⟨w.heap.size, 1, none⟩ = some (.int .i64 0) := R6.cell 1
    have s2 : (w5.setCell ⟨w2.heap.size, 0, none⟩ (.int .i64 y)).cell? ⟨w.heap.size, 2, none⟩ = some (.string ⟨#[]⟩) := R6.cell 2
    have s3 : (w5.setCell ⟨w2.heap.size, 0, none⟩ (.int .i64 y)).cell? ⟨w.heap.size, 3, none⟩ = some (.slice none 0 0) := R6.cell 3
    have sf0 : (w5.setCell ⟨w2.heap.size, 0, none⟩ (.int .i64 y)).frozen? ⟨w.heap.size, 0, none⟩ = false := R6.frozen 0
    have sf1 : (w5.setCell ⟨w2.heap.size, 0, none⟩ (.int .i64 y)).frozen? ⟨w.heap.size, 1, none⟩ = false := R6.frozen 1
    have sf2 : (w5.setCell ⟨w2.heap.size, 0, none⟩ (.int .i64 y)).frozen? ⟨w.heap.size, 2, none⟩ = false := R6.frozen 2
    have sf3 : (w5.setCell ⟨w2.heap.size, 0, none⟩ (.int .i64 y)).frozen? ⟨w.heap.size, 3, none⟩ = false := R6.frozen 3
    have x0 : (w5.setCell ⟨w2.heap.size, 0, none⟩ (.int .i64 y)).cell? ⟨w2.heap.size, 0, none⟩ = some (.int .i64 y) := B6.cell 0
    have x1 : (w5.setCell ⟨w2.heap.size, 0, none⟩ (.int .i64 y)).cell? ⟨w2.heap.size, 1, none⟩ = some (.int .i64 n) := B6.cell 1
    have x2 : (w5.setCell ⟨w2.heap.size, 0, none⟩ (.int .i64 y)).cell? ⟨w2.heap.size, 2, none⟩ = some (.string name) := B6.cell 2
    have x3 : (w5.setCell ⟨w2.heap.size, 0, none⟩ (.int .i64 y)).cell? ⟨w2.heap.size, 3, none⟩ = some (.slice A3 kids.length c3) := B6.cell 3
    have xf0 : (w5.setCell ⟨w2.heap.size, 0, none⟩ (.int .i64 y)).frozen? ⟨w2.heap.size, 0, none⟩ = false := B6.frozen 0
    have xf1 : (w5.setCell ⟨w2.heap.size, 0, none⟩ (.int .i64 y)).frozen? ⟨w2.heap.size, 1, none⟩ = false := B6.frozen 1
    have xf2 : (w5.setCell ⟨w2.heap.size, 0, none⟩ (.int .i64 y)).frozen? ⟨w2.heap.size, 2, none⟩ = false := B6.frozen 2
    have xf3 : (w5.setCell ⟨w2.heap.size, 0, none⟩ (.int .i64 y)).frozen? ⟨w2.heap.size, 3, none⟩ = false := B6.frozen 3
    have hE6 : ExV 8 (w.heap.size + 1) op n name kids (.slice A3 kids.length c3) (w5.setCell ⟨w2.heap.size, 0, none⟩ (.int .i64 y)) := hE2.keepT (fun b h1 h2 => (Below.heap_setCell _ _ _ b (by show b ≠ w2.heap.size; omega)).trans ((hB24.alloc hg2 (.cells ([0, 14, -1, 5, 11].map (Value.int .i64)).toArray 3)).trans hb5 |>.2 b (by omega) h2)) (by simp only [World.setCell, Array.size_modify]; omega)
    have h6 : RdAt (w5.setCell ⟨w2.heap.size, 0, none⟩ (.int .i64 y)) g l p5 := h5.below ((Below.refl w2.heap.size _).setCell (p := ⟨w2.heap.size, 0, none⟩) (Nat.le_refl _) _) hg2
    have hB6 : But g w (w5.setCell ⟨w2.heap.size, 0, none⟩ (.int .i64 y)) := hB5.setNew hgw (by show w.heap.size ≤ w2.heap.size; omega) _
    have hE7 : ExV 8 (w.heap.size + 1) y n name kids (.slice A3 kids.length c3) (w5.setCell ⟨w2.heap.size, 0, none⟩ (.int .i64 y)) := ⟨hy, hE6.2.1, hE6.2.2.1, hE6.2.2.2.1, hE6.2.2.2.2⟩
    have F := Lib.hid (DrE.fin (p := p) (K := 2000) hgw h6 (by omega) hB6 (hE7.lower (show 8 ≤ 9 by omega) (Nat.le_refl _)) (Nat.lt_succ_self _))
    clear hE4 hE5 hE6 hE7 hE2 hB6 hB5 hb5 hB4 hB24 st5 L5
    go_wp2_with fail
    refine bodyPost_ret (v := .agg #[.int .i64 y, .int .i64 n, .string name, .slice A3 kids.length c3]) (by simp [results, Tryd.results40, go_sem, s0, s1, s2, s3]) rfl F.out
  have q2 : ((k : Int) == 2) = false := by simp; omega
  by_cases k3 : k = 3
  · subst k3
    go_wp2_with fail
    refine wp_region_held_drew (S := fun w' => True) (by kernel_rfl) ?_ (fun hHeld => ?_)
    · trivial
    generalize hwd : w4.drew = wd at hHeld ⊢
    have hRd : RdAt wd g l p4 := by rw [← hwd]; exact h4.below ((Below.refl g.succ w4).drew) (Nat.lt_succ_self _)
    have hgd := hRd.lt
    have hBd : But g w wd := by rw [← hwd]; exact ⟨hB4.1.drew, hB4.2⟩
    have hB2d : But g w2 wd := by rw [← hwd]; exact ⟨hB24.1.drew, hB24.2⟩
    have Rd : Row wd w.heap.size 25 #[.int .i64 0, .int .i64 0, .string ⟨#[]⟩, .slice none 0 0] := by rw [← hwd]; exact R4.drew
    have Bd : Row wd w2.heap.size 25 #[.int .i64 op, .int .i64 n, .string name, .slice A3 kids.length c3] := by rw [← hwd]; exact B4.drew
    have kd : wd.cell? ⟨w2.heap.size, 3, none⟩ = some (.slice A3 kids.length c3) := Bd.cell 3
    have hg2d : w2.heap.size < wd.heap.size := Bd.lt
    have hkl := hE2.2.2.2.2.2.1
    obtain ⟨xs, pp, qq, own0, hp0⟩ := hE2.2.2.2.2.2.2
    have hob : (Value.slice A3 kids.length c3).ownBlock ≠ some w2.heap.size := fun e => Nat.lt_irrefl _ (own0.lt _ e).2
    have ownd := own_keep (w' := wd) own0 (fun b h1 h2 => hB2d.2 b (by omega) h2)
    have hpd := hp0.keepT (w' := wd) (fun b h1 h2 => hB2d.2 b (by omega) h2) hB2d.1.size
    clear hwd R4 B4 hB4 hB24 hE4
    refine reg_take (i := 0) (v := ?v1) rfl (by kernel_rfl) (by kernel_rfl) (by kernel_rfl) (fun _ _ _ h => h) (Or.inl ⟨by kernel_rfl, ?h1⟩) trivial ?r1
    case h1 => (intro w hSw; (try dsimp only at hSw); go_simp; try with_reducible rfl)
    try simp only [Act.put, List.setIfInBounds_toArray, List.set_cons_zero, List.set_cons_succ]
    refine reg_take (i := 2) (v := ?v2) rfl (by kernel_rfl) (by kernel_rfl) (by kernel_rfl) (fun _ _ _ h => h) (Or.inl ⟨by kernel_rfl, ?h2⟩) trivial ?r2
    case h2 => (intro w hSw; (try dsimp only at hSw); go_simp; try with_reducible rfl)
    try simp only [Act.put, List.setIfInBounds_toArray, List.set_cons_zero, List.set_cons_succ]
    refine reg_call2 (i := 1) (j := 3) (by kernel_rfl) rfl rfl (fun K hK => ?_) (fun K hK => ?_)
    · go_simp
      refine hK.out _ _ trivial (fun hHeld => ?_)
      clear hK K
      try simp only [Act.put, List.setIfInBounds_toArray, List.set_cons_zero, List.set_cons_succ]
      refine reg_call (i := 3) (by kernel_rfl) rfl (fun K hK => ?_)
      go_simp
      refine (leaf_ok [] (fun s hs => by cases hs) (by decide) _ (g + 1) 0 l g p4 _ hRd (by omega) (Sl.nil_ _ _ _ _ _) (Nat.lt_succ_self _) (Nat.zero_le _) 7).mono ?_
      rintro e w8 ⟨p8, op', n', name', kids', A7, c7, rfl, h8, hp8, hb8, hE8⟩
      have B8 := hb8.row Bd hg2
      have own8 := own_keep ownd (fun b h1 h2 => hb8.2 b (by omega) h2)
      have sz8 := hb8.1.size
      have k8 : w8.cell? ⟨w2.heap.size, 3, none⟩ = some (.slice A3 kids.length c3) := B8.cell 3
      refine hK.out _ _ trivial (fun hHeld => ?_)
      clear hK K
      try simp only [Act.put, List.setIfInBounds_toArray, List.set_cons_zero, List.set_cons_succ]
      refine reg_call (i := 4) (by kernel_rfl) rfl (fun K hK => ?_)
      go_simp
      have BR := B8.alloc (.cells #[.int .i64 op', .int .i64 n', .string name', .slice A7 kids'.length c7] 25)
      have kR : (w8.alloc (.cells #[.int .i64 op', .int .i64 n', .string name', .slice A7 kids'.length c7] 25)).cell? ⟨w2.heap.size, 3, none⟩ = some (.slice A3 kids.length c3) := BR.cell 3
      refine hK.out _ _ trivial (fun hHeld => ?_)
      clear hK K
      try simp only [Act.put, List.setIfInBounds_toArray, List.set_cons_zero, List.set_cons_succ]
      refine reg_call (i := 5) (by kernel_rfl) rfl (fun K hK => ?_)
      obtain ⟨v9, w9, r9, own9, g9, hat9⟩ := append_one w8 (w.heap.size + 1) 23 (.slice A3 kids.length c3) kids.length xs own8 op' n' name' A7 kids'.length c7 (by omega) (by omega)
      rw [if_pos (show Region.wanted _ _ = true by kernel_rfl)]
      refine Lib.wp_append_run_sl _ _ _ 23 rfl _ _ rfl rfl r9 ?_
      clear r9
      obtain ⟨gv9, cv9, rfl⟩ := own_form own9 (Nat.succ_pos _)
      have hgr9 : Below (w.heap.size + 1) w8 w9 := ((Below.refl _ _).alloc (by omega) _).grown g9 (by simp; omega) (fun r hr => own_ge own8 hr)
      have B9 : Row w9 w2.heap.size 25 #[.int .i64 op, .int .i64 n, .string name, .slice A3 kids.length c3] := (g9.block w2.heap.size (by simp; omega) (fun e => hob e.symm)).trans (B8.alloc _)
      have k9 : w9.cell? ⟨w2.heap.size, 3, none⟩ = some (.slice A3 kids.length c3) := B9.cell 3
      have f9 : w9.frozen? ⟨w2.heap.size, 3, none⟩ = false := B9.frozen 3
      refine hK.out _ _ trivial (fun hHeld => ?_)
      clear hK K
      try simp only [Act.put, List.setIfInBounds_toArray, List.set_cons_zero, List.set_cons_succ]
      refine reg_take (i := 6) (v := ?v3) rfl (by kernel_rfl) (by kernel_rfl) (by kernel_rfl) (fun _ _ _ h => h) (Or.inl ⟨by kernel_rfl, ?h3⟩) trivial ?r3
      case h3 => (intro w hSw; (try dsimp only at hSw); go_simp; try with_reducible rfl)
      try simp only [Act.put, List.setIfInBounds_toArray, List.set_cons_zero, List.set_cons_succ]
      refine reg_call (i := 7) (by kernel_rfl) rfl (fun K hK => ?_)
      go_simp
      refine hK.out _ _ trivial (fun hHeld => ?_)
      clear hK K
      try simp only [Act.put, List.setIfInBounds_toArray, List.set_cons_zero, List.set_cons_succ]
      refine wpAnyH_done (by kernel_rfl) ?_ _
      have nz9 : ∀ k ∈ (kids ++ [Ex.mk op' n' name' kids']), NoZ k := by
        intro k hk
        rcases List.mem_append.1 hk with hk | hk
        · exact hE2.2.2.2.2.1 k hk
        · obtain rfl := List.mem_singleton.1 hk; exact hE8.noZ
      have hBw : But g w (w9.setCell ⟨w2.heap.size, 3, none⟩ (.slice (some ⟨gv9, 0, none⟩) (kids.length + 1) cv9)) := ((hBd.trans hb8).thenB (hgr9.mono (by omega)) hgw).setNew hgw (by show w.heap.size ≤ w2.heap.size; omega) _
      have R9 : Row (w9.setCell ⟨w2.heap.size, 3, none⟩ (.slice (some ⟨gv9, 0, none⟩) (kids.length + 1) cv9)) w.heap.size 25 #[.int .i64 0, .int .i64 0, .string ⟨#[]⟩, .slice none 0 0] := ((hb8.row Rd hgw).below hgr9 (by omega)).far (by show w.heap.size ≠ w2.heap.size; omega) _
      have B10 := B9.set_ 3 (.slice (some ⟨gv9, 0, none⟩) (kids.length + 1) cv9)
      have D9 : RdAt (w9.setCell ⟨w2.heap.size, 3, none⟩ (.slice (some ⟨gv9, 0, none⟩) (kids.length + 1) cv9)) g l p8 := (h8.below hgr9 (by omega)).below ((Below.refl w2.heap.size _).setCell (p := ⟨w2.heap.size, 3, none⟩) (Nat.le_refl _) _) (by omega)
      have own10 : OwnT (fun m => exT m 8) 25 (w9.setCell ⟨w2.heap.size, 3, none⟩ (.slice (some ⟨gv9, 0, none⟩) (kids.length + 1) cv9)) (w.heap.size + 1) (.slice (some ⟨gv9, 0, none⟩) (kids.length + 1) cv9) (kids ++ [Ex.mk op' n' name' kids']) := snoc_box (b := w2.heap.size) ownd hpd (fun b h1 h2 => hb8.2 b (by omega) h2) sz8 (by omega) (fun m => hE8.rep m) own9 g9 hat9 (by omega) (fun i a ha => (hp0 i a ha).2.1) hob (fun x hx => Below.heap_setCell _ _ _ x hx) (by simp [World.setCell])
      have hE9 : ExV 9 (w.heap.size + 1) op n name (kids ++ [Ex.mk op' n' name' kids']) (.slice (some ⟨gv9, 0, none⟩) (kids.length + 1) cv9) (w9.setCell ⟨w2.heap.size, 3, none⟩ (.slice (some ⟨gv9, 0, none⟩) (kids.length + 1) cv9)) := ⟨hE2.1, hE2.2.1, hE2.2.2.1, hE2.2.2.2.1, nz9, by rw [List.length_append]; simp only [List.length_singleton]; omega, own10.lift (show 8 ≤ 9 by omega)⟩
      have el : (kids ++ [Ex.mk op' n' name' kids']).length = kids.length + 1 := by simp
      have F := DrE.fin (p := p) (K := 2000) (A := some ⟨gv9, 0, none⟩) (c := cv9) (kids := (kids ++ [Ex.mk op' n' name' kids'])) hgw D9 (by omega) hBw (by rw [el]; exact hE9) (Nat.lt_succ_self _)
      rw [el] at F
      replace F := Lib.hid F
      have s0 : (w9.setCell ⟨w2.heap.size, 3, none⟩ (.slice (some ⟨gv9, 0, none⟩) (kids.length + 1) cv9)).cell? ⟨w.heap.size, 0, none⟩ = some (.int .i64 0) := R9.cell 0
      have s1 : (w9.setCell ⟨w2.heap.size, 3, none⟩ (.slice (some ⟨gv9, 0, none⟩) (kids.length + 1) cv9)).cell? ⟨w.heap.size, 1, none⟩ = some (.int .i64 0) := R9.cell 1
      have s2 : (w9.setCell ⟨w2.heap.size, 3, none⟩ (.slice (some ⟨gv9, 0, none⟩) (kids.length + 1) cv9)).cell? ⟨w.heap.size, 2, none⟩ = some (.string ⟨#[]⟩) := R9.cell 2
      have s3 : (w9.setCell ⟨w2.heap.size, 3, none⟩ (.slice (some ⟨gv9, 0, none⟩) (kids.length + 1) cv9)).cell? ⟨w.heap.size, 3, none⟩ = some (.slice none 0 0) := R9.cell 3
      have sf0 : (w9.setCell ⟨w2.heap.size, 3, none⟩ (.slice (some ⟨gv9, 0, none⟩) (kids.length + 1) cv9)).frozen? ⟨w.heap.size, 0, none⟩ = false := R9.frozen 0
      have sf1 : (w9.setCell ⟨w2.heap.size, 3, none⟩ (.slice (some ⟨gv9, 0, none⟩) (kids.length + 1) cv9)).frozen? ⟨w.heap.size, 1, none⟩ = false := R9.frozen 1
      have sf2 : (w9.setCell ⟨w2.heap.size, 3, none⟩ (.slice (some ⟨gv9, 0, none⟩) (kids.length + 1) cv9)).frozen? ⟨w.heap.size, 2, none⟩ = false := R9.frozen 2
      have sf3 : (w9.setCell ⟨w2.heap.size, 3, none⟩ (.slice (some ⟨gv9, 0, none⟩) (kids.length + 1) cv9)).frozen? ⟨w.heap.size, 3, none⟩ = false := R9.frozen 3
      have x0 : (w9.setCell ⟨w2.heap.size, 3, none⟩ (.slice (some ⟨gv9, 0, none⟩) (kids.length + 1) cv9)).cell? ⟨w2.heap.size, 0, none⟩ = some (.int .i64 op) := B10.cell 0
      have x1 : (w9.setCell ⟨w2.heap.size, 3, none⟩ (.slice (some ⟨gv9, 0, none⟩) (kids.length + 1) cv9)).cell? ⟨w2.heap.size, 1, none⟩ = some (.int .i64 n) := B10.cell 1
      have x2 : (w9.setCell ⟨w2.heap.size, 3, none⟩ (.slice (some ⟨gv9, 0, none⟩) (kids.length + 1) cv9)).cell? ⟨w2.heap.size, 2, none⟩ = some (.string name) := B10.cell 2
      have x3 : (w9.setCell ⟨w2.heap.size, 3, none⟩ (.slice (some ⟨gv9, 0, none⟩) (kids.length + 1) cv9)).cell? ⟨w2.heap.size, 3, none⟩ = some (.slice (some ⟨gv9, 0, none⟩) (kids.length + 1) cv9) := B10.cell 3
      have xf0 : (w9.setCell ⟨w2.heap.size, 3, none⟩ (.slice (some ⟨gv9, 0, none⟩) (kids.length + 1) cv9)).frozen? ⟨w2.heap.size, 0, none⟩ = false := B10.frozen 0
      have xf1 : (w9.setCell ⟨w2.heap.size, 3, none⟩ (.slice (some ⟨gv9, 0, none⟩) (kids.length + 1) cv9)).frozen? ⟨w2.heap.size, 1, none⟩ = false := B10.frozen 1
      have xf2 : (w9.setCell ⟨w2.heap.size, 3, none⟩ (.slice (some ⟨gv9, 0, none⟩) (kids.length + 1) cv9)).frozen? ⟨w2.heap.size, 2, none⟩ = false := B10.frozen 2
      have xf3 : (w9.setCell ⟨w2.heap.size, 3, none⟩ (.slice (some ⟨gv9, 0, none⟩) (kids.length + 1) cv9)).frozen? ⟨w2.heap.size, 3, none⟩ = false := B10.frozen 3
      clear own9 g9 hat9 hgr9 B9 k9 f9 own10 hE9 nz9 hBw own8 k8 kR BR
      go_wp2_with fail
      refine bodyPost_ret (v := .agg #[.int .i64 op, .int .i64 n, .string name, .slice (some ⟨gv9, 0, none⟩) (kids.length + 1) cv9]) (by simp [results, Tryd.results40, go_sem, s0, s1, s2, s3]) rfl F.out
    · go_simp
      refine (leaf_ok [] (fun s hs => by cases hs) (by decide) _ (g + 1) 0 l g p4 _ hRd (by omega) (Sl.nil_ _ _ _ _ _) (Nat.lt_succ_self _) (Nat.zero_le _) 7).mono ?_
      rintro e w8 ⟨p8, op', n', name', kids', A7, c7, rfl, h8, hp8, hb8, hE8⟩
      have B8 := hb8.row Bd hg2
      have own8 := own_keep ownd (fun b h1 h2 => hb8.2 b (by omega) h2)
      have sz8 := hb8.1.size
      have k8 : w8.cell? ⟨w2.heap.size, 3, none⟩ = some (.slice A3 kids.length c3) := B8.cell 3
      refine hK.out _ _ trivial (fun hHeld => ?_)
      clear hK K
      try simp only [Act.put, List.setIfInBounds_toArray, List.set_cons_zero, List.set_cons_succ]
      refine reg_call2 (i := 1) (j := 4) (by kernel_rfl) rfl rfl (fun K hK => ?_) (fun K hK => ?_)
      · go_simp
        refine hK.out _ _ trivial (fun hHeld => ?_)
        clear hK K
        try simp only [Act.put, List.setIfInBounds_toArray, List.set_cons_zero, List.set_cons_succ]
        refine reg_call (i := 4) (by kernel_rfl) rfl (fun K hK => ?_)
        go_simp
        have BR := B8.alloc (.cells #[.int .i64 op', .int .i64 n', .string name', .slice A7 kids'.length c7] 25)
        have kR : (w8.alloc (.cells #[.int .i64 op', .int .i64 n', .string name', .slice A7 kids'.length c7] 25)).cell? ⟨w2.heap.size, 3, none⟩ = some (.slice A3 kids.length c3) := BR.cell 3
        refine hK.out _ _ trivial (fun hHeld => ?_)
        clear hK K
        try simp only [Act.put, List.setIfInBounds_toArray, List.set_cons_zero, List.set_cons_succ]
        refine reg_call (i := 5) (by kernel_rfl) rfl (fun K hK => ?_)
        obtain ⟨v9, w9, r9, own9, g9, hat9⟩ := append_one w8 (w.heap.size + 1) 23 (.slice A3 kids.length c3) kids.length xs own8 op' n' name' A7 kids'.length c7 (by omega) (by omega)
        rw [if_pos (show Region.wanted _ _ = true by kernel_rfl)]
        refine Lib.wp_append_run_sl _ _ _ 23 rfl _ _ rfl rfl r9 ?_
        clear r9
        obtain ⟨gv9, cv9, rfl⟩ := own_form own9 (Nat.succ_pos _)
        have hgr9 : Below (w.heap.size + 1) w8 w9 := ((Below.refl _ _).alloc (by omega) _).grown g9 (by simp; omega) (fun r hr => own_ge own8 hr)
        have B9 : Row w9 w2.heap.size 25 #[.int .i64 op, .int .i64 n, .string name, .slice A3 kids.length c3] := (g9.block w2.heap.size (by simp; omega) (fun e => hob e.symm)).trans (B8.alloc _)
        have k9 : w9.cell? ⟨w2.heap.size, 3, none⟩ = some (.slice A3 kids.length c3) := B9.cell 3
        have f9 : w9.frozen? ⟨w2.heap.size, 3, none⟩ = false := B9.frozen 3
        refine hK.out _ _ trivial (fun hHeld => ?_)
        clear hK K
        try simp only [Act.put, List.setIfInBounds_toArray, List.set_cons_zero, List.set_cons_succ]
        refine reg_take (i := 6) (v := ?v4) rfl (by kernel_rfl) (by kernel_rfl) (by kernel_rfl) (fun _ _ _ h => h) (Or.inl ⟨by kernel_rfl, ?h4⟩) trivial ?r4
        case h4 => (intro w hSw; (try dsimp only at hSw); go_simp; try with_reducible rfl)
        try simp only [Act.put, List.setIfInBounds_toArray, List.set_cons_zero, List.set_cons_succ]
        refine reg_call (i := 7) (by kernel_rfl) rfl (fun K hK => ?_)
        go_simp
        refine hK.out _ _ trivial (fun hHeld => ?_)
        clear hK K
        try simp only [Act.put, List.setIfInBounds_toArray, List.set_cons_zero, List.set_cons_succ]
        refine wpAnyH_done (by kernel_rfl) ?_ _
        have nz9 : ∀ k ∈ (kids ++ [Ex.mk op' n' name' kids']), NoZ k := by
          intro k hk
          rcases List.mem_append.1 hk with hk | hk
          · exact hE2.2.2.2.2.1 k hk
          · obtain rfl := List.mem_singleton.1 hk; exact hE8.noZ
        have hBw : But g w (w9.setCell ⟨w2.heap.size, 3, none⟩ (.slice (some ⟨gv9, 0, none⟩) (kids.length + 1) cv9)) := ((hBd.trans hb8).thenB (hgr9.mono (by omega)) hgw).setNew hgw (by show w.heap.size ≤ w2.heap.size; omega) _
        have R9 : Row (w9.setCell ⟨w2.heap.size, 3, none⟩ (.slice (some ⟨gv9, 0, none⟩) (kids.length + 1) cv9)) w.heap.size 25 #[.int .i64 0, .int .i64 0, .string ⟨#[]⟩, .slice none 0 0] := ((hb8.row Rd hgw).below hgr9 (by omega)).far (by show w.heap.size ≠ w2.heap.size; omega) _
        have B10 := B9.set_ 3 (.slice (some ⟨gv9, 0, none⟩) (kids.length + 1) cv9)
        have D9 : RdAt (w9.setCell ⟨w2.heap.size, 3, none⟩ (.slice (some ⟨gv9, 0, none⟩) (kids.length + 1) cv9)) g l p8 := (h8.below hgr9 (by omega)).below ((Below.refl w2.heap.size _).setCell (p := ⟨w2.heap.size, 3, none⟩) (Nat.le_refl _) _) (by omega)
        have own10 : OwnT (fun m => exT m 8) 25 (w9.setCell ⟨w2.heap.size, 3, none⟩ (.slice (some ⟨gv9, 0, none⟩) (kids.length + 1) cv9)) (w.heap.size + 1) (.slice (some ⟨gv9, 0, none⟩) (kids.length + 1) cv9) (kids ++ [Ex.mk op' n' name' kids']) := snoc_box (b := w2.heap.size) ownd hpd (fun b h1 h2 => hb8.2 b (by omega) h2) sz8 (by omega) (fun m => hE8.rep m) own9 g9 hat9 (by omega) (fun i a ha => (hp0 i a ha).2.1) hob (fun x hx => Below.heap_setCell _ _ _ x hx) (by simp [World.setCell])
        have hE9 : ExV 9 (w.heap.size + 1) op n name (kids ++ [Ex.mk op' n' name' kids']) (.slice (some ⟨gv9, 0, none⟩) (kids.length + 1) cv9) (w9.setCell ⟨w2.heap.size, 3, none⟩ (.slice (some ⟨gv9, 0, none⟩) (kids.length + 1) cv9)) := ⟨hE2.1, hE2.2.1, hE2.2.2.1, hE2.2.2.2.1, nz9, by rw [List.length_append]; simp only [List.length_singleton]; omega, own10.lift (show 8 ≤ 9 by omega)⟩
        have el : (kids ++ [Ex.mk op' n' name' kids']).length = kids.length + 1 := by simp
        have F := DrE.fin (p := p) (K := 2000) (A := some ⟨gv9, 0, none⟩) (c := cv9) (kids := (kids ++ [Ex.mk op' n' name' kids'])) hgw D9 (by omega) hBw (by rw [el]; exact hE9) (Nat.lt_succ_self _)
        rw [el] at F
        replace F := Lib.hid F
        have s0 : (w9.setCell ⟨w2.heap.size, 3, none⟩ (.slice (some ⟨gv9, 0, none⟩) (kids.length + 1) cv9)).cell? ⟨w.heap.size, 0, none⟩ = some (.int .i64 0) := R9.cell 0
        have s1 : (w9.setCell ⟨w2.heap.size, 3, none⟩ (.slice (some ⟨gv9, 0, none⟩) (kids.length + 1) cv9)).cell? ⟨w.heap.size, 1, none⟩ = some (.int .i64 0) := R9.cell 1
        have s2 : (w9.setCell ⟨w2.heap.size, 3, none⟩ (.slice (some ⟨gv9, 0, none⟩) (kids.length + 1) cv9)).cell? ⟨w.heap.size, 2, none⟩ = some (.string ⟨#[]⟩) := R9.cell 2
        have s3 : (w9.setCell ⟨w2.heap.size, 3, none⟩ (.slice (some ⟨gv9, 0, none⟩) (kids.length + 1) cv9)).cell? ⟨w.heap.size, 3, none⟩ = some (.slice none 0 0) := R9.cell 3
        have sf0 : (w9.setCell ⟨w2.heap.size, 3, none⟩ (.slice (some ⟨gv9, 0, none⟩) (kids.length + 1) cv9)).frozen? ⟨w.heap.size, 0, none⟩ = false := R9.frozen 0
        have sf1 : (w9.setCell ⟨w2.heap.size, 3, none⟩ (.slice (some ⟨gv9, 0, none⟩) (kids.length + 1) cv9)).frozen? ⟨w.heap.size, 1, none⟩ = false := R9.frozen 1
        have sf2 : (w9.setCell ⟨w2.heap.size, 3, none⟩ (.slice (some ⟨gv9, 0, none⟩) (kids.length + 1) cv9)).frozen? ⟨w.heap.size, 2, none⟩ = false := R9.frozen 2
        have sf3 : (w9.setCell ⟨w2.heap.size, 3, none⟩ (.slice (some ⟨gv9, 0, none⟩) (kids.length + 1) cv9)).frozen? ⟨w.heap.size, 3, none⟩ = false := R9.frozen 3
        have x0 : (w9.setCell ⟨w2.heap.size, 3, none⟩ (.slice (some ⟨gv9, 0, none⟩) (kids.length + 1) cv9)).cell? ⟨w2.heap.size, 0, none⟩ = some (.int .i64 op) := B10.cell 0
        have x1 : (w9.setCell ⟨w2.heap.size, 3, none⟩ (.slice (some ⟨gv9, 0, none⟩) (kids.length + 1) cv9)).cell? ⟨w2.heap.size, 1, none⟩ = some (.int .i64 n) := B10.cell 1
        have x2 : (w9.setCell ⟨w2.heap.size, 3, none⟩ (.slice (some ⟨gv9, 0, none⟩) (kids.length + 1) cv9)).cell? ⟨w2.heap.size, 2, none⟩ = some (.string name) := B10.cell 2
        have x3 : (w9.setCell ⟨w2.heap.size, 3, none⟩ (.slice (some ⟨gv9, 0, none⟩) (kids.length + 1) cv9)).cell? ⟨w2.heap.size, 3, none⟩ = some (.slice (some ⟨gv9, 0, none⟩) (kids.length + 1) cv9) := B10.cell 3
        have xf0 : (w9.setCell ⟨w2.heap.size, 3, none⟩ (.slice (some ⟨gv9, 0, none⟩) (kids.length + 1) cv9)).frozen? ⟨w2.heap.size, 0, none⟩ = false := B10.frozen 0
        have xf1 : (w9.setCell ⟨w2.heap.size, 3, none⟩ (.slice (some ⟨gv9, 0, none⟩) (kids.length + 1) cv9)).frozen? ⟨w2.heap.size, 1, none⟩ = false := B10.frozen 1
        have xf2 : (w9.setCell ⟨w2.heap.size, 3, none⟩ (.slice (some ⟨gv9, 0, none⟩) (kids.length + 1) cv9)).frozen? ⟨w2.heap.size, 2, none⟩ = false := B10.frozen 2
        have xf3 : (w9.setCell ⟨w2.heap.size, 3, none⟩ (.slice (some ⟨gv9, 0, none⟩) (kids.length + 1) cv9)).frozen? ⟨w2.heap.size, 3, none⟩ = false := B10.frozen 3
        clear own9 g9 hat9 hgr9 B9 k9 f9 own10 hE9 nz9 hBw own8 k8 kR BR
        go_wp2_with fail
        refine bodyPost_ret (v := .agg #[.int .i64 op, .int .i64 n, .string name, .slice (some ⟨gv9, 0, none⟩) (kids.length + 1) cv9]) (by simp [results, Tryd.results40, go_sem, s0, s1, s2, s3]) rfl F.out
      · go_simp
        have BR := B8.alloc (.cells #[.int .i64 op', .int .i64 n', .string name', .slice A7 kids'.length c7] 25)
        have kR : (w8.alloc (.cells #[.int .i64 op', .int .i64 n', .string name', .slice A7 kids'.length c7] 25)).cell? ⟨w2.heap.size, 3, none⟩ = some (.slice A3 kids.length c3) := BR.cell 3
        refine hK.out _ _ trivial (fun hHeld => ?_)
        clear hK K
        try simp only [Act.put, List.setIfInBounds_toArray, List.set_cons_zero, List.set_cons_succ]
        refine reg_call (i := 1) (by kernel_rfl) rfl (fun K hK => ?_)
        go_simp
        refine hK.out _ _ trivial (fun hHeld => ?_)
        clear hK K
        try simp only [Act.put, List.setIfInBounds_toArray, List.set_cons_zero, List.set_cons_succ]
        refine reg_call (i := 5) (by kernel_rfl) rfl (fun K hK => ?_)
        obtain ⟨v9, w9, r9, own9, g9, hat9⟩ := append_one w8 (w.heap.size + 1) 23 (.slice A3 kids.length c3) kids.length xs own8 op' n' name' A7 kids'.length c7 (by omega) (by omega)
        rw [if_pos (show Region.wanted _ _ = true by kernel_rfl)]
        refine Lib.wp_append_run_sl _ _ _ 23 rfl _ _ rfl rfl r9 ?_
        clear r9
        obtain ⟨gv9, cv9, rfl⟩ := own_form own9 (Nat.succ_pos _)
        have hgr9 : Below (w.heap.size + 1) w8 w9 := ((Below.refl _ _).alloc (by omega) _).grown g9 (by simp; omega) (fun r hr => own_ge own8 hr)
        have B9 : Row w9 w2.heap.size 25 #[.int .i64 op, .int .i64 n, .string name, .slice A3 kids.length c3] := (g9.block w2.heap.size (by simp; omega) (fun e => hob e.symm)).trans (B8.alloc _)
        have k9 : w9.cell? ⟨w2.heap.size, 3, none⟩ = some (.slice A3 kids.length c3) := B9.cell 3
        have f9 : w9.frozen? ⟨w2.heap.size, 3, none⟩ = false := B9.frozen 3
        refine hK.out _ _ trivial (fun hHeld => ?_)
        clear hK K
        try simp only [Act.put, List.setIfInBounds_toArray, List.set_cons_zero, List.set_cons_succ]
        refine reg_take (i := 6) (v := ?v5) rfl (by kernel_rfl) (by kernel_rfl) (by kernel_rfl) (fun _ _ _ h => h) (Or.inl ⟨by kernel_rfl, ?h5⟩) trivial ?r5
        case h5 => (intro w hSw; (try dsimp only at hSw); go_simp; try with_reducible rfl)
        try simp only [Act.put, List.setIfInBounds_toArray, List.set_cons_zero, List.set_cons_succ]
        refine reg_call (i := 7) (by kernel_rfl) rfl (fun K hK => ?_)
        go_simp
        refine hK.out _ _ trivial (fun hHeld => ?_)
        clear hK K
        try simp only [Act.put, List.setIfInBounds_toArray, List.set_cons_zero, List.set_cons_succ]
        refine wpAnyH_done (by kernel_rfl) ?_ _
        have nz9 : ∀ k ∈ (kids ++ [Ex.mk op' n' name' kids']), NoZ k := by
          intro k hk
          rcases List.mem_append.1 hk with hk | hk
          · exact hE2.2.2.2.2.1 k hk
          · obtain rfl := List.mem_singleton.1 hk; exact hE8.noZ
        have hBw : But g w (w9.setCell ⟨w2.heap.size, 3, none⟩ (.slice (some ⟨gv9, 0, none⟩) (kids.length + 1) cv9)) := ((hBd.trans hb8).thenB (hgr9.mono (by omega)) hgw).setNew hgw (by show w.heap.size ≤ w2.heap.size; omega) _
        have R9 : Row (w9.setCell ⟨w2.heap.size, 3, none⟩ (.slice (some ⟨gv9, 0, none⟩) (kids.length + 1) cv9)) w.heap.size 25 #[.int .i64 0, .int .i64 0, .string ⟨#[]⟩, .slice none 0 0] := ((hb8.row Rd hgw).below hgr9 (by omega)).far (by show w.heap.size ≠ w2.heap.size; omega) _
        have B10 := B9.set_ 3 (.slice (some ⟨gv9, 0, none⟩) (kids.length + 1) cv9)
        have D9 : RdAt (w9.setCell ⟨w2.heap.size, 3, none⟩ (.slice (some ⟨gv9, 0, none⟩) (kids.length + 1) cv9)) g l p8 := (h8.below hgr9 (by omega)).below ((Below.refl w2.heap.size _).setCell (p := ⟨w2.heap.size, 3, none⟩) (Nat.le_refl _) _) (by omega)
        have own10 : OwnT (fun m => exT m 8) 25 (w9.setCell ⟨w2.heap.size, 3, none⟩ (.slice (some ⟨gv9, 0, none⟩) (kids.length + 1) cv9)) (w.heap.size + 1) (.slice (some ⟨gv9, 0, none⟩) (kids.length + 1) cv9) (kids ++ [Ex.mk op' n' name' kids']) := snoc_box (b := w2.heap.size) ownd hpd (fun b h1 h2 => hb8.2 b (by omega) h2) sz8 (by omega) (fun m => hE8.rep m) own9 g9 hat9 (by omega) (fun i a ha => (hp0 i a ha).2.1) hob (fun x hx => Below.heap_setCell _ _ _ x hx) (by simp [World.setCell])
        have hE9 : ExV 9 (w.heap.size + 1) op n name (kids ++ [Ex.mk op' n' name' kids']) (.slice (some ⟨gv9, 0, none⟩) (kids.length + 1) cv9) (w9.setCell ⟨w2.heap.size, 3, none⟩ (.slice (some ⟨gv9, 0, none⟩) (kids.length + 1) cv9)) := ⟨hE2.1, hE2.2.1, hE2.2.2.1, hE2.2.2.2.1, nz9, by rw [List.length_append]; simp only [List.length_singleton]; omega, own10.lift (show 8 ≤ 9 by omega)⟩
        have el : (kids ++ [Ex.mk op' n' name' kids']).length = kids.length + 1 := by simp
        have F := DrE.fin (p := p) (K := 2000) (A := some ⟨gv9, 0, none⟩) (c := cv9) (kids := (kids ++ [Ex.mk op' n' name' kids'])) hgw D9 (by omega) hBw (by rw [el]; exact hE9) (Nat.lt_succ_self _)
        rw [el] at F
        replace F := Lib.hid F
        have s0 : (w9.setCell ⟨w2.heap.size, 3, none⟩ (.slice (some ⟨gv9, 0, none⟩) (kids.length + 1) cv9)).cell? ⟨w.heap.size, 0, none⟩ = some (.int .i64 0) := R9.cell 0
        have s1 : (w9.setCell ⟨w2.heap.size, 3, none⟩ (.slice (some ⟨gv9, 0, none⟩) (kids.length + 1) cv9)).cell? ⟨w.heap.size, 1, none⟩ = some (.int .i64 0) := R9.cell 1
        have s2 : (w9.setCell ⟨w2.heap.size, 3, none⟩ (.slice (some ⟨gv9, 0, none⟩) (kids.length + 1) cv9)).cell? ⟨w.heap.size, 2, none⟩ = some (.string ⟨#[]⟩) := R9.cell 2
        have s3 : (w9.setCell ⟨w2.heap.size, 3, none⟩ (.slice (some ⟨gv9, 0, none⟩) (kids.length + 1) cv9)).cell? ⟨w.heap.size, 3, none⟩ = some (.slice none 0 0) := R9.cell 3
        have sf0 : (w9.setCell ⟨w2.heap.size, 3, none⟩ (.slice (some ⟨gv9, 0, none⟩) (kids.length + 1) cv9)).frozen? ⟨w.heap.size, 0, none⟩ = false := R9.frozen 0
        have sf1 : (w9.setCell ⟨w2.heap.size, 3, none⟩ (.slice (some ⟨gv9, 0, none⟩) (kids.length + 1) cv9)).frozen? ⟨w.heap.size, 1, none⟩ = false := R9.frozen 1
        have sf2 : (w9.setCell ⟨w2.heap.size, 3, none⟩ (.slice (some ⟨gv9, 0, none⟩) (kids.length + 1) cv9)).frozen? ⟨w.heap.size, 2, none⟩ = false := R9.frozen 2
        have sf3 : (w9.setCell ⟨w2.heap.size, 3, none⟩ (.slice (some ⟨gv9, 0, none⟩) (kids.length + 1) cv9)).frozen? ⟨w.heap.size, 3, none⟩ = false := R9.frozen 3
        have x0 : (w9.setCell ⟨w2.heap.size, 3, none⟩ (.slice (some ⟨gv9, 0, none⟩) (kids.length + 1) cv9)).cell? ⟨w2.heap.size, 0, none⟩ = some (.int .i64 op) := B10.cell 0
        have x1 : (w9.setCell ⟨w2.heap.size, 3, none⟩ (.slice (some ⟨gv9, 0, none⟩) (kids.length + 1) cv9)).cell? ⟨w2.heap.size, 1, none⟩ = some (.int .i64 n) := B10.cell 1
        have x2 : (w9.setCell ⟨w2.heap.size, 3, none⟩ (.slice (some ⟨gv9, 0, none⟩) (kids.length + 1) cv9)).cell? ⟨w2.heap.size, 2, none⟩ = some (.string name) := B10.cell 2
        have x3 : (w9.setCell ⟨w2.heap.size, 3, none⟩ (.slice (some ⟨gv9, 0, none⟩) (kids.length + 1) cv9)).cell? ⟨w2.heap.size, 3, none⟩ = some (.slice (some ⟨gv9, 0, none⟩) (kids.length + 1) cv9) := B10.cell 3
        have xf0 : (w9.setCell ⟨w2.heap.size, 3, none⟩ (.slice (some ⟨gv9, 0, none⟩) (kids.length + 1) cv9)).frozen? ⟨w2.heap.size, 0, none⟩ = false := B10.frozen 0
        have xf1 : (w9.setCell ⟨w2.heap.size, 3, none⟩ (.slice (some ⟨gv9, 0, none⟩) (kids.length + 1) cv9)).frozen? ⟨w2.heap.size, 1, none⟩ = false := B10.frozen 1
        have xf2 : (w9.setCell ⟨w2.heap.size, 3, none⟩ (.slice (some ⟨gv9, 0, none⟩) (kids.length + 1) cv9)).frozen? ⟨w2.heap.size, 2, none⟩ = false := B10.frozen 2
        have xf3 : (w9.setCell ⟨w2.heap.size, 3, none⟩ (.slice (some ⟨gv9, 0, none⟩) (kids.length + 1) cv9)).frozen? ⟨w2.heap.size, 3, none⟩ = false := B10.frozen 3
        clear own9 g9 hat9 hgr9 B9 k9 f9 own10 hE9 nz9 hBw own8 k8 kR BR
        go_wp2_with fail
        refine bodyPost_ret (v := .agg #[.int .i64 op, .int .i64 n, .string name, .slice (some ⟨gv9, 0, none⟩) (kids.length + 1) cv9]) (by simp [results, Tryd.results40, go_sem, s0, s1, s2, s3]) rfl F.out
  have q3 : ((k : Int) == 3) = false := by simp; omega
  by_cases k4 : k = 4
  · subst k4
    go_wp2_with fail
    refine (any_ok 7 (by omega) 7 rfl l g p4 _ h4 (by omega)).mono ?_
    rintro e w5 ⟨p5, op', n', name', kids', A7, c7, rfl, h5, hp5, hb5, hE5⟩
    have R5 := hb5.row R4 hgw
    have B5 := hb5.row B4 hg2
    have hB5 := hB4.trans hb5
    have sz5 := hb5.1.size
    have y0 : w5.cell? ⟨w2.heap.size, 0, none⟩ = some (.int .i64 op) := B5.cell 0
    have y1 : w5.cell? ⟨w2.heap.size, 1, none⟩ = some (.int .i64 n) := B5.cell 1
    have y2 : w5.cell? ⟨w2.heap.size, 2, none⟩ = some (.string name) := B5.cell 2
    have y3 : w5.cell? ⟨w2.heap.size, 3, none⟩ = some (.slice A3 kids.length c3) := B5.cell 3
    have yf0 : w5.frozen? ⟨w2.heap.size, 0, none⟩ = false := B5.frozen 0
    have yf1 : w5.frozen? ⟨w2.heap.size, 1, none⟩ = false := B5.frozen 1
    have yf2 : w5.frozen? ⟨w2.heap.size, 2, none⟩ = false := B5.frozen 2
    have yf3 : w5.frozen? ⟨w2.heap.size, 3, none⟩ = false := B5.frozen 3
    have R6 : Row ((((w5.setCell ⟨w2.heap.size, 0, none⟩ (.int .i64 op')).setCell ⟨w2.heap.size, 1, none⟩ (.int .i64 n')).setCell ⟨w2.heap.size, 2, none⟩ (.string name')).setCell ⟨w2.heap.size, 3, none⟩ (.slice A7 kids'.length c7)) w.heap.size 25 #[.int .i64 0, .int .i64 0, .string ⟨#[]⟩, .slice none 0 0] := (((R5.far (by show w.heap.size ≠ w2.heap.size; omega) _).far (by show w.heap.size ≠ w2.heap.size; omega) _).far (by show w.heap.size ≠ w2.heap.size; omega) _).far (by show w.heap.size ≠ w2.heap.size; omega) _
    have B6 : Row ((((w5.setCell ⟨w2.heap.size, 0, none⟩ (.int .i64 op')).setCell ⟨w2.heap.size, 1, none⟩ (.int .i64 n')).setCell ⟨w2.heap.size, 2, none⟩ (.string name')).setCell ⟨w2.heap.size, 3, none⟩ (.slice A7 kids'.length c7)) w2.heap.size 25 #[.int .i64 op', .int .i64 n', .string name', .slice A7 kids'.length c7] := (((B5.set_ 0 _).set_ 1 _).set_ 2 _).set_ 3 _
    have s0 : ((((w5.setCell ⟨w2.heap.size, 0, none⟩ (.int .i64 op')).setCell ⟨w2.heap.size, 1, none⟩ (.int .i64 n')).setCell ⟨w2.heap.size, 2, none⟩ (.string name')).setCell ⟨w2.heap.size, 3, none⟩ (.slice A7 kids'.length c7)).cell? ⟨w.heap.size, 0, none⟩ = some (.int .i64 0) := R6.cell 0
    have s1 : ((((w5.setCell ⟨w2.heap.size, 0, none⟩ (.int .i64 op')).setCell ⟨w2.heap.size, 1, none⟩ (.int .i64 n')).setCell ⟨w2.heap.size, 2, none⟩ (.string name')).setCell ⟨w2.heap.size, 3, none⟩ (.slice A7 kids'.length c7)).cell? ⟨w.heap.size, 1, none⟩ = some (.int .i64 0) := R6.cell 1
    have s2 : ((((w5.setCell ⟨w2.heap.size, 0, none⟩ (.int .i64 op')).setCell ⟨w2.heap.size, 1, none⟩ (.int .i64 n')).setCell ⟨w2.heap.size, 2, none⟩ (.string name')).setCell ⟨w2.heap.size, 3, none⟩ (.slice A7 kids'.length c7)).cell? ⟨w.heap.size, 2, none⟩ = some (.string ⟨#[]⟩) := R6.cell 2
    have s3 : ((((w5.setCell ⟨w2.heap.size, 0, none⟩ (.int .i64 op')).setCell ⟨w2.heap.size, 1, none⟩ (.int .i64 n')).setCell ⟨w2.heap.size, 2, none⟩ (.string name')).setCell ⟨w2.heap.size, 3, none⟩ (.slice A7 kids'.length c7)).cell? ⟨w.heap.size, 3, none⟩ = some (.slice none 0 0) := R6.cell 3
    have sf0 : ((((w5.setCell ⟨w2.heap.size, 0, none⟩ (.int .i64 op')).setCell ⟨w2.heap.size, 1, none⟩ (.int .i64 n')).setCell ⟨w2.heap.size, 2, none⟩ (.string name')).setCell ⟨w2.heap.size, 3, none⟩ (.slice A7 kids'.length c7)).frozen? ⟨w.heap.size, 0, none⟩ = false := R6.frozen 0
    have sf1 : ((((w5.setCell ⟨w2.heap.size, 0, none⟩ (.int .i64 op')).setCell ⟨w2.heap.size, 1, none⟩ (.int .i64 n')).setCell ⟨w2.heap.size, 2, none⟩ (.string name')).setCell ⟨w2.heap.size, 3, none⟩ (.slice A7 kids'.length c7)).frozen? ⟨w.heap.size, 1, none⟩ = false := R6.frozen 1
    have sf2 : ((((w5.setCell ⟨w2.heap.size, 0, none⟩ (.int .i64 op')).setCell ⟨w2.heap.size, 1, none⟩ (.int .i64 n')).setCell ⟨w2.heap.size, 2, none⟩ (.string name')).setCell ⟨w2.heap.size, 3, none⟩ (.slice A7 kids'.length c7)).frozen? ⟨w.heap.size, 2, none⟩ = false := R6.frozen 2
    have sf3 : ((((w5.setCell ⟨w2.heap.size, 0, none⟩ (.int .i64 op')).setCell ⟨w2.heap.size, 1, none⟩ (.int .i64 n')).setCell ⟨w2.heap.size, 2, none⟩ (.string name')).setCell ⟨w2.heap.size, 3, none⟩ (.slice A7 kids'.length c7)).frozen? ⟨w.heap.size, 3, none⟩ = false := R6.frozen 3
    have x0 : ((((w5.setCell ⟨w2.heap.size, 0, none⟩ (.int .i64 op')).setCell ⟨w2.heap.size, 1, none⟩ (.int .i64 n')).setCell ⟨w2.heap.size, 2, none⟩ (.string name')).setCell ⟨w2.heap.size, 3, none⟩ (.slice A7 kids'.length c7)).cell? ⟨w2.heap.size, 0, none⟩ = some (.int .i64 op') := B6.cell 0
    have x1 : ((((w5.setCell ⟨w2.heap.size, 0, none⟩ (.int .i64 op')).setCell ⟨w2.heap.size, 1, none⟩ (.int .i64 n')).setCell ⟨w2.heap.size, 2, none⟩ (.string name')).setCell ⟨w2.heap.size, 3, none⟩ (.slice A7 kids'.length c7)).cell? ⟨w2.heap.size, 1, none⟩ = some (.int .i64 n') := B6.cell 1
    have x2 : ((((w5.setCell ⟨w2.heap.size, 0, none⟩ (.int .i64 op')).setCell ⟨w2.heap.size, 1, none⟩ (.int .i64 n')).setCell ⟨w2.heap.size, 2, none⟩ (.string name')).setCell ⟨w2.heap.size, 3, none⟩ (.slice A7 kids'.length c7)).cell? ⟨w2.heap.size, 2, none⟩ = some (.string name') := B6.cell 2
    have x3 : ((((w5.setCell ⟨w2.heap.size, 0, none⟩ (.int .i64 op')).setCell ⟨w2.heap.size, 1, none⟩ (.int .i64 n')).setCell ⟨w2.heap.size, 2, none⟩ (.string name')).setCell ⟨w2.heap.size, 3, none⟩ (.slice A7 kids'.length c7)).cell? ⟨w2.heap.size, 3, none⟩ = some (.slice A7 kids'.length c7) := B6.cell 3
    have xf0 : ((((w5.setCell ⟨w2.heap.size, 0, none⟩ (.int .i64 op')).setCell ⟨w2.heap.size, 1, none⟩ (.int .i64 n')).setCell ⟨w2.heap.size, 2, none⟩ (.string name')).setCell ⟨w2.heap.size, 3, none⟩ (.slice A7 kids'.length c7)).frozen? ⟨w2.heap.size, 0, none⟩ = false := B6.frozen 0
    have xf1 : ((((w5.setCell ⟨w2.heap.size, 0, none⟩ (.int .i64 op')).setCell ⟨w2.heap.size, 1, none⟩ (.int .i64 n')).setCell ⟨w2.heap.size, 2, none⟩ (.string name')).setCell ⟨w2.heap.size, 3, none⟩ (.slice A7 kids'.length c7)).frozen? ⟨w2.heap.size, 1, none⟩ = false := B6.frozen 1
    have xf2 : ((((w5.setCell ⟨w2.heap.size, 0, none⟩ (.int .i64 op')).setCell ⟨w2.heap.size, 1, none⟩ (.int .i64 n')).setCell ⟨w2.heap.size, 2, none⟩ (.string name')).setCell ⟨w2.heap.size, 3, none⟩ (.slice A7 kids'.length c7)).frozen? ⟨w2.heap.size, 2, none⟩ = false := B6.frozen 2
    have xf3 : ((((w5.setCell ⟨w2.heap.size, 0, none⟩ (.int .i64 op')).setCell ⟨w2.heap.size, 1, none⟩ (.int .i64 n')).setCell ⟨w2.heap.size, 2, none⟩ (.string name')).setCell ⟨w2.heap.size, 3, none⟩ (.slice A7 kids'.length c7)).frozen? ⟨w2.heap.size, 3, none⟩ = false := B6.frozen 3
    have hE6 : ExV 8 w4.heap.size op' n' name' kids' (.slice A7 kids'.length c7) ((((w5.setCell ⟨w2.heap.size, 0, none⟩ (.int .i64 op')).setCell ⟨w2.heap.size, 1, none⟩ (.int .i64 n')).setCell ⟨w2.heap.size, 2, none⟩ (.string name')).setCell ⟨w2.heap.size, 3, none⟩ (.slice A7 kids'.length c7)) := hE5.keepT (fun b h1 h2 => set4_block w5 w2.heap.size _ _ _ _ b (by omega)) (Nat.le_of_eq (set4_size w5 w2.heap.size _ _ _ _).symm)
    have h6 : RdAt ((((w5.setCell ⟨w2.heap.size, 0, none⟩ (.int .i64 op')).setCell ⟨w2.heap.size, 1, none⟩ (.int .i64 n')).setCell ⟨w2.heap.size, 2, none⟩ (.string name')).setCell ⟨w2.heap.size, 3, none⟩ (.slice A7 kids'.length c7)) g l p5 := h5.below (set4_below w5 w2.heap.size _ _ _ _ (Nat.le_refl _)) hg2
    have hB6 : But g w ((((w5.setCell ⟨w2.heap.size, 0, none⟩ (.int .i64 op')).setCell ⟨w2.heap.size, 1, none⟩ (.int .i64 n')).setCell ⟨w2.heap.size, 2, none⟩ (.string name')).setCell ⟨w2.heap.size, 3, none⟩ (.slice A7 kids'.length c7)) := hB5.thenB (set4_below w5 w2.heap.size _ _ _ _ (by omega)) hgw
    have F := Lib.hid (DrE.fin (p := p) (K := 2000) hgw h6 (by omega) hB6 (hE6.lower (show 8 ≤ 9 by omega) (Nat.le_refl _)) (by omega))
    clear hE4 hE5 hE6 hE2 hB6 hB5 hb5 hB4 hB24
    go_wp2_with fail
    refine bodyPost_ret (v := .agg #[.int .i64 op', .int .i64 n', .string name', .slice A7 kids'.length c7]) (by simp [results, Tryd.results40, go_sem, s0, s1, s2, s3]) rfl F.out
  have q4 : ((k : Int) == 4) = false := by simp; omega
  have s0 : w4.cell? ⟨w.heap.size, 0, none⟩ = some (.int .i64 0) := R4.cell 0
  have s1 : w4.cell? ⟨w.heap.size, 1, none⟩ = some (.int .i64 0) := R4.cell 1
  have s2 : w4.cell? ⟨w.heap.size, 2, none⟩ = some (.string ⟨#[]⟩) := R4.cell 2
  have s3 : w4.cell? ⟨w.heap.size, 3, none⟩ = some (.slice none 0 0) := R4.cell 3
  have sf0 : w4.frozen? ⟨w.heap.size, 0, none⟩ = false := R4.frozen 0
  have sf1 : w4.frozen? ⟨w.heap.size, 1, none⟩ = false := R4.frozen 1
  have sf2 : w4.frozen? ⟨w.heap.size, 2, none⟩ = false := R4.frozen 2
  have sf3 : w4.frozen? ⟨w.heap.size, 3, none⟩ = false := R4.frozen 3
  have F := Lib.hid (DrE.fin (p := p) (K := 2000) hgw h4 (by omega) hB4 (hE4.lower (show 8 ≤ 9 by omega) (Nat.le_refl _)) (Nat.lt_succ_self _))
  clear hE4 hE2
  go_wp2_with fail
  refine bodyPost_ret (v := .agg #[.int .i64 op, .int .i64 n, .string name, .slice A3 kids.length c3]) (by simp [results, Tryd.results40, go_sem, s0, s1, s2, s3]) rfl F.out
end Go.Proofs.YtpheoddpkmaidaaDoor
