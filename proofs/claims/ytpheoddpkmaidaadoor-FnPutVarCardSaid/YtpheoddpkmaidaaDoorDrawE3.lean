/-
  What the draws answer: an expression that is at most so deep. Condition: few numbers have been picked.
-/
import Derived.Test.YtpheoddpkmaidaaDoorDrawE2
namespace Go.Proofs.YtpheoddpkmaidaaDoor
open Go.RowKit Go.ChangeShapes Go.WideShapes Go.Deep
set_option linter.unusedSimpArgs false
set_option linter.unusedVariables false
/-- how many numbers an expression takes -/
def kE : Nat → Nat
  | 0 => 4
  | d + 1 => 2 * kE d + 4
theorem kE_pos : ∀ d : Nat, 4 ≤ kE d
  | 0 => Nat.le_refl _
  | d + 1 => by rw [kE]; omega
def ExprAt (d : Nat) : Prop := ∀ (x : Int) (_ : x = (d : Int)) (ls : List ByteArray) (_ : ∀ s ∈ ls, NmOk s) (_ : ls.length ≤ 10) (v1 : Value) (lo B : Nat) (l : List UInt8) (g p : Nat) (w : World) (_ : RdAt w g l p) (_ : p + kE d ≤ 900000) (_ : Sl false (strS false) w lo B ls v1) (_ : g < lo) (_ : B ≤ w.heap.size),
  Calls Tryd.prog 65 #[.pointer (some ⟨g, 0, none⟩), v1, .int .i64 x] w (DrE g l p (kE d) d w)
set_option maxRecDepth 100000 in
set_option maxHeartbeats 8000000 in
theorem expr_step (d : Nat) (hd : d ≤ 100) (ih : ∀ d', d = d' + 1 → ExprAt d') : ExprAt d := by
  intro x hx ls hls hlen v1 lo B l g p w h hp hv hlo hB
  have hgw := h.lt
  have hbA : Below w.heap.size w (w.alloc (.cells #[.int .i64 0, .int .i64 0, .string ⟨#[]⟩, .slice none 0 0] 25)) := (Below.refl _ _).alloc (Nat.le_refl _) _
  have R0 : Row (w.alloc (.cells #[.int .i64 0, .int .i64 0, .string ⟨#[]⟩, .slice none 0 0] 25)) w.heap.size 25 #[.int .i64 0, .int .i64 0, .string ⟨#[]⟩, .slice none 0 0] := Row.new w _ _
  have hB0 : But g w (w.alloc (.cells #[.int .i64 0, .int .i64 0, .string ⟨#[]⟩, .slice none 0 0] 25)) := (But.refl w).alloc hgw _
  have h0 := h.below hbA hgw
  have hlt0 : w.heap.size < (w.alloc (.cells #[.int .i64 0, .int .i64 0, .string ⟨#[]⟩, .slice none 0 0] 25)).heap.size := by simp
  have hK := kE_pos d
  obtain ⟨A, cap, rfl, hlc, hcm⟩ := hv.form
  have hv0 := hv.below hbA hB
  have hB0s : B ≤ (w.alloc (.cells #[.int .i64 0, .int .i64 0, .string ⟨#[]⟩, .slice none 0 0] 25)).heap.size := Nat.le_trans hB hbA.size
  by_cases hd2 : d < 2
  · have hx2 : x < 2 := by omega
    clear ih
    go_enter Tryd.func65, Tryd.ntmps65
    go_wp2_with fail
    refine (leaf_ok ls hls hlen _ lo B l g p _ h0 (by omega) hv0 hlo hB0s d).mono ?_
    rintro e w2 ⟨p2, op, n, name, kids, A3, c3, rfl, h2, hp2, hb2, hE⟩
    have R2 := hb2.row R0 hgw
    have s0 : w2.cell? ⟨w.heap.size, 0, none⟩ = some (.int .i64 0) := R2.cell 0
    have s1 : w2.cell? ⟨w.heap.size, 1, none⟩ = some (.int .i64 0) := R2.cell 1
    have s2 : w2.cell? ⟨w.heap.size, 2, none⟩ = some (.string ⟨#[]⟩) := R2.cell 2
    have s3 : w2.cell? ⟨w.heap.size, 3, none⟩ = some (.slice none 0 0) := R2.cell 3
    have sf0 : w2.frozen? ⟨w.heap.size, 0, none⟩ = false := R2.frozen 0
    have sf1 : w2.frozen? ⟨w.heap.size, 1, none⟩ = false := R2.frozen 1
    have sf2 : w2.frozen? ⟨w.heap.size, 2, none⟩ = false := R2.frozen 2
    have sf3 : w2.frozen? ⟨w.heap.size, 3, none⟩ = false := R2.frozen 3
    have F := Lib.hid (DrE.fin (p := p) (K := kE d) hgw h2 (by omega) (hB0.trans hb2) hE hlt0)
    go_wp2_with fail
    refine bodyPost_ret (v := .agg #[.int .i64 op, .int .i64 n, .string name, .slice A3 kids.length c3]) (by simp [results, Tryd.results65, go_sem, s0, s1, s2, s3]) rfl F.out
  obtain ⟨d', rfl⟩ : ∃ d', d = d' + 1 := ⟨d - 1, by omega⟩
  have IH := Lib.hid (ih d' rfl)
  clear ih
  have hk1 : kE (d' + 1) = 2 * kE d' + 4 := rfl
  have hK1 := kE_pos d'
  have hx2 : decide (x < 2) = false := by simp; omega
  have hxI : x ≤ 1000 := by omega
  have hxJ : 0 ≤ x := by omega
  go_enter Tryd.func65, Tryd.ntmps65
  go_wp2_with fail
  refine (pick_ok 4 (by omega) (by omega) l g p _ h0 (by omega)).mono ?_
  rintro e w2 ⟨v, p2, rfl, h2, hp2, hb2, k, hk, rfl⟩
  have R2 := hb2.row R0 hgw
  have hB2 := hB0.trans hb2
  have hv2 := hb2.sl hv0 hlo hB0s
  have hs2 : B ≤ w2.heap.size := Nat.le_trans hB0s hb2.1.size
  have hlt2 : w.heap.size < w2.heap.size := Nat.lt_of_lt_of_le hlt0 hb2.1.size
  clear hB0 R0 hv0 hb2 hv
  by_cases k0 : k = 0
  · subst k0
    go_wp2_with fail
    refine (leaf_ok ls hls hlen _ lo B l g p2 _ h2 (by omega) hv2 hlo hs2 (d' + 1)).mono ?_
    rintro e w3 ⟨p3, op, n, name, kids, A3, c3, rfl, h3, hp3, hb3, hE⟩
    have R3 := hb3.row R2 hgw
    have s0 : w3.cell? ⟨w.heap.size, 0, none⟩ = some (.int .i64 0) := R3.cell 0
    have s1 : w3.cell? ⟨w.heap.size, 1, none⟩ = some (.int .i64 0) := R3.cell 1
    have s2 : w3.cell? ⟨w.heap.size, 2, none⟩ = some (.string ⟨#[]⟩) := R3.cell 2
    have s3 : w3.cell? ⟨w.heap.size, 3, none⟩ = some (.slice none 0 0) := R3.cell 3
    have sf0 : w3.frozen? ⟨w.heap.size, 0, none⟩ = false := R3.frozen 0
    have sf1 : w3.frozen? ⟨w.heap.size, 1, none⟩ = false := R3.frozen 1
    have sf2 : w3.frozen? ⟨w.heap.size, 2, none⟩ = false := R3.frozen 2
    have sf3 : w3.frozen? ⟨w.heap.size, 3, none⟩ = false := R3.frozen 3
    have F := Lib.hid (DrE.fin (p := p) (K := kE (d' + 1)) hgw h3 (by omega) (hB2.trans hb3) hE hlt2)
    go_wp2_with fail
    refine bodyPost_ret (v := .agg #[.int .i64 op, .int .i64 n, .string name, .slice A3 kids.length c3]) (by simp [results, Tryd.results65, go_sem, s0, s1, s2, s3]) rfl F.out
  have q0 : ((k : Int) == 0) = false := by simpa using k0
  go_wp2_with fail
  refine (pick_ok 7 (by omega) (by omega) l g p2 _ h2 (by omega)).mono ?_
  rintro e w3 ⟨v, p3, rfl, h3, hp3, hb3, k7, hk7, rfl⟩
  have R3 := hb3.row R2 hgw
  have hB3 := hB2.trans hb3
  have hv3 := hb3.sl hv2 hlo hs2
  have hs3 : B ≤ w3.heap.size := Nat.le_trans hs2 hb3.1.size
  have hlt3 : w.heap.size < w3.heap.size := Nat.lt_of_lt_of_le hlt2 hb3.1.size
  have hg3 := h3.lt
  clear hB2 R2 hv2 hb3
  by_cases k1 : k7 = 0
  · subst k1
    have L4 := lit_int w3 [11, 12, 11] (i64_of (by decide)) (by decide)
    have hb4 := (Below.refl _ w3).alloc (Nat.le_refl _) (.cells ([11, 12, 11].map (Value.int .i64)).toArray 3)
    have R4 := R3.alloc (.cells ([11, 12, 11].map (Value.int .i64)).toArray 3)
    have hv4 := hv3.below hb4 hs3
    have hB4 := hB3.alloc hgw (.cells ([11, 12, 11].map (Value.int .i64)).toArray 3)
    have hs4 := Nat.le_trans hs3 hb4.size
    have hlt4 := Nat.lt_of_lt_of_le hlt3 hb4.size
    go_wp2_with fail
    refine (num_ok [11, 12, 11] (by decide) (by decide) I64 (i64_of (by decide)) _ _ _ l g p3 _ (h3.below hb4 hg3) (by omega) L4 hg3 (Nat.le_refl _)).mono ?_
    rintro e w5 ⟨v, p5, rfl, h5, hp5, hb5, y, hy, rfl⟩
    have R5 := hb5.row R4 hgw
    have hB5 := hB4.trans hb5
    have hv5 := hb5.sl hv4 hlo hs4
    have hs5 : B ≤ w5.heap.size := Nat.le_trans hs4 hb5.1.size
    have hlt5 : w.heap.size < w5.heap.size := Nat.lt_of_lt_of_le hlt4 hb5.1.size
    clear L4 R4 hv4 hB4 hb5
    go_wp2_with fail
    refine (IH.out _ rfl ls hls hlen _ lo B l g p5 _ h5 (by omega) hv5 hlo hs5).mono ?_
    rintro e w6 ⟨p6, op, n, name, kids, A3, c3, rfl, h6, hp6, hb6, hE⟩
    have R6 := hb6.row R5 hgw
    have hB6 := hB5.trans hb6
    have hg6 := h6.lt
    have hsz6 := hb6.1.size
    have hb7 := (Below.refl _ w6).alloc (Nat.le_refl _) (.cells #[.int .i64 op, .int .i64 n, .string name, .slice A3 kids.length c3] 25)
    have R7 := R6.alloc (.cells #[.int .i64 op, .int .i64 n, .string name, .slice A3 kids.length c3] 25)
    have RN : Row (w6.alloc (.cells #[.int .i64 op, .int .i64 n, .string name, .slice A3 kids.length c3] 25)) w6.heap.size 25 #[.int .i64 op, .int .i64 n, .string name, .slice A3 kids.length c3] := Row.new _ _ _
    have own : OwnT (fun m => exT m (d' + 1)) 25 (w6.alloc (.cells #[.int .i64 op, .int .i64 n, .string name, .slice A3 kids.length c3] 25)) w5.heap.size (.slice (some ⟨w6.heap.size, 0, none⟩) 1 1) [.mk op n name kids] :=
      own_one (p := w5.heap.size) (q := w6.heap.size) RN hsz6 (Nat.le_refl _) hsz6 hb7.size (Or.inr (Nat.le_refl _)) (fun m => (exT m (d' + 1)).below (hE.rep m) hb7 (Nat.le_refl _))
    have hEN : ExV (d' + 1) w5.heap.size y 0 ⟨#[]⟩ [.mk op n name kids] (.slice (some ⟨w6.heap.size, 0, none⟩) 1 1) (w6.alloc (.cells #[.int .i64 op, .int .i64 n, .string name, .slice A3 kids.length c3] 25)) :=
      ⟨hy, ⟨by omega, by omega⟩, ok_empty.1, ok_empty.2, (fun k hk => by obtain rfl := List.mem_singleton.1 hk; exact hE.noZ), (by simp only [List.length_cons, List.length_nil]; omega), own⟩
    have F := Lib.hid (DrE.fin (p := p) (K := kE (d' + 1)) (kids := [.mk op n name kids]) hgw (h6.below hb7 hg6) (by omega) (hB6.alloc hgw _) hEN hlt5)
    have s0 : (w6.alloc (.cells #[.int .i64 op, .int .i64 n, .string name, .slice A3 kids.length c3] 25)).cell? ⟨w.heap.size, 0, none⟩ = some (.int .i64 0) := R7.cell 0
    have s1 : (w6.alloc (.cells #[.int .i64 op, .int .i64 n, .string name, .slice A3 kids.length c3] 25)).cell? ⟨w.heap.size, 1, none⟩ = some (.int .i64 0) := R7.cell 1
    have s2 : (w6.alloc (.cells #[.int .i64 op, .int .i64 n, .string name, .slice A3 kids.length c3] 25)).cell? ⟨w.heap.size, 2, none⟩ = some (.string ⟨#[]⟩) := R7.cell 2
    have s3 : (w6.alloc (.cells #[.int .i64 op, .int .i64 n, .string name, .slice A3 kids.length c3] 25)).cell? ⟨w.heap.size, 3, none⟩ = some (.slice none 0 0) := R7.cell 3
    have sf0 : (w6.alloc (.cells #[.int .i64 op, .int .i64 n, .string name, .slice A3 kids.length c3] 25)).frozen? ⟨w.heap.size, 0, none⟩ = false := R7.frozen 0
    have sf1 : (w6.alloc (.cells #[.int .i64 op, .int .i64 n, .string name, .slice A3 kids.length c3] 25)).frozen? ⟨w.heap.size, 1, none⟩ = false := R7.frozen 1
    have sf2 : (w6.alloc (.cells #[.int .i64 op, .int .i64 n, .string name, .slice A3 kids.length c3] 25)).frozen? ⟨w.heap.size, 2, none⟩ = false := R7.frozen 2
    have sf3 : (w6.alloc (.cells #[.int .i64 op, .int .i64 n, .string name, .slice A3 kids.length c3] 25)).frozen? ⟨w.heap.size, 3, none⟩ = false := R7.frozen 3
    clear own hEN hE hB6 hB5 hb6 hb7 RN
    go_wp2_with fail
    refine bodyPost_ret (v := .agg #[.int .i64 y, .int .i64 0, .string ⟨#[]⟩, .slice (some ⟨w6.heap.size, 0, none⟩) 1 1]) (by simp [results, Tryd.results65, go_sem, s0, s1, s2, s3]) rfl F.out
  have q1 : ((k7 : Int) == 0) = false := by simpa using k1
  have L4 := lit_int w3 [3, 3, 4, 5, 6, 7, 8, 9, 10] (i64_of (by decide)) (by decide)
  have hb4 := (Below.refl _ w3).alloc (Nat.le_refl _) (.cells ([3, 3, 4, 5, 6, 7, 8, 9, 10].map (Value.int .i64)).toArray 3)
  have R4 := R3.alloc (.cells ([3, 3, 4, 5, 6, 7, 8, 9, 10].map (Value.int .i64)).toArray 3)
  have hv4 := hv3.below hb4 hs3
  have hB4 := hB3.alloc hgw (.cells ([3, 3, 4, 5, 6, 7, 8, 9, 10].map (Value.int .i64)).toArray 3)
  have hs4 := Nat.le_trans hs3 hb4.size
  have hlt4 := Nat.lt_of_lt_of_le hlt3 hb4.size
  go_wp2_with fail
  refine (num_ok [3, 3, 4, 5, 6, 7, 8, 9, 10] (by decide) (by decide) I64 (i64_of (by decide)) _ _ _ l g p3 _ (h3.below hb4 hg3) (by omega) L4 hg3 (Nat.le_refl _)).mono ?_
  rintro e w5 ⟨v, p5, rfl, h5, hp5, hb5, y, hy, rfl⟩
  have R5 := hb5.row R4 hgw
  have hB5 := hB4.trans hb5
  have hv5 := hb5.sl hv4 hlo hs4
  have hs5 : B ≤ w5.heap.size := Nat.le_trans hs4 hb5.1.size
  have hlt5 : w.heap.size < w5.heap.size := Nat.lt_of_lt_of_le hlt4 hb5.1.size
  have hg5 := h5.lt
  clear L4 R4 hv4 hB4 hb5
  go_wp2_with fail
  refine (IH.out _ rfl ls hls hlen _ lo B l g p5 _ h5 (by omega) hv5 hlo hs5).mono ?_
  rintro e w6 ⟨p6, op, n, name, kids, A3, c3, rfl, h6, hp6, hb6, hE⟩
  have R6 := hb6.row R5 hgw
  have hB6 := hB5.trans hb6
  have hg6 := h6.lt
  have hv6 := hb6.sl hv5 hlo hs5
  have hs6 : B ≤ w6.heap.size := Nat.le_trans hs5 hb6.1.size
  have hsz6 := hb6.1.size
  go_wp2_with fail
  refine (IH.out _ rfl ls hls hlen _ lo B l g p6 _ h6 (by omega) hv6 hlo hs6).mono ?_
  rintro e w7 ⟨p7, op', n', name', kids', A4, c4, rfl, h7, hp7, hb7, hE'⟩
  have R7 := hb7.row R6 hgw
  have hB7 := hB6.trans hb7
  have hg7 := h7.lt
  have hsz7 := hb7.1.size
  have hb8 := (Below.refl _ w7).alloc (Nat.le_refl _) (.cells #[.int .i64 op, .int .i64 n, .string name, .slice A3 kids.length c3, .int .i64 op', .int .i64 n', .string name', .slice A4 kids'.length c4] 25)
  have R8 := R7.alloc (.cells #[.int .i64 op, .int .i64 n, .string name, .slice A3 kids.length c3, .int .i64 op', .int .i64 n', .string name', .slice A4 kids'.length c4] 25)
  have RN : Row (w7.alloc (.cells #[.int .i64 op, .int .i64 n, .string name, .slice A3 kids.length c3, .int .i64 op', .int .i64 n', .string name', .slice A4 kids'.length c4] 25)) w7.heap.size 25 #[.int .i64 op, .int .i64 n, .string name, .slice A3 kids.length c3, .int .i64 op', .int .i64 n', .string name', .slice A4 kids'.length c4] := Row.new _ _ _
  have own : OwnT (fun m => exT m (d' + 1)) 25 (w7.alloc (.cells #[.int .i64 op, .int .i64 n, .string name, .slice A3 kids.length c3, .int .i64 op', .int .i64 n', .string name', .slice A4 kids'.length c4] 25)) w5.heap.size (.slice (some ⟨w7.heap.size, 0, none⟩) 2 2) [.mk op n name kids, .mk op' n' name' kids'] :=
    own_two (p := w5.heap.size) (q := w6.heap.size) (p' := w6.heap.size) (q' := w7.heap.size) RN (Nat.le_trans hsz6 hsz7) (Nat.le_refl _) hsz6 (Nat.le_refl _) hsz7 hb8.size (Or.inr (Nat.le_refl _))
      (fun m => (exT m (d' + 1)).below ((exT m (d' + 1)).keep (hE.rep m) (Nat.le_refl _) (Nat.le_refl _) (fun b h1 h2 => hb7.2 b (by omega) h2)) hb8 hsz7) (fun m => (exT m (d' + 1)).below (hE'.rep m) hb8 (Nat.le_refl _))
  have hEN : ExV (d' + 1) w5.heap.size y 0 ⟨#[]⟩ [.mk op n name kids, .mk op' n' name' kids'] (.slice (some ⟨w7.heap.size, 0, none⟩) 2 2) (w7.alloc (.cells #[.int .i64 op, .int .i64 n, .string name, .slice A3 kids.length c3, .int .i64 op', .int .i64 n', .string name', .slice A4 kids'.length c4] 25)) :=
    ⟨hy, ⟨by omega, by omega⟩, ok_empty.1, ok_empty.2, (fun k hk => by
      rcases List.mem_cons.1 hk with rfl | hk
      · exact hE.noZ
      · obtain rfl := List.mem_singleton.1 hk; exact hE'.noZ), (by simp only [List.length_cons, List.length_nil]; omega), own⟩
  have F := Lib.hid (DrE.fin (p := p) (K := kE (d' + 1)) (kids := [.mk op n name kids, .mk op' n' name' kids']) hgw (h7.below hb8 hg7) (by omega) (hB7.alloc hgw _) hEN hlt5)
  have s0 : (w7.alloc (.cells #[.int .i64 op, .int .i64 n, .string name, .slice A3 kids.length c3, .int .i64 op', .int .i64 n', .string name', .slice A4 kids'.length c4] 25)).cell? ⟨w.heap.size, 0, none⟩ = some (.int .i64 0) := R8.cell 0
  have s1 : (w7.alloc (.cells #[.int .i64 op, .int .i64 n, .string name, .slice A3 kids.length c3, .int .i64 op', .int .i64 n', .string name', .slice A4 kids'.length c4] 25)).cell? ⟨w.heap.size, 1, none⟩ = some (.int .i64 0) := R8.cell 1
  have s2 : (w7.alloc (.cells #[.int .i64 op, .int .i64 n, .string name, .slice A3 kids.length c3, .int .i64 op', .int .i64 n', .string name', .slice A4 kids'.length c4] 25)).cell? ⟨w.heap.size, 2, none⟩ = some (.string ⟨#[]⟩) := R8.cell 2
  have s3 : (w7.alloc (.cells #[.int .i64 op, .int .i64 n, .string name, .slice A3 kids.length c3, .int .i64 op', .int .i64 n', .string name', .slice A4 kids'.length c4] 25)).cell? ⟨w.heap.size, 3, none⟩ = some (.slice none 0 0) := R8.cell 3
  have sf0 : (w7.alloc (.cells #[.int .i64 op, .int .i64 n, .string name, .slice A3 kids.length c3, .int .i64 op', .int .i64 n', .string name', .slice A4 kids'.length c4] 25)).frozen? ⟨w.heap.size, 0, none⟩ = false := R8.frozen 0
  have sf1 : (w7.alloc (.cells #[.int .i64 op, .int .i64 n, .string name, .slice A3 kids.length c3, .int .i64 op', .int .i64 n', .string name', .slice A4 kids'.length c4] 25)).frozen? ⟨w.heap.size, 1, none⟩ = false := R8.frozen 1
  have sf2 : (w7.alloc (.cells #[.int .i64 op, .int .i64 n, .string name, .slice A3 kids.length c3, .int .i64 op', .int .i64 n', .string name', .slice A4 kids'.length c4] 25)).frozen? ⟨w.heap.size, 2, none⟩ = false := R8.frozen 2
  have sf3 : (w7.alloc (.cells #[.int .i64 op, .int .i64 n, .string name, .slice A3 kids.length c3, .int .i64 op', .int .i64 n', .string name', .slice A4 kids'.length c4] 25)).frozen? ⟨w.heap.size, 3, none⟩ = false := R8.frozen 3
  clear own hEN hE hE' hB6 hB5 hB7 hb6 hb7 hb8 RN
  go_wp2_with fail
  refine bodyPost_ret (v := .agg #[.int .i64 y, .int .i64 0, .string ⟨#[]⟩, .slice (some ⟨w7.heap.size, 0, none⟩) 2 2]) (by simp [results, Tryd.results65, go_sem, s0, s1, s2, s3]) rfl F.out
theorem expr_ok : ∀ d : Nat, d ≤ 100 → ExprAt d
  | 0 => fun hd => expr_step 0 hd (fun d' h => by omega)
  | d + 1 => fun hd => expr_step (d + 1) hd (fun d' h => by obtain rfl : d' = d := (by omega); exact expr_ok d' (by omega))
end Go.Proofs.YtpheoddpkmaidaaDoor
