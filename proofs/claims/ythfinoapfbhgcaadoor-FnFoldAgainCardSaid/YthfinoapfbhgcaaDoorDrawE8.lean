/-
  Several texts in one: DrawE8.
-/
import Derived.Test.YthfinoapfbhgcaaDoorDrawA
import Derived.Test.YthfinoapfbhgcaaDoorFoldA
namespace Go.Proofs.YthfinoapfbhgcaaDoor
open Go.RowKit Go.ChangeShapes Go.WideShapes Go.Deep
set_option linter.unusedSimpArgs false
set_option linter.unusedVariables false
theorem spec_num0 (n : Int) (w : World) : Calls Tryd.prog 62 #[.int .i64 n] w (fun e w' => e = .returned (.agg #[.int .i64 1, .int .i64 n, .string ⟨#[]⟩, .slice none 0 0]) ∧ Below w.heap.size w w') := by
  go_enter Tryd.func62, Tryd.ntmps62
  go_wp2_with fail
  refine bodyPost_ret (v := .agg #[.int .i64 1, .int .i64 n, .string ⟨#[]⟩, .slice none 0 0]) (by simp [results, Tryd.results62, go_sem]) rfl ⟨rfl, ?_⟩
  exact (Below.refl _ _).alloc (Nat.le_refl _) _
def Draw6At (d : Nat) : Prop := ∀ (l : List UInt8) (g p : Nat) (w : World) (_ : RdAt w g l p) (_ : p + kE d ≤ 900000), Calls Tryd.prog 45 #[.pointer (some ⟨g, 0, none⟩), .int .i64 (d : Int)] w (DrE g l p (kE d) d w)
set_option maxRecDepth 100000 in
set_option maxHeartbeats 16000000 in
theorem draw6_step (d : Nat) (hd : d ≤ 100) (ih : ∀ d', d = d' + 1 → Draw6At d') : Draw6At d := by
  intro l g p w h hp
  have hgw := h.lt
  have hbA : Below w.heap.size w (w.alloc (.cells #[.int .i64 0, .int .i64 0, .string ⟨#[]⟩, .slice none 0 0] 25)) := (Below.refl _ _).alloc (Nat.le_refl _) _
  have R0 : Row (w.alloc (.cells #[.int .i64 0, .int .i64 0, .string ⟨#[]⟩, .slice none 0 0] 25)) w.heap.size 25 #[.int .i64 0, .int .i64 0, .string ⟨#[]⟩, .slice none 0 0] := Row.new w _ _
  have hB0 : ButR g w (w.alloc (.cells #[.int .i64 0, .int .i64 0, .string ⟨#[]⟩, .slice none 0 0] 25)) := (ButR.refl w).alloc hgw _
  have h0 := h.below hbA hgw
  have hlt0 : w.heap.size < (w.alloc (.cells #[.int .i64 0, .int .i64 0, .string ⟨#[]⟩, .slice none 0 0] 25)).heap.size := by simp
  have hK := kE_pos d
  by_cases hd2 : d < 2
  · have hx2 : (d : Int) < 2 := by omega
    clear ih
    go_enter Tryd.func45, Tryd.ntmps45
    go_wp2_with fail
    refine (pick_ok 2 (by omega) (by omega) l g p _ h0 (by omega)).mono ?_
    rintro e v1 ⟨v, q1, rfl, k1, hq1, cb1, t, ht, rfl⟩
    have S1 := cb1.row R0 hgw
    have hC1 := hB0.trans cb1
    have gk1 := k1.lt
    by_cases t0 : t = 0
    · subst t0
      have L9 := lit_int v1 [0, 1, 0, 1, 2, 255, 3] (i64_of (by decide)) (by decide)
      go_wp2_with fail
      refine (num_ok [0, 1, 0, 1, 2, 255, 3] (by decide) (by decide) I64 (i64_of (by decide)) _ _ _ l g q1 _ (k1.below ((Below.refl _ _).alloc (Nat.le_refl _) _) gk1) (by omega) L9 gk1 (Nat.le_refl _)).mono ?_
      rintro e v2 ⟨v, q2, rfl, k2, hq2, cb2, y, hy, rfl⟩
      have S2 := cb2.row (S1.alloc _) hgw
      have hC2 := (hC1.alloc hgw _).trans cb2
      have gk2 := k2.lt
      go_wp2_with fail
      refine (spec_num0 y _).mono ?_
      rintro e v3 ⟨rfl, x3⟩
      have S3 := S2.below x3 S2.lt
      have hC3 := hC2.trans (ButR.of_below gk2 x3)
      have k3 := k2.below x3 gk2
      have s0 : v3.cell? ⟨w.heap.size, 0, none⟩ = some (.int .i64 0) := S3.cell 0
      have s1 : v3.cell? ⟨w.heap.size, 1, none⟩ = some (.int .i64 0) := S3.cell 1
      have s2 : v3.cell? ⟨w.heap.size, 2, none⟩ = some (.string ⟨#[]⟩) := S3.cell 2
      have s3 : v3.cell? ⟨w.heap.size, 3, none⟩ = some (.slice none 0 0) := S3.cell 3
      have sf0 : v3.frozen? ⟨w.heap.size, 0, none⟩ = false := S3.frozen 0
      have sf1 : v3.frozen? ⟨w.heap.size, 1, none⟩ = false := S3.frozen 1
      have sf2 : v3.frozen? ⟨w.heap.size, 2, none⟩ = false := S3.frozen 2
      have sf3 : v3.frozen? ⟨w.heap.size, 3, none⟩ = false := S3.frozen 3
      have F := Lib.hid (DrE.fin (p := p) (K := kE d) (kids := []) hgw k3 (by omega) hC3 (leaf_ev hy 1 ⟨by omega, by omega⟩ ⟨#[]⟩ ok_empty d (w.heap.size + 1) v3) (Nat.lt_succ_self _))
      go_wp2_with fail
      refine bodyPost_ret (v := .agg #[.int .i64 1, .int .i64 y, .string ⟨#[]⟩, .slice none 0 0]) (by simp [results, Tryd.results45, go_sem, s0, s1, s2, s3]) rfl F.out
    have t1 : ((t : Int) == 0) = false := by simpa using t0
    have L9 := lit_str v1 [⟨#[97]⟩, ⟨#[98]⟩] (nm_ml (nm_all (by decide +kernel))) (by decide)
    go_wp2_with fail
    refine (of_ok [⟨#[97]⟩, ⟨#[98]⟩] (by decide) (by decide) NmOk (nm_all (by decide +kernel)) _ _ _ l g q1 _ (k1.below ((Below.refl _ _).alloc (Nat.le_refl _) _) gk1) (by omega) L9 gk1 (Nat.le_refl _)).mono ?_
    rintro e v2 ⟨v, q2, rfl, k2, hq2, cb2, s, hs, rfl⟩
    have S2 := cb2.row (S1.alloc _) hgw
    have hC2 := (hC1.alloc hgw _).trans cb2
    have s0 : v2.cell? ⟨w.heap.size, 0, none⟩ = some (.int .i64 0) := S2.cell 0
    have s1 : v2.cell? ⟨w.heap.size, 1, none⟩ = some (.int .i64 0) := S2.cell 1
    have s2 : v2.cell? ⟨w.heap.size, 2, none⟩ = some (.string ⟨#[]⟩) := S2.cell 2
    have s3 : v2.cell? ⟨w.heap.size, 3, none⟩ = some (.slice none 0 0) := S2.cell 3
    have sf0 : v2.frozen? ⟨w.heap.size, 0, none⟩ = false := S2.frozen 0
    have sf1 : v2.frozen? ⟨w.heap.size, 1, none⟩ = false := S2.frozen 1
    have sf2 : v2.frozen? ⟨w.heap.size, 2, none⟩ = false := S2.frozen 2
    have sf3 : v2.frozen? ⟨w.heap.size, 3, none⟩ = false := S2.frozen 3
    have F := Lib.hid (DrE.fin (p := p) (K := kE d) (kids := []) hgw k2 (by omega) hC2 (leaf_ev (n := 0) ⟨by omega, by omega⟩ 2 ⟨by omega, by omega⟩ s hs d (w.heap.size + 1) v2) (Nat.lt_succ_self _))
    go_wp2_with fail
    refine bodyPost_ret (v := .agg #[.int .i64 2, .int .i64 0, .string s, .slice none 0 0]) (by simp [results, Tryd.results45, go_sem, s0, s1, s2, s3]) rfl F.out
  obtain ⟨d', rfl⟩ : ∃ d', d = d' + 1 := ⟨d - 1, by omega⟩
  have IH := Lib.hid (ih d' rfl)
  clear ih
  have hk1 : kE (d' + 1) = 2 * kE d' + 4 := rfl
  have hK1 := kE_pos d'
  have hx2 : decide ((((d' + 1 : Nat)) : Int) < 2) = false := by simp; omega
  have hx3 : decide ((d' : Int) + 1 < 2) = false := by simp; omega
  go_enter Tryd.func45, Tryd.ntmps45
  go_wp2_with fail
  refine (pick_ok 5 (by omega) (by omega) l g p _ h0 (by omega)).mono ?_
  rintro e w2 ⟨v, p2, rfl, h2, hp2, hb2, k, hk, rfl⟩
  have R2 := hb2.row R0 hgw
  have hB2 := hB0.trans hb2
  have hlt2 : w.heap.size < w2.heap.size := Nat.lt_of_lt_of_le hlt0 hb2.1.size
  clear hB0 R0 hb2
  by_cases k0 : k = 0
  · subst k0
    go_wp2_with fail
    refine (pick_ok 2 (by omega) (by omega) l g p2 _ h2 (by omega)).mono ?_
    rintro e v1 ⟨v, q1, rfl, k1, hq1, cb1, t, ht, rfl⟩
    have S1 := cb1.row R2 hgw
    have hC1 := hB2.trans cb1
    have gk1 := k1.lt
    by_cases t0 : t = 0
    · subst t0
      have L9 := lit_int v1 [0, 1, 0, 1, 2, 255, 3] (i64_of (by decide)) (by decide)
      go_wp2_with fail
      refine (num_ok [0, 1, 0, 1, 2, 255, 3] (by decide) (by decide) I64 (i64_of (by decide)) _ _ _ l g q1 _ (k1.below ((Below.refl _ _).alloc (Nat.le_refl _) _) gk1) (by omega) L9 gk1 (Nat.le_refl _)).mono ?_
      rintro e v2 ⟨v, q2, rfl, k2, hq2, cb2, y, hy, rfl⟩
      have S2 := cb2.row (S1.alloc _) hgw
      have hC2 := (hC1.alloc hgw _).trans cb2
      have gk2 := k2.lt
      go_wp2_with fail
      refine (spec_num0 y _).mono ?_
      rintro e v3 ⟨rfl, x3⟩
      have S3 := S2.below x3 S2.lt
      have hC3 := hC2.trans (ButR.of_below gk2 x3)
      have k3 := k2.below x3 gk2
      have s0 : v3.cell? ⟨w.heap.size, 0, none⟩ = some (.int .i64 0) := S3.cell 0
      have s1 : v3.cell? ⟨w.heap.size, 1, none⟩ = some (.int .i64 0) := S3.cell 1
      have s2 : v3.cell? ⟨w.heap.size, 2, none⟩ = some (.string ⟨#[]⟩) := S3.cell 2
      have s3 : v3.cell? ⟨w.heap.size, 3, none⟩ = some (.slice none 0 0) := S3.cell 3
      have sf0 : v3.frozen? ⟨w.heap.size, 0, none⟩ = false := S3.frozen 0
      have sf1 : v3.frozen? ⟨w.heap.size, 1, none⟩ = false := S3.frozen 1
      have sf2 : v3.frozen? ⟨w.heap.size, 2, none⟩ = false := S3.frozen 2
      have sf3 : v3.frozen? ⟨w.heap.size, 3, none⟩ = false := S3.frozen 3
      have F := Lib.hid (DrE.fin (p := p) (K := kE (d' + 1)) (kids := []) hgw k3 (by omega) hC3 (leaf_ev hy 1 ⟨by omega, by omega⟩ ⟨#[]⟩ ok_empty (d' + 1) (w.heap.size + 1) v3) (Nat.lt_succ_self _))
      go_wp2_with fail
      refine bodyPost_ret (v := .agg #[.int .i64 1, .int .i64 y, .string ⟨#[]⟩, .slice none 0 0]) (by simp [results, Tryd.results45, go_sem, s0, s1, s2, s3]) rfl F.out
    have t1 : ((t : Int) == 0) = false := by simpa using t0
    have L9 := lit_str v1 [⟨#[97]⟩, ⟨#[98]⟩] (nm_ml (nm_all (by decide +kernel))) (by decide)
    go_wp2_with fail
    refine (of_ok [⟨#[97]⟩, ⟨#[98]⟩] (by decide) (by decide) NmOk (nm_all (by decide +kernel)) _ _ _ l g q1 _ (k1.below ((Below.refl _ _).alloc (Nat.le_refl _) _) gk1) (by omega) L9 gk1 (Nat.le_refl _)).mono ?_
    rintro e v2 ⟨v, q2, rfl, k2, hq2, cb2, s, hs, rfl⟩
    have S2 := cb2.row (S1.alloc _) hgw
    have hC2 := (hC1.alloc hgw _).trans cb2
    have s0 : v2.cell? ⟨w.heap.size, 0, none⟩ = some (.int .i64 0) := S2.cell 0
    have s1 : v2.cell? ⟨w.heap.size, 1, none⟩ = some (.int .i64 0) := S2.cell 1
    have s2 : v2.cell? ⟨w.heap.size, 2, none⟩ = some (.string ⟨#[]⟩) := S2.cell 2
    have s3 : v2.cell? ⟨w.heap.size, 3, none⟩ = some (.slice none 0 0) := S2.cell 3
    have sf0 : v2.frozen? ⟨w.heap.size, 0, none⟩ = false := S2.frozen 0
    have sf1 : v2.frozen? ⟨w.heap.size, 1, none⟩ = false := S2.frozen 1
    have sf2 : v2.frozen? ⟨w.heap.size, 2, none⟩ = false := S2.frozen 2
    have sf3 : v2.frozen? ⟨w.heap.size, 3, none⟩ = false := S2.frozen 3
    have F := Lib.hid (DrE.fin (p := p) (K := kE (d' + 1)) (kids := []) hgw k2 (by omega) hC2 (leaf_ev (n := 0) ⟨by omega, by omega⟩ 2 ⟨by omega, by omega⟩ s hs (d' + 1) (w.heap.size + 1) v2) (Nat.lt_succ_self _))
    go_wp2_with fail
    refine bodyPost_ret (v := .agg #[.int .i64 2, .int .i64 0, .string s, .slice none 0 0]) (by simp [results, Tryd.results45, go_sem, s0, s1, s2, s3]) rfl F.out
  have q0 : ((k : Int) == 0) = false := by simpa using k0
  go_wp2_with fail
  refine (pick_ok 4 (by omega) (by omega) l g p2 _ h2 (by omega)).mono ?_
  rintro e w3 ⟨v, p3, rfl, h3, hp3, hb3, k7, hk7, rfl⟩
  have R3 := hb3.row R2 hgw
  have hB3 := hB2.trans hb3
  have hlt3 : w.heap.size < w3.heap.size := Nat.lt_of_lt_of_le hlt2 hb3.1.size
  have hg3 := h3.lt
  clear hB2 R2 hb3
  by_cases k1 : k7 = 0
  · subst k1
    have L4 := lit_int w3 [11, 11, 11, 12] (i64_of (by decide)) (by decide)
    have hb4 := (Below.refl _ w3).alloc (Nat.le_refl _) (.cells ([11, 11, 11, 12].map (Value.int .i64)).toArray 3)
    have R4 := R3.alloc (.cells ([11, 11, 11, 12].map (Value.int .i64)).toArray 3)
    have hB4 := hB3.alloc hgw (.cells ([11, 11, 11, 12].map (Value.int .i64)).toArray 3)
    have hlt4 := Nat.lt_of_lt_of_le hlt3 hb4.size
    go_wp2_with fail
    refine (num_ok [11, 11, 11, 12] (by decide) (by decide) I64 (i64_of (by decide)) _ _ _ l g p3 _ (h3.below hb4 hg3) (by omega) L4 hg3 (Nat.le_refl _)).mono ?_
    rintro e w5 ⟨v, p5, rfl, h5, hp5, hb5, y, hy, rfl⟩
    have R5 := hb5.row R4 hgw
    have hB5 := hB4.trans hb5
    have hlt5 : w.heap.size < w5.heap.size := Nat.lt_of_lt_of_le hlt4 hb5.1.size
    clear L4 R4 hB4 hb5
    go_wp2_with fail
    refine (IH.out l g p5 _ h5 (by omega)).mono ?_
    rintro e w6 ⟨p6, op, n, name, kids, A3, c3, rfl, h6, hp6, hb6, hE⟩
    have R6 := hb6.row R5 hgw
    have hB6 := hB5.trans hb6
    have hg6 := h6.lt
    have hsz6 := hb6.1.size
    have hb7 := (Below.refl _ w6).alloc (Nat.le_refl _) (.cells #[.int .i64 op, .int .i64 n, .string name, .slice A3 kids.length c3] 25)
    have R7 := R6.alloc (.cells #[.int .i64 op, .int .i64 n, .string name, .slice A3 kids.length c3] 25)
    have RN : Row (w6.alloc (.cells #[.int .i64 op, .int .i64 n, .string name, .slice A3 kids.length c3] 25)) w6.heap.size 25 #[.int .i64 op, .int .i64 n, .string name, .slice A3 kids.length c3] := Row.new _ _ _
    have own : OwnT (fun m => exT m (d' + 1)) 25 (w6.alloc (.cells #[.int .i64 op, .int .i64 n, .string name, .slice A3 kids.length c3] 25)) w5.heap.size (.slice (some ⟨w6.heap.size, 0, none⟩) 1 1) [.mk op n name kids] :=
      own_one (p := w5.heap.size) (q := w6.heap.size) RN hsz6 (Nat.le_refl _) hsz6 hb7.size (Or.inr (Nat.le_refl _)) (fun m => (exT m (d' + 1)).below (hE.rep m) hb7 (Nat.le_refl _))
    have hEN : ExV (d' + 1) w5.heap.size y 0 ⟨#[]⟩ [.mk op n name kids] (.slice (some ⟨w6.heap.size, 0, none⟩) 1 1) (w6.alloc (.cells #[.int .i64 op, .int .i64 n, .string name, .slice A3 kids.length c3] 25)) :=
      ⟨hy, ⟨by omega, by omega⟩, ok_empty.1, ok_empty.2, (fun k hk => by obtain rfl := List.mem_singleton.1 hk; exact hE.noZ), (by simp only [List.length_cons, List.length_nil]; omega), own⟩
    have F := Lib.hid (DrE.fin (p := p) (K := kE (d' + 1)) (kids := [.mk op n name kids]) hgw (h6.below hb7 hg6) (by omega) (hB6.alloc hgw _) hEN hlt5)
    have s0 : (w6.alloc (.cells #[.int .i64 op, .int .i64 n, .string name, .slice A3 kids.length c3] 25)).cell? ⟨w.heap.size, 0, none⟩ = some (.int .i64 0) := R7.cell 0
    have s1 : (w6.alloc (.cells #[.int .i64 op, .int .i64 n, .string name, .slice A3 kids.length c3] 25)).cell? ⟨w.heap.size, 1, none⟩ = some (.int .i64 0) := R7.cell 1
    have s2 : (w6.alloc (.cells #[.int .i64 op, .int .i64 n, .string name, .slice A3 kids.length c3] 25)).cell? ⟨w.heap.size, 2, none⟩ = some (.string ⟨#[]⟩) := R7.cell 2
    have s3 : (w6.alloc (.cells #[.int .i64 op, .int .i64 n, .string name, .slice A3 kids.length c3] 25)).cell? ⟨w.heap.size, 3, none⟩ = some (.slice none 0 0) := R7.cell 3
    have sf0 : (w6.alloc (.cells #[.int .i64 op, .int .i64 n, .string name, .slice A3 kids.length c3] 25)).frozen? ⟨w.heap.size, 0, none⟩ = false := R7.frozen 0
    have sf1 : (w6.alloc (.cells #[.int .i64 op, .int .i64 n, .string name, .slice A3 kids.length c3] 25)).frozen? ⟨w.heap.size, 1, none⟩ = false := R7.frozen 1
    have sf2 : (w6.alloc (.cells #[.int .i64 op, .int .i64 n, .string name, .slice A3 kids.length c3] 25)).frozen? ⟨w.heap.size, 2, none⟩ = false := R7.frozen 2
    have sf3 : (w6.alloc (.cells #[.int .i64 op, .int .i64 n, .string name, .slice A3 kids.length c3] 25)).frozen? ⟨w.heap.size, 3, none⟩ = false := R7.frozen 3
    clear own hEN hE hB6 hB5 hb6 hb7 RN
    go_wp2_with fail
    refine bodyPost_ret (v := .agg #[.int .i64 y, .int .i64 0, .string ⟨#[]⟩, .slice (some ⟨w6.heap.size, 0, none⟩) 1 1]) (by simp [results, Tryd.results45, go_sem, s0, s1, s2, s3]) rfl F.out
  have q1 : ((k7 : Int) == 0) = false := by simpa using k1
  have L4 := lit_int w3 [3, 4, 5, 5, 6, 7, 8, 9, 10] (i64_of (by decide)) (by decide)
  have hb4 := (Below.refl _ w3).alloc (Nat.le_refl _) (.cells ([3, 4, 5, 5, 6, 7, 8, 9, 10].map (Value.int .i64)).toArray 3)
  have R4 := R3.alloc (.cells ([3, 4, 5, 5, 6, 7, 8, 9, 10].map (Value.int .i64)).toArray 3)
  have hB4 := hB3.alloc hgw (.cells ([3, 4, 5, 5, 6, 7, 8, 9, 10].map (Value.int .i64)).toArray 3)
  have hlt4 := Nat.lt_of_lt_of_le hlt3 hb4.size
  go_wp2_with fail
  refine (num_ok [3, 4, 5, 5, 6, 7, 8, 9, 10] (by decide) (by decide) I64 (i64_of (by decide)) _ _ _ l g p3 _ (h3.below hb4 hg3) (by omega) L4 hg3 (Nat.le_refl _)).mono ?_
  rintro e w5 ⟨v, p5, rfl, h5, hp5, hb5, y, hy, rfl⟩
  have R5 := hb5.row R4 hgw
  have hB5 := hB4.trans hb5
  have hlt5 : w.heap.size < w5.heap.size := Nat.lt_of_lt_of_le hlt4 hb5.1.size
  have hg5 := h5.lt
  clear L4 R4 hB4 hb5
  go_wp2_with fail
  refine (IH.out l g p5 _ h5 (by omega)).mono ?_
  rintro e w6 ⟨p6, op, n, name, kids, A3, c3, rfl, h6, hp6, hb6, hE⟩
  have R6 := hb6.row R5 hgw
  have hB6 := hB5.trans hb6
  have hg6 := h6.lt
  have hsz6 := hb6.1.size
  go_wp2_with fail
  refine (IH.out l g p6 _ h6 (by omega)).mono ?_
  rintro e w7 ⟨p7, op', n', name', kids', A4, c4, rfl, h7, hp7, hb7, hE'⟩
  have R7 := hb7.row R6 hgw
  have hB7 := hB6.trans hb7
  have hg7 := h7.lt
  have hsz7 := hb7.1.size
  have hb8 := (Below.refl _ w7).alloc (Nat.le_refl _) (.cells #[.int .i64 op, .int .i64 n, .string name, .slice A3 kids.length c3, .int .i64 op', .int .i64 n', .string name', .slice A4 kids'.length c4] 25)
  have R8 := R7.alloc (.cells #[.int .i64 op, .int .i64 n, .string name, .slice A3 kids.length c3, .int .i64 op', .int .i64 n', .string name', .slice A4 kids'.length c4] 25)
  have RN : Row (w7.alloc (.cells #[.int .i64 op, .int .i64 n, .string name, .slice A3 kids.length c3, .int .i64 op', .int .i64 n', .string name', .slice A4 kids'.length c4] 25)) w7.heap.size 25 #[.int .i64 op, .int .i64 n, .string name, .slice A3 kids.length c3, .int .i64 op', .int .i64 n', .string name', .slice A4 kids'.length c4] := Row.new _ _ _
  have own : OwnT (fun m => exT m (d' + 1)) 25 (w7.alloc (.cells #[.int .i64 op, .int .i64 n, .string name, .slice A3 kids.length c3, .int .i64 op', .int .i64 n', .string name', .slice A4 kids'.length c4] 25)) w5.heap.size (.slice (some ⟨w7.heap.size, 0, none⟩) 2 2) [.mk op n name kids, .mk op' n' name' kids'] :=
    own_two (p := w5.heap.size) (q := w6.heap.size) (p' := w6.heap.size) (q' := w7.heap.size) RN (Nat.le_trans hsz6 hsz7) (Nat.le_refl _) hsz6 (Nat.le_refl _) hsz7 hb8.size (Or.inr (Nat.le_refl _))
      (fun m => (exT m (d' + 1)).below ((exT m (d' + 1)).keep (hE.rep m) (Nat.le_refl _) (Nat.le_refl _) (fun b h1 h2 => hb7.2 b (by omega) h2)) hb8 hsz7) (fun m => (exT m (d' + 1)).below (hE'.rep m) hb8 (Nat.le_refl _))
  have hEN : ExV (d' + 1) w5.heap.size y 0 ⟨#[]⟩ [.mk op n name kids, .mk op' n' name' kids'] (.slice (some ⟨w7.heap.size, 0, none⟩) 2 2) (w7.alloc (.cells #[.int .i64 op, .int .i64 n, .string name, .slice A3 kids.length c3, .int .i64 op', .int .i64 n', .string name', .slice A4 kids'.length c4] 25)) :=
    ⟨hy, ⟨by omega, by omega⟩, ok_empty.1, ok_empty.2, (fun k hk => by
      rcases List.mem_cons.1 hk with rfl | hk
      · exact hE.noZ
      · obtain rfl := List.mem_singleton.1 hk; exact hE'.noZ), (by simp only [List.length_cons, List.length_nil]; omega), own⟩
  have F := Lib.hid (DrE.fin (p := p) (K := kE (d' + 1)) (kids := [.mk op n name kids, .mk op' n' name' kids']) hgw (h7.below hb8 hg7) (by omega) (hB7.alloc hgw _) hEN hlt5)
  have s0 : (w7.alloc (.cells #[.int .i64 op, .int .i64 n, .string name, .slice A3 kids.length c3, .int .i64 op', .int .i64 n', .string name', .slice A4 kids'.length c4] 25)).cell? ⟨w.heap.size, 0, none⟩ = some (.int .i64 0) := R8.cell 0
  have s1 : (w7.alloc (.cells #[.int .i64 op, .int .i64 n, .string name, .slice A3 kids.length c3, .int .i64 op', .int .i64 n', .string name', .slice A4 kids'.length c4] 25)).cell? ⟨w.heap.size, 1, none⟩ = some (.int .i64 0) := R8.cell 1
  have s2 : (w7.alloc (.cells #[.int .i64 op, .int .i64 n, .string name, .slice A3 kids.length c3, .int .i64 op', .int .i64 n', .string name', .slice A4 kids'.length c4] 25)).cell? ⟨w.heap.size, 2, none⟩ = some (.string ⟨#[]⟩) := R8.cell 2
  have s3 : (w7.alloc (.cells #[.int .i64 op, .int .i64 n, .string name, .slice A3 kids.length c3, .int .i64 op', .int .i64 n', .string name', .slice A4 kids'.length c4] 25)).cell? ⟨w.heap.size, 3, none⟩ = some (.slice none 0 0) := R8.cell 3
  have sf0 : (w7.alloc (.cells #[.int .i64 op, .int .i64 n, .string name, .slice A3 kids.length c3, .int .i64 op', .int .i64 n', .string name', .slice A4 kids'.length c4] 25)).frozen? ⟨w.heap.size, 0, none⟩ = false := R8.frozen 0
  have sf1 : (w7.alloc (.cells #[.int .i64 op, .int .i64 n, .string name, .slice A3 kids.length c3, .int .i64 op', .int .i64 n', .string name', .slice A4 kids'.length c4] 25)).frozen? ⟨w.heap.size, 1, none⟩ = false := R8.frozen 1
  have sf2 : (w7.alloc (.cells #[.int .i64 op, .int .i64 n, .string name, .slice A3 kids.length c3, .int .i64 op', .int .i64 n', .string name', .slice A4 kids'.length c4] 25)).frozen? ⟨w.heap.size, 2, none⟩ = false := R8.frozen 2
  have sf3 : (w7.alloc (.cells #[.int .i64 op, .int .i64 n, .string name, .slice A3 kids.length c3, .int .i64 op', .int .i64 n', .string name', .slice A4 kids'.length c4] 25)).frozen? ⟨w.heap.size, 3, none⟩ = false := R8.frozen 3
  clear own hEN hE hE' hB6 hB5 hB7 hb6 hb7 hb8 RN
  go_wp2_with fail
  refine bodyPost_ret (v := .agg #[.int .i64 y, .int .i64 0, .string ⟨#[]⟩, .slice (some ⟨w7.heap.size, 0, none⟩) 2 2]) (by simp [results, Tryd.results45, go_sem, s0, s1, s2, s3]) rfl F.out
theorem draw6_ok : ∀ d : Nat, d ≤ 100 → Draw6At d
  | 0 => fun hd => draw6_step 0 hd (fun d' h => by omega)
  | d + 1 => fun hd => draw6_step (d + 1) hd (fun d' h => by obtain rfl : d' = d := (by omega); exact draw6_ok d' (by omega))
set_option maxRecDepth 100000 in
set_option maxHeartbeats 4000000 in
theorem draw_safe (l : List UInt8) (v : Value) (w : World) (hv : Sl false byS w 0 w.heap.size l v) : Calls Tryd.prog 27 #[v] w (DrawP w) := by
  obtain ⟨A, cap, rfl, hlc, hcm⟩ := hv.form
  have hb0 : Below w.heap.size w (w.alloc (.cells #[.int .i64 0, .int .i64 0, .string ⟨#[]⟩, .slice none 0 0] 25)) := (Below.refl _ _).alloc (Nat.le_refl _) _
  have R0 : Row (w.alloc (.cells #[.int .i64 0, .int .i64 0, .string ⟨#[]⟩, .slice none 0 0] 25)) w.heap.size 25 #[.int .i64 0, .int .i64 0, .string ⟨#[]⟩, .slice none 0 0] := Row.new w _ _
  have hv0 : Sl false byS (w.alloc (.cells #[.int .i64 0, .int .i64 0, .string ⟨#[]⟩, .slice none 0 0] 25)) 0 (w.alloc (.cells #[.int .i64 0, .int .i64 0, .string ⟨#[]⟩, .slice none 0 0] 25)).heap.size l (.slice A l.length cap) := (hv.below hb0 (Nat.le_refl _)).more (Nat.le_refl _) hb0.size
  have hk4 : kE 4 = 124 := rfl
  go_enter Tryd.func27, Tryd.ntmps27
  go_wp2_with fail
  refine (open_ok l _ _ hv0).mono ?_
  rintro e w1 ⟨g, l', rfl, hg, h1, b1⟩
  have hb1 := hb0.trans (b1.mono hb0.size)
  have R1 := R0.below b1 R0.lt
  have hwg : w.heap.size < g := Nat.lt_of_lt_of_le (by simp) hg
  have hg1 := h1.lt
  clear R0 hv0 hv
  go_wp2_with fail
  refine (pick_ok 3 (by omega) (by omega) l' g 0 _ h1 (by omega)).mono ?_
  rintro e w2 ⟨v, p2, rfl, h2, hp2, hb2, k, hk, rfl⟩
  have R2 := R1.below hb2.1 hwg
  have hB2 := hb1.trans (hb2.1.mono (Nat.le_of_lt hwg))
  have hw12 := hb2.1.size
  by_cases k0 : k = 0
  · subst k0
    go_wp2_with fail
    refine (bent_ok l' g p2 _ h2 (by omega)).mono ?_
    rintro e w3 ⟨p3, op, n, name, kids, A3, c3, rfl, h3, hp3, hb3, hE⟩
    have R3 := R2.below hb3.1 hwg
    have hB3 := hB2.trans (hb3.1.mono (Nat.le_of_lt hwg))
    have s0 : w3.cell? ⟨w.heap.size, 0, none⟩ = some (.int .i64 0) := R3.cell 0
    have s1 : w3.cell? ⟨w.heap.size, 1, none⟩ = some (.int .i64 0) := R3.cell 1
    have s2 : w3.cell? ⟨w.heap.size, 2, none⟩ = some (.string ⟨#[]⟩) := R3.cell 2
    have s3 : w3.cell? ⟨w.heap.size, 3, none⟩ = some (.slice none 0 0) := R3.cell 3
    have sf0 : w3.frozen? ⟨w.heap.size, 0, none⟩ = false := R3.frozen 0
    have sf1 : w3.frozen? ⟨w.heap.size, 1, none⟩ = false := R3.frozen 1
    have sf2 : w3.frozen? ⟨w.heap.size, 2, none⟩ = false := R3.frozen 2
    have sf3 : w3.frozen? ⟨w.heap.size, 3, none⟩ = false := R3.frozen 3
    have hE6 := hE.keepT (w' := set4 w3 w.heap.size (.int .i64 op) (.int .i64 n) (.string name) (.slice A3 kids.length c3)) (fun b h1 h2 => set4_block _ _ _ _ _ _ b (by omega)) (Nat.le_of_eq (set4_size _ _ _ _ _ _).symm)
    have F : Hid (DrawP w (.returned (.agg #[.int .i64 op, .int .i64 n, .string name, .slice A3 kids.length c3])) (set4 w3 w.heap.size (.int .i64 op) (.int .i64 n) (.string name) (.slice A3 kids.length c3))) :=
      ⟨op, n, name, kids, A3, c3, rfl, hE.1, hE.2.1, Nat.le_trans hE.2.2.1 (by decide), hE6.sl.more (by omega) (Nat.le_refl _), hE.noZ, hB3.trans (set4_below w3 w.heap.size _ _ _ _ (Nat.le_refl _))⟩
    clear hE hE6 hb3
    go_wp2_with fail
    refine bodyPost_ret (v := .agg #[.int .i64 op, .int .i64 n, .string name, .slice A3 kids.length c3]) (by simp [results, Tryd.results27, go_sem, s0, s1, s2, s3]) rfl F.out
  · have q0 : ((k : Int) == 0) = false := by simpa using k0
    go_wp2_with fail
    refine (draw6_ok 4 (by omega) l' g p2 _ h2 (by omega)).mono ?_
    rintro e w3 ⟨p3, op, n, name, kids, A3, c3, rfl, h3, hp3, hb3, hE'⟩
    have hE := hE'.lower (show 4 ≤ 9 by omega) (Nat.le_refl _)
    have R3 := R2.below hb3.1 hwg
    have hB3 := hB2.trans (hb3.1.mono (Nat.le_of_lt hwg))
    have s0 : w3.cell? ⟨w.heap.size, 0, none⟩ = some (.int .i64 0) := R3.cell 0
    have s1 : w3.cell? ⟨w.heap.size, 1, none⟩ = some (.int .i64 0) := R3.cell 1
    have s2 : w3.cell? ⟨w.heap.size, 2, none⟩ = some (.string ⟨#[]⟩) := R3.cell 2
    have s3 : w3.cell? ⟨w.heap.size, 3, none⟩ = some (.slice none 0 0) := R3.cell 3
    have sf0 : w3.frozen? ⟨w.heap.size, 0, none⟩ = false := R3.frozen 0
    have sf1 : w3.frozen? ⟨w.heap.size, 1, none⟩ = false := R3.frozen 1
    have sf2 : w3.frozen? ⟨w.heap.size, 2, none⟩ = false := R3.frozen 2
    have sf3 : w3.frozen? ⟨w.heap.size, 3, none⟩ = false := R3.frozen 3
    have hE6 := hE.keepT (w' := set4 w3 w.heap.size (.int .i64 op) (.int .i64 n) (.string name) (.slice A3 kids.length c3)) (fun b h1 h2 => set4_block _ _ _ _ _ _ b (by omega)) (Nat.le_of_eq (set4_size _ _ _ _ _ _).symm)
    have F : Hid (DrawP w (.returned (.agg #[.int .i64 op, .int .i64 n, .string name, .slice A3 kids.length c3])) (set4 w3 w.heap.size (.int .i64 op) (.int .i64 n) (.string name) (.slice A3 kids.length c3))) :=
      ⟨op, n, name, kids, A3, c3, rfl, hE.1, hE.2.1, Nat.le_trans hE.2.2.1 (by decide), hE6.sl.more (by omega) (Nat.le_refl _), hE.noZ, hB3.trans (set4_below w3 w.heap.size _ _ _ _ (Nat.le_refl _))⟩
    clear hE hE6 hb3
    go_wp2_with fail
    refine bodyPost_ret (v := .agg #[.int .i64 op, .int .i64 n, .string name, .slice A3 kids.length c3]) (by simp [results, Tryd.results27, go_sem, s0, s1, s2, s3]) rfl F.out
set_option maxRecDepth 100000 in
set_option maxHeartbeats 4000000 in
theorem draw_fold (l : List UInt8) (v : Value) (w : World) (hv : Sl false byS w 0 w.heap.size l v) : Calls Tryd.prog 10 #[v] w (DrawP w) := by
  obtain ⟨A, cap, rfl, hlc, hcm⟩ := hv.form
  have hb0 : Below w.heap.size w (w.alloc (.cells #[.int .i64 0, .int .i64 0, .string ⟨#[]⟩, .slice none 0 0] 25)) := (Below.refl _ _).alloc (Nat.le_refl _) _
  have R0 : Row (w.alloc (.cells #[.int .i64 0, .int .i64 0, .string ⟨#[]⟩, .slice none 0 0] 25)) w.heap.size 25 #[.int .i64 0, .int .i64 0, .string ⟨#[]⟩, .slice none 0 0] := Row.new w _ _
  have hv0 : Sl false byS (w.alloc (.cells #[.int .i64 0, .int .i64 0, .string ⟨#[]⟩, .slice none 0 0] 25)) 0 (w.alloc (.cells #[.int .i64 0, .int .i64 0, .string ⟨#[]⟩, .slice none 0 0] 25)).heap.size l (.slice A l.length cap) := (hv.below hb0 (Nat.le_refl _)).more (Nat.le_refl _) hb0.size
  have hs1 : (w.alloc (.cells #[.int .i64 0, .int .i64 0, .string ⟨#[]⟩, .slice none 0 0] 25)).heap.size = w.heap.size + 1 := by simp
  go_enter Tryd.func10, Tryd.ntmps10
  go_wp2_with fail
  refine (draw_safe l _ _ hv0).mono ?_
  rintro e w2 ⟨op, n, name, kids, A3, c3, rfl, ho, hn, hnm, hs, hz, b2⟩
  have hB2 := hb0.trans (b2.mono hb0.size)
  have R2 := R0.below b2 R0.lt
  have s0 : w2.cell? ⟨w.heap.size, 0, none⟩ = some (.int .i64 0) := R2.cell 0
  have s1 : w2.cell? ⟨w.heap.size, 1, none⟩ = some (.int .i64 0) := R2.cell 1
  have s2 : w2.cell? ⟨w.heap.size, 2, none⟩ = some (.string ⟨#[]⟩) := R2.cell 2
  have s3 : w2.cell? ⟨w.heap.size, 3, none⟩ = some (.slice none 0 0) := R2.cell 3
  have sf0 : w2.frozen? ⟨w.heap.size, 0, none⟩ = false := R2.frozen 0
  have sf1 : w2.frozen? ⟨w.heap.size, 1, none⟩ = false := R2.frozen 1
  have sf2 : w2.frozen? ⟨w.heap.size, 2, none⟩ = false := R2.frozen 2
  have sf3 : w2.frozen? ⟨w.heap.size, 3, none⟩ = false := R2.frozen 3
  have F : Hid (DrawP w (.returned (.agg #[.int .i64 op, .int .i64 n, .string name, .slice A3 kids.length c3])) (set4 w2 w.heap.size (.int .i64 op) (.int .i64 n) (.string name) (.slice A3 kids.length c3))) :=
    ⟨op, n, name, kids, A3, c3, rfl, ho, hn, hnm, hs.keep (by rw [hs1]; omega) (Nat.le_of_eq (set4_size _ _ _ _ _ _).symm) (fun b h1 h2 => set4_block _ _ _ _ _ _ b (by rw [hs1] at h1; omega)), hz, hB2.trans (set4_below w2 w.heap.size _ _ _ _ (Nat.le_refl _))⟩
  clear hs hv0 hv R0 hb0
  go_wp2_with fail
  refine bodyPost_ret (v := .agg #[.int .i64 op, .int .i64 n, .string name, .slice A3 kids.length c3]) (by simp [results, Tryd.results10, go_sem, s0, s1, s2, s3]) rfl F.out
end Go.Proofs.YthfinoapfbhgcaaDoor

