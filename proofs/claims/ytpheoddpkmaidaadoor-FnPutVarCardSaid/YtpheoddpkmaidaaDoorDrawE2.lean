/-
  What the draws answer: an expression without Kids, an expression that is at most so deep. Condition: few numbers have been picked.
-/
import Derived.Test.YtpheoddpkmaidaaDoorDrawE1
namespace Go.Proofs.YtpheoddpkmaidaaDoor
open Go.RowKit Go.ChangeShapes Go.WideShapes Go.Deep
set_option linter.unusedSimpArgs false
set_option linter.unusedVariables false
/-- a name that may be drawn -/
def NmOk (s : ByteArray) : Prop := s.size ≤ 1001 ∧ s ≠ zz
theorem nm_all {ls : List ByteArray} (h : (ls.all fun s => decide (s.size ≤ 1001) && decide (s ≠ zz)) = true) : ∀ s ∈ ls, NmOk s := by
  intro s hs
  have := List.all_eq_true.1 h s hs
  rw [Bool.and_eq_true] at this
  exact ⟨of_decide_eq_true this.1, of_decide_eq_true this.2⟩
theorem nm_ml {ls : List ByteArray} (h : ∀ s ∈ ls, NmOk s) : ∀ s ∈ ls, s.size ≤ maxLen := fun s hs => Nat.le_trans (h s hs).1 (by decide)
def numsD : List Int := [0, 1, 2, 3, 5, 7, 15, 16, 100, 255]
theorem leaf_ev {n : Int} (hn : I64 n) (op : Int) (ho : I64 op) (s : ByteArray) (hs : NmOk s) (d lo : Nat) (w : World) : ExV d lo op n s [] (.slice none 0 0) w := ⟨ho, hn, hs.1, hs.2, (fun k hk => by cases hk), (by simp), OwnT.nil_ _ _ _ _⟩
theorem ok_empty : NmOk ⟨#[]⟩ := ⟨by decide, by decide⟩
set_option maxRecDepth 100000 in
set_option maxHeartbeats 4000000 in
theorem leaf_ok (ls : List ByteArray) (hls : ∀ s ∈ ls, NmOk s) (hlen : ls.length ≤ 10) (v1 : Value) (lo B : Nat) (l : List UInt8) (g p : Nat) (w : World) (h : RdAt w g l p) (hp : p ≤ 900000) (hv : Sl false (strS false) w lo B ls v1) (hlo : g < lo) (hB : B ≤ w.heap.size) (d : Nat) :
    Calls Tryd.prog 42 #[.pointer (some ⟨g, 0, none⟩), v1] w (DrE g l p 2 d w) := by
  have hgw := h.lt
  obtain ⟨A, cap, rfl, hlc, hcm⟩ := hv.form
  have hbA : Below w.heap.size w (w.alloc (.cells #[.int .i64 0, .int .i64 0, .string ⟨#[]⟩, .slice none 0 0] 25)) := (Below.refl _ _).alloc (Nat.le_refl _) _
  have R0 : Row (w.alloc (.cells #[.int .i64 0, .int .i64 0, .string ⟨#[]⟩, .slice none 0 0] 25)) w.heap.size 25 #[.int .i64 0, .int .i64 0, .string ⟨#[]⟩, .slice none 0 0] := Row.new w _ _
  have hB0 : But g w (w.alloc (.cells #[.int .i64 0, .int .i64 0, .string ⟨#[]⟩, .slice none 0 0] 25)) := (But.refl w).alloc hgw _
  have h0 := h.below hbA hgw
  have hv0 := hv.below hbA hB
  have hB0s : B ≤ (w.alloc (.cells #[.int .i64 0, .int .i64 0, .string ⟨#[]⟩, .slice none 0 0] 25)).heap.size := Nat.le_trans hB hbA.size
  have fin : ∀ (wX : World) (op n : Int) (s : ByteArray) (p' : Nat), RdAt wX g l p' → p' ≤ p + 2 → But g w wX → I64 op → I64 n → NmOk s → DrE g l p 2 d w (.returned (.agg #[.int .i64 op, .int .i64 n, .string s, .slice none 0 0])) (set4 wX w.heap.size (.int .i64 op) (.int .i64 n) (.string s) (.slice none 0 0)) := by
    intro wX op n s p' hR hp' hB' ho hn hs
    exact DrE.fin (kids := []) hgw hR hp' hB' (leaf_ev hn op ho s hs d (w.heap.size + 1) wX) (Nat.lt_succ_self _)
  replace fin := Lib.hid fin
  by_cases h00 : ls.length = 0
  · have q0 : ((ls.length : Int) == 0) = true := by rw [h00]; rfl
    have L2 := lit_int (w.alloc (.cells #[.int .i64 0, .int .i64 0, .string ⟨#[]⟩, .slice none 0 0] 25)) numsD (i64_of (by decide)) (by decide)
    have hb2 := (Below.refl _ (w.alloc (.cells #[.int .i64 0, .int .i64 0, .string ⟨#[]⟩, .slice none 0 0] 25))).alloc (Nat.le_refl _) (.cells (numsD.map (Value.int .i64)).toArray 3)
    have hg1 := h0.lt
    have R1 := R0.alloc (.cells (numsD.map (Value.int .i64)).toArray 3)
    have hB1 := hB0.alloc hgw (.cells (numsD.map (Value.int .i64)).toArray 3)
    have hs1 : (w.alloc (.cells #[.int .i64 0, .int .i64 0, .string ⟨#[]⟩, .slice none 0 0] 25)).heap.size = w.heap.size + 1 := by simp
    rw [hs1] at L2
    clear h00
    go_enter Tryd.func42, Tryd.ntmps42
    go_wp2_with fail
    refine (num_ok numsD (by decide) (by decide) I64 (i64_of (by decide)) _ _ _ l g p _ (h0.below hb2 hg1) (by omega) L2 (by omega) (Nat.le_refl _)).mono ?_
    rintro e w2 ⟨v, p2, rfl, h2, hp2, hb2, x, hx, rfl⟩
    have R2 := hb2.row R1 hgw
    have s0 : w2.cell? ⟨w.heap.size, 0, none⟩ = some (.int .i64 0) := R2.cell 0
    have s1 : w2.cell? ⟨w.heap.size, 1, none⟩ = some (.int .i64 0) := R2.cell 1
    have s2 : w2.cell? ⟨w.heap.size, 2, none⟩ = some (.string ⟨#[]⟩) := R2.cell 2
    have s3 : w2.cell? ⟨w.heap.size, 3, none⟩ = some (.slice none 0 0) := R2.cell 3
    have f0 : w2.frozen? ⟨w.heap.size, 0, none⟩ = false := R2.frozen 0
    have f1 : w2.frozen? ⟨w.heap.size, 1, none⟩ = false := R2.frozen 1
    have f2 : w2.frozen? ⟨w.heap.size, 2, none⟩ = false := R2.frozen 2
    have f3 : w2.frozen? ⟨w.heap.size, 3, none⟩ = false := R2.frozen 3
    have F := Lib.hid (fin.out w2 1 x ⟨#[]⟩ p2 h2 (by omega) (hB1.trans hb2) ⟨by omega, by omega⟩ hx ok_empty)
    go_wp2_with fail
    refine bodyPost_ret (v := .agg #[.int .i64 1, .int .i64 x, .string ⟨#[]⟩, .slice none 0 0]) (by simp [results, Tryd.results42, go_sem, s0, s1, s2, s3]) rfl F.out
  have q0 : ((ls.length : Int) == 0) = false := beq_eq_false_iff_ne.2 (by omega)
  go_enter Tryd.func42, Tryd.ntmps42
  go_wp2_with fail
  refine (pick_ok 3 (by omega) (by omega) l g p _ h0 (by omega)).mono ?_
  rintro e w2 ⟨v, p2, rfl, h2, hp2, hb2, k, hk, rfl⟩
  have R2 := hb2.row R0 hgw
  have hB2 := hB0.trans hb2
  have hg2 := h2.lt
  clear hB0 R0
  by_cases k0 : k = 0
  · subst k0
    have L2 := lit_int w2 numsD (i64_of (by decide)) (by decide)
    go_wp2_with fail
    refine (num_ok numsD (by decide) (by decide) I64 (i64_of (by decide)) _ _ _ l g p2 _ (h2.below ((Below.refl _ _).alloc (Nat.le_refl _) _) hg2) (by omega) L2 hg2 (Nat.le_refl _)).mono ?_
    rintro e w3 ⟨v, p3, rfl, h3, hp3, hb3, x, hx, rfl⟩
    have R3 := hb3.row (R2.alloc _) hgw
    have s0 : w3.cell? ⟨w.heap.size, 0, none⟩ = some (.int .i64 0) := R3.cell 0
    have s1 : w3.cell? ⟨w.heap.size, 1, none⟩ = some (.int .i64 0) := R3.cell 1
    have s2 : w3.cell? ⟨w.heap.size, 2, none⟩ = some (.string ⟨#[]⟩) := R3.cell 2
    have s3 : w3.cell? ⟨w.heap.size, 3, none⟩ = some (.slice none 0 0) := R3.cell 3
    have f0 : w3.frozen? ⟨w.heap.size, 0, none⟩ = false := R3.frozen 0
    have f1 : w3.frozen? ⟨w.heap.size, 1, none⟩ = false := R3.frozen 1
    have f2 : w3.frozen? ⟨w.heap.size, 2, none⟩ = false := R3.frozen 2
    have f3 : w3.frozen? ⟨w.heap.size, 3, none⟩ = false := R3.frozen 3
    have F := Lib.hid (fin.out w3 1 x ⟨#[]⟩ p3 h3 (by omega) ((hB2.alloc hgw _).trans hb3) ⟨by omega, by omega⟩ hx ok_empty)
    go_wp2_with fail
    refine bodyPost_ret (v := .agg #[.int .i64 1, .int .i64 x, .string ⟨#[]⟩, .slice none 0 0]) (by simp [results, Tryd.results42, go_sem, s0, s1, s2, s3]) rfl F.out
  · have q1 : ((k : Int) == 0) = false := by simpa using k0
    go_wp2_with fail
    refine (of_ok ls (by omega) (by omega) NmOk hls _ lo B l g p2 _ h2 (by omega) (hb2.sl hv0 hlo hB0s) hlo (Nat.le_trans hB0s hb2.1.size)).mono ?_
    rintro e w3 ⟨v, p3, rfl, h3, hp3, hb3, s, hs, rfl⟩
    have R3 := hb3.row R2 hgw
    have s0 : w3.cell? ⟨w.heap.size, 0, none⟩ = some (.int .i64 0) := R3.cell 0
    have s1 : w3.cell? ⟨w.heap.size, 1, none⟩ = some (.int .i64 0) := R3.cell 1
    have s2 : w3.cell? ⟨w.heap.size, 2, none⟩ = some (.string ⟨#[]⟩) := R3.cell 2
    have s3 : w3.cell? ⟨w.heap.size, 3, none⟩ = some (.slice none 0 0) := R3.cell 3
    have f0 : w3.frozen? ⟨w.heap.size, 0, none⟩ = false := R3.frozen 0
    have f1 : w3.frozen? ⟨w.heap.size, 1, none⟩ = false := R3.frozen 1
    have f2 : w3.frozen? ⟨w.heap.size, 2, none⟩ = false := R3.frozen 2
    have f3 : w3.frozen? ⟨w.heap.size, 3, none⟩ = false := R3.frozen 3
    have F := Lib.hid (fin.out w3 2 0 s p3 h3 (by omega) (hB2.trans hb3) ⟨by omega, by omega⟩ ⟨by omega, by omega⟩ hs)
    go_wp2_with fail
    refine bodyPost_ret (v := .agg #[.int .i64 2, .int .i64 0, .string s, .slice none 0 0]) (by simp [results, Tryd.results42, go_sem, s0, s1, s2, s3]) rfl F.out
end Go.Proofs.YtpheoddpkmaidaaDoor
