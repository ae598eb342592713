/-
  The draws of units: l7Code. Condition: few numbers have been picked; the unit's memory goes by types.
-/
import Derived.Test.YtgcjccoglcgcoaaRegT
import Derived.Test.YtgcjccoglcgcoaaDrU3
import Derived.IntWalk
import Derived.Lib.SlFresh
import Derived.Deep.CutRange
import Derived.Deep.CutBlock
namespace Go.Proofs.Ytgcjccoglcgcoaa
open Go.RowKit Go.ChangeShapes Go.WideShapes Go.Deep
variable {D : Nat}
set_option linter.unusedVariables false
set_option linter.unusedSimpArgs false
/-- a code as a draw answers it -/
def CodV (D lo : Nat) (w : World) (v : Value) : Prop := ∃ (m r : Nat) (vb : Value), v = .agg #[.int .i64 (m : Int), .int .i64 (r : Int), vb] ∧ m ≤ 3 ∧ 1 ≤ r ∧ r ≤ 300 ∧ TyBlks D lo w vb ∧ NonE vb
theorem TyS.lower_ {t : TypeId} {size N lo lo' : Nat} {w : World} {P P' : Nat → Value → Prop} {v : Value} (h : TyS t size N lo w P v) (hl : lo' ≤ lo) (hP : ∀ j u, P j u → P' j u) : TyS t size N lo' w P' v := by
  obtain ⟨A, n, cap, rfl, h1, h2, h3, h4⟩ := h
  refine ⟨A, n, cap, rfl, h1, h2, h3, fun hc => ?_⟩
  obtain ⟨b, cur, rfl, hb, R, hs, hcs⟩ := h4 hc
  exact ⟨b, cur, rfl, by omega, R, hs, fun j hj => (hcs j hj).imp fun u hu => ⟨hu.1, hP j u hu.2⟩⟩
theorem PhiP.lower {lo lo' : Nat} {w : World} {j : Nat} {v : Value} (h : PhiP D lo w j v) (hl : lo' ≤ lo) : PhiP D lo' w j v := by
  unfold PhiP at h ⊢
  by_cases e : j % 2 = 1
  · rw [if_pos e] at h ⊢
    exact h.lower hl
  · rw [if_neg e] at h ⊢
    exact h
theorem TyPhis.lower {lo lo' : Nat} {w : World} {v : Value} (h : TyPhis D lo w v) (hl : lo' ≤ lo) : TyPhis D lo' w v := TyS.lower_ h hl fun _ _ h => h.lower hl
theorem InsP.lower {lo lo' : Nat} {w : World} {j : Nat} {v : Value} (h : InsP D lo w j v) (hl : lo' ≤ lo) : InsP D lo' w j v := by
  unfold InsP at h ⊢
  by_cases e : j % 4 = 2
  · rw [if_pos e] at h ⊢
    exact h.lower hl
  · rw [if_neg e] at h ⊢
    exact h
theorem TyInss.lower {lo lo' : Nat} {w : World} {v : Value} (h : TyInss D lo w v) (hl : lo' ≤ lo) : TyInss D lo' w v := TyS.lower_ h hl fun _ _ h => h.lower hl
theorem BlkP.lower {lo lo' : Nat} {w : World} {j : Nat} {v : Value} (h : BlkP D lo w j v) (hl : lo' ≤ lo) : BlkP D lo' w j v := by
  unfold BlkP at h ⊢
  by_cases e : j % 5 = 0
  · rw [if_pos e] at h ⊢
    exact h.lower hl
  · rw [if_neg e] at h ⊢
    by_cases e1 : j % 5 = 1
    · rw [if_pos e1] at h ⊢
      exact h.lower hl
    · rw [if_neg e1] at h ⊢
      by_cases e4 : j % 5 = 4
      · rw [if_pos e4] at h ⊢
        exact h.lower hl
      · rw [if_neg e4] at h ⊢
        exact h
theorem TyBlks.lower {lo lo' : Nat} {w : World} {v : Value} (h : TyBlks D lo w v) (hl : lo' ≤ lo) : TyBlks D lo' w v := TyS.lower_ h hl fun _ _ h => h.lower hl
theorem OK.blkInt {lo : Nat} {w : World} {j : Nat} {n : Int} (h0 : j % 5 ≠ 0) (h1 : j % 5 ≠ 1) (h4 : j % 5 ≠ 4) (hn : I64 n) : OK D lo w 65 j (.int .i64 n) := Or.inr (Or.inr (Or.inr (Or.inl ⟨rfl, by unfold BlkP; rw [if_neg h0, if_neg h1, if_neg h4]; exact ⟨n, hn, rfl⟩⟩)))
theorem OK.codB {lo : Nat} {w : World} {A : Option Addr} {j c : Nat} (h : TyBlks D lo w (.slice A j c)) (hj : 0 < j) : OK D lo w 39 2 (.slice A j c) := Or.inr (Or.inr (Or.inr (Or.inr (Or.inl ⟨rfl, by unfold CodP; rw [if_neg (by decide), if_neg (by decide)]; exact ⟨h, _, _, _, rfl, hj⟩⟩))))
theorem i64_nat {n : Nat} (h : n ≤ 2000000) : I64 (n : Int) := ⟨by omega, by omega⟩
theorem OK.blkI {lo : Nat} {w : World} {v : Value} (h : TyI D lo w v) : OK D lo w 65 4 v := Or.inr (Or.inr (Or.inr (Or.inl ⟨rfl, by unfold BlkP; rw [if_neg (by decide), if_neg (by decide), if_pos rfl]; exact h⟩)))
theorem TyI.two (lo : Nat) (w : World) (n m : Int) (hn : I64 n) (hm : I64 m) (hlo : lo ≤ w.heap.size) : TyI D lo (w.alloc (.cells #[.int .i64 n, .int .i64 m] 3)) (.slice (some ⟨w.heap.size, 0, none⟩) 2 2) := by
  refine ⟨_, 2, 2, rfl, by omega, by omega, by simp [maxLen], fun _ => ⟨w.heap.size, _, rfl, hlo, Row.new w _ _, rfl, fun j hj => ?_⟩⟩
  obtain rfl | rfl : j = 0 ∨ j = 1 := by omega
  · exact ⟨_, rfl, n, hn, rfl⟩
  · exact ⟨_, rfl, m, hm, rfl⟩
/-- the answer is laid into the result's cells -/
def set3 (w : World) (b : Nat) (u0 u1 u2 : Value) : World := ((w.setCell ⟨b, 0, none⟩ u0).setCell ⟨b, 1, none⟩ u1).setCell ⟨b, 2, none⟩ u2
theorem code_fin {g p p6 K lo rb m r j c9 : Nat} {A9 : Option Addr} {l : List UInt8} {w w6 : World} {cs : Array Value} (hgw : g < w.heap.size) (hlo : lo ≤ w.heap.size) (hrb : w.heap.size ≤ rb) (h6 : RdAt w6 g l p6) (hp6 : p6 ≤ p + K) (hB : ButR g w w6) (R : Row w6 rb 39 cs) (hm : m ≤ 3) (hr1 : 1 ≤ r) (hr2 : r ≤ 300) (ty : TyBlks D w.heap.size w6 (.slice A9 j c9)) (hj : 0 < j) :
    DrP g l p K (fun v w' => CodV D w.heap.size w' v) w (.returned (.agg #[.int .i64 (m : Int), .int .i64 (r : Int), .slice A9 j c9])) (set3 w6 rb (.int .i64 (m : Int)) (.int .i64 (r : Int)) (.slice A9 j c9)) := by
  have ok0 : OK D w.heap.size w6 39 0 (.int .i64 (m : Int)) := Or.inr (Or.inr (Or.inr (Or.inr (Or.inl ⟨rfl, by unfold CodP; rw [if_pos rfl]; exact ⟨m, hm, rfl⟩⟩))))
  have ch0 := Chg.set R ok0
  have R0 := R.set_ 0 (.int .i64 (m : Int))
  have ty0 := ty.keep ch0
  have ok1 : OK D w.heap.size (w6.setCell ⟨rb, 0, none⟩ (.int .i64 (m : Int))) 39 1 (.int .i64 (r : Int)) := Or.inr (Or.inr (Or.inr (Or.inr (Or.inl ⟨rfl, by unfold CodP; rw [if_neg (by decide), if_pos rfl]; exact ⟨r, hr2, rfl⟩⟩))))
  have ch1 := Chg.set R0 ok1
  have R1 := R0.set_ 1 (.int .i64 (r : Int))
  have ty1 := ty0.keep ch1
  have ok2 : OK D w.heap.size ((w6.setCell ⟨rb, 0, none⟩ (.int .i64 (m : Int))).setCell ⟨rb, 1, none⟩ (.int .i64 (r : Int))) 39 2 (.slice A9 j c9) := Or.inr (Or.inr (Or.inr (Or.inr (Or.inl ⟨rfl, by unfold CodP; rw [if_neg (by decide), if_neg (by decide)]; exact ⟨ty1, _, _, _, rfl, hj⟩⟩))))
  have ch2 := Chg.set R1 ok2
  have ty2 := ty1.keep ch2
  refine ⟨_, p6, rfl, h6.below ((((Below.refl rb w6).setCell (p := ⟨rb, 0, none⟩) (Nat.le_refl _) _).setCell (p := ⟨rb, 1, none⟩) (Nat.le_refl _) _).setCell (p := ⟨rb, 2, none⟩) (Nat.le_refl _) _) (by omega), hp6, ((hB.setNew hgw hrb _).setNew hgw hrb _).setNew hgw hrb _, m, r, _, rfl, hm, hr1, hr2, ty2, _, _, _, rfl, hj⟩
set_option maxRecDepth 100000 in
set_option maxHeartbeats 4000000 in
theorem code_ok (v0 : Value) (l : List UInt8) (g p lo : Nat) (w : World) (hglo : g < lo) (hlo : lo ≤ w.heap.size) (h : RdAt w g l p) (hp : p ≤ 800000) (hu : TyCods D lo w v0) :
    Calls Try.prog 80 #[.pointer (some ⟨g, 0, none⟩), .agg #[v0]] w (DrP g l p 1000 (fun v w' => CodV D w.heap.size w' v) w) := by
  obtain ⟨A, nc, cap, rfl, hn1, hn2, hn3, hn4⟩ := id hu
  clear hn4
  have hgw := h.lt
  obtain ⟨W1, hW1⟩ : ∃ W1, W1 = (w.alloc (.cells #[.slice A nc cap] 28)).alloc (.cells #[.int .i64 0, .int .i64 0, .slice none 0 0] 39) := ⟨_, rfl⟩
  have hB1 : ButR g w W1 := by rw [hW1]; exact ((ButR.refl w).alloc hgw _).alloc hgw _
  have h1 : RdAt W1 g l p := by rw [hW1]; exact h.below (((Below.refl _ _).alloc (Nat.le_refl _) _).alloc (by simp) _) hgw
  have RU : Row W1 w.heap.size 28 #[.slice A nc cap] := by rw [hW1]; exact (Row.new w _ _).alloc _
  have RR : Row W1 (w.heap.size + 1) 39 #[.int .i64 0, .int .i64 0, .slice none 0 0] := by rw [hW1]; simpa using Row.new (w.alloc (.cells #[.slice A nc cap] 28)) 39 #[.int .i64 0, .int .i64 0, .slice none 0 0]
  have L2 := lit_int W1 [1, 0, 2, 3] (i64_of (by decide)) (by decide)
  go_enter Try.func80, Try.ntmps80
  go_wp2_with fail
  have hs1 : W1.heap.size = w.heap.size + 1 + 1 := by rw [hW1]; simp
  have hg1 := h1.lt
  rw [← hW1, ← hs1]
  refine (num_ok [1, 0, 2, 3] (by decide) (by decide) (fun s => ∃ m : Nat, m ≤ 3 ∧ s = (m : Int)) (by intro s hs; simp at hs; exact ⟨s.toNat, by omega, by omega⟩) _ _ _ l g p _ (h1.below ((Below.refl _ _).alloc (Nat.le_refl _) _) hg1) (by omega) L2 hg1 (Nat.le_refl _)).mono ?_
  rintro e w2 ⟨v, p2, rfl, h2, hp2, hb2, s, ⟨m, hm, rfl⟩, rfl⟩
  have hB2 : ButR g w w2 := (hB1.alloc hgw _).trans hb2
  replace RU := hb2.row (RU.alloc _) hgw
  replace RR := hb2.row (RR.alloc _) (by omega)
  have hs2 : w.heap.size + 1 + 1 < w2.heap.size := by
    have := hb2.size
    simp at this
    omega
  clear hW1 hB1 h1 L2 hb2 hs1 hg1
  go_wp2_with fail
  have RC := Row.new w2 39 #[.int .i64 (m : Int), .int .i64 0, .slice none 0 0]
  replace RU := RU.alloc (.cells #[.int .i64 (m : Int), .int .i64 0, .slice none 0 0] 39)
  replace RR := RR.alloc (.cells #[.int .i64 (m : Int), .int .i64 0, .slice none 0 0] 39)
  have h3 : RdAt (w2.alloc (.cells #[.int .i64 (m : Int), .int .i64 0, .slice none 0 0] 39)) g l p2 := h2.below ((Below.refl _ _).alloc (Nat.le_refl _) _) h2.lt
  have hB3 : ButR g w (w2.alloc (.cells #[.int .i64 (m : Int), .int .i64 0, .slice none 0 0] 39)) := hB2.alloc hgw _
  clear hB2 h2
  generalize w2.alloc (.cells #[.int .i64 (m : Int), .int .i64 0, .slice none 0 0] 39) = w3 at RC RU RR h3 hB3 ⊢
  generalize w2.heap.size = gc at RC hs2 ⊢
  have hgc : g < gc := by omega
  have hgr : g < w.heap.size + 1 := by omega
  have k0 : w3.cell? ⟨gc, 0, none⟩ = some (.int .i64 (m : Int)) := RC.cell 0
  have hw1 : IntKind.i64.wrap ((m : Int) + 2) = (m : Int) + 2 := IntWalk.i64_in _ (by omega)

  refine wp_region_held_drew (S := fun w' => (w'.cell? ⟨gc, 0, none⟩ = some (.int .i64 (m : Int)))) (by kernel_rfl) ?_ (fun hHeld => ?_)
  · first | exact k0 | exact k1 | exact k2
  refine tk (i := 0) ?_
  try simp only [ap]
  refine tk (i := 1) ?_
  try simp only [ap]
  refine tk (i := 2) ?_
  try simp only [ap]
  refine tk (i := 3) ?_
  try simp only [ap]
  refine reg_call (i := 4) (by kernel_rfl) rfl (fun K hK => ?_)
  go_simp
  (refine (pick_ok 5 (by omega) (by omega) l g p2 w3.drew (h3.below ((Below.refl (g + 1) w3).drew) (Nat.lt_succ_self _)) (by omega)).mono ?_; rintro e w4 ⟨v, p4, rfl, h4, hp4, hb4, k4, hk4, rfl⟩; have hw2 : IntKind.i64.wrap ((m : Int) + 2 + (k4 : Int)) = (m : Int) + 2 + (k4 : Int) := IntWalk.i64_in _ (by omega); have RC4 := hb4.row (show Row w3.drew gc 39 _ from RC) hgc; have RU4 := hb4.row (show Row w3.drew w.heap.size 28 _ from RU) hgw; have RR4 := hb4.row (show Row w3.drew (w.heap.size + 1) 39 _ from RR) hgr; have k1 : w4.cell? ⟨gc, 0, none⟩ = some (.int .i64 (m : Int)) := RC4.cell 0; have c1 : w4.cell? ⟨gc, 1, none⟩ = some (.int .i64 0) := RC4.cell 1; have f1 : w4.frozen? ⟨gc, 1, none⟩ = false := RC4.frozen 1; have RC5 : Row (w4.setCell ⟨gc, 1, none⟩ (.int .i64 ((m : Int) + 2 + (k4 : Int)))) gc 39 #[.int .i64 (m : Int), .int .i64 ((m : Int) + 2 + (k4 : Int)), .slice none 0 0] := RC4.set_ 1 _; have k2 : (w4.setCell ⟨gc, 1, none⟩ (.int .i64 ((m : Int) + 2 + (k4 : Int)))).cell? ⟨gc, 0, none⟩ = some (.int .i64 (m : Int)) := RC5.cell 0)
  refine hK.out _ _ ?_ (fun hHeld => ?_)
  · first | exact k0 | exact k1 | exact k2
  clear hK K
  try simp only [ap]
  refine tk (i := 5) ?_
  try simp only [ap]
  refine tk (i := 6) ?_
  try simp only [ap]
  refine reg_call (i := 7) (by kernel_rfl) rfl (fun K hK => ?_)
  go_simp
  refine hK.out _ _ ?_ (fun hHeld => ?_)
  · first | exact k0 | exact k1 | exact k2
  clear hK K
  try simp only [ap]
  refine wpAnyH_done (by kernel_rfl) ?_ _
  have hB5 : ButR g w (w4.setCell ⟨gc, 1, none⟩ (.int .i64 ((m : Int) + 2 + (k4 : Int)))) := ((show ButR g w w3.drew from ⟨hB3.1.drew, hB3.2⟩).trans hb4).setNew hgw (by show w.heap.size ≤ gc; omega) _
  have h5 : RdAt (w4.setCell ⟨gc, 1, none⟩ (.int .i64 ((m : Int) + 2 + (k4 : Int)))) g l p4 := h4.below ((Below.refl gc _).setCell (p := ⟨gc, 1, none⟩) (Nat.le_refl _) _) hgc
  have RU5 := RU4.far (p := ⟨gc, 1, none⟩) (by show w.heap.size ≠ gc; omega) (.int .i64 ((m : Int) + 2 + (k4 : Int)))
  have RR5 := RR4.far (p := ⟨gc, 1, none⟩) (by show w.heap.size + 1 ≠ gc; omega) (.int .i64 ((m : Int) + 2 + (k4 : Int)))
  obtain ⟨r, hr⟩ : ∃ r : Nat, (m : Int) + 2 + (k4 : Int) = (r : Int) := ⟨m + 2 + k4, by omega⟩
  have hr1 : 2 ≤ r := by omega
  have hr2 : r ≤ 9 := by omega
  rw [hr] at hB5 h5 RU5 RR5 RC5
  go_wp2_with fail
  have hs5 : (w4.setCell ⟨gc, 1, none⟩ (.int .i64 (r : Int))).heap.size = w4.heap.size := by simp [World.setCell]
  have L6 := lit_int (w4.setCell ⟨gc, 1, none⟩ (.int .i64 (r : Int))) [3, 5, 2, 1, 7, 4] (i64_of (by decide)) (by decide)
  rw [hs5] at L6
  refine (num_ok [3, 5, 2, 1, 7, 4] (by decide) (by decide) (fun s => ∃ n : Nat, (1 ≤ n ∧ n ≤ 7) ∧ s = (n : Int)) (by intro s hs; simp at hs; exact ⟨s.toNat, by omega, by omega⟩) _ _ _ l g p4 _ (h5.below ((Below.refl _ _).alloc (Nat.le_refl _) _) h5.lt) (by omega) L6 h4.lt (Nat.le_refl _)).mono ?_
  rintro e w6 ⟨v, p6, rfl, h6, hp6, hb6, s, ⟨n, hn, rfl⟩, rfl⟩
  have hB6 := (hB5.alloc hgw (.cells #[.int .i64 3, .int .i64 5, .int .i64 2, .int .i64 1, .int .i64 7, .int .i64 4] 3)).trans hb6
  have RC6 := hb6.row (RC5.alloc _) hgc
  have RU6 := hb6.row (RU5.alloc _) hgw
  have RR6 := hb6.row (RR5.alloc _) hgr
  clear RC RU RR h3 hB3 RC4 RU4 RR4 h4 hb4 RC5 RU5 RR5 h5 hB5 L6 hb6 k0 k1 k2 c1 f1 hw1 hw2 hs5 hHeld
  go_wp2_with fail
  go_loopw [7] (fun i wr => ∃ (j p' : Nat) (A9 : Option Addr) (c9 : Nat), j ≤ n ∧ i = .int .i64 (j : Int) ∧ p' ≤ p + 5 + 100 * j ∧ RdAt wr g l p' ∧ ButR g w wr ∧ Row wr gc 39 #[.int .i64 (m : Int), .int .i64 (r : Int), .slice A9 j c9] ∧ Row wr w.heap.size 28 #[.slice A nc cap] ∧ Row wr (w.heap.size + 1) 39 #[.int .i64 0, .int .i64 0, .slice none 0 0] ∧ TyBlks D w.heap.size wr (.slice A9 j c9)) (fun i _ => n - (intOf i).toNat)
  case atStart => exact ⟨0, p6, none, 0, by omega, rfl, by omega, h6, hB6, RC6, RU6, RR6, TyBlks.nil_ _ _⟩
  case round =>
    clear RC6 RU6 RR6 h6 hB6
    obtain ⟨j, p', A9, c9, hj, rfl, hp', hR, hB, RC, RU, RR, ty⟩ := hrel
    by_cases hjn : j < n
    case neg =>
      obtain rfl : j = n := by omega
      have F := Lib.hid (code_fin (D := D) (p := p) (K := 1000) (r := r) (rb := w.heap.size + 1) hgw hlo (by omega) hR (by omega) hB RR hm (by omega) (by omega) ty (by omega))
      have s0 : wr.cell? ⟨w.heap.size + 1, 0, none⟩ = some (.int .i64 0) := RR.cell 0
      have s1 : wr.cell? ⟨w.heap.size + 1, 1, none⟩ = some (.int .i64 0) := RR.cell 1
      have s2 : wr.cell? ⟨w.heap.size + 1, 2, none⟩ = some (.slice none 0 0) := RR.cell 2
      have sf0 : wr.frozen? ⟨w.heap.size + 1, 0, none⟩ = false := RR.frozen 0
      have sf1 : wr.frozen? ⟨w.heap.size + 1, 1, none⟩ = false := RR.frozen 1
      have sf2 : wr.frozen? ⟨w.heap.size + 1, 2, none⟩ = false := RR.frozen 2
      have x0 : wr.cell? ⟨gc, 0, none⟩ = some (.int .i64 (m : Int)) := RC.cell 0
      have x1 : wr.cell? ⟨gc, 1, none⟩ = some (.int .i64 (r : Int)) := RC.cell 1
      have x2 : wr.cell? ⟨gc, 2, none⟩ = some (.slice A9 j c9) := RC.cell 2
      go_wp2_with fail
      refine bodyPost_ret (v := .agg #[.int .i64 (m : Int), .int .i64 (r : Int), .slice A9 j c9]) (by simp [results, Try.results80, go_sem, s0, s1, s2]) rfl F.out
    go_wp2_with fail
    have hcx := RC.lt
    have RX := Row.new wr 65 #[.slice none 0 0, .slice none 0 0, .int .i64 0, .int .i64 0, .slice none 0 0]
    replace RC := RC.alloc (.cells #[.slice none 0 0, .slice none 0 0, .int .i64 0, .int .i64 0, .slice none 0 0] 65)
    replace RU := RU.alloc (.cells #[.slice none 0 0, .slice none 0 0, .int .i64 0, .int .i64 0, .slice none 0 0] 65)
    replace RR := RR.alloc (.cells #[.slice none 0 0, .slice none 0 0, .int .i64 0, .int .i64 0, .slice none 0 0] 65)
    replace ty := ty.keep (Chg.below ((Below.refl _ wr).alloc (Nat.le_refl _) (.cells #[.slice none 0 0, .slice none 0 0, .int .i64 0, .int .i64 0, .slice none 0 0] 65)))
    replace hR : RdAt (wr.alloc (.cells #[.slice none 0 0, .slice none 0 0, .int .i64 0, .int .i64 0, .slice none 0 0] 65)) g l p' := hR.below ((Below.refl _ _).alloc (Nat.le_refl _) _) hR.lt
    have hsx : (wr.alloc (.cells #[.slice none 0 0, .slice none 0 0, .int .i64 0, .int .i64 0, .slice none 0 0] 65)).heap.size = wr.heap.size + 1 := by simp
    replace hB : ButR g w (wr.alloc (.cells #[.slice none 0 0, .slice none 0 0, .int .i64 0, .int .i64 0, .slice none 0 0] 65)) := hB.alloc hgw _
    generalize wr.alloc (.cells #[.slice none 0 0, .slice none 0 0, .int .i64 0, .int .i64 0, .slice none 0 0] 65) = w1 at RX RC RU RR ty hR hsx hB ⊢
    generalize wr.heap.size = gx at RX hcx hsx ⊢
    have hgx : g < gx := by omega
    have L1 := lit_int w1 [1, 2, 0, 3, 4] (i64_of (by decide)) (by decide)
    rw [hsx] at L1
    refine (num_ok [1, 2, 0, 3, 4] (by decide) (by decide) (fun s => ∃ q : Nat, q ≤ 4 ∧ s = (q : Int)) (by intro s hs; simp at hs; exact ⟨s.toNat, by omega, by omega⟩) _ _ _ l g p' _ (hR.below ((Below.refl _ _).alloc (Nat.le_refl _) _) hR.lt) (by omega) L1 (by omega) (Nat.le_refl _)).mono ?_
    rintro e w2 ⟨v, p2, rfl, h2, hp2, hb2, s, ⟨q0, hq0, rfl⟩, rfl⟩
    have hb2' := ((ButR.refl w1).alloc hR.lt (.cells #[.int .i64 1, .int .i64 2, .int .i64 0, .int .i64 3, .int .i64 4] 3)).trans hb2
    replace RX := hb2'.row RX hgx
    replace RC := hb2'.row RC hgc
    replace RU := hb2'.row RU hgw
    replace RR := hb2'.row RR hgr
    replace ty := ty.keep (hb2'.chg hgw)
    replace hB := hB.trans hb2'
    clear hb2 hb2' L1 hR hsx
    go_wp2_with fail
    go_loopw [9] (fun t wr => ∃ (q e p3 : Nat) (A8 : Option Addr) (c8 : Nat), t = .int .i64 (q : Int) ∧ q + e ≤ 4 ∧ p3 ≤ p' + 1 + 11 * e ∧ RdAt wr g l p3 ∧ ButR g w wr ∧ Row wr gx 65 #[.slice none 0 0, .slice A8 e c8, .int .i64 0, .int .i64 0, .slice none 0 0] ∧ Row wr gc 39 #[.int .i64 (m : Int), .int .i64 (r : Int), .slice A9 j c9] ∧ Row wr w.heap.size 28 #[.slice A nc cap] ∧ Row wr (w.heap.size + 1) 39 #[.int .i64 0, .int .i64 0, .slice none 0 0] ∧ TyInss D w.heap.size wr (.slice A8 e c8) ∧ TyBlks D w.heap.size wr (.slice A9 j c9)) (fun t _ => (intOf t).toNat)
    case atStart => exact ⟨q0, 0, p2, none, 0, rfl, by omega, by omega, h2, hB, RX, RC, RU, RR, TyInss.nil_ _ _, ty⟩
    case round =>
      clear RX RC RU RR ty hB h2
      obtain ⟨q, e, p3, A8, c8, rfl, hqe, hp3, hR, hB, RX, RC, RU, RR, tyi, ty⟩ := hrel
      by_cases hq : 0 < q
      case pos =>
        have hq1 : (0 : Int) < (q : Int) := by omega
        go_wp2_with fail
        refine wp_region_held_drew (S := fun w' => (w'.cell? ⟨w.heap.size, 0, none⟩ = some (.slice A nc cap) ∧ w'.cell? ⟨gc, 1, none⟩ = some (.int .i64 (r : Int)))) (by kernel_rfl) ?_ (fun hHeld => ?_)
        · exact ⟨RU.cell 0, RC.cell 1⟩
        generalize hwd : wr.drew = wd at hHeld ⊢
        have hRd : RdAt wd g l p3 := by rw [← hwd]; exact hR.below ((Below.refl g.succ wr).drew) (Nat.lt_succ_self _)
        have hBd : ButR g w wd := by rw [← hwd]; exact ⟨hB.1.drew, hB.2⟩
        have Xd : Row wd gx 65 #[.slice none 0 0, .slice A8 e c8, .int .i64 0, .int .i64 0, .slice none 0 0] := by rw [← hwd]; exact RX.drew
        have Cd : Row wd gc 39 #[.int .i64 (m : Int), .int .i64 (r : Int), .slice A9 j c9] := by rw [← hwd]; exact RC.drew
        have Ud : Row wd w.heap.size 28 #[.slice A nc cap] := by rw [← hwd]; exact RU.drew
        have Rd : Row wd (w.heap.size + 1) 39 #[.int .i64 0, .int .i64 0, .slice none 0 0] := by rw [← hwd]; exact RR.drew
        have tid : TyInss D w.heap.size wd (.slice A8 e c8) := by rw [← hwd]; exact tyi
        have tbd : TyBlks D w.heap.size wd (.slice A9 j c9) := by rw [← hwd]; exact ty
        have kd : wd.cell? ⟨gx, 1, none⟩ = some (.slice A8 e c8) := Xd.cell 1
        have ud : wd.cell? ⟨w.heap.size, 0, none⟩ = some (.slice A nc cap) := Ud.cell 0
        have cd : wd.cell? ⟨gc, 1, none⟩ = some (.int .i64 (r : Int)) := Cd.cell 1
        clear hwd RX RC RU RR tyi ty hB hR
        refine tk (i := 0) ?_
        try simp only [ap]
        refine tk (i := 2) ?_
        try simp only [ap]
        refine tk (i := 3) ?_
        try simp only [ap]
        refine tk (i := 4) ?_
        try simp only [ap]
        refine tk (i := 5) ?_
        try simp only [ap]
        refine reg_call2 (i := 1) (j := 6) (by kernel_rfl) rfl rfl (fun K hK => ?_) (fun K hK => ?_)
        · go_simp
          refine hK.out _ _ ?_ (fun hHeld => ?_)
          · first | exact ⟨ud, cd⟩ | exact ⟨u8, c8'⟩ | exact ⟨uR, cR⟩ | exact ⟨u9, c9'⟩ | exact ⟨u10, c10'⟩
          clear hK K
          try simp only [ap]
          refine reg_call (i := 6) (by kernel_rfl) rfl (fun K hK => ?_)
          go_simp
          refine (some_ok (.slice A nc cap) r (by omega) (by omega) l g p3 lo wd hglo (Nat.le_trans hlo hBd.size) hRd (by omega) (hu.keep (hBd.chg hglo))).mono ?_
          rintro e_ w8 ⟨v, p8, rfl, h8, hp8, hb8, op, tg, nn, va, rfl, ho8, ht8, hn8, hva8⟩
          have X8 := hb8.row Xd hgx
          have C8 := hb8.row Cd hgc
          have U8 := hb8.row Ud hgw
          have R8 := hb8.row Rd hgr
          have k8 : w8.cell? ⟨gx, 1, none⟩ = some (.slice A8 e c8) := X8.cell 1
          have u8 : w8.cell? ⟨w.heap.size, 0, none⟩ = some (.slice A nc cap) := U8.cell 0
          have c8' : w8.cell? ⟨gc, 1, none⟩ = some (.int .i64 (r : Int)) := C8.cell 1
          have ti8 := tid.keep (hb8.chg hgw)
          have tb8 := tbd.keep (hb8.chg hgw)
          have hva9 := hva8.lower hBd.size
          have hs8 : w.heap.size ≤ w8.heap.size := Nat.le_trans hBd.size hb8.size
          refine hK.out _ _ ?_ (fun hHeld => ?_)
          · first | exact ⟨ud, cd⟩ | exact ⟨u8, c8'⟩ | exact ⟨uR, cR⟩ | exact ⟨u9, c9'⟩ | exact ⟨u10, c10'⟩
          clear hK K
          try simp only [ap]
          refine reg_call (i := 7) (by kernel_rfl) rfl (fun K hK => ?_)
          go_simp
          have XR := X8.alloc (.cells #[.int .i64 op, .int .i64 tg, va, .int .i64 nn] 72)
          have CRr := C8.alloc (.cells #[.int .i64 op, .int .i64 tg, va, .int .i64 nn] 72)
          have UR := U8.alloc (.cells #[.int .i64 op, .int .i64 tg, va, .int .i64 nn] 72)
          have RRr := R8.alloc (.cells #[.int .i64 op, .int .i64 tg, va, .int .i64 nn] 72)
          have kR : (w8.alloc (.cells #[.int .i64 op, .int .i64 tg, va, .int .i64 nn] 72)).cell? ⟨gx, 1, none⟩ = some (.slice A8 e c8) := XR.cell 1
          have uR : (w8.alloc (.cells #[.int .i64 op, .int .i64 tg, va, .int .i64 nn] 72)).cell? ⟨w.heap.size, 0, none⟩ = some (.slice A nc cap) := UR.cell 0
          have cR : (w8.alloc (.cells #[.int .i64 op, .int .i64 tg, va, .int .i64 nn] 72)).cell? ⟨gc, 1, none⟩ = some (.int .i64 (r : Int)) := CRr.cell 1
          refine hK.out _ _ ?_ (fun hHeld => ?_)
          · first | exact ⟨ud, cd⟩ | exact ⟨u8, c8'⟩ | exact ⟨uR, cR⟩ | exact ⟨u9, c9'⟩ | exact ⟨u10, c10'⟩
          clear hK K
          try simp only [ap]
          refine reg_call (i := 8) (by kernel_rfl) rfl (fun K hK => ?_)
          obtain ⟨A10, c10, w9, r9, ti9, kp9, hf9, rr, g9, hr9⟩ := append_ins (D := D) w8 w.heap.size A8 e c8 ti8 op tg va nn ho8 ht8 hva9 hn8 (by omega) hs8
          rw [if_pos (show Region.wanted _ _ = true by kernel_rfl)]
          refine Lib.wp_append_run_sl _ _ _ 62 rfl _ _ rfl rfl r9 ?_
          clear r9
          have X9 := hf9 _ _ _ (by decide) XR
          have C9 := hf9 _ _ _ (by decide) CRr
          have U9 := hf9 _ _ _ (by decide) UR
          have R9 := hf9 _ _ _ (by decide) RRr
          have tb9 := tb8.kept kp9
          have k9 : w9.cell? ⟨gx, 1, none⟩ = some (.slice A8 e c8) := X9.cell 1
          have f9 : w9.frozen? ⟨gx, 1, none⟩ = false := X9.frozen 1
          have u9 : w9.cell? ⟨w.heap.size, 0, none⟩ = some (.slice A nc cap) := U9.cell 0
          have c9' : w9.cell? ⟨gc, 1, none⟩ = some (.int .i64 (r : Int)) := C9.cell 1
          have ch10 : Chg D w.heap.size w9 (w9.setCell ⟨gx, 1, none⟩ (.slice A10 (e + 1) c10)) := Chg.set X9 (OK.ofInss ti9)
          have C10 := C9.far (p := ⟨gx, 1, none⟩) (by show gc ≠ gx; omega) (.slice A10 (e + 1) c10)
          have U10 := U9.far (p := ⟨gx, 1, none⟩) (by show w.heap.size ≠ gx; omega) (.slice A10 (e + 1) c10)
          have u10 : (w9.setCell ⟨gx, 1, none⟩ (.slice A10 (e + 1) c10)).cell? ⟨w.heap.size, 0, none⟩ = some (.slice A nc cap) := U10.cell 0
          have c10' : (w9.setCell ⟨gx, 1, none⟩ (.slice A10 (e + 1) c10)).cell? ⟨gc, 1, none⟩ = some (.int .i64 (r : Int)) := C10.cell 1
          refine hK.out _ _ ?_ (fun hHeld => ?_)
          · first | exact ⟨ud, cd⟩ | exact ⟨u8, c8'⟩ | exact ⟨uR, cR⟩ | exact ⟨u9, c9'⟩ | exact ⟨u10, c10'⟩
          clear hK K
          try simp only [ap]
          refine tk (i := 9) ?_
          try simp only [ap]
          refine reg_call (i := 10) (by kernel_rfl) rfl (fun K hK => ?_)
          go_simp
          refine hK.out _ _ ?_ (fun hHeld => ?_)
          · first | exact ⟨ud, cd⟩ | exact ⟨u8, c8'⟩ | exact ⟨uR, cR⟩ | exact ⟨u9, c9'⟩ | exact ⟨u10, c10'⟩
          clear hK K
          try simp only [ap]
          refine wpAnyH_done (by kernel_rfl) ?_ _
          have X10 := X9.set_ 1 (.slice A10 (e + 1) c10)
          have R10 := R9.far (p := ⟨gx, 1, none⟩) (by show w.heap.size + 1 ≠ gx; omega) (.slice A10 (e + 1) c10)
          have hB9 : ButR g w w9 := grown_but ((hBd.trans hb8).alloc hgw (.cells #[.int .i64 op, .int .i64 tg, va, .int .i64 nn] 72)) g9 hr9
          have h9 : RdAt w9 g l p8 := grown_rd (h8.below ((Below.refl _ w8).alloc (Nat.le_refl _) (.cells #[.int .i64 op, .int .i64 tg, va, .int .i64 nn] 72)) h8.lt) g9 (fun b hb => Nat.lt_of_lt_of_le hgw (hr9 b hb))
          have hB10 : ButR g w (w9.setCell ⟨gx, 1, none⟩ (.slice A10 (e + 1) c10)) := hB9.setNew hgw (by show w.heap.size ≤ gx; omega) _
          have h10 : RdAt (w9.setCell ⟨gx, 1, none⟩ (.slice A10 (e + 1) c10)) g l p8 := h9.below ((Below.refl gx _).setCell (p := ⟨gx, 1, none⟩) (Nat.le_refl _) _) hgx
          go_wp2_with fail
          go_roundw
          case rel => exact ⟨q - 1, e + 1, p8, A10, c10, by go_num, by omega, by omega, h10, hB10, X10, C10, U10, R10, ti9.keep ch10, tb9.keep ch10⟩
          case measure => simp [intOf]; omega
        · go_simp
          refine (some_ok (.slice A nc cap) r (by omega) (by omega) l g p3 lo wd hglo (Nat.le_trans hlo hBd.size) hRd (by omega) (hu.keep (hBd.chg hglo))).mono ?_
          rintro e_ w8 ⟨v, p8, rfl, h8, hp8, hb8, op, tg, nn, va, rfl, ho8, ht8, hn8, hva8⟩
          have X8 := hb8.row Xd hgx
          have C8 := hb8.row Cd hgc
          have U8 := hb8.row Ud hgw
          have R8 := hb8.row Rd hgr
          have k8 : w8.cell? ⟨gx, 1, none⟩ = some (.slice A8 e c8) := X8.cell 1
          have u8 : w8.cell? ⟨w.heap.size, 0, none⟩ = some (.slice A nc cap) := U8.cell 0
          have c8' : w8.cell? ⟨gc, 1, none⟩ = some (.int .i64 (r : Int)) := C8.cell 1
          have ti8 := tid.keep (hb8.chg hgw)
          have tb8 := tbd.keep (hb8.chg hgw)
          have hva9 := hva8.lower hBd.size
          have hs8 : w.heap.size ≤ w8.heap.size := Nat.le_trans hBd.size hb8.size
          refine hK.out _ _ ?_ (fun hHeld => ?_)
          · first | exact ⟨ud, cd⟩ | exact ⟨u8, c8'⟩ | exact ⟨uR, cR⟩ | exact ⟨u9, c9'⟩ | exact ⟨u10, c10'⟩
          clear hK K
          try simp only [ap]
          refine reg_call2 (i := 1) (j := 7) (by kernel_rfl) rfl rfl (fun K hK => ?_) (fun K hK => ?_)
          · go_simp
            refine hK.out _ _ ?_ (fun hHeld => ?_)
            · first | exact ⟨ud, cd⟩ | exact ⟨u8, c8'⟩ | exact ⟨uR, cR⟩ | exact ⟨u9, c9'⟩ | exact ⟨u10, c10'⟩
            clear hK K
            try simp only [ap]
            refine reg_call (i := 7) (by kernel_rfl) rfl (fun K hK => ?_)
            go_simp
            have XR := X8.alloc (.cells #[.int .i64 op, .int .i64 tg, va, .int .i64 nn] 72)
            have CRr := C8.alloc (.cells #[.int .i64 op, .int .i64 tg, va, .int .i64 nn] 72)
            have UR := U8.alloc (.cells #[.int .i64 op, .int .i64 tg, va, .int .i64 nn] 72)
            have RRr := R8.alloc (.cells #[.int .i64 op, .int .i64 tg, va, .int .i64 nn] 72)
            have kR : (w8.alloc (.cells #[.int .i64 op, .int .i64 tg, va, .int .i64 nn] 72)).cell? ⟨gx, 1, none⟩ = some (.slice A8 e c8) := XR.cell 1
            have uR : (w8.alloc (.cells #[.int .i64 op, .int .i64 tg, va, .int .i64 nn] 72)).cell? ⟨w.heap.size, 0, none⟩ = some (.slice A nc cap) := UR.cell 0
            have cR : (w8.alloc (.cells #[.int .i64 op, .int .i64 tg, va, .int .i64 nn] 72)).cell? ⟨gc, 1, none⟩ = some (.int .i64 (r : Int)) := CRr.cell 1
            refine hK.out _ _ ?_ (fun hHeld => ?_)
            · first | exact ⟨ud, cd⟩ | exact ⟨u8, c8'⟩ | exact ⟨uR, cR⟩ | exact ⟨u9, c9'⟩ | exact ⟨u10, c10'⟩
            clear hK K
            try simp only [ap]
            refine reg_call (i := 8) (by kernel_rfl) rfl (fun K hK => ?_)
            obtain ⟨A10, c10, w9, r9, ti9, kp9, hf9, rr, g9, hr9⟩ := append_ins (D := D) w8 w.heap.size A8 e c8 ti8 op tg va nn ho8 ht8 hva9 hn8 (by omega) hs8
            rw [if_pos (show Region.wanted _ _ = true by kernel_rfl)]
            refine Lib.wp_append_run_sl _ _ _ 62 rfl _ _ rfl rfl r9 ?_
            clear r9
            have X9 := hf9 _ _ _ (by decide) XR
            have C9 := hf9 _ _ _ (by decide) CRr
            have U9 := hf9 _ _ _ (by decide) UR
            have R9 := hf9 _ _ _ (by decide) RRr
            have tb9 := tb8.kept kp9
            have k9 : w9.cell? ⟨gx, 1, none⟩ = some (.slice A8 e c8) := X9.cell 1
            have f9 : w9.frozen? ⟨gx, 1, none⟩ = false := X9.frozen 1
            have u9 : w9.cell? ⟨w.heap.size, 0, none⟩ = some (.slice A nc cap) := U9.cell 0
            have c9' : w9.cell? ⟨gc, 1, none⟩ = some (.int .i64 (r : Int)) := C9.cell 1
            have ch10 : Chg D w.heap.size w9 (w9.setCell ⟨gx, 1, none⟩ (.slice A10 (e + 1) c10)) := Chg.set X9 (OK.ofInss ti9)
            have C10 := C9.far (p := ⟨gx, 1, none⟩) (by show gc ≠ gx; omega) (.slice A10 (e + 1) c10)
            have U10 := U9.far (p := ⟨gx, 1, none⟩) (by show w.heap.size ≠ gx; omega) (.slice A10 (e + 1) c10)
            have u10 : (w9.setCell ⟨gx, 1, none⟩ (.slice A10 (e + 1) c10)).cell? ⟨w.heap.size, 0, none⟩ = some (.slice A nc cap) := U10.cell 0
            have c10' : (w9.setCell ⟨gx, 1, none⟩ (.slice A10 (e + 1) c10)).cell? ⟨gc, 1, none⟩ = some (.int .i64 (r : Int)) := C10.cell 1
            refine hK.out _ _ ?_ (fun hHeld => ?_)
            · first | exact ⟨ud, cd⟩ | exact ⟨u8, c8'⟩ | exact ⟨uR, cR⟩ | exact ⟨u9, c9'⟩ | exact ⟨u10, c10'⟩
            clear hK K
            try simp only [ap]
            refine tk (i := 9) ?_
            try simp only [ap]
            refine reg_call (i := 10) (by kernel_rfl) rfl (fun K hK => ?_)
            go_simp
            refine hK.out _ _ ?_ (fun hHeld => ?_)
            · first | exact ⟨ud, cd⟩ | exact ⟨u8, c8'⟩ | exact ⟨uR, cR⟩ | exact ⟨u9, c9'⟩ | exact ⟨u10, c10'⟩
            clear hK K
            try simp only [ap]
            refine wpAnyH_done (by kernel_rfl) ?_ _
            have X10 := X9.set_ 1 (.slice A10 (e + 1) c10)
            have R10 := R9.far (p := ⟨gx, 1, none⟩) (by show w.heap.size + 1 ≠ gx; omega) (.slice A10 (e + 1) c10)
            have hB9 : ButR g w w9 := grown_but ((hBd.trans hb8).alloc hgw (.cells #[.int .i64 op, .int .i64 tg, va, .int .i64 nn] 72)) g9 hr9
            have h9 : RdAt w9 g l p8 := grown_rd (h8.below ((Below.refl _ w8).alloc (Nat.le_refl _) (.cells #[.int .i64 op, .int .i64 tg, va, .int .i64 nn] 72)) h8.lt) g9 (fun b hb => Nat.lt_of_lt_of_le hgw (hr9 b hb))
            have hB10 : ButR g w (w9.setCell ⟨gx, 1, none⟩ (.slice A10 (e + 1) c10)) := hB9.setNew hgw (by show w.heap.size ≤ gx; omega) _
            have h10 : RdAt (w9.setCell ⟨gx, 1, none⟩ (.slice A10 (e + 1) c10)) g l p8 := h9.below ((Below.refl gx _).setCell (p := ⟨gx, 1, none⟩) (Nat.le_refl _) _) hgx
            go_wp2_with fail
            go_roundw
            case rel => exact ⟨q - 1, e + 1, p8, A10, c10, by go_num, by omega, by omega, h10, hB10, X10, C10, U10, R10, ti9.keep ch10, tb9.keep ch10⟩
            case measure => simp [intOf]; omega
          · go_simp
            have XR := X8.alloc (.cells #[.int .i64 op, .int .i64 tg, va, .int .i64 nn] 72)
            have CRr := C8.alloc (.cells #[.int .i64 op, .int .i64 tg, va, .int .i64 nn] 72)
            have UR := U8.alloc (.cells #[.int .i64 op, .int .i64 tg, va, .int .i64 nn] 72)
            have RRr := R8.alloc (.cells #[.int .i64 op, .int .i64 tg, va, .int .i64 nn] 72)
            have kR : (w8.alloc (.cells #[.int .i64 op, .int .i64 tg, va, .int .i64 nn] 72)).cell? ⟨gx, 1, none⟩ = some (.slice A8 e c8) := XR.cell 1
            have uR : (w8.alloc (.cells #[.int .i64 op, .int .i64 tg, va, .int .i64 nn] 72)).cell? ⟨w.heap.size, 0, none⟩ = some (.slice A nc cap) := UR.cell 0
            have cR : (w8.alloc (.cells #[.int .i64 op, .int .i64 tg, va, .int .i64 nn] 72)).cell? ⟨gc, 1, none⟩ = some (.int .i64 (r : Int)) := CRr.cell 1
            refine hK.out _ _ ?_ (fun hHeld => ?_)
            · first | exact ⟨ud, cd⟩ | exact ⟨u8, c8'⟩ | exact ⟨uR, cR⟩ | exact ⟨u9, c9'⟩ | exact ⟨u10, c10'⟩
            clear hK K
            try simp only [ap]
            refine reg_call (i := 1) (by kernel_rfl) rfl (fun K hK => ?_)
            go_simp
            refine hK.out _ _ ?_ (fun hHeld => ?_)
            · first | exact ⟨ud, cd⟩ | exact ⟨u8, c8'⟩ | exact ⟨uR, cR⟩ | exact ⟨u9, c9'⟩ | exact ⟨u10, c10'⟩
            clear hK K
            try simp only [ap]
            refine reg_call (i := 8) (by kernel_rfl) rfl (fun K hK => ?_)
            obtain ⟨A10, c10, w9, r9, ti9, kp9, hf9, rr, g9, hr9⟩ := append_ins (D := D) w8 w.heap.size A8 e c8 ti8 op tg va nn ho8 ht8 hva9 hn8 (by omega) hs8
            rw [if_pos (show Region.wanted _ _ = true by kernel_rfl)]
            refine Lib.wp_append_run_sl _ _ _ 62 rfl _ _ rfl rfl r9 ?_
            clear r9
            have X9 := hf9 _ _ _ (by decide) XR
            have C9 := hf9 _ _ _ (by decide) CRr
            have U9 := hf9 _ _ _ (by decide) UR
            have R9 := hf9 _ _ _ (by decide) RRr
            have tb9 := tb8.kept kp9
            have k9 : w9.cell? ⟨gx, 1, none⟩ = some (.slice A8 e c8) := X9.cell 1
            have f9 : w9.frozen? ⟨gx, 1, none⟩ = false := X9.frozen 1
            have u9 : w9.cell? ⟨w.heap.size, 0, none⟩ = some (.slice A nc cap) := U9.cell 0
            have c9' : w9.cell? ⟨gc, 1, none⟩ = some (.int .i64 (r : Int)) := C9.cell 1
            have ch10 : Chg D w.heap.size w9 (w9.setCell ⟨gx, 1, none⟩ (.slice A10 (e + 1) c10)) := Chg.set X9 (OK.ofInss ti9)
            have C10 := C9.far (p := ⟨gx, 1, none⟩) (by show gc ≠ gx; omega) (.slice A10 (e + 1) c10)
            have U10 := U9.far (p := ⟨gx, 1, none⟩) (by show w.heap.size ≠ gx; omega) (.slice A10 (e + 1) c10)
            have u10 : (w9.setCell ⟨gx, 1, none⟩ (.slice A10 (e + 1) c10)).cell? ⟨w.heap.size, 0, none⟩ = some (.slice A nc cap) := U10.cell 0
            have c10' : (w9.setCell ⟨gx, 1, none⟩ (.slice A10 (e + 1) c10)).cell? ⟨gc, 1, none⟩ = some (.int .i64 (r : Int)) := C10.cell 1
            refine hK.out _ _ ?_ (fun hHeld => ?_)
            · first | exact ⟨ud, cd⟩ | exact ⟨u8, c8'⟩ | exact ⟨uR, cR⟩ | exact ⟨u9, c9'⟩ | exact ⟨u10, c10'⟩
            clear hK K
            try simp only [ap]
            refine tk (i := 9) ?_
            try simp only [ap]
            refine reg_call (i := 10) (by kernel_rfl) rfl (fun K hK => ?_)
            go_simp
            refine hK.out _ _ ?_ (fun hHeld => ?_)
            · first | exact ⟨ud, cd⟩ | exact ⟨u8, c8'⟩ | exact ⟨uR, cR⟩ | exact ⟨u9, c9'⟩ | exact ⟨u10, c10'⟩
            clear hK K
            try simp only [ap]
            refine wpAnyH_done (by kernel_rfl) ?_ _
            have X10 := X9.set_ 1 (.slice A10 (e + 1) c10)
            have R10 := R9.far (p := ⟨gx, 1, none⟩) (by show w.heap.size + 1 ≠ gx; omega) (.slice A10 (e + 1) c10)
            have hB9 : ButR g w w9 := grown_but ((hBd.trans hb8).alloc hgw (.cells #[.int .i64 op, .int .i64 tg, va, .int .i64 nn] 72)) g9 hr9
            have h9 : RdAt w9 g l p8 := grown_rd (h8.below ((Below.refl _ w8).alloc (Nat.le_refl _) (.cells #[.int .i64 op, .int .i64 tg, va, .int .i64 nn] 72)) h8.lt) g9 (fun b hb => Nat.lt_of_lt_of_le hgw (hr9 b hb))
            have hB10 : ButR g w (w9.setCell ⟨gx, 1, none⟩ (.slice A10 (e + 1) c10)) := hB9.setNew hgw (by show w.heap.size ≤ gx; omega) _
            have h10 : RdAt (w9.setCell ⟨gx, 1, none⟩ (.slice A10 (e + 1) c10)) g l p8 := h9.below ((Below.refl gx _).setCell (p := ⟨gx, 1, none⟩) (Nat.le_refl _) _) hgx
            go_wp2_with fail
            go_roundw
            case rel => exact ⟨q - 1, e + 1, p8, A10, c10, by go_num, by omega, by omega, h10, hB10, X10, C10, U10, R10, ti9.keep ch10, tb9.keep ch10⟩
            case measure => simp [intOf]; omega
      have hq1 : ¬ (0 : Int) < (q : Int) := by omega
      have c1 : wr.cell? ⟨gc, 1, none⟩ = some (.int .i64 (r : Int)) := RC.cell 1
      go_wp2_with fail
      refine (pick_ok r (by omega) (by omega) l g p3 _ hR (by omega)).mono ?_
      rintro e_ w4 ⟨v, p4, rfl, h4, hp4, hb4, k4, hk4, rfl⟩
      replace RX := hb4.row RX hgx
      replace RC := hb4.row RC hgc
      replace RU := hb4.row RU hgw
      replace RR := hb4.row RR hgr
      replace tyi := tyi.keep (hb4.chg hgw)
      replace ty := ty.keep (hb4.chg hgw)
      replace hB := hB.trans hb4
      clear hR c1 hb4
      have c3 : w4.cell? ⟨gx, 3, none⟩ = some (.int .i64 0) := RX.cell 3
      have f3 : w4.frozen? ⟨gx, 3, none⟩ = false := RX.frozen 3
      have chA : Chg D w.heap.size w4 (w4.setCell ⟨gx, 3, none⟩ (.int .i64 (k4 : Int))) := Chg.set RX (OK.blkInt (by decide) (by decide) (by decide) ⟨by omega, by omega⟩)
      replace tyi := tyi.keep chA
      replace ty := ty.keep chA
      replace RX : Row (w4.setCell ⟨gx, 3, none⟩ (.int .i64 (k4 : Int))) gx 65 #[.slice none 0 0, .slice A8 e c8, .int .i64 0, .int .i64 (k4 : Int), .slice none 0 0] := RX.set_ 3 _
      replace RC := RC.far (p := ⟨gx, 3, none⟩) (by show gc ≠ gx; omega) (.int .i64 (k4 : Int))
      replace RU := RU.far (p := ⟨gx, 3, none⟩) (by show w.heap.size ≠ gx; omega) (.int .i64 (k4 : Int))
      replace RR := RR.far (p := ⟨gx, 3, none⟩) (by show w.heap.size + 1 ≠ gx; omega) (.int .i64 (k4 : Int))
      replace h4 : RdAt (w4.setCell ⟨gx, 3, none⟩ (.int .i64 (k4 : Int))) g l p4 := h4.below ((Below.refl gx _).setCell (p := ⟨gx, 3, none⟩) (Nat.le_refl _) _) hgx
      replace hB : ButR g w (w4.setCell ⟨gx, 3, none⟩ (.int .i64 (k4 : Int))) := hB.setNew hgw (by show w.heap.size ≤ gx; omega) _
      go_wp2_with fail
      have hs4 : (w4.setCell ⟨gx, 3, none⟩ (.int .i64 (k4 : Int))).heap.size = w4.heap.size := by simp [World.setCell]
      have hg4 := h4.lt
      have L4 := lit_int (w4.setCell ⟨gx, 3, none⟩ (.int .i64 (k4 : Int))) [2, 1, 2, 1, 3] (i64_of (by decide)) (by decide)
      rw [hs4] at L4 hg4
      refine (num_ok [2, 1, 2, 1, 3] (by decide) (by decide) (fun s => ∃ jm : Nat, (1 ≤ jm ∧ jm ≤ 3) ∧ s = (jm : Int)) (by intro s hs; simp at hs; exact ⟨s.toNat, by omega, by omega⟩) _ _ _ l g p4 _ (h4.below ((Below.refl _ _).alloc (Nat.le_refl _) _) h4.lt) (by omega) L4 hg4 (Nat.le_refl _)).mono ?_
      rintro e_ w5 ⟨v, p5, rfl, h5, hp5, hb5, s, ⟨jm, hjm, rfl⟩, rfl⟩
      have hb5' := ((ButR.refl (w4.setCell ⟨gx, 3, none⟩ (.int .i64 (k4 : Int)))).alloc h4.lt (.cells #[.int .i64 2, .int .i64 1, .int .i64 2, .int .i64 1, .int .i64 3] 3)).trans hb5
      replace RX := hb5'.row RX hgx
      replace RC := hb5'.row RC hgc
      replace RU := hb5'.row RU hgw
      replace RR := hb5'.row RR hgr
      replace tyi := tyi.keep (hb5'.chg hgw)
      replace ty := ty.keep (hb5'.chg hgw)
      replace hB := hB.trans hb5'
      clear h4 hb5 hb5' L4 c3 f3 chA hs4 hg4
      have c2 : w5.cell? ⟨gx, 2, none⟩ = some (.int .i64 0) := RX.cell 2
      have f2 : w5.frozen? ⟨gx, 2, none⟩ = false := RX.frozen 2
      have chB : Chg D w.heap.size w5 (w5.setCell ⟨gx, 2, none⟩ (.int .i64 (jm : Int))) := Chg.set RX (OK.blkInt (by decide) (by decide) (by decide) ⟨by omega, by omega⟩)
      replace tyi := tyi.keep chB
      replace ty := ty.keep chB
      replace RX : Row (w5.setCell ⟨gx, 2, none⟩ (.int .i64 (jm : Int))) gx 65 #[.slice none 0 0, .slice A8 e c8, .int .i64 (jm : Int), .int .i64 (k4 : Int), .slice none 0 0] := RX.set_ 2 _
      replace RC := RC.far (p := ⟨gx, 2, none⟩) (by show gc ≠ gx; omega) (.int .i64 (jm : Int))
      replace RU := RU.far (p := ⟨gx, 2, none⟩) (by show w.heap.size ≠ gx; omega) (.int .i64 (jm : Int))
      replace RR := RR.far (p := ⟨gx, 2, none⟩) (by show w.heap.size + 1 ≠ gx; omega) (.int .i64 (jm : Int))
      replace h5 : RdAt (w5.setCell ⟨gx, 2, none⟩ (.int .i64 (jm : Int))) g l p5 := h5.below ((Below.refl gx _).setCell (p := ⟨gx, 2, none⟩) (Nat.le_refl _) _) hgx
      replace hB : ButR g w (w5.setCell ⟨gx, 2, none⟩ (.int .i64 (jm : Int))) := hB.setNew hgw (by show w.heap.size ≤ gx; omega) _
      go_upto_region 14 with fail
      clear c2 f2 chB
      generalize w5.setCell ⟨gx, 2, none⟩ (.int .i64 (jm : Int)) = wj at RX RC RU RR h5 hB tyi ty ⊢
      have hwn : IntKind.i64.wrap ((n : Int) - 1) = (n : Int) - 1 := IntWalk.i64_in _ (by omega)
      go_cut [68] from 24 to 98 (fun c wx => ∃ (bb : Bool) (p6 : Nat), c = .bool bb ∧ (n = 1 → bb = true) ∧ p6 ≤ p5 + 1 ∧ RdAt wx g l p6 ∧ ButR g wj wx)
      case first =>
        by_cases hn1 : n = 1
        · have q1 : ((n : Int) == 1) = true := by simp; omega
          have q2 : (n : Int) = 1 := by omega
          go_wp2_with fail
          go_meet
          exact ⟨true, p5, rfl, fun _ => rfl, by omega, h5, ButR.refl wj⟩
        · have q1 : ((n : Int) == 1) = false := by simp; omega
          have q2 : ¬ (n : Int) = 1 := by omega
          by_cases hjl : j + 1 = n
          · have q3 : ((j : Int) == (n : Int) - 1) = true := by simp; omega
            go_wp2_with fail
            refine (pick_ok 3 (by omega) (by omega) l g p5 _ h5 (by omega)).mono ?_
            rintro e_ w6 ⟨v, p6, rfl, h6, hp6, hb6, k6, hk6, rfl⟩
            by_cases hk0 : 0 < k6
            · have q5 : decide ((0 : Int) < (k6 : Int)) = true := by simp; omega
              have q6 : (0 : Int) < (k6 : Int) := by omega
              go_wp2_with fail
              go_meet
              exact ⟨_, p6, rfl, fun h => absurd h hn1, by omega, h6, hb6⟩
            · have q5 : decide ((0 : Int) < (k6 : Int)) = false := by simp; omega
              have q6 : ¬ (0 : Int) < (k6 : Int) := by omega
              go_wp2_with fail
              go_meet
              exact ⟨_, p6, rfl, fun h => absurd h hn1, by omega, h6, hb6⟩
          · have q3 : ((j : Int) == (n : Int) - 1) = false := by simp; omega
            have q4 : ¬ (j : Int) = (n : Int) - 1 := by omega
            go_wp2_with fail
            go_meet
            exact ⟨_, p5, rfl, fun h => absurd h hn1, by omega, h5, ButR.refl wj⟩
      case rest =>
        obtain ⟨bb, p6, rfl, hbb, hp6, h6, hb6⟩ := hcut
        replace RX := hb6.row RX hgx
        replace RC := hb6.row RC hgc
        replace RU := hb6.row RU hgw
        replace RR := hb6.row RR hgr
        replace tyi := tyi.keep (hb6.chg hgw)
        replace ty := ty.keep (hb6.chg hgw)
        replace hB := hB.trans hb6
        clear h5 hb6
        go_upto_if 68 with fail
        go_cut [] from 24 to 98 (fun wx => ∃ (jt : Nat), (1 ≤ jt ∧ jt ≤ 3) ∧ (n = 1 → jt = 3) ∧ RdAt wx g l p6 ∧ ButR g w wx ∧ Row wx gx 65 #[.slice none 0 0, .slice A8 e c8, .int .i64 (jt : Int), .int .i64 (k4 : Int), .slice none 0 0] ∧ Row wx gc 39 #[.int .i64 (m : Int), .int .i64 (r : Int), .slice A9 j c9] ∧ Row wx w.heap.size 28 #[.slice A nc cap] ∧ Row wx (w.heap.size + 1) 39 #[.int .i64 0, .int .i64 0, .slice none 0 0] ∧ TyInss D w.heap.size wx (.slice A8 e c8) ∧ TyBlks D w.heap.size wx (.slice A9 j c9))
        case first =>
          cases bb
          · go_wp2_with fail
            go_meet
            exact ⟨jm, hjm, fun h => absurd (hbb h) (by decide), h6, hB, RX, RC, RU, RR, tyi, ty⟩
          · have c2 : wc.cell? ⟨gx, 2, none⟩ = some (.int .i64 (jm : Int)) := RX.cell 2
            have f2 : wc.frozen? ⟨gx, 2, none⟩ = false := RX.frozen 2
            have ch : Chg D w.heap.size wc (wc.setCell ⟨gx, 2, none⟩ (.int .i64 3)) := Chg.set RX (OK.blkInt (by decide) (by decide) (by decide) ⟨by omega, by omega⟩)
            go_wp2_with fail
            go_meet
            exact ⟨3, by omega, fun _ => rfl, h6.below ((Below.refl gx _).setCell (p := ⟨gx, 2, none⟩) (Nat.le_refl _) _) hgx, hB.setNew hgw (by show w.heap.size ≤ gx; omega) _, RX.set_ 2 _, RC.far (p := ⟨gx, 2, none⟩) (by show gc ≠ gx; omega) _, RU.far (p := ⟨gx, 2, none⟩) (by show w.heap.size ≠ gx; omega) _, RR.far (p := ⟨gx, 2, none⟩) (by show w.heap.size + 1 ≠ gx; omega) _, tyi.keep ch, ty.keep ch⟩
        case rest =>
          clear RX RC RU RR h6 hB tyi ty hbb bb hjm hwn
          obtain ⟨jt, hjt, hn3, h6, hB, RX, RC, RU, RR, tyi, ty⟩ := hcut
          have c2 : wc.cell? ⟨gx, 2, none⟩ = some (.int .i64 (jt : Int)) := RX.cell 2
          go_upto_block 4 with fail
          go_cut [] from 24 to 98 (fun wx => ∃ (p7 jt k5 : Nat) (vn : Value), jt ≤ 1000 ∧ k5 ≤ 1000 ∧ p7 ≤ p6 + 4 ∧ RdAt wx g l p7 ∧ ButR g w wx ∧ Row wx gx 65 #[.slice none 0 0, .slice A8 e c8, .int .i64 (jt : Int), .int .i64 (k5 : Int), vn] ∧ Row wx gc 39 #[.int .i64 (m : Int), .int .i64 (r : Int), .slice A9 j c9] ∧ Row wx w.heap.size 28 #[.slice A nc cap] ∧ Row wx (w.heap.size + 1) 39 #[.int .i64 0, .int .i64 0, .slice none 0 0] ∧ TyInss D w.heap.size wx (.slice A8 e c8) ∧ TyI D w.heap.size wx vn ∧ TyBlks D w.heap.size wx (.slice A9 j c9))
          case first =>
            by_cases h1 : jt = 1
            · subst h1
              have hn2 : 2 ≤ n := by omega
              have c3 : wc.cell? ⟨gx, 3, none⟩ = some (.int .i64 (k4 : Int)) := RX.cell 3
              have f3 : wc.frozen? ⟨gx, 3, none⟩ = false := RX.frozen 3
              have ch : Chg D w.heap.size wc (wc.setCell ⟨gx, 3, none⟩ (.int .i64 0)) := Chg.set RX (OK.blkInt (by decide) (by decide) (by decide) ⟨by omega, by omega⟩)
              replace tyi := tyi.keep ch
              replace ty := ty.keep ch
              replace RX : Row (wc.setCell ⟨gx, 3, none⟩ (.int .i64 0)) gx 65 #[.slice none 0 0, .slice A8 e c8, .int .i64 1, .int .i64 0, .slice none 0 0] := RX.set_ 3 _
              replace RC := RC.far (p := ⟨gx, 3, none⟩) (by show gc ≠ gx; omega) (.int .i64 0)
              replace RU := RU.far (p := ⟨gx, 3, none⟩) (by show w.heap.size ≠ gx; omega) (.int .i64 0)
              replace RR := RR.far (p := ⟨gx, 3, none⟩) (by show w.heap.size + 1 ≠ gx; omega) (.int .i64 0)
              replace h6 : RdAt (wc.setCell ⟨gx, 3, none⟩ (.int .i64 0)) g l p6 := h6.below ((Below.refl gx _).setCell (p := ⟨gx, 3, none⟩) (Nat.le_refl _) _) hgx
              replace hB : ButR g w (wc.setCell ⟨gx, 3, none⟩ (.int .i64 0)) := hB.setNew hgw (by show w.heap.size ≤ gx; omega) _
              go_upto_region 19 with fail
              clear c2 c3 f3 ch
              generalize wc.setCell ⟨gx, 3, none⟩ (.int .i64 0) = wd at RX RC RU RR h6 hB tyi ty ⊢
              go_wp2_with fail
              refine (to_ok j n hjn hn2 (by omega) l g p6 _ h6 (by omega)).mono ?_
              rintro e_ w8 ⟨v, p8, rfl, h8, hp8, hb8, t, ht, rfl⟩
              replace RX := hb8.row RX hgx
              replace RC := hb8.row RC hgc
              replace RU := hb8.row RU hgw
              replace RR := hb8.row RR hgr
              replace tyi := tyi.keep (hb8.chg hgw)
              replace ty := ty.keep (hb8.chg hgw)
              replace hB := hB.trans hb8
              have hg8 : w.heap.size ≤ w8.heap.size := hB.size
              have tyn : TyI D w.heap.size (w8.alloc (.cells #[.int .i64 (t : Int)] 3)) (.slice (some ⟨w8.heap.size, 0, none⟩) 1 1) := TyI.one _ _ _ (i64_nat (by omega)) hg8
              replace RX := RX.alloc (.cells #[.int .i64 (t : Int)] 3)
              replace RC := RC.alloc (.cells #[.int .i64 (t : Int)] 3)
              replace RU := RU.alloc (.cells #[.int .i64 (t : Int)] 3)
              replace RR := RR.alloc (.cells #[.int .i64 (t : Int)] 3)
              have chA : Chg D w.heap.size w8 (w8.alloc (.cells #[.int .i64 (t : Int)] 3)) := Chg.below ((Below.refl _ _).alloc (Nat.le_refl _) _)
              replace tyi := (tyi.keep chA)
              replace ty := (ty.keep chA)
              replace hB : ButR g w (w8.alloc (.cells #[.int .i64 (t : Int)] 3)) := hB.alloc hgw _
              replace h8 : RdAt (w8.alloc (.cells #[.int .i64 (t : Int)] 3)) g l p8 := h8.below ((Below.refl _ _).alloc (Nat.le_refl _) _) h8.lt
              have c4 : (w8.alloc (.cells #[.int .i64 (t : Int)] 3)).cell? ⟨gx, 4, none⟩ = some (.slice none 0 0) := RX.cell 4
              have f4 : (w8.alloc (.cells #[.int .i64 (t : Int)] 3)).frozen? ⟨gx, 4, none⟩ = false := RX.frozen 4
              have ch : Chg D w.heap.size (w8.alloc (.cells #[.int .i64 (t : Int)] 3)) ((w8.alloc (.cells #[.int .i64 (t : Int)] 3)).setCell ⟨gx, 4, none⟩ (.slice (some ⟨w8.heap.size, 0, none⟩) 1 1)) := Chg.set RX (OK.blkI tyn)
              go_wp2_with fail
              go_meet
              exact ⟨p8, 1, 0, _, by omega, by omega, by omega, h8.below ((Below.refl gx _).setCell (p := ⟨gx, 4, none⟩) (Nat.le_refl _) _) hgx, hB.setNew hgw (by show w.heap.size ≤ gx; omega) _, RX.set_ 4 _, RC.far (p := ⟨gx, 4, none⟩) (by show gc ≠ gx; omega) _, RU.far (p := ⟨gx, 4, none⟩) (by show w.heap.size ≠ gx; omega) _, RR.far (p := ⟨gx, 4, none⟩) (by show w.heap.size + 1 ≠ gx; omega) _, tyi.keep ch, tyn.keep ch, ty.keep ch⟩
            · have n1 : ((jt : Int) == 1) = false := by simp; omega
              by_cases h2 : jt = 2
              · subst h2
                have hn2 : 2 ≤ n := by omega
                go_wp2_with fail
                refine (to_ok j n hjn hn2 (by omega) l g p6 _ h6 (by omega)).mono ?_
                rintro e_ w7 ⟨v, p7, rfl, h7, hp7, hb7, t, ht, rfl⟩
                replace RX := hb7.row RX hgx
                replace RC := hb7.row RC hgc
                replace RU := hb7.row RU hgw
                replace RR := hb7.row RR hgr
                replace tyi := tyi.keep (hb7.chg hgw)
                replace ty := ty.keep (hb7.chg hgw)
                replace hB := hB.trans hb7
                go_wp2_with fail
                refine (to_ok j n hjn hn2 (by omega) l g p7 _ h7 (by omega)).mono ?_
                rintro e_ w8 ⟨v, p8, rfl, h8, hp8, hb8, t2, ht2, rfl⟩
                replace RX := hb8.row RX hgx
                replace RC := hb8.row RC hgc
                replace RU := hb8.row RU hgw
                replace RR := hb8.row RR hgr
                replace tyi := tyi.keep (hb8.chg hgw)
                replace ty := ty.keep (hb8.chg hgw)
                replace hB := hB.trans hb8
                have hg8 : w.heap.size ≤ w8.heap.size := hB.size
                have tyn : TyI D w.heap.size (w8.alloc (.cells #[.int .i64 (t : Int), .int .i64 (t2 : Int)] 3)) (.slice (some ⟨w8.heap.size, 0, none⟩) 2 2) := TyI.two _ _ _ _ (i64_nat (by omega)) (i64_nat (by omega)) hg8
                replace RX := RX.alloc (.cells #[.int .i64 (t : Int), .int .i64 (t2 : Int)] 3)
                replace RC := RC.alloc (.cells #[.int .i64 (t : Int), .int .i64 (t2 : Int)] 3)
                replace RU := RU.alloc (.cells #[.int .i64 (t : Int), .int .i64 (t2 : Int)] 3)
                replace RR := RR.alloc (.cells #[.int .i64 (t : Int), .int .i64 (t2 : Int)] 3)
                have chA : Chg D w.heap.size w8 (w8.alloc (.cells #[.int .i64 (t : Int), .int .i64 (t2 : Int)] 3)) := Chg.below ((Below.refl _ _).alloc (Nat.le_refl _) _)
                replace tyi := (tyi.keep chA)
                replace ty := (ty.keep chA)
                replace hB : ButR g w (w8.alloc (.cells #[.int .i64 (t : Int), .int .i64 (t2 : Int)] 3)) := hB.alloc hgw _
                replace h8 : RdAt (w8.alloc (.cells #[.int .i64 (t : Int), .int .i64 (t2 : Int)] 3)) g l p8 := h8.below ((Below.refl _ _).alloc (Nat.le_refl _) _) h8.lt
                have c4 : (w8.alloc (.cells #[.int .i64 (t : Int), .int .i64 (t2 : Int)] 3)).cell? ⟨gx, 4, none⟩ = some (.slice none 0 0) := RX.cell 4
                have f4 : (w8.alloc (.cells #[.int .i64 (t : Int), .int .i64 (t2 : Int)] 3)).frozen? ⟨gx, 4, none⟩ = false := RX.frozen 4
                have ch : Chg D w.heap.size (w8.alloc (.cells #[.int .i64 (t : Int), .int .i64 (t2 : Int)] 3)) ((w8.alloc (.cells #[.int .i64 (t : Int), .int .i64 (t2 : Int)] 3)).setCell ⟨gx, 4, none⟩ (.slice (some ⟨w8.heap.size, 0, none⟩) 2 2)) := Chg.set RX (OK.blkI tyn)
                go_wp2_with fail
                go_meet
                exact ⟨p8, 2, k4, _, by omega, by omega, by omega, h8.below ((Below.refl gx _).setCell (p := ⟨gx, 4, none⟩) (Nat.le_refl _) _) hgx, hB.setNew hgw (by show w.heap.size ≤ gx; omega) _, RX.set_ 4 _, RC.far (p := ⟨gx, 4, none⟩) (by show gc ≠ gx; omega) _, RU.far (p := ⟨gx, 4, none⟩) (by show w.heap.size ≠ gx; omega) _, RR.far (p := ⟨gx, 4, none⟩) (by show w.heap.size + 1 ≠ gx; omega) _, tyi.keep ch, tyn.keep ch, ty.keep ch⟩
              · have n2 : ((jt : Int) == 2) = false := by simp; omega
                go_wp2_with fail
                go_meet
                exact ⟨p6, jt, k4, _, by omega, by omega, by omega, h6, hB, RX, RC, RU, RR, tyi, TyI.nil_ _ _, ty⟩
          case rest =>
            clear RX RC RU RR h6 hB tyi ty c2 hn3 hjt jt
            obtain ⟨p7, jt, k5, vn, hjt, hk5, hp7, h7, hB, RX, RC, RU, RR, tyi, tyn, ty⟩ := hcut
            go_upto_region 22 with fail
            have c0 : wc.cell? ⟨gx, 0, none⟩ = some (.slice none 0 0) := RX.cell 0
            have c1 : wc.cell? ⟨gx, 1, none⟩ = some (.slice A8 e c8) := RX.cell 1
            have c2 : wc.cell? ⟨gx, 2, none⟩ = some (.int .i64 (jt : Int)) := RX.cell 2
            have c3 : wc.cell? ⟨gx, 3, none⟩ = some (.int .i64 (k5 : Int)) := RX.cell 3
            have c4 : wc.cell? ⟨gx, 4, none⟩ = some vn := RX.cell 4
            have d2 : wc.cell? ⟨gc, 2, none⟩ = some (.slice A9 j c9) := RC.cell 2
            obtain ⟨A10, c10, w9, r9, ty9, kp9, hf9, rr, g9, hr9⟩ := append_blk (D := D) wc w.heap.size A9 j c9 ty (.slice none 0 0) (.slice A8 e c8) (jt : Int) (k5 : Int) vn (TyPhis.nil_ _ _) tyi (i64_nat (by omega)) (i64_nat (by omega)) tyn (by omega) hB.size
            have RC9 := hf9 _ _ _ (by decide) (RC.alloc (.cells #[.slice none 0 0, .slice A8 e c8, .int .i64 (jt : Int), .int .i64 (k5 : Int), vn] 65))
            have RU9 := hf9 _ _ _ (by decide) (RU.alloc (.cells #[.slice none 0 0, .slice A8 e c8, .int .i64 (jt : Int), .int .i64 (k5 : Int), vn] 65))
            have RR9 := hf9 _ _ _ (by decide) (RR.alloc (.cells #[.slice none 0 0, .slice A8 e c8, .int .i64 (jt : Int), .int .i64 (k5 : Int), vn] 65))
            have hB9 : ButR g w w9 := grown_but (hB.alloc hgw (.cells #[.slice none 0 0, .slice A8 e c8, .int .i64 (jt : Int), .int .i64 (k5 : Int), vn] 65)) g9 hr9
            have h9 : RdAt w9 g l p7 := grown_rd (h7.below ((Below.refl _ wc).alloc (Nat.le_refl _) (.cells #[.slice none 0 0, .slice A8 e c8, .int .i64 (jt : Int), .int .i64 (k5 : Int), vn] 65)) h7.lt) g9 (fun b hb => Nat.lt_of_lt_of_le hgw (hr9 b hb))
            have f9 : w9.frozen? ⟨gc, 2, none⟩ = false := RC9.frozen 2
            have d9 : w9.cell? ⟨gc, 2, none⟩ = some (.slice A9 j c9) := RC9.cell 2
            have hB10 : ButR g w (w9.setCell ⟨gc, 2, none⟩ (.slice A10 (j + 1) c10)) := hB9.setNew hgw (by show w.heap.size ≤ gc; omega) _
            have h10 : RdAt (w9.setCell ⟨gc, 2, none⟩ (.slice A10 (j + 1) c10)) g l p7 := h9.below ((Below.refl gc _).setCell (p := ⟨gc, 2, none⟩) (Nat.le_refl _) _) hgc
            have RC10 := RC9.set_ 2 (.slice A10 (j + 1) c10)
            have RU10 := RU9.far (p := ⟨gc, 2, none⟩) (by show w.heap.size ≠ gc; omega) (.slice A10 (j + 1) c10)
            have RR10 := RR9.far (p := ⟨gc, 2, none⟩) (by show w.heap.size + 1 ≠ gc; omega) (.slice A10 (j + 1) c10)
            have ch10 : Chg D w.heap.size w9 (w9.setCell ⟨gc, 2, none⟩ (.slice A10 (j + 1) c10)) := Chg.set RC9 (OK.codB ty9 (by omega))
            have ty10 := ty9.keep ch10
            clear hr9 g9 hf9 kp9 hB9 h9 RX RC RU RR tyi tyn ty hB h7 RU9 RR9 ty9 ch10
            go_wp2_with (refine Lib.wpList_append_run_sl _ (by rfl) _ _ 37 rfl _ _ rfl rfl r9 ?_)
            exact ⟨⟨j + 1, p7, A10, c10, by omega, by go_num, by omega, h10, hB10, RC10, RU10, RR10, ty10⟩, by simp [intOf]; omega⟩
end Go.Proofs.Ytgcjccoglcgcoaa
