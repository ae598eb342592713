/-
  A list of lists of numbers, all of one length, each in a row of its own: comparing, marking, asking for the marks. Conditions: the arguments read so.
-/
import Derived.Test.YtlhnojpkomcpmaaDoorHeld
import Derived.Test.YtlhnojpkomcpmaaDoorEq
import Derived.Test.YtlhnojpkomcpmaaDoorReg
import Derived.IntWalk
import Derived.Deep.Cut
namespace Go.Proofs.YtlhnojpkomcpmaaDoor
open Go.RowKit Go.ChangeShapes Go.WideShapes Go.Deep
set_option linter.unusedVariables false
set_option linter.unusedSimpArgs false
/-- N lists of n numbers, list i being F i, in rows of their own between the blocks lo and B -/
def Grid (full : Bool) (w : World) (lo B N n : Nat) (F : Nat → List Int) (v : Value) : Prop :=
  ∃ (A : Option Addr) (cap : Nat), v = .slice A N cap ∧ N ≤ cap ∧ cap ≤ maxLen ∧ (0 < N → ∃ (g : Nat) (cur : Array Value) (blk cp : Nat → Nat), A = some ⟨g, 0, none⟩ ∧ lo ≤ g ∧ g < B ∧ Row w g 46 cur ∧
    (∀ i j, i < N → j < N → i ≠ j → blk i ≠ blk j) ∧ ∀ i, i < N → blk i ≠ g ∧ lo ≤ blk i ∧ blk i < B ∧ cur[i]? = some (.slice (some ⟨blk i, 0, none⟩) n (cp i)) ∧ (full = true → Sl true (intS true) w (blk i) (blk i + 1) (F i) (.slice (some ⟨blk i, 0, none⟩) n (cp i))) ∧ Sl false (intS false) w (blk i) (blk i + 1) (F i) (.slice (some ⟨blk i, 0, none⟩) n (cp i)))
theorem Grid.keep {full : Bool} {w w' : World} {lo B N n : Nat} {F : Nat → List Int} {v : Value} (h : Grid full w lo B N n F v) (hk : ∀ b : Nat, lo ≤ b → b < B → w'.heap[b]? = w.heap[b]?) : Grid full w' lo B N n F v := by
  obtain ⟨A, cap, rfl, h1, h2, h3⟩ := h
  refine ⟨A, cap, rfl, h1, h2, fun hN => ?_⟩
  obtain ⟨g, cur, blk, cp, e, hg1, hg2, R, hd, hi⟩ := h3 hN
  refine ⟨g, cur, blk, cp, e, hg1, hg2, (hk g hg1 hg2).trans R, hd, fun i hiN => ?_⟩
  obtain ⟨k1, k2, k3, k4, k5, k6⟩ := hi i hiN
  exact ⟨k1, k2, k3, k4, fun hf => (k5 hf).keep (Nat.le_refl _) (Nat.le_refl _) (fun b hb1 hb2 => hk b (by omega) (by omega)), k6.keep (Nat.le_refl _) (Nat.le_refl _) (fun b hb1 hb2 => hk b (by omega) (by omega))⟩
theorem Grid.below {full : Bool} {w w' : World} {lo B B' N n : Nat} {F : Nat → List Int} {v : Value} (h : Grid full w lo B N n F v) (hb : Below B' w w') (hB : B ≤ B') : Grid full w' lo B N n F v := h.keep fun b _ h2 => hb.block b (by omega)
theorem Grid.more {full : Bool} {w : World} {lo lo' B B' N n : Nat} {F : Nat → List Int} {v : Value} (h : Grid full w lo B N n F v) (hlo : lo' ≤ lo) (hB : B ≤ B') : Grid full w lo' B' N n F v := by
  obtain ⟨A, cap, rfl, h1, h2, h3⟩ := h
  refine ⟨A, cap, rfl, h1, h2, fun hN => ?_⟩
  obtain ⟨g, cur, blk, cp, e, hg1, hg2, R, hd, hi⟩ := h3 hN
  exact ⟨g, cur, blk, cp, e, by omega, by omega, R, hd, fun i hiN => by
    obtain ⟨k1, k2, k3, k4⟩ := hi i hiN
    exact ⟨k1, by omega, by omega, k4⟩⟩
theorem Grid.form {full : Bool} {w : World} {lo B N n : Nat} {F : Nat → List Int} {v : Value} (h : Grid full w lo B N n F v) : ∃ A cap, v = .slice A N cap ∧ N ≤ cap ∧ cap ≤ 9223372036854775807 := by
  obtain ⟨A, cap, rfl, h1, h2, _⟩ := h
  exact ⟨A, cap, rfl, h1, by unfold maxLen at h2; omega⟩
theorem grid_get {full : Bool} {w : World} {lo B N n : Nat} {F : Nat → List Int} {A : Option Addr} {n' cap : Nat} (h : Grid full w lo B N n F (.slice A n' cap)) {i : Nat} (hi : i < N) : ∃ (g b c : Nat), A = some ⟨g, 0, none⟩ ∧ w.cell? ⟨g, i, none⟩ = some (.slice (some ⟨b, 0, none⟩) n c) ∧ lo ≤ b ∧ b < B ∧ Sl false (intS false) w b (b + 1) (F i) (.slice (some ⟨b, 0, none⟩) n c) := by
  obtain ⟨A1, c1, e1, h1, h2, h3⟩ := h
  injection e1 with e1 e2 e3
  subst e1
  obtain ⟨g, cur, blk, cp, e, hg1, hg2, R, hd, hk⟩ := h3 (by omega)
  obtain ⟨k1, k2, k3, k4, k5, k6⟩ := hk i hi
  exact ⟨g, blk i, cp i, e, (R.cell i).trans k4, k2, k3, k6⟩
set_option maxRecDepth 100000 in
theorem eq_IntSS (N n : Nat) (F : Nat → List Int) (v u : Value) (w : World) (lo B lo' B' : Nat) (f1 f2 : Bool) (hN : N ≤ 1000) (hB : B ≤ w.heap.size) (hC : B' ≤ w.heap.size) (hv : Grid f1 w lo B N n F v) (hu : Grid f2 w lo' B' N n F u) :
    Calls Tryd.prog 8 #[v, u] w (Yes w) := by
  obtain ⟨A, cap, rfl, hlc, hcm⟩ := hv.form
  obtain ⟨A2, cap2, rfl, hlc2, hcm2⟩ := hu.form
  go_enter Tryd.func8, Tryd.ntmps8
  go_wp2_with fail
  go_loopw [5] (fun i wr => ∃ k : Nat, k ≤ N ∧ i = .int .i64 k ∧ Below w.heap.size w wr) (fun i _ => N - (intOf i).toNat)
  case atStart => exact ⟨0, by omega, rfl, Below.refl _ _⟩
  case round =>
    obtain ⟨k, hk, rfl, hb⟩ := hrel
    have hsz := hb.size
    by_cases hkl : k < N
    case neg =>
      have hk1 : ¬ (k : Int) < (N : Int) := by omega
      go_wp2_with fail
      go_ret
      exact ⟨rfl, hb⟩
    have hk1 : (k : Int) < (N : Int) := by omega
    obtain ⟨g1, b1, c1, rfl, x1, l1, l1', s1⟩ := grid_get (hv.below hb hB) hkl
    obtain ⟨g2, b2, c2, rfl, x2, l2, l2', s2⟩ := grid_get (hu.below hb hC) hkl
    go_upto_region 6 with fail
    refine wp_region_held_drew (S := fun w' => (w'.cell? ⟨g1, k, none⟩ = some (.slice (some ⟨b1, 0, none⟩) n c1) ∧ w'.cell? ⟨g2, k, none⟩ = some (.slice (some ⟨b2, 0, none⟩) n c2))) (by kernel_rfl) ?_ (fun hHeld => ?_)
    · first | exact ⟨x1, x2⟩ | exact ⟨x1', x2'⟩
    refine reg_take (i := 0) (v := ?v17) rfl (by kernel_rfl) (by kernel_rfl) (by kernel_rfl) (fun _ _ _ h => h) (Or.inl ⟨by kernel_rfl, ?h17⟩) (by assumption) ?r17
    case h17 => (intro w hSw; (try dsimp only at hSw); go_simp; try with_reducible rfl)
    try simp only [Act.put, List.setIfInBounds_toArray, List.set_cons_zero, List.set_cons_succ]
    refine reg_take (i := 1) (v := ?v18) rfl (by kernel_rfl) (by kernel_rfl) (by kernel_rfl) (fun _ _ _ h => h) (Or.inl ⟨by kernel_rfl, ?h18⟩) (by assumption) ?r18
    case h18 => (intro w hSw; (try dsimp only at hSw); go_simp; try with_reducible rfl)
    try simp only [Act.put, List.setIfInBounds_toArray, List.set_cons_zero, List.set_cons_succ]
    refine reg_take (i := 2) (v := ?v19) rfl (by kernel_rfl) (by kernel_rfl) (by kernel_rfl) (fun _ _ _ h => h) (Or.inl ⟨by kernel_rfl, ?h19⟩) (by assumption) ?r19
    case h19 => (intro w hSw; (try dsimp only at hSw); go_simp; try with_reducible rfl)
    try simp only [Act.put, List.setIfInBounds_toArray, List.set_cons_zero, List.set_cons_succ]
    refine reg_take (i := 3) (v := ?v20) rfl (by kernel_rfl) (by kernel_rfl) (by kernel_rfl) (fun _ _ _ h => h) (Or.inl ⟨by kernel_rfl, ?h20⟩) (by assumption) ?r20
    case h20 => (intro w hSw; (try dsimp only at hSw); go_simp; try with_reducible rfl)
    try simp only [Act.put, List.setIfInBounds_toArray, List.set_cons_zero, List.set_cons_succ]
    refine reg_take (i := 4) (v := ?v21) rfl (by kernel_rfl) (by kernel_rfl) (by kernel_rfl) (fun _ _ _ h => h) (Or.inl ⟨by kernel_rfl, ?h21⟩) (by assumption) ?r21
    case h21 => (intro w hSw; (try dsimp only at hSw); go_simp; try with_reducible rfl)
    try simp only [Act.put, List.setIfInBounds_toArray, List.set_cons_zero, List.set_cons_succ]
    refine reg_take (i := 5) (v := ?v22) rfl (by kernel_rfl) (by kernel_rfl) (by kernel_rfl) (fun _ _ _ h => h) (Or.inl ⟨by kernel_rfl, ?h22⟩) (by assumption) ?r22
    case h22 => (intro w hSw; (try dsimp only at hSw); go_simp; try with_reducible rfl)
    try simp only [Act.put, List.setIfInBounds_toArray, List.set_cons_zero, List.set_cons_succ]
    refine reg_take (i := 6) (v := ?v23) rfl (by kernel_rfl) (by kernel_rfl) (by kernel_rfl) (fun _ _ _ h => h) (Or.inl ⟨by kernel_rfl, ?h23⟩) (by assumption) ?r23
    case h23 => (intro w hSw; (try dsimp only at hSw); go_simp; try with_reducible rfl)
    try simp only [Act.put, List.setIfInBounds_toArray, List.set_cons_zero, List.set_cons_succ]
    refine reg_take (i := 7) (v := ?v24) rfl (by kernel_rfl) (by kernel_rfl) (by kernel_rfl) (fun _ _ _ h => h) (Or.inl ⟨by kernel_rfl, ?h24⟩) (by assumption) ?r24
    case h24 => (intro w hSw; (try dsimp only at hSw); go_simp; try with_reducible rfl)
    try simp only [Act.put, List.setIfInBounds_toArray, List.set_cons_zero, List.set_cons_succ]
    refine reg_call (i := 8) (by kernel_rfl) rfl (fun K hK => ?_)
    go_simp
    refine (eq_IntS (F k) _ _ wr.drew b1 (b1 + 1) b2 (b2 + 1) (by show b1 + 1 ≤ wr.heap.size; omega) (by show b2 + 1 ≤ wr.heap.size; omega) (s1.keep (Nat.le_refl _) (Nat.le_refl _) (fun _ _ _ => rfl)) (s2.keep (Nat.le_refl _) (Nat.le_refl _) (fun _ _ _ => rfl))).mono ?_
    rintro e w1 ⟨rfl, e1⟩
    have hbd : Below w.heap.size w w1 := hb.drew.trans (e1.mono hsz)
    have x1' : w1.cell? ⟨g1, k, none⟩ = some (.slice (some ⟨b1, 0, none⟩) n c1) := (e1.cell (p := ⟨g1, k, none⟩) (World.block_lt_of_cell? wr _ x1)).trans x1
    have x2' : w1.cell? ⟨g2, k, none⟩ = some (.slice (some ⟨b2, 0, none⟩) n c2) := (e1.cell (p := ⟨g2, k, none⟩) (World.block_lt_of_cell? wr _ x2)).trans x2
    refine hK.out _ _ ?_ (fun hHeld => ?_)
    · first | exact ⟨x1, x2⟩ | exact ⟨x1', x2'⟩
    clear hK K
    try simp only [Act.put, List.setIfInBounds_toArray, List.set_cons_zero, List.set_cons_succ]
    refine reg_take (i := 9) (v := ?v26) rfl (by kernel_rfl) (by kernel_rfl) (by kernel_rfl) (fun _ _ _ h => h) (Or.inl ⟨by kernel_rfl, ?h26⟩) (by assumption) ?r26
    case h26 => (intro w hSw; (try dsimp only at hSw); go_simp; try with_reducible rfl)
    try simp only [Act.put, List.setIfInBounds_toArray, List.set_cons_zero, List.set_cons_succ]
    refine wpAnyH_done (by kernel_rfl) ?_ _
    go_wp2_with fail
    go_roundw
    case rel => exact ⟨k + 1, by omega, by go_num, hbd⟩
    case measure => simp [intOf]; omega
theorem Sl.one_block {m : Bool} {w w' : World} {b : Nat} {l : List Int} {v : Value} (h : Sl m (intS m) w b (b + 1) l v) (hk : w'.heap[b]? = w.heap[b]?) : Sl m (intS m) w' b (b + 1) l v := h.keep (Nat.le_refl _) (Nat.le_refl _) fun x h1 h2 => by
  obtain rfl : x = b := by omega
  exact hk
theorem sl_len {m : Bool} {w : World} {lo B : Nat} {l : List Int} {A : Option Addr} {n c : Nat} (h : Sl m (intS m) w lo B l (.slice A n c)) : l.length = n := by
  obtain ⟨_, _, e, _, _⟩ := h.form
  injection e with _ e _
  exact e.symm
set_option maxRecDepth 100000 in
set_option maxHeartbeats 2000000 in
theorem markx_IntSS (N n : Nat) (F : Nat → List Int) (v : Value) (k : Int) (w : World) (lo B : Nat) (k0 : 0 ≤ k) (hk : k + ((N * n : Nat) : Int) ≤ 1073741824) (hN : N ≤ 1000) (hB : B ≤ w.heap.size) (hv : Grid true w lo B N n F v) :
    Calls Tryd.prog 11 #[v, .int .i64 k] w (fun e w' => e = .returned (.int .i64 (k + ((N * n : Nat) : Int))) ∧ Grid false w' lo B N n (fun q => marksL (k + ((q * n : Nat) : Int)) n) v ∧ Soft lo B w w') := by
  obtain ⟨A, cap, rfl, h1, h2, h3⟩ := hv
  have hcm' : cap ≤ 9223372036854775807 := by unfold maxLen at h2; omega
  obtain ⟨g, cur, blk, cp, H⟩ : ∃ (g : Nat) (cur : Array Value) (blk cp : Nat → Nat), Hid (0 < N → A = some ⟨g, 0, none⟩ ∧ lo ≤ g ∧ g < B ∧ Row w g 46 cur ∧ (∀ i j, i < N → j < N → i ≠ j → blk i ≠ blk j) ∧ ∀ i, i < N → blk i ≠ g ∧ lo ≤ blk i ∧ blk i < B ∧ cur[i]? = some (.slice (some ⟨blk i, 0, none⟩) n (cp i)) ∧ (true = true → Sl true (intS true) w (blk i) (blk i + 1) (F i) (.slice (some ⟨blk i, 0, none⟩) n (cp i))) ∧ Sl false (intS false) w (blk i) (blk i + 1) (F i) (.slice (some ⟨blk i, 0, none⟩) n (cp i))) := by
    by_cases h0 : 0 < N
    · obtain ⟨g, cur, blk, cp, r⟩ := h3 h0
      exact ⟨g, cur, blk, cp, fun _ => r⟩
    · exact ⟨0, #[], fun _ => 0, fun _ => 0, fun h => absurd h h0⟩
  clear h3
  have HKK := Lib.hid hk
  clear hk
  go_enter Tryd.func11, Tryd.ntmps11
  go_wp2_with fail
  go_loopw [1, 5] (fun t i wr => ∃ j : Nat, j ≤ N ∧ i = .int .i64 (j : Int) ∧ t = .int .i64 (k + ((j * n : Nat) : Int)) ∧ Soft lo B w wr ∧ Hid (0 < N → Row wr g 46 cur ∧ (∀ q, q < j → Sl false (intS false) wr (blk q) (blk q + 1) (marksL (k + ((q * n : Nat) : Int)) n) (.slice (some ⟨blk q, 0, none⟩) n (cp q))) ∧ ∀ q, j ≤ q → q < N → Sl true (intS true) wr (blk q) (blk q + 1) (F q) (.slice (some ⟨blk q, 0, none⟩) n (cp q)))) (fun _ i _ => N - (intOf i).toNat)
  case atStart => exact ⟨0, by omega, rfl, by simp, Soft.refl _ _ _, fun h0 => ⟨(H.out h0).2.2.2.1, fun q hq => absurd hq (Nat.not_lt_zero _), fun q _ hq => ((H.out h0).2.2.2.2.2 q hq).2.2.2.2.1 (by trivial)⟩⟩
  case round =>
    obtain ⟨j, hj, rfl, rfl, hs, HD⟩ := hrel
    by_cases hjl : j < N
    case neg =>
      obtain rfl : j = N := by omega
      have hj1 : ¬ (j : Int) < (j : Int) := by omega
      go_wp2_with fail
      go_ret
      refine ⟨rfl, ⟨A, cap, rfl, h1, h2, fun h0 => ?_⟩, hs⟩
      obtain ⟨e1, e2, e3, e4, e5, e6⟩ := H.out h0
      obtain ⟨d1, d2, _⟩ := HD.out h0
      refine ⟨g, cur, blk, cp, e1, e2, e3, d1, e5, fun i hi => ?_⟩
      obtain ⟨k1, k2, k3, k4, _, _⟩ := e6 i hi
      exact ⟨k1, k2, k3, k4, (fun h => by cases h), d2 i hi⟩
    obtain ⟨hA, e2, e3, _, e5, e6⟩ := H.out (show 0 < N by omega)
    obtain ⟨d1, d2, d3⟩ := HD.out (show 0 < N by omega)
    obtain ⟨k1, k2, k3, k4, _, _⟩ := e6 j hjl
    have s1 := d3 j (Nat.le_refl _) hjl
    have hln := sl_len s1
    have HA := Lib.hid hA
    clear hA
    obtain rfl := HA.out
    have c0 : wr.cell? ⟨g, j, none⟩ = some (.slice (some ⟨blk j, 0, none⟩) n (cp j)) := (d1.cell j).trans k4
    have hj1 : (j : Int) < (N : Int) := by omega
    have hmul : j * n + n ≤ N * n := by
      have := Nat.mul_le_mul_right n (show j + 1 ≤ N from hjl)
      rw [Nat.add_mul, Nat.one_mul] at this
      exact this
    have hsu : (j + 1) * n = j * n + n := by rw [Nat.add_mul, Nat.one_mul]
    obtain ⟨M, hM⟩ : ∃ M : Nat, j * n = M := ⟨_, rfl⟩
    obtain ⟨T, hT⟩ : ∃ T : Nat, N * n = T := ⟨_, rfl⟩
    rw [hM] at hmul hsu
    rw [hM]
    have hk := HKK.out
    rw [hT] at hk hmul
    have HS := Lib.hid hsu
    have HMM := Lib.hid hM
    have HK : Hid (k + (M : Int) + (n : Int) ≤ 1073741824) := Lib.hid (by omega)
    clear hsu hM hT hk hmul
    go_wp2_with fail
    refine (markx_IntS (F j) _ (k + (M : Int)) wr (blk j) (blk j + 1) (by omega) (by have := HK.out; omega) s1).mono ?_
    rw [hln]
    rintro e w1 ⟨rfl, m1, sf⟩
    have HW : IntKind.i64.wrap (k + (M : Int) + (n : Int)) = k + (M : Int) + (n : Int) := IntWalk.i64_in _ (by have := HK.out; omega)
    go_wp2_with fail
    go_roundw
    case rel =>
      refine ⟨j + 1, by omega, by go_num, by rw [HS.out]; go_num, hs.trans (sf.more k2 (by omega)), fun h0 => ⟨(sf.out g (by omega)).trans d1, fun q hq => ?_, fun q hq1 hq2 => ?_⟩⟩
      · by_cases hqj : q = j
        · subst hqj
          rw [HMM.out]
          exact m1
        · have hne := e5 q j (by omega) hjl hqj
          exact (d2 q (by omega)).one_block (sf.out (blk q) (by omega))
      · have hne := e5 q j hq2 hjl (by omega)
        exact (d3 q (by omega) hq2).one_block (sf.out (blk q) (by omega))
    case measure => simp [intOf]; omega
set_option maxRecDepth 100000 in
theorem held_IntSS (full : Bool) (N n : Nat) (v : Value) (k : Int) (w : World) (lo B : Nat) (k0 : 0 ≤ k) (hk : k + ((N * n : Nat) : Int) ≤ 1073741824) (hN : N ≤ 1000) (hB : B ≤ w.heap.size) (hv : Grid full w lo B N n (fun q => marksL (k + ((q * n : Nat) : Int)) n) v) :
    Calls Tryd.prog 12 #[v, .int .i64 k] w (RetV (.int .i64 (k + ((N * n : Nat) : Int))) w) := by
  obtain ⟨A, cap, rfl, hlc, hcm⟩ := hv.form
  have HKK := Lib.hid hk
  clear hk
  go_enter Tryd.func12, Tryd.ntmps12
  go_wp2_with fail
  go_loopw [1, 5] (fun t i wr => ∃ j : Nat, j ≤ N ∧ i = .int .i64 (j : Int) ∧ t = .int .i64 (k + ((j * n : Nat) : Int)) ∧ Below w.heap.size w wr) (fun _ i _ => N - (intOf i).toNat)
  case atStart => exact ⟨0, by omega, rfl, by simp, Below.refl _ _⟩
  case round =>
    obtain ⟨j, hj, rfl, rfl, hb⟩ := hrel
    by_cases hjl : j < N
    case neg =>
      obtain rfl : j = N := by omega
      have hj1 : ¬ (j : Int) < (j : Int) := by omega
      go_wp2_with fail
      go_ret
      exact ⟨rfl, hb⟩
    obtain ⟨g, b, c, rfl, c0, _, hbB, s1⟩ := grid_get (hv.below hb hB) hjl
    have hj1 : (j : Int) < (N : Int) := by omega
    have hmul : j * n + n ≤ N * n := by
      have := Nat.mul_le_mul_right n (show j + 1 ≤ N from hjl)
      rw [Nat.add_mul, Nat.one_mul] at this
      exact this
    have hsu : (j + 1) * n = j * n + n := by rw [Nat.add_mul, Nat.one_mul]
    obtain ⟨M, hM⟩ : ∃ M : Nat, j * n = M := ⟨_, rfl⟩
    obtain ⟨T, hT⟩ : ∃ T : Nat, N * n = T := ⟨_, rfl⟩
    rw [hM] at hmul hsu s1
    rw [hM]
    have hk := HKK.out
    rw [hT] at hk hmul
    have HS := Lib.hid hsu
    have HK : Hid (k + (M : Int) + (n : Int) ≤ 1073741824) := Lib.hid (by omega)
    have hkM : 0 ≤ k + (M : Int) := by omega
    clear hsu hM hT hk hmul
    go_wp2_with fail
    refine (held_IntS (k + (M : Int)) n _ wr b (b + 1) (by have := hb.size; omega) hkM HK.out s1).mono ?_
    rintro e w1 ⟨rfl, e1⟩
    have hge : ¬ (k + (M : Int) + (n : Int) < 0) := by omega
    go_wp2_with fail
    go_roundw
    case rel => exact ⟨j + 1, by omega, by go_num, by rw [HS.out]; go_num, hb.trans (e1.mono hb.size)⟩
    case measure => simp [intOf]; omega
end Go.Proofs.YtlhnojpkomcpmaaDoor
