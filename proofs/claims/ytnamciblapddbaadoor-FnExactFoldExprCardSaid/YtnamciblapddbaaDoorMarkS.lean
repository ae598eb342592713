/-
  Marks: data in memory of its own are written over, leaf by leaf; lists of texts are asked for their marks. Conditions: they may be written.
-/
import Derived.Test.YtnamciblapddbaaDoorSoft
import Derived.Test.YtnamciblapddbaaDoorSize
import Derived.Deep.RegionHeld3
namespace Go.Proofs.YtnamciblapddbaaDoor
open Go.RowKit Go.ChangeShapes Go.WideShapes Go.Deep
set_option linter.unusedSimpArgs false
set_option linter.unusedVariables false
theorem Soft.str_at {lo B : Nat} {w w' : World} (h : Soft lo B w w') {p : Addr} {n : ByteArray} (hp : w.cell? p = some (.string n)) : ∃ n', w'.cell? p = some (.string n') := by
  obtain ⟨v', h1, h2⟩ := h.cell _ _ hp
  rcases h2 with rfl | ⟨m, m', e, _⟩ | ⟨s, s', _, rfl⟩
  · exact ⟨_, h1⟩
  · cases e
  · exact ⟨_, h1⟩
theorem Soft.int_at {lo B : Nat} {w w' : World} (h : Soft lo B w w') {p : Addr} {n : Int} (hp : w.cell? p = some (.int .i64 n)) : ∃ n', w'.cell? p = some (.int .i64 n') := by
  obtain ⟨v', h1, h2⟩ := h.cell _ _ hp
  rcases h2 with rfl | ⟨m, m', _, rfl⟩ | ⟨s, s', e, _⟩
  · exact ⟨_, h1⟩
  · exact ⟨_, h1⟩
  · cases e
theorem Soft.sl_at {lo B : Nat} {w w' : World} (h : Soft lo B w w') {p : Addr} {A : Option Addr} {n c : Nat} (hp : w.cell? p = some (.slice A n c)) : w'.cell? p = some (.slice A n c) := by
  obtain ⟨v', h1, h2⟩ := h.cell _ _ hp
  rcases h2 with rfl | ⟨m, m', e, _⟩ | ⟨s, s', e, _⟩
  · exact h1
  · cases e
  · cases e
theorem mark_Texti (k : Int) (w : World) (h0 : 0 ≤ k) (hk : k ≤ 1073741824) : Calls Tryd.prog 54 #[.int .i64 k] w (RetV (.string (mtx k.toNat)) w) := by
  obtain ⟨n, rfl⟩ := Int.eq_ofNat_of_zero_le h0
  exact mark_Text n w (by omega)
/-- what a mark.. function answers: the next number -/
def MarkP (k : Int) (n lo B : Nat) (w : World) (e : Ending) (w' : World) : Prop :=
  ∃ r : Int, e = .returned (.int .i64 r) ∧ k ≤ r ∧ r ≤ k + 3 * n ∧ Soft lo B w w'
def MarkExprSAt (d : Nat) : Prop := ∀ (l : List Ex) (v : Value) (k : Int) (w : World) (lo B : Nat) (_ : 0 ≤ k) (_ : k + 3 * (partsL l : Nat) ≤ 1073741824) (_ : Sl true (exS true d) w lo B l v), Calls Tryd.prog 53 #[v, .int .i64 k] w (MarkP k (partsL l) lo B w)
set_option maxRecDepth 100000 in
set_option maxHeartbeats 2000000 in
theorem mark_ExprS_step (D : Nat) (ih : ∀ d, D = d + 1 → MarkExprSAt d) : MarkExprSAt D := by
  intro l v k w lo B k0 hk hv
  obtain ⟨A, cap, rfl, hlc, hcm⟩ := hv.form
  replace ih := Lib.hid ih
  go_enter Tryd.func53, Tryd.ntmps53
  go_wp2_with fail
  go_loopw [1, 5] (fun t i wr => ∃ (j : Nat) (r : Int), j ≤ l.length ∧ i = .int .i64 j ∧ t = .int .i64 r ∧ k ≤ r ∧ r + 3 * (partsL (l.drop j) : Nat) ≤ k + 3 * (partsL l : Nat) ∧ Soft lo B w wr) (fun _ i _ => l.length - (intOf i).toNat)
  case atStart => exact ⟨0, k, by omega, rfl, rfl, by omega, by rw [List.drop_zero]; omega, Soft.refl _ _ _⟩
  case round =>
    obtain ⟨j, r, hj, rfl, rfl, hr0, hr1, hs⟩ := hrel
    by_cases hjl : j < l.length
    · obtain ⟨d, rfl⟩ := exS_pos hv (by omega)
      obtain ⟨b, o, n0, n1, s2, A3, p3, rfl, hlb, hbB, hf, g3, c0, c1, c2, c3⟩ := ex_getm d (hv.soft (softOk_ex _) hs) hjl
      have hp2 : partsL (l.drop j) = (1 + partsL l[j].kids) + partsL (l.drop (j + 1)) := by
        rw [drop_cons hjl rfl, partsL_cons]
        cases l[j] with
        | mk op n name kids => rw [partsE_mk]; rfl
      rw [hp2] at hr1
      clear hp2
      have f0 : wr.frozen? ⟨b, o + j * 4, none⟩ = false := hf _
      have f1 : wr.frozen? ⟨b, o + j * 4 + 1, none⟩ = false := hf _
      have f2 : wr.frozen? ⟨b, o + j * 4 + 2, none⟩ = false := hf _
      obtain ⟨K3, hK3⟩ : ∃ K3, K3 = l[j].kids := ⟨_, rfl⟩
      rw [← hK3] at g3 c3 hr1
      replace hK3 := Lib.hid hK3
      clear hf
      go_wp2_with fail
      refine (mark_Texti (r + 1 + 1) _ (by omega) (by omega)).mono ?_
      rintro e w1 ⟨rfl, b1⟩
      have S1 : Soft lo B wr (wr.setCell ⟨b, o + j * 4, none⟩ (.int .i64 r)) := (Soft.refl _ _ _).st c0 hlb hbB _
      have c1' : (wr.setCell ⟨b, o + j * 4, none⟩ (.int .i64 r)).cell? ⟨b, o + j * 4 + 1, none⟩ = some (.int .i64 n1) := (World.cell?_setCell_other _ _ _ _ (addr_ne (by omega))).trans c1
      have S2 := S1.st c1' hlb hbB (r + 1)
      have S3 := S2.trans (Soft.of_below b1)
      obtain ⟨s2', c2'⟩ := S3.str_at c2
      have c3' := S3.sl_at c3
      have f2' : w1.frozen? ⟨b, o + j * 4 + 2, none⟩ = false := (S3.frozen _ (World.block_lt_of_cell? wr _ c2)).trans f2
      have S4 := S3.sts c2' hlb hbB (mtx (r + 1 + 1).toNat)
      have g4 := g3.soft (softOk_ex d) S4
      clear c0 c1 c2 c3 f0 f1 f2 c1' S1 S2 S3
      go_wp2_with fail
      refine (ih.out d rfl K3 (.slice A3 K3.length p3) (r + 1 + 1 + 1) _ lo B (by omega) (by omega) g4).mono ?_
      rintro e w5 ⟨r5, rfl, ra, rb, S5⟩
      go_wp2_with fail
      go_roundw
      case rel => exact ⟨j + 1, r5, by omega, by go_num, rfl, by omega, by omega, hs.trans (S4.trans S5)⟩
      case measure => simp [intOf]; omega
    · obtain rfl : j = l.length := by omega
      go_wp2_with fail
      go_ret
      exact ⟨_, rfl, by omega, by omega, hs⟩
theorem mark_ExprS : ∀ d, MarkExprSAt d
  | 0 => mark_ExprS_step 0 (fun d h => by omega)
  | d + 1 => mark_ExprS_step (d + 1) (fun d' h => by
    obtain rfl : d = d' := by omega
    exact mark_ExprS d)
theorem mark_Expr (d : Nat) (op n : Int) (name : ByteArray) (kids : List Ex) (v3 : Value) (k : Int) (w : World) (lo B : Nat) (k0 : 0 ≤ k) (hk : k + 3 * (partsL kids : Nat) ≤ 1073741824) (h3 : Sl true (exS true d) w lo B kids v3) (hB : B ≤ w.heap.size) :
    Calls Tryd.prog 28 #[.agg #[.int .i64 op, .int .i64 n, .string name, v3], .int .i64 k] w (MarkP k (partsL kids) lo B w) := by
  obtain ⟨A, p, hf, hl1, hl2⟩ := h3.form
  subst hf
  have hb0 : Below w.heap.size w (w.alloc (.cells #[.int .i64 op, .int .i64 n, .string name, .slice A kids.length p] 30)) := (Below.refl _ _).alloc (Nat.le_refl _) _
  go_enter Tryd.func28, Tryd.ntmps28
  go_wp2_with fail
  refine (mark_ExprS d kids (.slice A kids.length p) k _ lo B k0 hk (h3.below hb0 hB)).mono ?_
  rintro e w1 ⟨r, rfl, ra, rb, S⟩
  go_wp2_with fail
  go_ret
  exact ⟨_, rfl, ra, rb, (Soft.of_below hb0).trans S⟩
theorem partsL_le : ∀ l : List Ex, partsL l ≤ l.length + exNs l
  | [] => by rw [partsL_nil]; exact Nat.zero_le _
  | .mk op n name kids :: r => by
    rw [partsL_cons, partsE_mk, exNs, exN]
    have h1 := partsL_le kids
    have h2 := partsL_le r
    simp only [List.length_cons]
    omega
/-- the texts of the marks from k on -/
def txtL (k : Nat) (n : Nat) : List ByteArray := (List.range n).map fun (i : Nat) => mtx (k + i)
theorem txtL_length (k n : Nat) : (txtL k n).length = n := by simp [txtL]
theorem txtL_get {k n i : Nat} (h : i < (txtL k n).length) : (txtL k n)[i] = mtx (k + i) := by simp [txtL]
theorem decs_len : ∀ k : Nat, (decs k).length ≤ k := by
  intro k
  induction k using Nat.strongRecOn with
  | _ k ih =>
    by_cases h : 0 < k
    · rw [decs_step h]
      have := ih (k / 10) (by omega)
      simp only [List.length_append, List.length_cons, List.length_nil]
      omega
    · obtain rfl : k = 0 := by omega
      rw [decs_zero]
      exact Nat.le_refl _
theorem mtx_size (k : Nat) : (mtx k).size ≤ k + 2 := by
  have := decs_len k
  unfold mtx
  split
  · have : (⟨#[109, 48]⟩ : ByteArray).size = 2 := rfl
    omega
  · have h2 : (⟨(109 :: decs k).toArray⟩ : ByteArray).size = (decs k).length + 1 := by simp [ByteArray.size]
    omega
set_option maxRecDepth 100000 in
theorem markx_StringS (l : List ByteArray) (v : Value) (k : Nat) (w : World) (lo B : Nat) (hk : k + l.length ≤ 1073741824) (hv : Sl true (strS true) w lo B l v) (hB : B ≤ w.heap.size) :
    Calls Tryd.prog 29 #[v, .int .i64 (k : Int)] w (fun e w' => e = .returned (.int .i64 ((k : Int) + (l.length : Int))) ∧ Sl false (strS false) w' lo B (txtL k l.length) v ∧ Soft lo B w w') := by
  obtain ⟨A, cap, rfl, hlc, hcm, h3⟩ := hv
  have hv : Sl true (strS true) w lo B l (.slice A l.length cap) := ⟨A, cap, rfl, hlc, hcm, h3⟩
  obtain ⟨b, o, hA⟩ : ∃ b o : Nat, l ≠ [] → A = some ⟨b, o, none⟩ ∧ lo ≤ b ∧ b < B := by
    by_cases hl : l = []
    · exact ⟨0, 0, fun h => absurd hl h⟩
    · obtain ⟨b, o, h1, h2, h3, _⟩ := h3 hl
      exact ⟨b, o, fun _ => ⟨h1, h2, h3⟩⟩
  clear h3
  have hcm' : cap ≤ 9223372036854775807 := by unfold maxLen at hcm; omega
  go_enter Tryd.func29, Tryd.ntmps29
  go_wp2_with fail
  go_loopw [1, 5] (fun t i wr => ∃ j : Nat, j ≤ l.length ∧ i = .int .i64 j ∧ t = .int .i64 ((k : Int) + j) ∧ Soft lo B w wr ∧ Hid (∀ i' : Nat, i' < j → wr.cell? ⟨b, o + i', none⟩ = some (.string (mtx (k + i'))))) (fun _ i _ => l.length - (intOf i).toNat)
  case atStart => exact ⟨0, by omega, rfl, by simp, Soft.refl _ _ _, fun i' h => absurd h (Nat.not_lt_zero _)⟩
  case round =>
    obtain ⟨j, hj, rfl, rfl, hs, HD⟩ := hrel
    by_cases hjl : j < l.length
    · obtain ⟨b', o', cs, hA', hlb, hbB, hf, hr, hc⟩ := (hv.soft softOk_str hs).at_ hjl
      obtain ⟨hA1, hlb1, hbB1⟩ := hA (List.ne_nil_of_length_pos (by omega))
      rw [hA1] at hA'
      injection hA' with hA'
      injection hA' with e1 e2
      subst e1 e2 hA1
      obtain ⟨n0, rfl⟩ := str_any hr
      have c0 : wr.cell? ⟨b, o + j, none⟩ = some (.string n0) := by simpa [strS] using hc 0 _ rfl
      have f0 : wr.frozen? ⟨b, o + j, none⟩ = false := hf rfl _
      have hbw := World.block_lt_of_cell? wr _ c0
      clear hc hf hr
      go_wp2_with fail
      refine (mark_Text (k + j) _ (by omega)).mono ?_
      rintro e w1 ⟨rfl, b1⟩
      have c1 : w1.cell? ⟨b, o + j, none⟩ = some (.string n0) := (b1.cell (p := ⟨b, o + j, none⟩) hbw).trans c0
      have f1 : w1.frozen? ⟨b, o + j, none⟩ = false := (b1.frozen (p := ⟨b, o + j, none⟩) hbw).trans f0
      have hs1 := hs.trans (Soft.of_below b1)
      have HD1 : Hid (∀ i' : Nat, i' < j → w1.cell? ⟨b, o + i', none⟩ = some (.string (mtx (k + i')))) := fun i' hi => (b1.cell (p := ⟨b, o + i', none⟩) hbw).trans (HD.out i' hi)
      clear c0 f0 HD
      go_wp2_with fail
      go_roundw
      case rel =>
        refine ⟨j + 1, by omega, by go_num, by go_num, hs1.sts c1 hlb1 hbB1 _, fun i' hi => ?_⟩
        rcases Nat.lt_or_ge i' j with h | h
        · exact (World.cell?_setCell_other _ _ _ _ (addr_ne (by omega))).trans (HD1.out i' h)
        · obtain rfl : i' = j := by omega
          exact World.cell?_setCell_same _ _ _ c1
      case measure => simp [intOf]; omega
    · obtain rfl : j = l.length := by omega
      go_wp2_with fail
      go_ret
      refine ⟨rfl, ⟨A, cap, by rw [txtL_length], by rw [txtL_length]; exact hlc, hcm, fun hne => ?_⟩, hs⟩
      obtain ⟨h1, h2, h3⟩ := hA (fun h => hne (by rw [h]; rfl))
      refine ⟨b, o, h1, h2, h3, (fun h => by cases h), fun i a ha => ⟨[.string a], ?_, fun j' u hu => ?_⟩⟩
      · have hil := (List.getElem?_eq_some_iff.1 ha).1
        have hia := (List.getElem?_eq_some_iff.1 ha).2
        rw [txtL_get hil] at hia
        rw [txtL_length] at hil
        refine str_mk false _ _ _ ?_
        rw [← hia]
        have := mtx_size (k + i)
        unfold maxLen
        omega
      · have hil := (List.getElem?_eq_some_iff.1 ha).1
        have hia := (List.getElem?_eq_some_iff.1 ha).2
        rw [txtL_get hil] at hia
        rw [txtL_length] at hil
        match j', hu with
        | 0, hu =>
          have hu' := Option.some.inj hu
          subst hu' hia
          simpa [strS] using HD.out i hil
set_option maxRecDepth 100000 in
theorem held_StringS (k n : Nat) (v : Value) (w : World) (lo B : Nat) (hB : B ≤ w.heap.size) (hk : k + n ≤ 1073741824) (hv : Sl false (strS false) w lo B (txtL k n) v) :
    Calls Tryd.prog 30 #[v, .int .i64 (k : Int)] w (RetV (.int .i64 ((k : Int) + (n : Int))) w) := by
  obtain ⟨A, cap, hf, hlc, hcm⟩ := hv.form
  rw [txtL_length] at hf hlc
  subst hf
  go_enter Tryd.func30, Tryd.ntmps30
  go_wp2_with fail
  go_loopw [1, 5] (fun t i wr => ∃ j : Nat, j ≤ n ∧ i = .int .i64 j ∧ t = .int .i64 ((k : Int) + j) ∧ Below w.heap.size w wr) (fun _ i _ => n - (intOf i).toNat)
  case atStart => exact ⟨0, by omega, rfl, by simp, Below.refl _ _⟩
  case round =>
    obtain ⟨j, hj, rfl, rfl, hb⟩ := hrel
    have hsz := hb.size
    by_cases hjl : j < n
    · obtain ⟨b, o, a, rfl, _, hbB, HL, _, c0⟩ := str_get (hv.below hb hB) (show j < (txtL k n).length by rw [txtL_length]; exact hjl)
      obtain rfl : a = mtx (k + j) := HL.out.symm.trans (txtL_get _)
      have hjn : (j : Int) < (n : Int) := by omega
      have hj0 : (0 : Int) ≤ (j : Int) := by omega
      clear HL
      go_wp2_with fail
      go_region_held3 (fun w' => w'.cell? ⟨b, o + j, none⟩ = some (.string (mtx (k + j)))) (assumption) ((go_at_call 54; refine (mark_Text (k + j) _ (by omega)).mono ?_; rintro e w1 ⟨rfl, b1⟩; have hbd : Below w.heap.size w w1 := (hb.drew).trans (b1.mono hsz); have c1 : w1.cell? ⟨b, o + j, none⟩ = some (.string (mtx (k + j))) := (b1.cell (p := ⟨b, o + j, none⟩) (by have := World.block_lt_of_cell? wr _ c0; exact this)).trans c0))
      go_wp2_with fail
      go_roundw
      case rel => exact ⟨j + 1, by omega, by go_num, by go_num, hbd⟩
      case measure => simp [intOf]; omega
    · obtain rfl : j = n := by omega
      go_wp2_with fail
      go_ret
      exact ⟨rfl, hb⟩
end Go.Proofs.YtnamciblapddbaaDoor
