/-
  UnitValid and InsCount, by the program and by the reference. Condition: the unit reads as data of at most 2^20 parts.
-/
import Derived.Test.YtgcjccoglcgcoaaUnit8
namespace Go.Proofs.Ytgcjccoglcgcoaa
open Go.RowKit Go.ChangeShapes Go.WideShapes Go.Deep
set_option linter.unusedVariables false
set_option linter.unusedSimpArgs false
theorem sumBy_mono {α : Type} {f g : α → Nat} (h : ∀ a, f a ≤ g a) : ∀ l : List α, sumBy f l ≤ sumBy g l
  | [] => Nat.le_refl _
  | a :: l => by rw [sumBy_cons, sumBy_cons]; exact Nat.add_le_add (h a) (sumBy_mono h l)
theorem blkC_le (x : BlkD) : blkC x ≤ blkN x := by unfold blkC blkN; omega
theorem codeC_le (c : CodeD) : codeC c ≤ codeN c := by
  unfold codeC codeN
  exact Nat.le_trans (sumBy_mono blkC_le c.blocks) (Nat.le_add_left _ _)
/-- the sizes of a code of a small unit -/
theorem code_small {us : List CodeD} (hN : us.length + sumBy codeN us ≤ 1048576) {k : Nat} (hk : k < us.length) {c : CodeD} (hc : us[k] = c) : c.blocks.length ≤ 1048576 ∧ sumBy blkC c.blocks ≤ 1048576 := by
  have h1 : codeN us[k] ≤ sumBy codeN us := sumBy_mem codeN (List.getElem_mem hk)
  rw [hc] at h1
  have h2 := codeC_le c
  have h3 : c.blocks.length ≤ codeN c := by unfold codeN; omega
  have h4 : codeC c = sumBy blkC c.blocks := rfl
  omega
theorem codes_small {us : List CodeD} (hN : us.length + sumBy codeN us ≤ 1048576) (k : Nat) : sumBy codeC (us.take k) ≤ 1048576 := by
  have h1 := sumBy_leU codeC us k
  have h2 := sumBy_mono codeC_le us
  omega
theorem codesB_at {us l : List CodeD} {k : Nat} (h : k < l.length) {c : CodeD} (hc : l[k] = c) : codesB us k (l.drop k) = (codeB us k c && codesB us (k + 1) (l.drop (k + 1))) := by
  rw [drop_cons h hc, codesB]
theorem headB_eq (c : CodeD) : (inB c.params 0 3 && (inB c.regs c.params 300 && inB (c.blocks.length : Int) 1 160)) = headB c := by
  unfold headB
  have e : (inB c.params 0 3 && inB c.regs c.params 300) = (inB c.regs 0 300 && inB c.params 0 (min 3 c.regs)) := by
    rw [Bool.eq_iff_iff]
    simp only [Bool.and_eq_true, inB, decide_eq_true_eq]
    omega
  rw [← Bool.and_assoc, ← Bool.and_assoc, e]
def fin (us : List CodeD) (k : Nat) (r : List CodeD) : Option Nat → Bool
  | some m => walkU us k m r
  | none => false
theorem walkU_at {us l : List CodeD} {k n : Nat} (h : k < l.length) {c : CodeD} (hc : l[k] = c) : walkU us k n (l.drop k) = fin us (k + 1) (l.drop (k + 1)) (if headB c then walkB us c k 0 n (c.blocks.drop 0) else none) := by
  rw [drop_cons h hc, walkU, List.drop_zero]
  cases (if headB c = true then walkB us c k 0 n c.blocks else none) <;> rfl
theorem walkB_at {us : List CodeD} {c : CodeD} {k j m : Nat} {l : List BlkD} (h : j < l.length) {x : BlkD} (hx : l[j] = x) : walkB us c k j m (l.drop j) = if decide (m + blkC x ≤ 800) && blkB us c k j x then walkB us c k (j + 1) (m + blkC x) (l.drop (j + 1)) else none := by
  rw [drop_cons h hx, walkB]
set_option maxRecDepth 100000 in
set_option maxHeartbeats 4000000 in
theorem impl_UnitValid (codes : List CodeD) (v0 : Value) (w : World) (lo B : Nat) (hB : B ≤ w.heap.size) (hN : (codes.length + sumBy codeN codes) ≤ 1048576) (h0 : Sl false (codeS false) w lo B codes v0) :
    Calls Try.prog 15 #[.agg #[v0]] w (RetV (.bool (unitB codes)) w) := by
  obtain ⟨A, cap, rfl, hlc, hcm⟩ := h0.form
  have hb0 : Below w.heap.size w (w.alloc (.cells #[.slice A codes.length cap] 28)) := (Below.refl _ _).alloc (Nat.le_refl _) _
  have R0 : Row (w.alloc (.cells #[.slice A codes.length cap] 28)) w.heap.size 28 #[.slice A codes.length cap] := Row.new w _ _
  have hNc : codes.length ≤ 1048576 := by omega
  go_enter Try.func15, Try.ntmps15
  go_wp2_with fail
  refine (impl_within (codes.length : Int) 1 4 _).mono ?_
  rintro e w' ⟨rfl, rfl⟩
  cases hl : inB (codes.length : Int) 1 4
  · have E : Hid (unitB codes = false) := by show _ = _; unfold unitB; rw [hl]; rfl
    clear hl
    go_wp2_with fail
    go_ret
    exact RetV.mk (by rw [E.out] <;> rfl) rfl hb0
  have HU : Hid (unitB codes = (codesB codes 0 (codes.drop 0) && decide (unitC codes ≤ 800))) := by show _ = _; unfold unitB; rw [hl, Bool.true_and, List.drop_zero]
  clear hl
  go_wp2_with fail
  go_loopw [3, 14] (fun n i wr => ∃ k : Nat, k ≤ codes.length ∧ i = .int .i64 k ∧ n = .int .i64 (sumBy codeC (codes.take k) : Nat) ∧ Hid (unitB codes = (codesB codes k (codes.drop k) && decide (unitC codes ≤ 800))) ∧ Below w.heap.size w wr ∧ Row wr w.heap.size 28 #[.slice A codes.length cap]) (fun _ i _ => codes.length - (intOf i).toNat)
  case atStart => exact ⟨0, by omega, rfl, rfl, HU, hb0, R0⟩
  case round =>
    clear HU hb0 R0
    obtain ⟨k, hk, rfl, rfl, HT, hb, R0⟩ := hrel
    have hsz := hb.size
    by_cases hkl : k < codes.length
    case neg =>
      have HE : Hid (sumBy codeC (codes.take k) = unitC codes) := by show _ = _; rw [List.take_of_length_le (by omega)]; rfl
      have E : Hid (unitB codes = decide (unitC codes ≤ 800)) := HT.out.trans (by rw [List.drop_of_length_le (by omega)]; rfl)
      clear HT
      by_cases h8 : unitC codes ≤ 800
      · have h9 : ((sumBy codeC (codes.take k) : Nat) : Int) ≤ 800 := by rw [HE.out]; omega
        replace E : Hid (unitB codes = true) := E.out.trans (decide_eq_true h8)
        clear h8
        go_wp2_with fail
        go_ret
        exact RetV.mk (by rw [E.out] <;> simp_all) rfl hb
      · have h9 : ¬ ((sumBy codeC (codes.take k) : Nat) : Int) ≤ 800 := by rw [HE.out]; omega
        replace E : Hid (unitB codes = false) := E.out.trans (decide_eq_false h8)
        clear h8
        go_wp2_with fail
        go_ret
        exact RetV.mk (by rw [E.out] <;> simp_all) rfl hb
    obtain ⟨b, o, params, regs, blocks, u2, rfl, _, hbB, HL, g0, g1, g2, c0, c1, c2⟩ := code_get (h0.below hb hB) hkl
    obtain ⟨A2, p2, hf, hl2, hm2⟩ := g2.form
    change _ = Value.slice A2 blocks.length p2 at hf
    subst hf
    have hkn : (k : Int) < (codes.length : Int) := by omega
    have hki : (0 : Int) ≤ (k : Int) := by omega
    have hsm := code_small hN hkl HL.out
    have HT1 : unitB codes = ((codeB codes k ⟨params, regs, blocks⟩ && codesB codes (k + 1) (codes.drop (k + 1))) && decide (unitC codes ≤ 800)) := HT.out.trans (by rw [codesB_at hkl HL.out])
    clear HT
    have hba : Below w.heap.size w (wr.alloc (.cells #[.int .i64 params, .int .i64 regs, .slice A2 blocks.length p2] 39)) := hb.alloc hsz _
    have hwa : Below wr.heap.size wr (wr.alloc (.cells #[.int .i64 params, .int .i64 regs, .slice A2 blocks.length p2] 39)) := (Below.refl _ _).alloc (Nat.le_refl _) _
    have X := Row.new wr 39 #[.int .i64 params, .int .i64 regs, .slice A2 blocks.length p2]
    have R1 := R0.alloc (.cells #[.int .i64 params, .int .i64 regs, .slice A2 blocks.length p2] 39)
    have yu : (wr.alloc (.cells #[.int .i64 params, .int .i64 regs, .slice A2 blocks.length p2] 39)).cell? ⟨w.heap.size, 0, none⟩ = some (.slice (some ⟨b, o, none⟩) codes.length cap) := R1.cell 0
    go_wp2_with fail
    refine (impl_codeOk codes (.slice (some ⟨b, o, none⟩) codes.length cap) k params regs blocks _ lo B (Nat.le_trans hB hba.size) hNc hsm.1 (h0.below hba hB) hkl HL.out).mono ?_
    rintro e w1 ⟨rfl, b1⟩
    have hb1 := hba.trans (b1.mono hba.size)
    have R2 := R1.below b1 R1.lt
    have X2 := X.below b1 X.lt
    have z0 : w1.cell? ⟨wr.heap.size, 0, none⟩ = some (.int .i64 params) := X2.cell 0
    have z1 : w1.cell? ⟨wr.heap.size, 1, none⟩ = some (.int .i64 regs) := X2.cell 1
    have z2 : w1.cell? ⟨wr.heap.size, 2, none⟩ = some (.slice A2 blocks.length p2) := X2.cell 2
    cases hc : codeB codes k ⟨params, regs, blocks⟩
    case false =>
      have E : Hid (unitB codes = false) := HT1.trans (by rw [hc]; rfl)
      clear HT1 hc
      go_wp2_with fail
      go_ret
      exact RetV.mk (by rw [E.out] <;> rfl) rfl hb1
    have E : Hid (unitB codes = (codesB codes (k + 1) (codes.drop (k + 1)) && decide (unitC codes ≤ 800))) := HT1.trans (by rw [hc]; rfl)
    clear HT1 hc
    go_wp2_with fail
    refine (impl_codeCount params regs blocks _ w1 lo B (Nat.le_trans hB hb1.size) hsm.1 (by omega) (g2.below (hwa.trans (b1.mono hwa.size)) (Nat.le_trans hB hsz))).mono ?_
    rintro e w2 ⟨rfl, b2⟩
    have hb2 := hb1.trans (b2.mono hb1.size)
    have R3 := R2.below b2 R2.lt
    have hE := sumBy_takeU (f := codeC) hkl HL.out
    have hS := codes_small hN (k + 1)
    obtain ⟨m, hm⟩ : ∃ m, sumBy codeC (codes.take k) = m := ⟨_, rfl⟩
    obtain ⟨q, hq⟩ : ∃ q, sumBy blkC blocks = q := ⟨_, rfl⟩
    have hqq : codeC ⟨params, regs, blocks⟩ = q := hq
    rw [hm, hqq] at hE
    rw [hm, hq]
    have q2 : m + q ≤ 1048576 := by omega
    have HE := Lib.hid hE
    clear hE hS hm hq hqq hsm z0 z1 z2 yu
    go_wp2_with fail
    go_roundw
    case rel => exact ⟨k + 1, by omega, by go_num, by rw [HE.out]; go_num, E, hb2, R3⟩
    case measure => simp [intOf]; omega
set_option maxRecDepth 100000 in
set_option maxHeartbeats 4000000 in
theorem spec_UnitValid (codes : List CodeD) (v0 : Value) (w : World) (lo B : Nat) (hB : B ≤ w.heap.size) (hN : (codes.length + sumBy codeN codes) ≤ 1048576) (h0 : Sl false (codeS false) w lo B codes v0) :
    Calls Try.prog 18 #[.agg #[v0]] w (RetV (.bool (unitB codes)) w) := by
  obtain ⟨A, cap, rfl, hlc, hcm⟩ := h0.form
  have hb0 : Below w.heap.size w (w.alloc (.cells #[.slice A codes.length cap] 28)) := (Below.refl _ _).alloc (Nat.le_refl _) _
  have R0 : Row (w.alloc (.cells #[.slice A codes.length cap] 28)) w.heap.size 28 #[.slice A codes.length cap] := Row.new w _ _
  have hNc : codes.length ≤ 1048576 := by omega
  go_enter Try.func18, Try.ntmps18
  go_wp2_with fail
  refine (spec_l1In (codes.length : Int) 1 4 _).mono ?_
  rintro e w' ⟨rfl, rfl⟩
  cases hl : inB (codes.length : Int) 1 4
  · have E : Hid (unitB codes = false) := by show _ = _; unfold unitB; rw [hl]; rfl
    clear hl
    go_wp2_with fail
    go_ret
    exact RetV.mk (by rw [E.out] <;> rfl) rfl hb0
  have HU : Hid (unitB codes = walkU codes 0 0 (codes.drop 0)) := by
    show _ = _
    unfold unitB
    rw [hl, Bool.true_and, List.drop_zero, walkU_eq codes codes 0 0 (by omega), Nat.zero_add]
    rfl
  clear hl
  go_wp2_with fail
  go_loopw [3, 4] (fun n i wr => ∃ k m : Nat, k ≤ codes.length ∧ i = .int .i64 k ∧ n = .int .i64 m ∧ m ≤ 800 ∧ Hid (unitB codes = walkU codes k m (codes.drop k)) ∧ Below w.heap.size w wr ∧ Row wr w.heap.size 28 #[.slice A codes.length cap]) (fun _ i _ => codes.length - (intOf i).toNat)
  case atStart => exact ⟨0, 0, by omega, rfl, rfl, by omega, HU, hb0, R0⟩
  case round =>
    clear HU hb0 R0
    obtain ⟨k, m, hk, rfl, rfl, hm8, HT, hb, R0⟩ := hrel
    have hsz := hb.size
    have y0 : wr.cell? ⟨w.heap.size, 0, none⟩ = some (.slice A codes.length cap) := R0.cell 0
    by_cases hkl : k < codes.length
    case neg =>
      have E : Hid (unitB codes = true) := HT.out.trans (by rw [List.drop_of_length_le (by omega)]; rfl)
      clear HT
      go_wp2_with fail
      go_ret
      exact RetV.mk (by rw [E.out] <;> rfl) rfl hb
    obtain ⟨b, o, params, regs, blocks, u2, rfl, _, hbB, HL, g0, g1, g2, c0, c1, c2⟩ := code_get (h0.below hb hB) hkl
    obtain ⟨A2, p2, hf, hl2, hm2⟩ := g2.form
    change _ = Value.slice A2 blocks.length p2 at hf
    subst hf
    have hkn : (k : Int) < (codes.length : Int) := by omega
    have hki : (0 : Int) ≤ (k : Int) := by omega
    have hsm := code_small hN hkl HL.out
    have hNb : blocks.length ≤ 1048576 := hsm.1
    have HSM := Lib.hid hsm.2
    clear hsm
    have HT1 : unitB codes = fin codes (k + 1) (codes.drop (k + 1)) (if headB ⟨params, regs, blocks⟩ then walkB codes ⟨params, regs, blocks⟩ k 0 m (blocks.drop 0) else none) := HT.out.trans (walkU_at hkl HL.out)
    have hdE := headB_eq ⟨params, regs, blocks⟩
    dsimp only at hdE
    clear HT
    have hba : Below w.heap.size w (wr.alloc (.cells #[.int .i64 params, .int .i64 regs, .slice A2 blocks.length p2] 39)) := hb.alloc hsz _
    have hwa : Below wr.heap.size wr (wr.alloc (.cells #[.int .i64 params, .int .i64 regs, .slice A2 blocks.length p2] 39)) := (Below.refl _ _).alloc (Nat.le_refl _) _
    have g2c := g2.below hwa (Nat.le_trans hB hsz)
    clear hwa
    have X := Row.new wr 39 #[.int .i64 params, .int .i64 regs, .slice A2 blocks.length p2]
    have R1 := R0.alloc (.cells #[.int .i64 params, .int .i64 regs, .slice A2 blocks.length p2] 39)
    have y1 : (wr.alloc (.cells #[.int .i64 params, .int .i64 regs, .slice A2 blocks.length p2] 39)).cell? ⟨wr.heap.size, 0, none⟩ = some (.int .i64 params) := X.cell 0
    have y2 : (wr.alloc (.cells #[.int .i64 params, .int .i64 regs, .slice A2 blocks.length p2] 39)).cell? ⟨wr.heap.size, 1, none⟩ = some (.int .i64 regs) := X.cell 1
    have y3 : (wr.alloc (.cells #[.int .i64 params, .int .i64 regs, .slice A2 blocks.length p2] 39)).cell? ⟨wr.heap.size, 2, none⟩ = some (.slice A2 blocks.length p2) := X.cell 2
    have NO : headB ⟨params, regs, blocks⟩ = false → unitB codes = false := fun h => HT1.trans (by rw [if_neg (by rw [h]; decide)]; rfl)
    replace HT1 := Lib.hid HT1
    go_wp2_with fail
    generalize wr.alloc (.cells #[.int .i64 params, .int .i64 regs, .slice A2 blocks.length p2] 39) = wc at hba X R1 y1 y2 y3 g2c ⊢
    generalize wr.heap.size = gc at X y1 y2 y3 ⊢
    refine (spec_l1In params 0 3 _).mono ?_
    rintro e w' ⟨rfl, rfl⟩
    cases h1 : inB params 0 3
    · have E : Hid (unitB codes = false) := NO (by rw [← hdE, h1]; rfl)
      clear h1 hdE NO
      go_wp2_with fail
      go_ret
      exact RetV.mk (by rw [E.out] <;> rfl) rfl hba
    replace h1 := Lib.hid h1
    replace hdE := Lib.hid hdE
    go_wp2_with fail
    refine (spec_l1In regs params 300 _).mono ?_
    rintro e w' ⟨rfl, rfl⟩
    cases h2 : inB regs params 300
    · have E : Hid (unitB codes = false) := NO (by rw [← hdE.out, h1.out, h2]; rfl)
      clear h1 h2 hdE NO
      go_wp2_with fail
      go_ret
      exact RetV.mk (by rw [E.out] <;> rfl) rfl hba
    have hr : 0 ≤ regs ∧ regs ≤ 300 := by
      have := inB_out h1.out
      have := inB_out h2
      omega
    replace h2 := Lib.hid h2
    go_wp2_with fail
    refine (spec_l1In (blocks.length : Int) 1 160 _).mono ?_
    rintro e w' ⟨rfl, rfl⟩
    cases h3 : inB (blocks.length : Int) 1 160
    · have E : Hid (unitB codes = false) := NO (by rw [← hdE.out, h1.out, h2.out, h3]; rfl)
      clear h1 h2 h3 hdE NO
      go_wp2_with fail
      go_ret
      exact RetV.mk (by rw [E.out] <;> rfl) rfl hba
    have HB : Hid (unitB codes = fin codes (k + 1) (codes.drop (k + 1)) (walkB codes ⟨params, regs, blocks⟩ k 0 m (blocks.drop 0))) := HT1.out.trans (by rw [if_pos (show headB ⟨params, regs, blocks⟩ = true by rw [← hdE.out, h1.out, h2.out, h3]; rfl)])
    clear h1 h2 h3 hdE NO HT1
    go_wp2_with fail
    go_loopw [3, 6] (fun n i wr => ∃ j q : Nat, j ≤ blocks.length ∧ i = .int .i64 j ∧ n = .int .i64 q ∧ q ≤ 800 ∧ Hid (unitB codes = fin codes (k + 1) (codes.drop (k + 1)) (walkB codes ⟨params, regs, blocks⟩ k j q (blocks.drop j))) ∧ Below w.heap.size w wr ∧ Below wc.heap.size wc wr) (fun _ i _ => blocks.length - (intOf i).toNat)
    case atStart => exact ⟨0, m, by omega, rfl, rfl, hm8, HB, hba, Below.refl _ _⟩
    case round =>
      clear HB hb R0 y0 y1 y2 y3 hsz hm8
      obtain ⟨j, q, hj, rfl, rfl, hq8, HT, hb, hbc⟩ := hrel
      have hsz := hb.size
      have R2 := R1.below hbc R1.lt
      have X2 := X.below hbc X.lt
      have yu : wr.cell? ⟨w.heap.size, 0, none⟩ = some (.slice (some ⟨b, o, none⟩) codes.length cap) := R2.cell 0
      have z2 : wr.cell? ⟨gc, 2, none⟩ = some (.slice A2 blocks.length p2) := X2.cell 2
      by_cases hjl : j < blocks.length
      case neg =>
        have E : Hid (unitB codes = walkU codes (k + 1) q (codes.drop (k + 1))) := HT.out.trans (by rw [show blocks.drop j = [] from List.drop_of_length_le (by omega)]; rfl)
        clear HT
        go_wp2_with fail
        go_roundw
        case rel => exact ⟨k + 1, q, by omega, by go_num, rfl, hq8, E, hb, R2⟩
        case measure => simp [intOf]; omega
      obtain ⟨b5, o5, phis, u0, ins, u1, jump, on, next, u4, rfl, _, hb5, HLb, f0, f1, f2, f3, f4, e0, e1, e2, e3, e4⟩ := blk_get (g2c.below hbc (Nat.le_trans hB hba.size)) hjl
      obtain ⟨A3, p3, hf, _, _⟩ := f0.form
      change _ = Value.slice A3 phis.length p3 at hf
      subst hf
      obtain ⟨A1, p1, hf, _, _⟩ := f1.form
      change _ = Value.slice A1 ins.length p1 at hf
      subst hf
      have hjn : (j : Int) < (blocks.length : Int) := by omega
      have hji : (0 : Int) ≤ (j : Int) := by omega
      have hbk : ins.length + phis.length ≤ 1048576 := by
        have h1 : blkC blocks[j] ≤ sumBy blkC blocks := sumBy_mem blkC (List.getElem_mem hjl)
        rw [HLb.out] at h1
        have h2 : blkC ⟨phis, ins, jump, on, next⟩ = phis.length + ins.length := rfl
        have h3 := HSM.out
        omega
      have hq1 : q + ins.length ≤ 1099511627776 := by omega
      have hq2 : q + ins.length + phis.length ≤ 1099511627776 := by omega
      have HW : Hid (unitB codes = fin codes (k + 1) (codes.drop (k + 1)) (if decide (q + (phis.length + ins.length) ≤ 800) && blkB codes ⟨params, regs, blocks⟩ k j ⟨phis, ins, jump, on, next⟩ then walkB codes ⟨params, regs, blocks⟩ k (j + 1) (q + (phis.length + ins.length)) (blocks.drop (j + 1)) else none)) := HT.out.trans (by rw [walkB_at hjl HLb.out]; rfl)
      clear HT
      go_wp2_with fail
      refine wp_region_held_drew (S := fun w' => (w'.cell? ⟨gc, 2, none⟩ = some (.slice (some ⟨b5, o5, none⟩) blocks.length p2) ∧ w'.cell? ⟨b5, o5 + j * 5, none⟩ = some (.slice A3 phis.length p3) ∧ w'.cell? ⟨b5, o5 + j * 5 + 1, none⟩ = some (.slice A1 ins.length p1))) (by kernel_rfl) ?_ (fun hHeld => ?_)
      · exact ⟨z2, e0, e1⟩
      refine reg_take (i := 0) (v := ?v1) rfl (by kernel_rfl) (by kernel_rfl) (by kernel_rfl) (fun _ _ _ h => h) (Or.inl ⟨by kernel_rfl, ?h1⟩) (by assumption) ?r1
      case h1 => (intro w hSw; (try dsimp only at hSw); go_simp; try with_reducible rfl)
      try simp only [Act.put, List.setIfInBounds_toArray, List.set_cons_zero, List.set_cons_succ]
      refine reg_take (i := 1) (v := ?v2) rfl (by kernel_rfl) (by kernel_rfl) (by kernel_rfl) (fun _ _ _ h => h) (Or.inl ⟨by kernel_rfl, ?h2⟩) (by assumption) ?r2
      case h2 => (intro w hSw; (try dsimp only at hSw); go_simp; try with_reducible rfl)
      try simp only [Act.put, List.setIfInBounds_toArray, List.set_cons_zero, List.set_cons_succ]
      refine reg_take (i := 2) (v := ?v3) rfl (by kernel_rfl) (by kernel_rfl) (by kernel_rfl) (fun _ _ _ h => h) (Or.inl ⟨by kernel_rfl, ?h3⟩) (by assumption) ?r3
      case h3 => (intro w hSw; (try dsimp only at hSw); go_simp; try with_reducible rfl)
      try simp only [Act.put, List.setIfInBounds_toArray, List.set_cons_zero, List.set_cons_succ]
      refine reg_take (i := 3) (v := ?v4) rfl (by kernel_rfl) (by kernel_rfl) (by kernel_rfl) (fun _ _ _ h => h) (Or.inl ⟨by kernel_rfl, ?h4⟩) (by assumption) ?r4
      case h4 => (intro w hSw; (try dsimp only at hSw); go_simp; try with_reducible rfl)
      try simp only [Act.put, List.setIfInBounds_toArray, List.set_cons_zero, List.set_cons_succ]
      refine reg_take (i := 4) (v := ?v5) rfl (by kernel_rfl) (by kernel_rfl) (by kernel_rfl) (fun _ _ _ h => h) (Or.inl ⟨by kernel_rfl, ?h5⟩) (by assumption) ?r5
      case h5 => (intro w hSw; (try dsimp only at hSw); go_simp; try with_reducible rfl)
      try simp only [Act.put, List.setIfInBounds_toArray, List.set_cons_zero, List.set_cons_succ]
      refine reg_take (i := 5) (v := ?v6) rfl (by kernel_rfl) (by kernel_rfl) (by kernel_rfl) (fun _ _ _ h => h) (Or.inl ⟨by kernel_rfl, ?h6⟩) (by assumption) ?r6
      case h6 => (intro w hSw; (try dsimp only at hSw); go_simp; try with_reducible rfl)
      try simp only [Act.put, List.setIfInBounds_toArray, List.set_cons_zero, List.set_cons_succ]
      refine reg_take (i := 6) (v := ?v7) rfl (by kernel_rfl) (by kernel_rfl) (by kernel_rfl) (fun _ _ _ h => h) (Or.inl ⟨by kernel_rfl, ?h7⟩) (by assumption) ?r7
      case h7 => (intro w hSw; (try dsimp only at hSw); go_simp; try with_reducible rfl)
      try simp only [Act.put, List.setIfInBounds_toArray, List.set_cons_zero, List.set_cons_succ]
      refine reg_take (i := 7) (v := ?v8) rfl (by kernel_rfl) (by kernel_rfl) (by kernel_rfl) (fun _ _ _ h => h) (Or.inl ⟨by kernel_rfl, ?h8⟩) (by assumption) ?r8
      case h8 => (intro w hSw; (try dsimp only at hSw); go_simp; try with_reducible rfl)
      try simp only [Act.put, List.setIfInBounds_toArray, List.set_cons_zero, List.set_cons_succ]
      refine reg_take (i := 8) (v := ?v9) rfl (by kernel_rfl) (by kernel_rfl) (by kernel_rfl) (fun _ _ _ h => h) (Or.inl ⟨by kernel_rfl, ?h9⟩) (by assumption) ?r9
      case h9 => (intro w hSw; (try dsimp only at hSw); go_simp; try with_reducible rfl)
      try simp only [Act.put, List.setIfInBounds_toArray, List.set_cons_zero, List.set_cons_succ]
      refine reg_take (i := 9) (v := ?v10) rfl (by kernel_rfl) (by kernel_rfl) (by kernel_rfl) (fun _ _ _ h => h) (Or.inl ⟨by kernel_rfl, ?h10⟩) (by assumption) ?r10
      case h10 => (intro w hSw; (try dsimp only at hSw); go_simp; try with_reducible rfl)
      try simp only [Act.put, List.setIfInBounds_toArray, List.set_cons_zero, List.set_cons_succ]
      refine reg_take (i := 10) (v := ?v11) rfl (by kernel_rfl) (by kernel_rfl) (by kernel_rfl) (fun _ _ _ h => h) (Or.inl ⟨by kernel_rfl, ?h11⟩) (by assumption) ?r11
      case h11 => (intro w hSw; (try dsimp only at hSw); go_simp; try with_reducible rfl)
      try simp only [Act.put, List.setIfInBounds_toArray, List.set_cons_zero, List.set_cons_succ]
      refine reg_take (i := 11) (v := ?v12) rfl (by kernel_rfl) (by kernel_rfl) (by kernel_rfl) (fun _ _ _ h => h) (Or.inl ⟨by kernel_rfl, ?h12⟩) (by assumption) ?r12
      case h12 => (intro w hSw; (try dsimp only at hSw); go_simp; try with_reducible rfl)
      try simp only [Act.put, List.setIfInBounds_toArray, List.set_cons_zero, List.set_cons_succ]
      refine reg_take (i := 12) (v := ?v13) rfl (by kernel_rfl) (by kernel_rfl) (by kernel_rfl) (fun _ _ _ h => h) (Or.inl ⟨by kernel_rfl, ?h13⟩) (by assumption) ?r13
      case h13 => (intro w hSw; (try dsimp only at hSw); go_simp; try with_reducible rfl)
      try simp only [Act.put, List.setIfInBounds_toArray, List.set_cons_zero, List.set_cons_succ]
      refine reg_take (i := 13) (v := ?v14) rfl (by kernel_rfl) (by kernel_rfl) (by kernel_rfl) (fun _ _ _ h => h) (Or.inl ⟨by kernel_rfl, ?h14⟩) (by assumption) ?r14
      case h14 => (intro w hSw; (try dsimp only at hSw); go_simp; try with_reducible rfl)
      try simp only [Act.put, List.setIfInBounds_toArray, List.set_cons_zero, List.set_cons_succ]
      refine reg_take (i := 14) (v := ?v15) rfl (by kernel_rfl) (by kernel_rfl) (by kernel_rfl) (fun _ _ _ h => h) (Or.inl ⟨by kernel_rfl, ?h15⟩) (by assumption) ?r15
      case h15 => (intro w hSw; (try dsimp only at hSw); go_simp; try with_reducible rfl)
      try simp only [Act.put, List.setIfInBounds_toArray, List.set_cons_zero, List.set_cons_succ]
      refine reg_take (i := 15) (v := ?v16) rfl (by kernel_rfl) (by kernel_rfl) (by kernel_rfl) (fun _ _ _ h => h) (Or.inl ⟨by kernel_rfl, ?h16⟩) (by assumption) ?r16
      case h16 => (intro w hSw; (try dsimp only at hSw); go_simp; try with_reducible rfl)
      try simp only [Act.put, List.setIfInBounds_toArray, List.set_cons_zero, List.set_cons_succ]
      refine reg_take (i := 16) (v := ?v17) rfl (by kernel_rfl) (by kernel_rfl) (by kernel_rfl) (fun _ _ _ h => h) (Or.inl ⟨by kernel_rfl, ?h17⟩) (by assumption) ?r17
      case h17 => (intro w hSw; (try dsimp only at hSw); go_simp; try with_reducible rfl)
      try simp only [Act.put, List.setIfInBounds_toArray, List.set_cons_zero, List.set_cons_succ]
      refine reg_take (i := 17) (v := ?v18) rfl (by kernel_rfl) (by kernel_rfl) (by kernel_rfl) (fun _ _ _ h => h) (Or.inl ⟨by kernel_rfl, ?h18⟩) (by assumption) ?r18
      case h18 => (intro w hSw; (try dsimp only at hSw); go_simp; try with_reducible rfl)
      try simp only [Act.put, List.setIfInBounds_toArray, List.set_cons_zero, List.set_cons_succ]
      refine wpAnyH_done (by kernel_rfl) ?_ _
      have yud : wr.drew.cell? ⟨w.heap.size, 0, none⟩ = some (.slice (some ⟨b, o, none⟩) codes.length cap) := yu
      clear yu z2 e0 e1 e2 e3 e4
      by_cases h8 : q + (phis.length + ins.length) ≤ 800
      case neg =>
        have h9 : (800 : Int) < (q : Int) + (ins.length : Int) + (phis.length : Int) := by omega
        have h10 : 800 < q + ins.length + phis.length := by omega
        have E : Hid (unitB codes = false) := HW.out.trans (by rw [decide_eq_false h8]; rfl)
        clear HW h8
        go_wp2_with fail
        go_ret
        exact RetV.mk (by rw [E.out] <;> rfl) rfl hb.drew
      have h9 : ¬ (800 : Int) < (q : Int) + (ins.length : Int) + (phis.length : Int) := by omega
      have h10 : ¬ 800 < q + ins.length + phis.length := by omega
      have HW2 := HW.out
      rw [decide_eq_true h8, Bool.true_and] at HW2
      clear HW
      replace HW2 := Lib.hid HW2
      have H8 := Lib.hid h8
      clear h8
      go_wp2_with fail
      refine (spec_l7Block codes _ k j params regs blocks phis ins jump on next wr.drew lo B (Nat.le_trans hB hb.size) hNc hNb (h0.below hb.drew hB) hkl HL.out hr hjl HLb.out).mono ?_
      rintro e v1 ⟨rfl, b1⟩
      have hb1 := hb.drew.trans (b1.mono hb.size)
      have hbc1 : Below wc.heap.size wc v1 := hbc.drew.trans (b1.mono hbc.size)
      cases hbl : blkB codes ⟨params, regs, blocks⟩ k j ⟨phis, ins, jump, on, next⟩
      case false =>
        have E : Hid (unitB codes = false) := HW2.out.trans (by rw [hbl]; rfl)
        clear HW2 hbl
        go_wp2_with fail
        go_ret
        exact RetV.mk (by rw [E.out] <;> rfl) rfl hb1
      have E : Hid (unitB codes = fin codes (k + 1) (codes.drop (k + 1)) (walkB codes ⟨params, regs, blocks⟩ k (j + 1) (q + (phis.length + ins.length)) (blocks.drop (j + 1)))) := HW2.out.trans (by rw [hbl, if_pos rfl])
      clear HW2 hbl
      go_wp2_with fail
      go_roundw
      case rel => exact ⟨j + 1, q + (phis.length + ins.length), by omega, by go_num, by go_num, H8.out, E, hb1, hbc1⟩
      case measure => simp [intOf]; omega
end Go.Proofs.Ytgcjccoglcgcoaa
