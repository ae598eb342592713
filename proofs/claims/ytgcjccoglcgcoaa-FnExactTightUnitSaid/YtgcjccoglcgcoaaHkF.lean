/-
  Codes that have their marks are asked for them. Condition: they read as marked data.
-/
import Derived.Test.YtgcjccoglcgcoaaMkF
namespace Go.Proofs.Ytgcjccoglcgcoaa
open Go.RowKit Go.ChangeShapes Go.WideShapes Go.Deep
set_option linter.unusedVariables false
set_option linter.unusedSimpArgs false
set_option maxRecDepth 100000 in
set_option maxHeartbeats 4000000 in
theorem heldF_PhiS (l : List PhiD) (v : Value) (k : Int) (w : World) (lo B : Nat) (hB : B ≤ w.heap.size) (k0 : 0 ≤ k) (hk : k + (sumBy cP l : Nat) ≤ 1073741824) (hl : l.length ≤ 1048576) (hv : Sl false (phiS false) w lo B (mkL cP mP l k) v) :
    Calls Try.prog 77 #[v, .int .i64 k] w (RetV (.int .i64 (k + (sumBy cP l : Nat))) w) := by
  obtain ⟨A, cap, hf, hlc, hcm⟩ := hv.form
  rw [mkL_length] at hf hlc
  subst hf
  go_enter Try.func77, Try.ntmps77
  go_wp2_with fail
  go_loopw [1, 5] (fun t i wr => ∃ j : Nat, j ≤ l.length ∧ i = .int .i64 j ∧ t = .int .i64 (k + (sumBy cP (l.take j) : Nat)) ∧ Below w.heap.size w wr) (fun _ i _ => l.length - (intOf i).toNat)
  case atStart => exact ⟨0, by omega, rfl, by simp [sumBy], Below.refl _ _⟩
  case round =>
    obtain ⟨j, hj, rfl, rfl, hb⟩ := hrel
    by_cases hjl : j < l.length
    case neg =>
      obtain rfl : j = l.length := by omega
      have hjn : ¬ (l.length : Int) < (l.length : Int) := by omega
      have ET : sumBy cP (l.take l.length) = sumBy cP l := by rw [List.take_length]
      rw [ET]
      clear ET
      go_wp2_with fail
      go_ret
      exact ⟨rfl, hb⟩
    obtain ⟨x, hx⟩ : ∃ x, l[j] = x := ⟨_, rfl⟩
    obtain ⟨T, hT⟩ : ∃ T, sumBy cP (l.take j) = T := ⟨_, rfl⟩
    have HT : Hid (sumBy cP (l.take (j + 1)) = T + cP x) := by
      show _ = _
      rw [sumBy_takeU hjl hx, hT]
    have HL : sumBy cP (l.take (j + 1)) ≤ sumBy cP l := sumBy_leU cP l (j + 1)
    rw [HT.out] at HL
    have HX : (mkL cP mP l k)[j]? = some (mP x (k + (T : Nat))) := by
      have := mkL_get cP mP l k j _ (List.getElem?_eq_getElem hjl)
      rw [hx, hT] at this
      exact this
    have hjm : j < (mkL cP mP l k).length := by rw [mkL_length]; exact hjl
    rw [List.getElem?_eq_getElem hjm] at HX
    injection HX with HX
    rw [hT]
    replace hT := Lib.hid hT
    have hjn : (j : Int) < (l.length : Int) := by omega
    have hji : (0 : Int) ≤ (j : Int) := by omega
    obtain ⟨t, ht⟩ : ∃ t : Int, k + (T : Int) = t := ⟨_, rfl⟩
    have ht0 : 0 ≤ t := by omega
    rw [ht] at HX ⊢
    obtain ⟨⟨tg0, args0⟩, hxe⟩ : ∃ y, y = x := ⟨_, rfl⟩
    subst hxe
    obtain ⟨b, o, tg, args, va, rfl, _, _, HE, _, ha, c0, c1⟩ := phi_get (hv.below hb hB) hjm
    have HE := HE.out.symm.trans HX
    obtain ⟨rfl, rfl⟩ : tg = t ∧ args = marksL (t + 1) args0.length := by
      injection HE with h1 h2
      exact ⟨h1, h2⟩
    have hn1 : T + (1 + args0.length) ≤ sumBy cP l := HL
    have ht1 : tg + 1 + (args0.length : Int) ≤ 1073741824 := by omega
    obtain ⟨Aa, ca, hf, _, _⟩ := ha.form
    rw [marksL_length] at hf
    subst hf
    clear HE HX hx
    go_wp2_with fail
    refine (held_IntS (tg + 1) args0.length _ _ lo B (Nat.le_trans hB hb.size) (by omega) ht1 ha).mono ?_
    rintro e w3 ⟨rfl, b3⟩
    have hb3 : Below w.heap.size w w3 := hb.trans (b3.mono hb.size)
    have hnn : ¬ tg + 1 + (args0.length : Int) < 0 := by omega
    have ET : Hid (tg + 1 + (args0.length : Nat) = k + (sumBy cP (l.take (j + 1)) : Nat)) := by
      show _ = _
      rw [HT.out, ← ht, show cP ⟨tg0, args0⟩ = 1 + args0.length from rfl]
      omega
    clear hv ha c0 c1
    clear ht hT HT HL
    go_wp2_with fail
    go_roundw
    case rel => exact ⟨j + 1, by omega, by go_num, by rw [← ET.out], hb3⟩
    case measure => simp [intOf]; omega
set_option maxRecDepth 100000 in
set_option maxHeartbeats 4000000 in
theorem heldF_InsS (l : List InsD) (v : Value) (k : Int) (w : World) (lo B : Nat) (hB : B ≤ w.heap.size) (k0 : 0 ≤ k) (hk : k + (sumBy cI l : Nat) ≤ 1073741824) (hl : l.length ≤ 1048576) (hv : Sl false (insS false) w lo B (mkL cI mI l k) v) :
    Calls Try.prog 78 #[v, .int .i64 k] w (RetV (.int .i64 (k + (sumBy cI l : Nat))) w) := by
  obtain ⟨A, cap, hf, hlc, hcm⟩ := hv.form
  rw [mkL_length] at hf hlc
  subst hf
  go_enter Try.func78, Try.ntmps78
  go_wp2_with fail
  go_loopw [1, 5] (fun t i wr => ∃ j : Nat, j ≤ l.length ∧ i = .int .i64 j ∧ t = .int .i64 (k + (sumBy cI (l.take j) : Nat)) ∧ Below w.heap.size w wr) (fun _ i _ => l.length - (intOf i).toNat)
  case atStart => exact ⟨0, by omega, rfl, by simp [sumBy], Below.refl _ _⟩
  case round =>
    obtain ⟨j, hj, rfl, rfl, hb⟩ := hrel
    by_cases hjl : j < l.length
    case neg =>
      obtain rfl : j = l.length := by omega
      have hjn : ¬ (l.length : Int) < (l.length : Int) := by omega
      have ET : sumBy cI (l.take l.length) = sumBy cI l := by rw [List.take_length]
      rw [ET]
      clear ET
      go_wp2_with fail
      go_ret
      exact ⟨rfl, hb⟩
    obtain ⟨x, hx⟩ : ∃ x, l[j] = x := ⟨_, rfl⟩
    obtain ⟨T, hT⟩ : ∃ T, sumBy cI (l.take j) = T := ⟨_, rfl⟩
    have HT : Hid (sumBy cI (l.take (j + 1)) = T + cI x) := by
      show _ = _
      rw [sumBy_takeU hjl hx, hT]
    have HL : sumBy cI (l.take (j + 1)) ≤ sumBy cI l := sumBy_leU cI l (j + 1)
    rw [HT.out] at HL
    have HX : (mkL cI mI l k)[j]? = some (mI x (k + (T : Nat))) := by
      have := mkL_get cI mI l k j _ (List.getElem?_eq_getElem hjl)
      rw [hx, hT] at this
      exact this
    have hjm : j < (mkL cI mI l k).length := by rw [mkL_length]; exact hjl
    rw [List.getElem?_eq_getElem hjm] at HX
    injection HX with HX
    rw [hT]
    replace hT := Lib.hid hT
    have hjn : (j : Int) < (l.length : Int) := by omega
    have hji : (0 : Int) ≤ (j : Int) := by omega
    obtain ⟨t, ht⟩ : ∃ t : Int, k + (T : Int) = t := ⟨_, rfl⟩
    have ht0 : 0 ≤ t := by omega
    rw [ht] at HX ⊢
    obtain ⟨⟨op0, tg0, args0, n0⟩, hxe⟩ : ∃ y, y = x := ⟨_, rfl⟩
    subst hxe
    obtain ⟨b, o, op, tg, args, va, n, eA, _, hbB, HE, _, _, ha, _, c0, c1, c2, c3⟩ := ins_get (hv.below hb hB) hjm
    subst eA
    have HE := HE.out.symm.trans HX
    obtain ⟨rfl, rfl, rfl, rfl⟩ : op = t ∧ tg = t + 1 ∧ args = marksL (t + 2) args0.length ∧ n = t + 2 + (args0.length : Nat) := by
      injection HE with h1 h2 h3 h4
      exact ⟨h1, h2, h3, h4⟩
    have hn1 : T + (3 + args0.length) ≤ sumBy cI l := HL
    have ht1 : op + 2 + (args0.length : Int) ≤ 1073741824 := by omega
    obtain ⟨Aa, ca, hf, _, _⟩ := ha.form
    rw [marksL_length] at hf
    subst hf
    have e2 : op + 1 + 1 = op + 2 := by omega
    replace ha : Sl false (intS false) wr lo B (marksL (op + 1 + 1) args0.length) (.slice Aa args0.length ca) := by rw [e2]; exact ha
    replace c3 : wr.cell? ⟨b, o + j * 4 + 3, none⟩ = some (.int .i64 (op + 1 + 1 + (args0.length : Nat))) := by rw [e2]; exact c3
    clear HE HX hx e2
    go_wp2_with fail
    refine (held_IntS (op + 1 + 1) args0.length _ _ lo B (Nat.le_trans hB hb.size) (by omega) (by omega) ha).mono ?_
    rintro e w3 ⟨rfl, b3⟩
    have hb3 : Below w.heap.size w w3 := hb.trans (b3.mono hb.size)
    have d3 : w3.cell? ⟨b, o + j * 4 + 3, none⟩ = some (.int .i64 (op + 1 + 1 + (args0.length : Nat))) := (b3.cell (p := ⟨b, o + j * 4 + 3, none⟩) (World.block_lt_of_cell? wr _ c3)).trans c3
    have hnn : ¬ op + 1 + 1 + (args0.length : Int) < 0 := by omega
    have ET : Hid (op + 1 + 1 + (args0.length : Nat) + 1 = k + (sumBy cI (l.take (j + 1)) : Nat)) := by
      show _ = _
      rw [HT.out, ← ht, show cI ⟨op0, tg0, args0, n0⟩ = 3 + args0.length from rfl]
      omega
    clear hv ha c0 c1 c2 c3
    clear ht hT HT HL
    go_wp2_with fail
    go_roundw
    case rel => exact ⟨j + 1, by omega, by go_num, by rw [← ET.out], hb3⟩
    case measure => simp [intOf]; omega
set_option maxRecDepth 100000 in
set_option maxHeartbeats 4000000 in
theorem heldF_BlockS (l : List BlkD) (v : Value) (k : Int) (w : World) (lo B : Nat) (hB : B ≤ w.heap.size) (k0 : 0 ≤ k) (hk : k + (sumBy cB l : Nat) ≤ 1073741824) (hl : l.length + sumBy blkN l ≤ 1048576) (hv : Sl false (blkS false) w lo B (mkL cB mB l k) v) :
    Calls Try.prog 46 #[v, .int .i64 k] w (RetV (.int .i64 (k + (sumBy cB l : Nat))) w) := by
  obtain ⟨A, cap, hf, hlc, hcm⟩ := hv.form
  rw [mkL_length] at hf hlc
  subst hf
  go_enter Try.func46, Try.ntmps46
  go_wp2_with fail
  go_loopw [1, 5] (fun t i wr => ∃ j : Nat, j ≤ l.length ∧ i = .int .i64 j ∧ t = .int .i64 (k + (sumBy cB (l.take j) : Nat)) ∧ Below w.heap.size w wr) (fun _ i _ => l.length - (intOf i).toNat)
  case atStart => exact ⟨0, by omega, rfl, by simp [sumBy], Below.refl _ _⟩
  case round =>
    obtain ⟨j, hj, rfl, rfl, hb⟩ := hrel
    by_cases hjl : j < l.length
    case neg =>
      obtain rfl : j = l.length := by omega
      have hjn : ¬ (l.length : Int) < (l.length : Int) := by omega
      have ET : sumBy cB (l.take l.length) = sumBy cB l := by rw [List.take_length]
      rw [ET]
      clear ET
      go_wp2_with fail
      go_ret
      exact ⟨rfl, hb⟩
    obtain ⟨x, hx⟩ : ∃ x, l[j] = x := ⟨_, rfl⟩
    obtain ⟨T, hT⟩ : ∃ T, sumBy cB (l.take j) = T := ⟨_, rfl⟩
    have HT : Hid (sumBy cB (l.take (j + 1)) = T + cB x) := by
      show _ = _
      rw [sumBy_takeU hjl hx, hT]
    have HL : sumBy cB (l.take (j + 1)) ≤ sumBy cB l := sumBy_leU cB l (j + 1)
    rw [HT.out] at HL
    have HX : (mkL cB mB l k)[j]? = some (mB x (k + (T : Nat))) := by
      have := mkL_get cB mB l k j _ (List.getElem?_eq_getElem hjl)
      rw [hx, hT] at this
      exact this
    have hjm : j < (mkL cB mB l k).length := by rw [mkL_length]; exact hjl
    rw [List.getElem?_eq_getElem hjm] at HX
    injection HX with HX
    rw [hT]
    replace hT := Lib.hid hT
    have hjn : (j : Int) < (l.length : Int) := by omega
    have hji : (0 : Int) ≤ (j : Int) := by omega
    obtain ⟨t, ht⟩ : ∃ t : Int, k + (T : Int) = t := ⟨_, rfl⟩
    have ht0 : 0 ≤ t := by omega
    rw [ht] at HX ⊢
    obtain ⟨⟨phis0, ins0, jump0, on0, next0⟩, hxe⟩ : ∃ y, y = x := ⟨_, rfl⟩
    subst hxe
    obtain ⟨b, o, phis, v0, ins, v1, jump, on, next, v4, eA, _, hbB, HE, g0, g1, _, _, g4, c0, c1, c2, c3, c4⟩ := blk_get (hv.below hb hB) hjm
    subst eA
    have HE := HE.out.symm.trans HX
    obtain ⟨P, hP⟩ : ∃ P, sumBy cP phis0 = P := ⟨_, rfl⟩
    obtain ⟨Q, hQ⟩ : ∃ Q, sumBy cI ins0 = Q := ⟨_, rfl⟩
    have HE' : (⟨phis, ins, jump, on, next⟩ : BlkD) = ⟨mkL cP mP phis0 t, mkL cI mI ins0 (t + (P : Nat)), t + (P : Nat) + (Q : Nat), t + (P : Nat) + (Q : Nat) + 1, marksL (t + (P : Nat) + (Q : Nat) + 2) next0.length⟩ := by
      rw [HE, ← hP, ← hQ]
      rfl
    obtain ⟨rfl, rfl, rfl, rfl, rfl⟩ : phis = mkL cP mP phis0 t ∧ ins = mkL cI mI ins0 (t + (P : Nat)) ∧ jump = t + (P : Nat) + (Q : Nat) ∧ on = t + (P : Nat) + (Q : Nat) + 1 ∧ next = marksL (t + (P : Nat) + (Q : Nat) + 2) next0.length := by
      injection HE' with h1 h2 h3 h4 h5
      exact ⟨h1, h2, h3, h4, h5⟩
    have hn1 : T + (P + Q + 2 + next0.length) ≤ sumBy cB l := by
      have : T + (sumBy cP phis0 + sumBy cI ins0 + 2 + next0.length) ≤ sumBy cB l := HL
      omega
    have hNx : (phis0.length + sumBy phiN phis0) + (ins0.length + sumBy insN ins0) + next0.length ≤ sumBy blkN l := sumBy_mem (a := (⟨phis0, ins0, jump0, on0, next0⟩ : BlkD)) blkN (hx ▸ List.getElem_mem hjl)
    have hlp : phis0.length ≤ 1048576 := by omega
    have hli : ins0.length ≤ 1048576 := by omega
    have ht1 : t + (P : Int) + (Q : Int) + 2 + (next0.length : Int) ≤ 1073741824 := by omega
    obtain ⟨A0, p0, hf, _, _⟩ := g0.form
    rw [mkL_length] at hf
    subst hf
    obtain ⟨A1, p1, hf, _, _⟩ := g1.form
    rw [mkL_length] at hf
    subst hf
    obtain ⟨A4, p4, hf, _, _⟩ := g4.form
    rw [marksL_length] at hf
    subst hf
    have e2 : t + (P : Int) + (Q : Int) + 1 + 1 = t + (P : Int) + (Q : Int) + 2 := by omega
    replace g4 : Sl false (intS false) wr lo B (marksL (t + (P : Nat) + (Q : Nat) + 1 + 1) next0.length) (.slice A4 next0.length p4) := by rw [e2]; exact g4
    have hbw := World.block_lt_of_cell? wr _ c4
    have hBr := Nat.le_trans hB hb.size
    clear HE HE' HX hx e2
    go_wp2_with fail
    refine (heldF_PhiS phis0 _ t _ lo B hBr ht0 (by rw [hP]; omega) hlp g0).mono ?_
    rintro e w3 ⟨rfl, b3⟩
    rw [hP]
    have hn3 : ¬ t + (P : Int) < 0 := by omega
    have d1 : w3.cell? ⟨b, o + j * 5 + 1, none⟩ = some (.slice A1 ins0.length p1) := (b3.cell (p := ⟨b, o + j * 5 + 1, none⟩) hbw).trans c1
    clear c0
    go_wp2_with fail
    refine (heldF_InsS ins0 _ (t + (P : Nat)) _ lo B (Nat.le_trans hBr b3.size) (by omega) (by rw [hQ]; omega) hli (g1.below b3 hBr)).mono ?_
    rintro e w4 ⟨rfl, b4⟩
    rw [hQ]
    have b34 : Below wr.heap.size wr w4 := b3.trans (b4.mono b3.size)
    have hn4 : ¬ t + (P : Int) + (Q : Int) < 0 := by omega
    have d2 : w4.cell? ⟨b, o + j * 5 + 2, none⟩ = some (.int .i64 (t + (P : Nat) + (Q : Nat))) := (b34.cell (p := ⟨b, o + j * 5 + 2, none⟩) hbw).trans c2
    have d3 : w4.cell? ⟨b, o + j * 5 + 3, none⟩ = some (.int .i64 (t + (P : Nat) + (Q : Nat) + 1)) := (b34.cell (p := ⟨b, o + j * 5 + 3, none⟩) hbw).trans c3
    have d4 : w4.cell? ⟨b, o + j * 5 + 4, none⟩ = some (.slice A4 next0.length p4) := (b34.cell (p := ⟨b, o + j * 5 + 4, none⟩) hbw).trans c4
    clear d1 c1 c2 c3 c4
    go_wp2_with fail
    refine (held_IntS (t + (P : Nat) + (Q : Nat) + 1 + 1) next0.length _ _ lo B (Nat.le_trans hBr b34.size) (by omega) (by omega) (g4.below b34 hBr)).mono ?_
    rintro e w5 ⟨rfl, b5⟩
    have hb3 : Below w.heap.size w w5 := (hb.trans (b34.mono hb.size)).trans (b5.mono (Nat.le_trans hb.size b34.size))
    have hnn : ¬ t + (P : Int) + (Q : Int) + 1 + 1 + (next0.length : Int) < 0 := by omega
    have ET : Hid (t + (P : Nat) + (Q : Nat) + 1 + 1 + (next0.length : Nat) = k + (sumBy cB (l.take (j + 1)) : Nat)) := by
      show _ = _
      rw [HT.out, ← ht, show cB ⟨phis0, ins0, jump0, on0, next0⟩ = sumBy cP phis0 + sumBy cI ins0 + 2 + next0.length from rfl, hP, hQ]
      omega
    clear hv g0 g1 g4 d2 d3 d4 hP hQ
    clear ht hT HT HL
    go_wp2_with fail
    go_roundw
    case rel => exact ⟨j + 1, by omega, by go_num, by rw [← ET.out], hb3⟩
    case measure => simp [intOf]; omega
set_option maxRecDepth 100000 in
set_option maxHeartbeats 4000000 in
theorem heldF_CodeS (l : List CodeD) (v : Value) (k : Int) (w : World) (lo B : Nat) (hB : B ≤ w.heap.size) (k0 : 0 ≤ k) (hk : k + (sumBy cC l : Nat) ≤ 1073741824) (hl : l.length + sumBy codeN l ≤ 1048576) (hv : Sl false (codeS false) w lo B (mkL cC mC l k) v) :
    Calls Try.prog 25 #[v, .int .i64 k] w (RetV (.int .i64 (k + (sumBy cC l : Nat))) w) := by
  obtain ⟨A, cap, hf, hlc, hcm⟩ := hv.form
  rw [mkL_length] at hf hlc
  subst hf
  go_enter Try.func25, Try.ntmps25
  go_wp2_with fail
  go_loopw [1, 5] (fun t i wr => ∃ j : Nat, j ≤ l.length ∧ i = .int .i64 j ∧ t = .int .i64 (k + (sumBy cC (l.take j) : Nat)) ∧ Below w.heap.size w wr) (fun _ i _ => l.length - (intOf i).toNat)
  case atStart => exact ⟨0, by omega, rfl, by simp [sumBy], Below.refl _ _⟩
  case round =>
    obtain ⟨j, hj, rfl, rfl, hb⟩ := hrel
    by_cases hjl : j < l.length
    case neg =>
      obtain rfl : j = l.length := by omega
      have hjn : ¬ (l.length : Int) < (l.length : Int) := by omega
      have ET : sumBy cC (l.take l.length) = sumBy cC l := by rw [List.take_length]
      rw [ET]
      clear ET
      go_wp2_with fail
      go_ret
      exact ⟨rfl, hb⟩
    obtain ⟨x, hx⟩ : ∃ x, l[j] = x := ⟨_, rfl⟩
    obtain ⟨T, hT⟩ : ∃ T, sumBy cC (l.take j) = T := ⟨_, rfl⟩
    have HT : Hid (sumBy cC (l.take (j + 1)) = T + cC x) := by
      show _ = _
      rw [sumBy_takeU hjl hx, hT]
    have HL : sumBy cC (l.take (j + 1)) ≤ sumBy cC l := sumBy_leU cC l (j + 1)
    rw [HT.out] at HL
    have HX : (mkL cC mC l k)[j]? = some (mC x (k + (T : Nat))) := by
      have := mkL_get cC mC l k j _ (List.getElem?_eq_getElem hjl)
      rw [hx, hT] at this
      exact this
    have hjm : j < (mkL cC mC l k).length := by rw [mkL_length]; exact hjl
    rw [List.getElem?_eq_getElem hjm] at HX
    injection HX with HX
    rw [hT]
    replace hT := Lib.hid hT
    have hjn : (j : Int) < (l.length : Int) := by omega
    have hji : (0 : Int) ≤ (j : Int) := by omega
    obtain ⟨t, ht⟩ : ∃ t : Int, k + (T : Int) = t := ⟨_, rfl⟩
    have ht0 : 0 ≤ t := by omega
    rw [ht] at HX ⊢
    obtain ⟨⟨params0, regs0, blocks0⟩, hxe⟩ : ∃ y, y = x := ⟨_, rfl⟩
    subst hxe
    obtain ⟨b, o, params, regs, blocks, v2, eA, _, hbB, HE, _, _, g2, c0, c1, c2⟩ := code_get (hv.below hb hB) hjm
    subst eA
    have HE := HE.out.symm.trans HX
    obtain ⟨rfl, rfl, rfl⟩ : params = t ∧ regs = t + 1 ∧ blocks = mkL cB mB blocks0 (t + 2) := by
      injection HE with h1 h2 h3
      exact ⟨h1, h2, h3⟩
    obtain ⟨P, hP⟩ : ∃ P, sumBy cB blocks0 = P := ⟨_, rfl⟩
    have hn1 : T + (2 + P) ≤ sumBy cC l := by
      have : T + (2 + sumBy cB blocks0) ≤ sumBy cC l := HL
      omega
    have hNx : blocks0.length + sumBy blkN blocks0 ≤ sumBy codeN l := sumBy_mem (a := (⟨params0, regs0, blocks0⟩ : CodeD)) codeN (hx ▸ List.getElem_mem hjl)
    have hNb : blocks0.length + sumBy blkN blocks0 ≤ 1048576 := by omega
    have ht1 : params + 2 + (P : Int) ≤ 1073741824 := by omega
    obtain ⟨A2, p2, hf, _, _⟩ := g2.form
    rw [mkL_length] at hf
    subst hf
    have e2 : params + 1 + 1 = params + 2 := by omega
    replace g2 : Sl false (blkS false) wr lo B (mkL cB mB blocks0 (params + 1 + 1)) (.slice A2 blocks0.length p2) := by rw [e2]; exact g2
    clear HE HX hx e2
    go_wp2_with fail
    refine (heldF_BlockS blocks0 _ (params + 1 + 1) _ lo B (Nat.le_trans hB hb.size) (by omega) (by rw [hP]; omega) hNb g2).mono ?_
    rintro e w3 ⟨rfl, b3⟩
    rw [hP]
    have hb3 : Below w.heap.size w w3 := hb.trans (b3.mono hb.size)
    have hnn : ¬ params + 1 + 1 + (P : Int) < 0 := by omega
    have ET : Hid (params + 1 + 1 + (P : Nat) = k + (sumBy cC (l.take (j + 1)) : Nat)) := by
      show _ = _
      rw [HT.out, ← ht, show cC ⟨params0, regs0, blocks0⟩ = 2 + sumBy cB blocks0 from rfl, hP]
      omega
    clear hv g2 c0 c1 c2 hP
    clear ht hT HT HL
    go_wp2_with fail
    go_roundw
    case rel => exact ⟨j + 1, by omega, by go_num, by rw [← ET.out], hb3⟩
    case measure => simp [intOf]; omega
theorem heldF_Unit (l : List CodeD) (v : Value) (k : Int) (w : World) (lo B : Nat) (hB : B ≤ w.heap.size) (k0 : 0 ≤ k) (hk : k + (sumBy cC l : Nat) ≤ 1073741824) (hl : l.length + sumBy codeN l ≤ 1048576) (hv : Sl false (codeS false) w lo B (mkL cC mC l k) v) :
    Calls Try.prog 11 #[.agg #[v], .int .i64 k] w (RetV (.int .i64 (k + (sumBy cC l : Nat))) w) := by
  have hb0 : Below w.heap.size w (w.alloc (.cells #[v] 28)) := (Below.refl _ _).alloc (Nat.le_refl _) _
  have R0 : Row (w.alloc (.cells #[v] 28)) w.heap.size 28 #[v] := Row.new _ _ _
  have e0 : (w.alloc (.cells #[v] 28)).cell? ⟨w.heap.size, 0, none⟩ = some v := R0.cell 0
  clear R0
  go_enter Try.func11, Try.ntmps11
  go_wp2_with fail
  refine (heldF_CodeS l v k _ lo B (Nat.le_trans hB hb0.size) k0 hk hl (hv.below hb0 hB)).mono ?_
  rintro e w3 ⟨rfl, b3⟩
  have hb3 : Below w.heap.size w w3 := hb0.trans (b3.mono hb0.size)
  have hnn : ¬ k + (sumBy cC l : Int) < 0 := by omega
  clear e0 hv
  go_wp2_with fail
  go_ret
  exact ⟨rfl, hb3⟩
end Go.Proofs.Ytgcjccoglcgcoaa
