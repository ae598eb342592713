/-
  Marks of words: words in memory of their own are written over, and asked for their marks. Conditions: they may be written.
-/
import Derived.Test.YtcmcpipcafjiaaaDoorMarkS
import Derived.Test.YtcmcpipcafjiaaaDoorSz
namespace Go.Proofs.YtcmcpipcafjiaaaDoor
open Go.RowKit Go.ChangeShapes Go.WideShapes Go.Deep
set_option linter.unusedSimpArgs false
set_option linter.unusedVariables false
theorem word_any {w : World} {lo B : Nat} {a : WordD} {cs : List Value} (h : (wordS true).rep w lo B a cs) : ∃ n s, cs = [.int .i64 n, .string s] := by
  obtain ⟨c0, c1, rfl, h0, h1⟩ := h
  obtain ⟨n, e0⟩ := int_any h0
  obtain ⟨s, e1⟩ := str_any h1
  injection e0 with e0
  injection e1 with e1
  subst e0 e1
  exact ⟨n, s, rfl⟩
theorem softOk_word : SoftOk (wordS true) := by
  refine ⟨by decide, ?_⟩
  intro w w' lo0 B0 lo B a cs cs' hs hr hl h
  obtain ⟨c0, c1, rfl, h0, h1⟩ := hr
  match cs', hl with
  | [d0, d1], _ =>
    exact ⟨d0, d1, rfl, softOk_int.soft hs h0 rfl (soft_1 (h 0 c0 d0 rfl rfl)), softOk_str.soft hs h1 rfl (soft_1 (h 1 c1 d1 rfl rfl))⟩
/-- the words of the marks from k on -/
def wmL (k n : Nat) : List WordD := (List.range n).map fun (i : Nat) => ⟨((k + i * 2 : Nat) : Int), mtx (k + i * 2 + 1)⟩
theorem wmL_length (k n : Nat) : (wmL k n).length = n := by simp [wmL]
theorem wmL_get {k n i : Nat} (h : i < (wmL k n).length) : (wmL k n)[i] = ⟨((k + i * 2 : Nat) : Int), mtx (k + i * 2 + 1)⟩ := by simp [wmL]
set_option maxRecDepth 100000 in
theorem markx_WordS (l : List WordD) (v : Value) (k : Nat) (w : World) (lo B : Nat) (hk : k + l.length * 2 ≤ 1073741824) (hv : Sl true (wordS true) w lo B l v) (hB : B ≤ w.heap.size) :
    Calls Tryd.prog 26 #[v, .int .i64 (k : Int)] w (fun e w' => e = .returned (.int .i64 ((k : Int) + (l.length : Int) * 2)) ∧ Sl false (wordS false) w' lo B (wmL k l.length) v ∧ Soft lo B w w') := by
  obtain ⟨A, cap, rfl, hlc, hcm, h3⟩ := hv
  have hv : Sl true (wordS true) w lo B l (.slice A l.length cap) := ⟨A, cap, rfl, hlc, hcm, h3⟩
  obtain ⟨b, o, hA⟩ : ∃ b o : Nat, l ≠ [] → A = some ⟨b, o, none⟩ ∧ lo ≤ b ∧ b < B := by
    by_cases hl : l = []
    · exact ⟨0, 0, fun h => absurd hl h⟩
    · obtain ⟨b, o, h1, h2, h3, _⟩ := h3 hl
      exact ⟨b, o, fun _ => ⟨h1, h2, h3⟩⟩
  clear h3
  have hcm' : cap ≤ 9223372036854775807 := by unfold maxLen at hcm; omega
  go_enter Tryd.func26, Tryd.ntmps26
  go_wp2_with fail
  go_loopw [1, 5] (fun t i wr => ∃ j : Nat, j ≤ l.length ∧ i = .int .i64 j ∧ t = .int .i64 ((k : Int) + (j : Int) * 2) ∧ Soft lo B w wr ∧ Hid (∀ i' : Nat, i' < j → wr.cell? ⟨b, o + i' * 2, none⟩ = some (.int .i64 ((k + i' * 2 : Nat) : Int)) ∧ wr.cell? ⟨b, o + i' * 2 + 1, none⟩ = some (.string (mtx (k + i' * 2 + 1))))) (fun _ i _ => l.length - (intOf i).toNat)
  case atStart => exact ⟨0, by omega, rfl, by simp, Soft.refl _ _ _, fun i' h => absurd h (Nat.not_lt_zero _)⟩
  case round =>
    obtain ⟨j, hj, rfl, rfl, hs, HD⟩ := hrel
    by_cases hjl : j < l.length
    · obtain ⟨b', o', cs, hA', hlb, hbB, hf, hr, hc⟩ := (hv.soft softOk_word hs).at_ hjl
      obtain ⟨hA1, hlb1, hbB1⟩ := hA (List.ne_nil_of_length_pos (by omega))
      rw [hA1] at hA'
      injection hA' with hA'
      injection hA' with e1 e2
      subst e1 e2 hA1
      obtain ⟨n0, s0, rfl⟩ := word_any hr
      have c0 : wr.cell? ⟨b, o + j * 2, none⟩ = some (.int .i64 n0) := by simpa [wordS] using hc 0 _ rfl
      have c1 : wr.cell? ⟨b, o + j * 2 + 1, none⟩ = some (.string s0) := by simpa [wordS] using hc 1 _ rfl
      have f0 : wr.frozen? ⟨b, o + j * 2, none⟩ = false := hf rfl _
      have hbw := World.block_lt_of_cell? wr _ c0
      have hbw' : b < wr.heap.size := hbw
      have hs0 : Soft lo B w (wr.setCell ⟨b, o + j * 2, none⟩ (.int .i64 ((k : Int) + (j : Int) * 2))) := hs.st c0 hlb1 hbB1 _
      have d1 : (wr.setCell ⟨b, o + j * 2, none⟩ (.int .i64 ((k : Int) + (j : Int) * 2))).cell? ⟨b, o + j * 2 + 1, none⟩ = some (.string s0) := (World.cell?_setCell_other _ _ _ _ (addr_ne (by omega))).trans c1
      have d0 : (wr.setCell ⟨b, o + j * 2, none⟩ (.int .i64 ((k : Int) + (j : Int) * 2))).cell? ⟨b, o + j * 2, none⟩ = some (.int .i64 ((k : Int) + (j : Int) * 2)) := World.cell?_setCell_same _ _ _ c0
      have g1 : (wr.setCell ⟨b, o + j * 2, none⟩ (.int .i64 ((k : Int) + (j : Int) * 2))).frozen? ⟨b, o + j * 2 + 1, none⟩ = false := by simpa using hf rfl (o + j * 2 + 1)
      have HD0 : Hid (∀ i' : Nat, i' < j → (wr.setCell ⟨b, o + j * 2, none⟩ (.int .i64 ((k : Int) + (j : Int) * 2))).cell? ⟨b, o + i' * 2, none⟩ = some (.int .i64 ((k + i' * 2 : Nat) : Int)) ∧ (wr.setCell ⟨b, o + j * 2, none⟩ (.int .i64 ((k : Int) + (j : Int) * 2))).cell? ⟨b, o + i' * 2 + 1, none⟩ = some (.string (mtx (k + i' * 2 + 1)))) := fun i' hi => ⟨(World.cell?_setCell_other _ _ _ _ (addr_ne (by omega))).trans (HD.out i' hi).1, (World.cell?_setCell_other _ _ _ _ (addr_ne (by omega))).trans (HD.out i' hi).2⟩
      obtain ⟨W, hW⟩ : ∃ W, wr.setCell ⟨b, o + j * 2, none⟩ (.int .i64 ((k : Int) + (j : Int) * 2)) = W := ⟨_, rfl⟩
      have hbW : b < W.heap.size := by rw [← hW]; simpa using hbw'
      have HW := Lib.hid hW
      have HM : Hid (∀ W : World, Calls Tryd.prog 35 #[.int .i64 ((k : Int) + (j : Int) * 2 + 1)] W (RetV (.string (mtx (k + j * 2 + 1))) W)) := fun W => by
        have h := mark_Text (k + j * 2 + 1) W (by omega)
        have e : ((k + j * 2 + 1 : Nat) : Int) = (k : Int) + (j : Int) * 2 + 1 := by omega
        rw [e] at h
        exact h
      clear hc hf hr HD c1
      go_wp2_with fail
      rw [HW.out] at d0 d1 g1 hs0 HD0
      clear hW HW c0 f0
      refine (HM.out _).mono ?_
      rintro e w1 ⟨rfl, b1⟩
      have k1 : w1.cell? ⟨b, o + j * 2 + 1, none⟩ = some (.string s0) := (b1.cell (p := ⟨b, o + j * 2 + 1, none⟩) hbW).trans d1
      have k0 : w1.cell? ⟨b, o + j * 2, none⟩ = some (.int .i64 ((k : Int) + (j : Int) * 2)) := (b1.cell (p := ⟨b, o + j * 2, none⟩) hbW).trans d0
      have f1 : w1.frozen? ⟨b, o + j * 2 + 1, none⟩ = false := (b1.frozen (p := ⟨b, o + j * 2 + 1, none⟩) hbW).trans g1
      have hs1 := hs0.trans (Soft.of_below b1)
      have HD1 : Hid (∀ i' : Nat, i' < j → w1.cell? ⟨b, o + i' * 2, none⟩ = some (.int .i64 ((k + i' * 2 : Nat) : Int)) ∧ w1.cell? ⟨b, o + i' * 2 + 1, none⟩ = some (.string (mtx (k + i' * 2 + 1)))) := fun i' hi => ⟨(b1.cell (p := ⟨b, o + i' * 2, none⟩) hbW).trans (HD0.out i' hi).1, (b1.cell (p := ⟨b, o + i' * 2 + 1, none⟩) hbW).trans (HD0.out i' hi).2⟩
      have K0 := Lib.hid k0
      clear HD0 d0 d1 g1 k0
      go_wp2_with fail
      go_roundw
      case rel =>
        refine ⟨j + 1, by omega, by go_num, by go_num, hs1.sts k1 hlb1 hbB1 _, fun i' hi => ?_⟩
        rcases Nat.lt_or_ge i' j with h | h
        · exact ⟨(World.cell?_setCell_other _ _ _ _ (addr_ne (by omega))).trans (HD1.out i' h).1, (World.cell?_setCell_other _ _ _ _ (addr_ne (by omega))).trans (HD1.out i' h).2⟩
        · obtain rfl : i' = j := by omega
          refine ⟨(World.cell?_setCell_other _ _ _ _ (addr_ne (by omega))).trans ?_, World.cell?_setCell_same _ _ _ k1⟩
          rw [K0.out]
          simp
      case measure => simp [intOf]; omega
    · obtain rfl : j = l.length := by omega
      go_wp2_with fail
      go_ret
      refine ⟨rfl, ⟨A, cap, by rw [wmL_length], by rw [wmL_length]; exact hlc, hcm, fun hne => ?_⟩, hs⟩
      obtain ⟨h1, h2, h3⟩ := hA (fun h => hne (by rw [h]; rfl))
      refine ⟨b, o, h1, h2, h3, (fun h => by cases h), fun i a ha => ⟨[.int .i64 a.kind, .string a.text], ?_, fun j' u hu => ?_⟩⟩
      · have hil := (List.getElem?_eq_some_iff.1 ha).1
        have hia := (List.getElem?_eq_some_iff.1 ha).2
        rw [wmL_get hil] at hia
        rw [wmL_length] at hil
        subst hia
        refine word_mk false _ _ ⟨by omega, by omega⟩ ?_
        have := mtx_size (k + i * 2 + 1)
        unfold maxLen
        show (mtx (k + i * 2 + 1)).size ≤ _
        omega
      · have hil := (List.getElem?_eq_some_iff.1 ha).1
        have hia := (List.getElem?_eq_some_iff.1 ha).2
        rw [wmL_get hil] at hia
        rw [wmL_length] at hil
        subst hia
        match j', hu with
        | 0, hu =>
          have hu' := Option.some.inj hu
          subst hu'
          simpa [wordS] using (HD.out i hil).1
        | 1, hu =>
          have hu' := Option.some.inj hu
          subst hu'
          simpa [wordS] using (HD.out i hil).2
set_option maxRecDepth 100000 in
theorem held_WordS (k n : Nat) (v : Value) (w : World) (lo B : Nat) (hB : B ≤ w.heap.size) (hk : k + n * 2 ≤ 1073741824) (hv : Sl false (wordS false) w lo B (wmL k n) v) :
    Calls Tryd.prog 27 #[v, .int .i64 (k : Int)] w (RetV (.int .i64 ((k : Int) + (n : Int) * 2)) w) := by
  obtain ⟨A, cap, hf, hlc, hcm⟩ := hv.form
  rw [wmL_length] at hf hlc
  subst hf
  go_enter Tryd.func27, Tryd.ntmps27
  go_wp2_with fail
  go_loopw [1, 5] (fun t i wr => ∃ j : Nat, j ≤ n ∧ i = .int .i64 j ∧ t = .int .i64 ((k : Int) + (j : Int) * 2) ∧ Below w.heap.size w wr) (fun _ i _ => n - (intOf i).toNat)
  case atStart => exact ⟨0, by omega, rfl, by simp, Below.refl _ _⟩
  case round =>
    obtain ⟨j, hj, rfl, rfl, hb⟩ := hrel
    have hsz := hb.size
    by_cases hjl : j < n
    · obtain ⟨b, o, kd, tx, rfl, _, hbB, HL, _, _, c0, c1⟩ := word_get (hv.below hb hB) (show j < (wmL k n).length by rw [wmL_length]; exact hjl)
      have e1 := HL.out.symm.trans (wmL_get _)
      injection e1 with e1 e2
      subst e2
      have e3 : kd = (k : Int) + (j : Int) * 2 := by rw [e1]; omega
      subst e3
      have hjn : (j : Int) < (n : Int) := by omega
      have hj0 : (0 : Int) ≤ (j : Int) := by omega
      clear HL e1
      have HM : Hid (∀ W : World, Calls Tryd.prog 35 #[.int .i64 ((k : Int) + (j : Int) * 2 + 1)] W (RetV (.string (mtx (k + j * 2 + 1))) W)) := fun W => by
        have h := mark_Text (k + j * 2 + 1) W (by omega)
        have e : ((k + j * 2 + 1 : Nat) : Int) = (k : Int) + (j : Int) * 2 + 1 := by omega
        rw [e] at h
        exact h
      go_wp2_with fail
      go_region_held3 (fun w' => w'.cell? ⟨b, o + j * 2 + 1, none⟩ = some (.string (mtx (k + j * 2 + 1)))) (assumption) ((go_at_call 35; refine (HM.out _).mono ?_; rintro e w1 ⟨rfl, b1⟩; have hbd : Below w.heap.size w w1 := (hb.drew).trans (b1.mono hsz); have k1 : w1.cell? ⟨b, o + j * 2 + 1, none⟩ = some (.string (mtx (k + j * 2 + 1))) := (b1.cell (p := ⟨b, o + j * 2 + 1, none⟩) (by have := World.block_lt_of_cell? wr _ c1; exact this)).trans c1))
      go_wp2_with fail
      go_roundw
      case rel => exact ⟨j + 1, by omega, by go_num, by go_num, hbd⟩
      case measure => simp [intOf]; omega
    · obtain rfl : j = n := by omega
      go_wp2_with fail
      go_ret
      exact ⟨rfl, hb⟩
end Go.Proofs.YtcmcpipcafjiaaaDoor
