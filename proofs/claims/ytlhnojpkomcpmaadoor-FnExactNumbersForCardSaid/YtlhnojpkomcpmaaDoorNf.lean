/-
  NumbersFor, by the reference and by the program. Conditions: the argument reads as data of small size; the program's table lies.
-/
import Derived.Test.YtlhnojpkomcpmaaDoorTries
import Derived.Test.YtlhnojpkomcpmaaDoorUnit9
namespace Go.Proofs.YtlhnojpkomcpmaaDoor
open Go.RowKit Go.ChangeShapes Go.WideShapes Go.Deep
set_option linter.unusedVariables false
set_option linter.unusedSimpArgs false
/-- how many lists, and how long -/
def nN (codes : List CodeD) : Nat := if unitB codes = true then 3 else 0
def nP (codes : List CodeD) : Nat := if unitB codes = true then (match codes[codes.length - 1]? with | some c => c.params.toNat | none => 0) else 0
def Tabs (w : World) : Prop := TriesAt w
theorem Tabs.below {w w' : World} {B : Nat} (h : Tabs w) (hb : Below B w w') (hB : w.heap.size ≤ B) : Tabs w' := TriesAt.below h hb (Nat.lt_of_lt_of_le h.1 hB)
theorem codesB_head (us : List CodeD) : ∀ (l : List CodeD) (k : Nat), codesB us k l = true → ∀ c ∈ l, headB c = true
  | [], _, _, c, h => by cases h
  | a :: r, k, h, c, hc => by
    simp only [codesB, Bool.and_eq_true] at h
    rcases List.mem_cons.1 hc with rfl | hc
    · have := h.1
      unfold codeB at this
      simp only [Bool.and_eq_true] at this
      exact this.1
    · exact codesB_head us r (k + 1) h.2 c hc
theorem nN_le (codes : List CodeD) : nN codes ≤ 3 := by unfold nN; split <;> omega
theorem last_ok {codes : List CodeD} (h : unitB codes = true) : ∃ (k n : Nat) (hk : k < codes.length), codes.length = k + 1 ∧ n ≤ 3 ∧ codes[k].params = (n : Int) ∧ nP codes = n ∧ nN codes = 3 := by
  have h0 := h
  unfold unitB at h
  simp only [Bool.and_eq_true] at h
  obtain ⟨h1, h2, _⟩ := h
  have h1 := inB_out h1
  have hk : codes.length - 1 < codes.length := by omega
  have hc := codesB_head codes codes 0 h2 codes[codes.length - 1] (List.getElem_mem hk)
  unfold headB at hc
  simp only [Bool.and_eq_true] at hc
  have hp := inB_out hc.2.1
  have hp3 : codes[codes.length - 1].params ≤ 3 := Int.le_trans hp.2 (Int.min_le_left _ _)
  refine ⟨codes.length - 1, codes[codes.length - 1].params.toNat, hk, by omega, by omega, by omega, ?_, ?_⟩
  · unfold nP
    rw [if_pos h0, List.getElem?_eq_getElem hk]
  · unfold nN
    rw [if_pos h0]
theorem nP_le (codes : List CodeD) : nP codes ≤ 3 := by
  by_cases h : unitB codes = true
  · obtain ⟨k, n, hk, _, hn, _, e, _⟩ := last_ok h
    omega
  · unfold nP
    rw [if_neg h]
    omega
theorem grid_none (full : Bool) (w : World) (lo B n : Nat) (F : Nat → List Int) (A : Option Addr) : Grid full w lo B 0 n F (.slice A 0 0) := ⟨A, 0, rfl, by omega, by simp [maxLen], fun h => absurd h (by omega)⟩
set_option maxRecDepth 100000 in
theorem spec_NumbersFor (codes : List CodeD) (v0 : Value) (w : World) (lo B : Nat) (hB : B ≤ w.heap.size) (hN : (codes.length + sumBy codeN codes) ≤ 1048576) (h0 : Sl false (codeS false) w lo B codes v0) :
    Calls Tryd.prog 5 #[.agg #[v0]] w (GP w (nN codes) (nP codes)) := by
  obtain ⟨A, cap, rfl, hlc, hcm⟩ := h0.form
  have hb0 : Below w.heap.size w (w.alloc (.cells #[.slice A codes.length cap] 30)) := (Below.refl _ _).alloc (Nat.le_refl _) _
  have R0 : Row (w.alloc (.cells #[.slice A codes.length cap] 30)) w.heap.size 30 #[.slice A codes.length cap] := Row.new w _ _
  go_enter Tryd.func5, Tryd.ntmps5
  go_wp2_with fail
  refine (spec_UnitValid codes (.slice A codes.length cap) _ lo B (Nat.le_trans hB hb0.size) hN (h0.below hb0 hB)).mono ?_
  rintro e w1 ⟨rfl, b1⟩
  have hb1 := hb0.trans (b1.mono hb0.size)
  have y0 : w1.cell? ⟨w.heap.size, 0, none⟩ = some (.slice A codes.length cap) := (R0.below b1 R0.lt).cell 0
  cases hv : unitB codes
  · have E1 : nN codes = 0 := by unfold nN; rw [hv]; rfl
    have HE := Lib.hid E1
    clear hv E1
    go_wp2_with fail
    go_ret
    exact ⟨_, rfl, (by rw [HE.out]; exact grid_none _ _ _ _ _ _ _), hb1.alloc hb1.size _⟩
  · obtain ⟨k, n, hk, hkl, hn, hp, e1, e2⟩ := last_ok hv
    have HE1 := Lib.hid e1
    have HE2 := Lib.hid e2
    obtain ⟨b, o, params, regs, blocks, u2, rfl, _, hbB, HL, g0, g1, g2, c0, c1, c2⟩ := code_get (h0.below hb1 hB) hk
    have hpn : params = (n : Int) := by
      rw [HL.out] at hp
      exact hp
    subst hpn
    have hwn : IntKind.i64.wrap ((codes.length : Int) - 1) = (k : Int) := by rw [IntWalk.i64_in _ (by omega)]; omega
    have hkc : (k : Int) < (codes.length : Int) := by omega
    clear hv hkl e1 e2 HL
    go_wp2_with fail
    refine (spec_l5Inputs n hn w1).mono ?_
    rintro e w2 ⟨v, rfl, hg, b2⟩
    go_wp2_with fail
    go_ret
    exact ⟨v, rfl, (by rw [HE1.out, HE2.out]; exact hg.more hb1.size (Nat.le_refl _)), hb1.trans (b2.mono hb1.size)⟩
set_option maxRecDepth 100000 in
theorem impl_mainParams (codes : List CodeD) (v0 : Value) (w : World) (lo B : Nat) (hB : B ≤ w.heap.size) (h0 : Sl false (codeS false) w lo B codes v0) (k n : Nat) (hk : k < codes.length) (hkl : codes.length = k + 1) (hl : codes.length ≤ 1048576) (hp : codes[k].params = (n : Int)) :
    Calls Tryd.prog 19 #[.agg #[v0]] w (RetV (.int .i64 (n : Int)) w) := by
  obtain ⟨A, cap, rfl, hlc, hcm⟩ := h0.form
  have hb0 : Below w.heap.size w (w.alloc (.cells #[.slice A codes.length cap] 30)) := (Below.refl _ _).alloc (Nat.le_refl _) _
  obtain ⟨b, o, params, regs, blocks, u2, rfl, _, hbB, HL, g0, g1, g2, c0, c1, c2⟩ := code_get (h0.below hb0 hB) hk
  have hpn : params = (n : Int) := by
    rw [HL.out] at hp
    exact hp
  subst hpn
  have hwn : IntKind.i64.wrap ((codes.length : Int) - 1) = (k : Int) := by rw [IntWalk.i64_in _ (by omega)]; omega
  have hkc : (k : Int) < (codes.length : Int) := by omega
  clear hkl HL
  go_enter Tryd.func19, Tryd.ntmps19
  go_wp2_with fail
  go_ret
  exact ⟨rfl, hb0⟩
set_option maxRecDepth 100000 in
theorem impl_NumbersFor (codes : List CodeD) (v0 : Value) (w : World) (lo B : Nat) (hB : B ≤ w.heap.size) (hN : (codes.length + sumBy codeN codes) ≤ 1048576) (h0 : Sl false (codeS false) w lo B codes v0) (ht : Tabs w) :
    Calls Tryd.prog 7 #[.agg #[v0]] w (GP w (nN codes) (nP codes)) := by
  obtain ⟨A, cap, rfl, hlc, hcm⟩ := h0.form
  have hb0 : Below w.heap.size w (w.alloc (.cells #[.slice A codes.length cap] 30)) := (Below.refl _ _).alloc (Nat.le_refl _) _
  have R0 : Row (w.alloc (.cells #[.slice A codes.length cap] 30)) w.heap.size 30 #[.slice A codes.length cap] := Row.new w _ _
  go_enter Tryd.func7, Tryd.ntmps7
  go_wp2_with fail
  refine (impl_UnitValid codes (.slice A codes.length cap) _ lo B (Nat.le_trans hB hb0.size) hN (h0.below hb0 hB)).mono ?_
  rintro e w1 ⟨rfl, b1⟩
  have hb1 := hb0.trans (b1.mono hb0.size)
  have y0 : w1.cell? ⟨w.heap.size, 0, none⟩ = some (.slice A codes.length cap) := (R0.below b1 R0.lt).cell 0
  cases hv : unitB codes
  · have E1 : nN codes = 0 := by unfold nN; rw [hv]; rfl
    have HE := Lib.hid E1
    clear hv E1
    go_wp2_with fail
    go_ret
    exact ⟨_, rfl, (by rw [HE.out]; exact grid_none _ _ _ _ _ _ _), hb1⟩
  · obtain ⟨k, n, hk, hkl, hn, hp, e1, e2⟩ := last_ok hv
    have HE1 := Lib.hid e1
    have HE2 := Lib.hid e2
    have HM := Lib.hid (impl_mainParams codes (.slice A codes.length cap) w1 lo B (Nat.le_trans hB hb1.size) (h0.below hb1 hB) k n hk hkl (by omega) hp)
    clear hv hkl e1 e2 hp
    go_wp2_with fail
    refine HM.out.mono ?_
    rintro e w2 ⟨rfl, b2⟩
    have hb2 := hb1.trans (b2.mono hb1.size)
    go_wp2_with fail
    refine (impl_triesOf n hn w2 (ht.below hb2 (Nat.le_refl _))).mono ?_
    rintro e w3 ⟨v, rfl, hg, b3⟩
    go_wp2_with fail
    go_ret
    exact ⟨v, rfl, (by rw [HE1.out, HE2.out]; exact hg.more hb2.size (Nat.le_refl _)), hb2.trans (b3.mono hb2.size)⟩
end Go.Proofs.YtlhnojpkomcpmaaDoor
