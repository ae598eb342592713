/-
  The sz.. functions: they answer what is left of a size. Conditions: the arguments read as data.
-/
import Derived.Test.YtcmcpipcafjiaaaDoorTypes
import Derived.Lib.Hide
namespace Go.Proofs.YtcmcpipcafjiaaaDoor
open Go.RowKit Go.ChangeShapes Go.WideShapes Go.Deep
set_option linter.unusedVariables false

/-- what a sz.. function answers: what is left, or -1 -/
def SzP (left : Int) (n : Nat) (w : World) (e : Ending) (w' : World) : Prop :=
  ∃ r : Int, e = .returned (.int .i64 r) ∧ -1 ≤ r ∧ r ≤ left ∧ (0 ≤ r → r = left - n) ∧ Below w.heap.size w w'
theorem sumBy_take {α : Type} (f : α → Nat) (l : List α) {k : Nat} (h : k < l.length) : sumBy f (l.take (k + 1)) = sumBy f (l.take k) + f l[k] := by
  unfold sumBy
  rw [List.take_succ_eq_append_getElem h, List.map_append, List.sum_append]
  simp
theorem sumBy_all {α : Type} (f : α → Nat) (l : List α) {k : Nat} (h : l.length ≤ k) : sumBy f (l.take k) = sumBy f l := by rw [List.take_of_length_le h]
theorem sumBy_mem {α : Type} (f : α → Nat) {l : List α} {a : α} (h : a ∈ l) : f a ≤ sumBy f l := by
  unfold sumBy
  induction l with
  | nil => cases h
  | cons x r ih =>
    simp only [List.map_cons, List.sum_cons]
    cases List.mem_cons.1 h with
    | inl e => subst e; omega
    | inr e => have := ih e; omega

theorem int_get {w : World} {lo B : Nat} {l : List Int} {A : Option Addr} {n cap : Nat} (h : Sl false (intS false) w lo B l (.slice A n cap)) {i : Nat} (hi : i < l.length) :
    ∃ (b o : Nat) (a : Int), A = some ⟨b, o, none⟩ ∧ lo ≤ b ∧ b < B ∧ Hid (l[i] = a) ∧ I64 a ∧ w.cell? ⟨b, o + i, none⟩ = some (.int .i64 a) := by
  obtain ⟨b, o, cs, rfl, hlb, hb, _, hr, hc⟩ := h.at_ hi
  obtain ⟨rfl, hg⟩ := int_rep hr
  exact ⟨b, o, _, rfl, hlb, hb, rfl, hg, by simpa [intS] using hc 0 _ rfl⟩

theorem str_get {w : World} {lo B : Nat} {l : List ByteArray} {A : Option Addr} {n cap : Nat} (h : Sl false (strS false) w lo B l (.slice A n cap)) {i : Nat} (hi : i < l.length) :
    ∃ (b o : Nat) (a : ByteArray), A = some ⟨b, o, none⟩ ∧ lo ≤ b ∧ b < B ∧ Hid (l[i] = a) ∧ a.size ≤ maxLen ∧ w.cell? ⟨b, o + i, none⟩ = some (.string a) := by
  obtain ⟨b, o, cs, rfl, hlb, hb, _, hr, hc⟩ := h.at_ hi
  obtain ⟨rfl, hg⟩ := str_rep hr
  exact ⟨b, o, _, rfl, hlb, hb, rfl, hg, by simpa [strS] using hc 0 _ rfl⟩

theorem word_get {w : World} {lo B : Nat} {l : List WordD} {A : Option Addr} {n cap : Nat} (h : Sl false (wordS false) w lo B l (.slice A n cap)) {i : Nat} (hi : i < l.length) :
    ∃ (b o : Nat) (kind : Int) (text : ByteArray), A = some ⟨b, o, none⟩ ∧ lo ≤ b ∧ b < B ∧ Hid (l[i] = ⟨kind, text⟩) ∧ I64 kind ∧ text.size ≤ maxLen ∧ w.cell? ⟨b, o + i * 2, none⟩ = some (.int .i64 kind) ∧ w.cell? ⟨b, o + i * 2 + 1, none⟩ = some (.string text) := by
  obtain ⟨b, o, cs, rfl, hlb, hb, _, hr, hc⟩ := h.at_ hi
  obtain ⟨e, hl⟩ : ∃ e, l[i] = e := ⟨_, rfl⟩
  rw [hl] at hr ⊢
  obtain ⟨rfl, g0, g1⟩ := word_open hr
  obtain ⟨kind, text⟩ := e
  exact ⟨b, o, kind, text, rfl, hlb, hb, rfl, g0, g1, hc 0 _ rfl, hc 1 _ rfl⟩

theorem sz_Word (kind : Int) (text : ByteArray) (left : Int) (w : World) (lo B : Nat) (hl : left ≤ 1048576) (l0 : 0 ≤ left) (hB : B ≤ w.heap.size) (_h0 : I64 kind) (h1 : text.size ≤ maxLen) :
    Calls Tryd.prog 17 #[.agg #[.int .i64 kind, .string text], .int .i64 left] w (SzP left (text.size) w) := by
  have hb0 : Below w.heap.size w (w.alloc (.cells #[.int .i64 kind, .string text] 29)) := (Below.refl _ _).alloc (Nat.le_refl _) _
  go_enter Tryd.func17, Tryd.ntmps17
  have q1 : text.size ≤ maxLen := h1
  unfold maxLen at q1
  by_cases hr1 : left < text.size
  · go_wp2_with fail
    go_ret
    exact ⟨-1, rfl, by omega, by omega, fun h => by omega, hb0⟩
  · have tt1 : 0 ≤ left - text.size := by omega
    go_wp2_with fail
    go_ret
    refine ⟨_, rfl, by omega, by omega, fun _ => ?_, hb0⟩
    omega

theorem sz_WordS (l : List WordD) (v : Value) (left : Int) (w : World) (lo B : Nat) (hl : left ≤ 1048576) (l0 : 0 ≤ left) (hB : B ≤ w.heap.size) (hv : Sl false (wordS false) w lo B l v) :
    Calls Tryd.prog 28 #[v, .int .i64 left] w (SzP left (l.length + sumBy wordN l) w) := by
  obtain ⟨A, cap, rfl, hlc, hcm⟩ := hv.form
  by_cases hlt : left < l.length
  · go_enter Tryd.func28, Tryd.ntmps28
    go_wp2_with fail
    go_ret
    exact ⟨-1, rfl, by omega, by omega, fun h => by omega, Below.refl _ _⟩
  · go_enter Tryd.func28, Tryd.ntmps28
    go_wp2_with fail
    go_loopw [1, 5] (fun t i wr => ∃ (k : Nat) (r : Int), k ≤ l.length ∧ i = .int .i64 k ∧ t = .int .i64 r ∧ 0 ≤ r ∧ r ≤ left - l.length ∧ Hid (r = left - l.length - (sumBy wordN (l.take k) : Nat)) ∧ Below w.heap.size w wr) (fun _ i _ => l.length - (intOf i).toNat)
    case atStart => exact ⟨0, _, by omega, rfl, rfl, by omega, by omega, (show _ = _ by simp [sumBy]), Below.refl _ _⟩
    case round =>
      obtain ⟨k, r, hk, rfl, rfl, hr0, hr1, HR, hb⟩ := hrel
      have hsz := hb.size
      by_cases hkl : k < l.length
      · obtain ⟨b, o, kind, text, rfl, _, _, HL, g0, g1, c0, c1⟩ := word_get (hv.below hb hB) hkl
        have HS : Hid (sumBy wordN (l.take (k + 1)) = sumBy wordN (l.take k) + (text.size)) := by
          have h1 := sumBy_take wordN l hkl
          rw [HL.out] at h1
          exact h1
        go_wp2_with fail
        refine (sz_Word kind text _ _ lo B (by omega) (by omega) (by omega) g0 g1).mono ?_
        rintro e w1 ⟨r1, rfl, a1, b1, c1, e1⟩
        have hb1 : Below w.heap.size w w1 := hb.trans (e1.mono hb.size)
        have C1 := Lib.hid c1
        clear c1
        by_cases hneg : r1 < 0
        · go_wp2_with fail
          go_ret
          exact ⟨-1, rfl, by omega, by omega, fun h => by omega, hb1⟩
        · have t1 : 0 ≤ r1 := by omega
          go_wp2_with fail
          go_roundw
          case rel => exact ⟨k + 1, _, by omega, by go_num, rfl, by omega, by omega, (by have h1 := HR.out; have h2 := HS.out; have h3 := C1.out t1; show _ = _; rw [h2]; omega), hb1⟩
          case measure => simp [intOf]; omega
      · obtain rfl : k = l.length := by omega
        have h1 := sumBy_all wordN l (Nat.le_refl _)
        have H1 : Hid (r = left - ((l.length + sumBy wordN l : Nat) : Int)) := by
          have h2 := HR.out
          rw [h1] at h2
          show _ = _
          omega
        clear h1 HR
        go_wp2_with fail
        go_ret
        exact ⟨_, rfl, by omega, by omega, fun _ => H1.out, hb⟩

end Go.Proofs.YtcmcpipcafjiaaaDoor

