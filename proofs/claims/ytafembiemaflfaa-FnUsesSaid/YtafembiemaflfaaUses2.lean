/-
  UsesOf, by the program (a clone, sorted, its runs cut to one) and by the reference. Conditions: the arguments read as data.
-/
import Derived.Test.YtafembiemaflfaaUses
import Derived.Test.YtafembiemaflfaaShelf
import Derived.Lib.OwnBridge
import Derived.Sort.OwnSortedInts
namespace Go.Proofs.Ytafembiemaflfaa
open Go.RowKit Go.ChangeShapes Go.WideShapes Go.Deep Go.Sort
set_option linter.unusedVariables false
set_option linter.unusedSimpArgs false

theorem asc_ext : ∀ (l l' : List Int), l.Pairwise (· < ·) → l'.Pairwise (· < ·) → (∀ x, x ∈ l ↔ x ∈ l') → l = l'
  | [], [], _, _, _ => rfl
  | [], b :: r, _, _, h => by have := (h b).2 (by simp); cases this
  | a :: r, [], _, _, h => by have := (h a).1 (by simp); cases this
  | a :: r, b :: r', h1, h2, h => by
    have h1' := List.pairwise_cons.1 h1
    have h2' := List.pairwise_cons.1 h2
    have hab : a = b := by
      have ha := (h a).1 (by simp)
      have hb := (h b).2 (by simp)
      rcases List.mem_cons.1 ha with rfl | ha
      · rfl
      · rcases List.mem_cons.1 hb with rfl | hb
        · rfl
        · have := h1'.1 b hb
          have := h2'.1 a ha
          omega
    subst hab
    have : r = r' := asc_ext r r' h1'.2 h2'.2 fun x => by
      constructor
      · intro hx
        have := h1'.1 x hx
        rcases List.mem_cons.1 ((h x).1 (by simp [hx])) with rfl | hy
        · omega
        · exact hy
      · intro hx
        have := h2'.1 x hx
        rcases List.mem_cons.1 ((h x).2 (by simp [hx])) with rfl | hy
        · omega
        · exact hy
    rw [this]
theorem insU_mem (l : List Int) (n x : Int) : x ∈ insU l n ↔ x = n ∨ x ∈ l := by
  induction l with
  | nil => simp [insU]
  | cons a r ih =>
    simp only [insU]
    split
    · simp only [List.mem_cons, ih]
      constructor
      · rintro (h | h | h) <;> simp [h]
      · rintro (h | h | h) <;> simp [h]
    · split
      · rename_i h
        subst h
        simp only [List.mem_cons]
        constructor
        · intro h; exact Or.inr h
        · rintro (h | h)
          · exact Or.inl h
          · exact h
      · simp only [List.mem_cons]
theorem insU_asc {l : List Int} (n : Int) (h : l.Pairwise (· < ·)) : (insU l n).Pairwise (· < ·) := by
  induction l with
  | nil => simp [insU]
  | cons a r ih =>
    have h' := List.pairwise_cons.1 h
    simp only [insU]
    split
    · rename_i hlt
      refine List.pairwise_cons.2 ⟨fun x hx => ?_, ih h'.2⟩
      rcases (insU_mem r n x).1 hx with rfl | hx
      · exact hlt
      · exact h'.1 x hx
    · split
      · exact h
      · refine List.pairwise_cons.2 ⟨fun x hx => ?_, h⟩
        rcases List.mem_cons.1 hx with rfl | hx
        · omega
        · have := h'.1 x hx
          omega
theorem foldU (l : List Int) : ∀ acc : List Int, acc.Pairwise (· < ·) → (l.foldl insU acc).Pairwise (· < ·) ∧ ∀ x, x ∈ l.foldl insU acc ↔ x ∈ acc ∨ x ∈ l := by
  induction l with
  | nil => intro acc h; exact ⟨h, fun x => by simp⟩
  | cons a r ih =>
    intro acc h
    obtain ⟨h1, h2⟩ := ih (insU acc a) (insU_asc a h)
    refine ⟨h1, fun x => ?_⟩
    rw [List.foldl_cons, h2 x, insU_mem]
    simp only [List.mem_cons]
    constructor
    · rintro ((h | h) | h) <;> simp [h]
    · rintro (h | h | h) <;> simp [h]
theorem usesOf_asc (l : List Int) : (usesOf l).Pairwise (· < ·) := (foldU l [] List.Pairwise.nil).1
theorem usesOf_mem (l : List Int) (x : Int) : x ∈ usesOf l ↔ x ∈ l := by
  have := (foldU l [] List.Pairwise.nil).2 x
  simpa [usesOf] using this
theorem compactUpTo_asc (d : Array Int) (hs : d.toList.Pairwise (· ≤ ·)) : ∀ m, m ≤ d.size → (Lib.compactUpTo d m).Pairwise (· < ·) ∧ (∀ x, x ∈ Lib.compactUpTo d m ↔ ∃ j, j < m ∧ d[j]! = x) := by
  have hle : ∀ i j : Nat, i ≤ j → j < d.size → d[i]! ≤ d[j]! := by
    intro i j hij hj
    rcases Nat.lt_or_ge i j with h | h
    · have := List.pairwise_iff_getElem.1 hs i j (by simp; omega) (by simpa using hj) h
      rw [getElem!_pos d i (by omega), getElem!_pos d j hj]
      simpa using this
    · have : i = j := by omega
      subst this
      exact Int.le_refl _
  intro m
  induction m with
  | zero => intro _; exact ⟨by simp [Lib.compactUpTo], fun x => by simp [Lib.compactUpTo]⟩
  | succ m ih =>
    intro hm
    obtain ⟨h1, h2⟩ := ih (by omega)
    rw [Lib.compactUpTo_succ]
    by_cases hk : Lib.keeps d m = true
    · rw [if_pos hk]
      have hk' : m = 0 ∨ d[m]! ≠ d[m - 1]! := by simpa [Lib.keeps] using hk
      refine ⟨List.pairwise_append.2 ⟨h1, by simp, fun x hx y hy => ?_⟩, fun x => ?_⟩
      · obtain ⟨j, hj, rfl⟩ := (h2 x).1 hx
        have hy' : y = d[m]! := by simpa using hy
        subst hy'
        have a1 := hle j (m - 1) (by omega) (by omega)
        have a2 := hle (m - 1) m (by omega) (by omega)
        rcases hk' with h | h
        · omega
        · omega
      · rw [List.mem_append, h2 x]
        constructor
        · rintro (⟨j, hj, rfl⟩ | h)
          · exact ⟨j, by omega, rfl⟩
          · exact ⟨m, by omega, (List.mem_singleton.1 h).symm⟩
        · rintro ⟨j, hj, rfl⟩
          rcases Nat.lt_or_ge j m with h | h
          · exact Or.inl ⟨j, h, rfl⟩
          · have : j = m := by omega
            subst this
            exact Or.inr (by simp)
    · rw [if_neg hk, List.append_nil]
      have hk' : ¬ (m = 0 ∨ d[m]! ≠ d[m - 1]!) := by simpa [Lib.keeps] using hk
      refine ⟨h1, fun x => ?_⟩
      rw [h2 x]
      constructor
      · rintro ⟨j, hj, rfl⟩
        exact ⟨j, by omega, rfl⟩
      · rintro ⟨j, hj, rfl⟩
        rcases Nat.lt_or_ge j m with h | h
        · exact ⟨j, h, rfl⟩
        · have : j = m := by omega
          subst this
          refine ⟨j - 1, by omega, ?_⟩
          have : d[j]! = d[j - 1]! := by
            by_cases e : d[j]! = d[j - 1]!
            · exact e
            · exact absurd (Or.inr e) hk'
          exact this.symm
/-- what the program makes is what the reference makes -/
theorem compact_sorted (l : List Int) : Lib.compact (l.mergeSort fun x y => decide (x ≤ y)) = usesOf l := by
  have hs : (l.mergeSort fun x y => decide (x ≤ y)).Pairwise (· ≤ ·) := by
    have := List.pairwise_mergeSort (le := fun x y : Int => decide (x ≤ y)) (fun a b c h1 h2 => by simp at h1 h2 ⊢; omega) (fun a b => by simp; omega) l
    exact this.imp (fun h => by simpa using h)
  obtain ⟨h1, h2⟩ := compactUpTo_asc (l.mergeSort fun x y => decide (x ≤ y)).toArray (by simpa using hs) (l.mergeSort fun x y => decide (x ≤ y)).length (by simp)
  refine asc_ext _ _ h1 (usesOf_asc l) fun x => ?_
  rw [usesOf_mem]
  show x ∈ Lib.compactUpTo _ _ ↔ _
  rw [h2 x, ← List.mem_mergeSort (le := fun x y : Int => decide (x ≤ y)), List.mem_iff_getElem]
  constructor
  · rintro ⟨j, hj, rfl⟩
    exact ⟨j, hj, by rw [getElem!_pos _ j (by simpa using hj)]; simp⟩
  · rintro ⟨j, hj, rfl⟩
    exact ⟨j, hj, by rw [getElem!_pos _ j (by simpa using hj)]; simp⟩

theorem impl_once (l : List Int) (v : Value) (w : World) (lo B : Nat) (hB : B ≤ w.heap.size) (hN : l.length ≤ 1048576) (hv : Sl false (intS false) w lo B l v) :
    Calls Try.prog 37 #[v] w (ToSP (fun m => intS m) (usesOf l) w) := by
  have hI : ∀ x ∈ usesOf l, I64 x := fun x hx => by
    obtain ⟨j, hj⟩ := List.getElem?_of_mem ((usesOf_mem l x).1 hx)
    obtain ⟨A, cap, rfl, _, _, h3⟩ := hv
    obtain ⟨b, o, _, _, _, _, hc⟩ := h3 (List.ne_nil_of_mem ((usesOf_mem l x).1 hx))
    obtain ⟨cs, hr, _⟩ := hc j x hj
    exact (int_rep hr).2
  have hI := Lib.hid hI
  have hcl : ∃ A cap, v = .slice A l.length cap ∧ l.length ≤ cap ∧ Calls Try.prog 56 #[.slice A l.length cap] w fun e w' => ∃ v', e = .returned v' ∧ w'.ownsRow w.heap.size 3 1 v' l.length (l.map (Value.int .i64)) ∧ Below w.heap.size w w' := by
    obtain ⟨A, cap, rfl, h1, h2, h3⟩ := hv
    have hv : Sl false (intS false) w lo B l (.slice A l.length cap) := ⟨A, cap, rfl, h1, h2, h3⟩
    refine ⟨A, cap, rfl, h1, ?_⟩
    by_cases hl : l = []
    · subst hl
      cases A with
      | none => exact (Try.slices_Clone_int_nil 0 cap w).mono fun e w' ⟨he, hw⟩ => ⟨_, he, by subst hw; exact own_nil _ _ _, by subst hw; exact Below.refl _ _⟩
      | some a => exact (Try.slices_Clone_int_zero a cap w).mono fun e w' ⟨v', he, ho, _, hb⟩ => ⟨v', he, ho, hb⟩
    · obtain ⟨b, o, rfl, _⟩ := h3 hl
      refine (Try.slices_Clone_int b o l.length cap l w (Nat.le_refl _) (by omega) (fun j hj => ?_)).mono fun e w' ⟨v', he, ho, _, hb⟩ => ⟨v', he, by simpa using ho, hb⟩
      have := (hv.cellI (List.getElem?_eq_getElem hj)).2.1
      rw [this]
      simp [List.getD, List.getElem?_eq_getElem hj]
  obtain ⟨A, cap, rfl, hcap, hcl⟩ := hcl
  go_enter Try.func37, Try.ntmps37
  go_wp2_with fail
  refine hcl.mono ?_
  rintro e w1 ⟨v', rfl, hown, b1⟩
  by_cases hvn : v' = .slice none 0 0
  · subst hvn
    have hl : l = [] := by
      rcases hown.2 with ⟨_, h⟩ | ⟨g, cap', cur, h, _⟩
      · exact List.eq_nil_of_length_eq_zero h
      · cases h
    subst hl
    go_wp2_with fail
    refine (Try.slices_Sort_int_none none 0 _).mono ?_
    rintro e w2 ⟨rfl, rfl⟩
    go_wp2_with fail
    refine (Try.slices_Compact_int_empty none 0 _).mono ?_
    rintro e w3 ⟨rfl, rfl⟩
    go_wp2_with fail
    go_ret
    exact ⟨_, rfl, fun m => Sl.nil_ _ _ _ _ _, b1⟩
  · obtain ⟨g, cap', rfl, hg, hgl, hn, hm, _, hH⟩ := Lib.holds_of_ownsRow hown hvn
    clear hvn
    have HS : Hid ((l.mergeSort fun x y => decide (x ≤ y)).length = l.length) := (show _ = _ by simp)
    have HC : Hid (Lib.compact (l.mergeSort fun x y => decide (x ≤ y)) = usesOf l) := compact_sorted l
    go_wp2_with fail
    refine (Try.slices_Sort_int g 0 cap' l _ hH hgl (by omega)).mono ?_
    rintro e w2 ⟨rfl, n, os, hw2⟩
    have hown2 : w2.ownsRow w.heap.size 3 1 (.slice (some ⟨g, 0, none⟩) l.length cap') l.length ((l.mergeSort fun x y => decide (x ≤ y)).map (Value.int .i64)) := by
      rcases hown.2 with ⟨h, _⟩ | ⟨g', cap'', cur, h, h2, h3, h4, h5, h6, h7⟩
      · cases h
      · injection h with h _ hc
        injection h with h
        injection h with h
        subst h hc
        rw [hw2]
        exact ownsRow_sortedI (by simp) h2 h3 h4 h5 h6
    have b2 : Below w.heap.size w w2 := b1.grown (row := some g) (by rw [hw2]; exact grownBy_sortedI _) b1.size (fun q hq => by injection hq with hq; omega)
    clear hw2 hown hH
    obtain ⟨g2, c2, hv2, _, hgl2, _, _, _, hH2⟩ := Lib.holds_of_ownsRow hown2 (fun h => by cases h)
    injection hv2 with e1 _ e3
    injection e1 with e1
    injection e1 with e1
    subst e1 e3
    go_wp2_with fail
    have hC := Try.slices_Compact_int g 0 cap' (l.mergeSort fun x y => decide (x ≤ y)) w2 hH2 (by rw [HS.out]; omega) (by rw [HS.out]; omega)
    rw [HS.out, HC.out] at hC
    refine hC.mono ?_
    rintro e w3 ⟨rfl, q, hw3⟩
    have hul := usesOf_len l
    have hown3 : w3.ownsRow w.heap.size 3 1 (.slice (some ⟨g, 0, none⟩) (usesOf l).length cap') (usesOf l).length ((usesOf l).map (Value.int .i64)) := by
      have h1 := Lib.ownsRow_putRow (q := q) (ys := usesOf l ++ List.replicate (l.length - (usesOf l).length) 0) (k := (usesOf l).length) hown2 (by simp; omega) hul
      rw [hw3]
      simpa using h1
    have b3 : Below w.heap.size w w3 := by rw [hw3]; exact Lib.below_putRow b2 hg
    clear hw3 hown2 hC hH2
    go_wp2_with fail
    go_ret
    exact ⟨_, rfl, fun m => Sl.of_own hown3 hI.out (Nat.le_refl _) m, b3⟩

theorem impl_UsesOf (op to : Int) (args : List Int) (v2 : Value) (n : Int) (w : World) (lo B : Nat) (hB : B ≤ w.heap.size) (hN : args.length ≤ 1048576) (h2 : Sl false (intS false) w lo B args v2) :
    Calls Try.prog 19 #[.agg #[.int .i64 op, .int .i64 to, v2, .int .i64 n]] w (ToSP (fun m => intS m) (usesOf args) w) := by
  obtain ⟨A, p, hf, _, _⟩ := h2.form
  subst hf
  have hb0 : Below w.heap.size w (w.alloc (.cells #[.int .i64 op, .int .i64 to, .slice A args.length p, .int .i64 n] 44)) := (Below.refl _ _).alloc (Nat.le_refl _) _
  go_enter Try.func19, Try.ntmps19
  go_wp2_with fail
  refine (impl_once args _ _ lo B (Nat.le_trans hB hb0.size) hN (h2.below hb0 hB)).mono ?_
  rintro e w1 ⟨v, rfl, hv, b1⟩
  go_wp2_with fail
  go_ret
  exact ⟨_, rfl, fun m => (hv m).more hb0.size (Nat.le_refl _), hb0.trans (b1.mono hb0.size)⟩

/-- the reference's answer -/
def RefS (l : List Int) (w : World) (e : Ending) (w' : World) : Prop := ∃ v : Value, e = .returned v ∧ Sl false (intS false) w' w.heap.size w'.heap.size l v ∧ Below w.heap.size w w'
set_option maxRecDepth 100000 in
theorem spec_UsesOf (op to : Int) (args : List Int) (v2 : Value) (n : Int) (w : World) (lo B : Nat) (hB : B ≤ w.heap.size) (hN : args.length ≤ 1048576) (h2 : Sl false (intS false) w lo B args v2) :
    Calls Try.prog 22 #[.agg #[.int .i64 op, .int .i64 to, v2, .int .i64 n]] w (RefS (usesOf args) w) := by
  obtain ⟨A, p, hf, hl1, hl2⟩ := h2.form
  subst hf
  have hb0 : Below w.heap.size w ((w.alloc (.cells #[.int .i64 op, .int .i64 to, .slice A args.length p, .int .i64 n] 44)).alloc (.cells #[] 3)) := ((Below.refl _ _).alloc (Nat.le_refl _) _).alloc (by simp) _
  have P0 : Row ((w.alloc (.cells #[.int .i64 op, .int .i64 to, .slice A args.length p, .int .i64 n] 44)).alloc (.cells #[] 3)) w.heap.size 44 #[.int .i64 op, .int .i64 to, .slice A args.length p, .int .i64 n] := (Row.new w _ _).alloc _
  go_enter Try.func22, Try.ntmps22
  go_wp2_with fail
  go_loopw [3, 4] (fun v i wr => ∃ (k b o cap : Nat) (acc : List Int), k ≤ args.length ∧ i = .int .i64 k ∧ v = .slice (some ⟨b, o, none⟩) acc.length cap ∧ Hid (usesOf args = (args.drop k).foldl insU acc) ∧ acc.length ≤ k ∧ Sl false (intS false) wr w.heap.size wr.heap.size acc (.slice (some ⟨b, o, none⟩) acc.length cap) ∧ Row wr w.heap.size 44 #[.int .i64 op, .int .i64 to, .slice A args.length p, .int .i64 n] ∧ Below w.heap.size w wr) (fun _ i _ => args.length - (intOf i).toNat)
  case atStart => exact ⟨0, _, _, _, [], by omega, rfl, rfl, (show _ = _ from rfl), by simp, ⟨_, 0, rfl, by simp, by simp [maxLen], fun h => absurd rfl h⟩, P0, hb0⟩
  case round =>
    obtain ⟨k, b, o, cap, acc, hk, rfl, rfl, HT, hacc, hs, P, hb⟩ := hrel
    have hsz := hb.size
    have y0 : wr.cell? ⟨w.heap.size, 2, none⟩ = some (.slice A args.length p) := P.cell 2
    by_cases hkl : k < args.length
    · obtain ⟨f, q, a, rfl, _, _, HL, ha, c0⟩ := int_get (h2.below hb hB) hkl
      have hkn : (k : Int) < (args.length : Int) := by omega
      have hki : (0 : Int) ≤ (k : Int) := by omega
      have E : Hid (usesOf args = (args.drop (k + 1)).foldl insU (insU acc a)) := by
        have h1 := HT.out
        rw [drop_cons hkl HL.out, List.foldl_cons] at h1
        exact h1
      clear HT
      have hil := insU_len acc a
      go_wp2_with fail
      refine (spec_l7Insert acc b o cap a _ w.heap.size wr.heap.size (Nat.le_refl _) hsz (by omega) ha hs).mono ?_
      rintro e w1 ⟨b1, o1, cap1, rfl, hs1, x1⟩
      go_wp2_with fail
      go_roundw
      case rel => exact ⟨k + 1, b1, o1, cap1, insU acc a, by omega, by go_num, rfl, E, by omega, hs1, P.below x1 P.lt, hb.trans (x1.mono hsz)⟩
      case measure => simp [intOf]; omega
    · have E : Hid (usesOf args = acc) := by
        have h1 := HT.out
        rw [List.drop_eq_nil_of_le (by omega)] at h1
        exact h1
      clear HT
      go_wp2_with fail
      go_ret
      exact ⟨_, rfl, by rw [E.out]; exact hs, hb⟩
end Go.Proofs.Ytafembiemaflfaa
