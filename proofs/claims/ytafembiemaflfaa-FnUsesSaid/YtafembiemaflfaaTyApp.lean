/-
  append onto a slice in memory that goes by types. Condition: few elements.
-/
import Derived.Test.YtafembiemaflfaaTy
namespace Go.Proofs.Ytafembiemaflfaa
open Go.RowKit Go.ChangeShapes Go.WideShapes Go.Deep
variable {D : Nat}
set_option linter.unusedVariables false
set_option linter.unusedSimpArgs false
theorem mid_get {α : Type} (L news : List α) (k j : Nat) (h : k + news.length ≤ L.length) : (L.take k ++ news ++ L.drop (k + news.length))[j]? = if j < k then L[j]? else if j < k + news.length then news[j - k]? else L[j]? := by
  have hk : (L.take k).length = k := by rw [List.length_take]; omega
  by_cases h1 : j < k
  · rw [if_pos h1, List.append_assoc, List.getElem?_append_left (by omega), List.getElem?_take_of_lt h1]
  · rw [if_neg h1]
    by_cases h2 : j < k + news.length
    · rw [if_pos h2, List.append_assoc, List.getElem?_append_right (by omega), hk, List.getElem?_append_left (by omega)]
    · rw [if_neg h2, List.getElem?_append_right (by rw [List.length_append]; omega), List.getElem?_drop, List.length_append, hk]
      congr 1
      omega
/-- one element more at the end of a slice of its kind -/
theorem run_append_ty2 {P : Program} (w : World) (t ty e : TypeId) (i : TypeInfo) (z : Value) (size bytes N lo : Nat) (Pp : Nat → Value → Prop) (ht : P.underlying t = some (.slice e)) (hi : P.info? e = some i) (hz : i.zero = some z)
    (hsize : i.size = size) (hby : i.bytes = bytes) (hzs : z.cells.size = size) (hsz : 0 < size) (A : Option Addr) (n cap : Nat) (h : TyS e size N lo w Pp (.slice A n cap))
    (a : Addr) (c : Nat) (news : List Value) (hl : news.length = size) (hnews : ∀ j u, news[j]? = some u → w.cell? (a.add j) = some u) (h1 : ∀ u ∈ news, u.oneCell' = true)
    (hP : ∀ j u, news[j]? = some u → Pp (n * size + j) u ∧ OK D lo w e (n * size + j) u) (hN : n + 1 ≤ N) (hN2 : n + 1 ≤ 1000) (hbytes : 1000 * bytes ≤ 140737488355328) (hlo : lo ≤ w.heap.size) :
    ∃ (A' : Option Addr) (cap' : Nat) (w' : World), (Builtin.append_ #[t, t] ty #[.slice A n cap, .slice (some a) 1 c]).run P w = .ok (.slice A' (n + 1) cap') w' ∧ TyS e size N lo w' Pp (.slice A' (n + 1) cap') ∧ Chg D lo w w' ∧ ∃ r : Option Nat, w.grownBy w' r ∧ (∀ b, r = some b → lo ≤ b ∧ ∃ cur, Row w b e cur) ∧ ∀ b, r = some b → A = some ⟨b, 0, none⟩ ∧ 0 < cap := by
  subst hsize
  subst hby
  have hb1 : (n + 1) * i.bytes ≤ 140737488355328 := Nat.le_trans (Nat.mul_le_mul_right _ (by omega)) hbytes
  have grown : ∀ (xs : List Value) (old : Nat), xs.length = n * i.size → (∀ j u, xs[j]? = some u → Pp j u) → old < n + 1 →
      TyS e i.size N lo (w.drew.alloc (.cells (xs.toArray ++ news.toArray ++ Builtin.zeroCells z.cells (grownCap w (n + 1) old e - (n + 1))) e)) Pp (.slice (some ⟨w.heap.size, 0, none⟩) (n + 1) (grownCap w (n + 1) old e)) ∧
      Chg D lo w (w.drew.alloc (.cells (xs.toArray ++ news.toArray ++ Builtin.zeroCells z.cells (grownCap w (n + 1) old e - (n + 1))) e)) ∧
      ∃ r : Option Nat, w.grownBy (w.drew.alloc (.cells (xs.toArray ++ news.toArray ++ Builtin.zeroCells z.cells (grownCap w (n + 1) old e - (n + 1))) e)) r ∧ (∀ b, r = some b → lo ≤ b ∧ ∃ cur, Row w b e cur) ∧ ∀ b, r = some b → A = some ⟨b, 0, none⟩ ∧ 0 < cap := by
    intro xs old hx hxP ho
    have hge := grownCap_ge w (n + 1) old e
    have hBel : Below w.heap.size w (w.drew.alloc (.cells (xs.toArray ++ news.toArray ++ Builtin.zeroCells z.cells (grownCap w (n + 1) old e - (n + 1))) e)) := ((Below.refl _ w).drew).alloc (Nat.le_refl _) _
    have hcm : grownCap w (n + 1) old e ≤ maxLen := grownCap_le_maxLen w (n + 1) old e (by unfold maxLen; omega)
    refine ⟨⟨_, _, _, rfl, hN, hge, hcm, fun _ => ⟨w.heap.size, _, rfl, hlo, heap_alloc_new w.drew _, ?_, fun j hj => ?_⟩⟩, Chg.below hBel, none, ⟨rfl, rfl, rfl, by simp, fun k hk _ => hBel.block k hk⟩, (fun b hb => by cases hb), fun b hb => by cases hb⟩
    · simp only [Array.size_append, List.size_toArray, size_zeroCells, hzs, hx, hl]
      rw [show n * i.size + i.size = (n + 1) * i.size by rw [Nat.add_mul, Nat.one_mul], ← Nat.add_mul]
      congr 1
      omega
    · rw [Nat.add_mul, Nat.one_mul] at hj
      by_cases hjn : j < n * i.size
      · obtain ⟨u, hu⟩ : ∃ u, xs[j]? = some u := ⟨_, List.getElem?_eq_getElem (by omega)⟩
        refine ⟨u, ?_, hxP j u hu⟩
        rw [Array.append_assoc, Array.getElem?_append_left (by simp; omega)]
        simpa using hu
      · obtain ⟨u, hu⟩ : ∃ u, news[j - n * i.size]? = some u := ⟨_, List.getElem?_eq_getElem (by omega)⟩
        have hp := (hP _ u hu).1
        rw [show n * i.size + (j - n * i.size) = j by omega] at hp
        refine ⟨u, ?_, hp⟩
        rw [Array.getElem?_append_left (by simp; omega), Array.getElem?_append_right (by simp; omega)]
        simpa [hx] using hu
  obtain ⟨A1, n1, cap1, e1, k1, k2, k3, k4⟩ := h
  injection e1 with e1 e2 e3
  subst e1
  subst e2
  subst e3
  by_cases hc0 : cap = 0
  · subst hc0
    obtain rfl : n = 0 := by omega
    have hg := grown [] 0 (by simp) (fun j u hu => by simp at hu) (by omega)
    cases A with
    | none =>
      have hr := run_append_nil (P := P) w t ty e i z ht hi hz a 1 c news (by omega) hnews (by omega) (by omega) (by omega)
      simp only [Nat.zero_add, List.nil_append, Array.empty_append] at hg ⊢
      exact ⟨_, _, _, hr, hg⟩
    | some b =>
      have hr := run_append_grow (P := P) w t ty e i z ht hi hz b 0 0 [] (by simp) (fun j v hv => by simp at hv) a 1 c news (by omega) hnews (by omega) (by omega) (growslice_fits (by omega) hb1)
      exact ⟨_, _, _, hr, hg⟩
  · obtain ⟨b, cur, rfl, hb, R, hcs, hcells⟩ := k4 (by omega)
    have hxl : (cur.toList.take (n * i.size)).length = n * i.size := by
      rw [List.length_take, Array.length_toList, hcs]
      have := Nat.mul_le_mul_right i.size k2
      omega
    by_cases hroom : n + 1 ≤ cap
    · have hfit : n * i.size + news.length ≤ cur.size := by
        have := Nat.mul_le_mul_right i.size hroom
        rw [Nat.add_mul, Nat.one_mul] at this
        omega
      have hr := run_append_room (P := P) w t ty e i ht hi b n cap cur R a 1 c news (by omega) hnews h1 hroom hfit
      have hget := fun j => mid_get cur.toList news (n * i.size) j (by rw [Array.length_toList]; exact hfit)
      obtain ⟨L, hLe⟩ : ∃ L, L = cur.toList.take (n * i.size) ++ news ++ cur.toList.drop (n * i.size + news.length) := ⟨_, rfl⟩
      rw [← hLe] at hr
      have R' : Row (w.setRow b L.toArray) b e L.toArray := setRow_heap w b cur _ e _ R
      have hLs : L.length = cur.size := by
        have q1 : L.length = n * i.size + news.length + (cur.size - (n * i.size + news.length)) := by
          rw [hLe, List.length_append, List.length_append, hxl, List.length_drop, show cur.toList.length = cur.size from Array.length_toList]
        omega
      have hcell : ∀ j u, cur[j]? = some u → ∃ u', L[j]? = some u' ∧ (u' = u ∨ (n * i.size ≤ j ∧ news[j - n * i.size]? = some u')) := by
        intro j u hu
        have hu' : cur.toList[j]? = some u := by simpa using hu
        rw [hLe, hget j]
        by_cases q1 : j < n * i.size
        · rw [if_pos q1]
          exact ⟨u, hu', Or.inl rfl⟩
        · rw [if_neg q1]
          by_cases q2 : j < n * i.size + news.length
          · rw [if_pos q2]
            exact ⟨_, List.getElem?_eq_getElem (by omega), Or.inr ⟨by omega, List.getElem?_eq_getElem (by omega)⟩⟩
          · rw [if_neg q2]
            exact ⟨u, hu', Or.inl rfl⟩
      refine ⟨_, _, _, hr, ⟨_, _, _, rfl, hN, hroom, k3, fun _ => ⟨b, L.toArray, rfl, hb, R', by simp [hLs, hcs], fun j hj => ?_⟩⟩, fun b' t' cur' hb' Rb => ?_, some b, ⟨rfl, rfl, rfl, by simp, fun k _ hk => setRow_other w b k _ (fun e => hk (by rw [e]))⟩, (fun b' hb' => by injection hb' with hb'; subst hb'; exact ⟨hb, cur, R⟩), fun b' hb' => by injection hb' with hb'; subst hb'; exact ⟨rfl, by omega⟩⟩
      · rw [Nat.add_mul, Nat.one_mul] at hj
        by_cases hjn : j < n * i.size
        · obtain ⟨u, hu, hp⟩ := hcells j hjn
          refine ⟨u, ?_, hp⟩
          have hu' : cur.toList[j]? = some u := by simpa using hu
          rw [List.getElem?_toArray, hLe, hget j, if_pos hjn]
          exact hu'
        · obtain ⟨u, hu⟩ : ∃ u, news[j - n * i.size]? = some u := ⟨_, List.getElem?_eq_getElem (by omega)⟩
          have hp := (hP _ u hu).1
          rw [show n * i.size + (j - n * i.size) = j by omega] at hp
          refine ⟨u, ?_, hp⟩
          rw [List.getElem?_toArray, hLe, hget j, if_neg hjn, if_pos (by omega)]
          exact hu
      · by_cases q : b' = b
        · subst q
          have e2 := R.symm.trans Rb
          injection e2 with e2
          injection e2 with e2 e3
          subst e2
          subst e3
          refine ⟨_, R', by simp [hLs], fun j u hu => ?_⟩
          obtain ⟨u', hu', hq⟩ := hcell j u hu
          refine ⟨u', by rw [List.getElem?_toArray]; exact hu', ?_⟩
          rcases hq with hq | ⟨hq1, hq2⟩
          · exact Or.inl hq
          · have := (hP _ u' hq2).2
            rw [show n * i.size + (j - n * i.size) = j by omega] at this
            exact Or.inr this
        · exact ⟨cur', (setRow_other w b b' _ q).trans Rb, rfl, fun j u hu => ⟨u, hu, Or.inl rfl⟩⟩
    · have holds : ∀ j u, (cur.toList.take (n * i.size))[j]? = some u → w.cell? ((⟨b, 0, none⟩ : Addr).add j) = some u := by
        intro j u hu
        have hj : j < n * i.size := by
          have := (List.getElem?_eq_some_iff.1 hu).1
          omega
        rw [List.getElem?_take_of_lt hj] at hu
        have := R.cell j
        rw [show (⟨b, 0, none⟩ : Addr).add j = ⟨b, j, none⟩ by by_cases hj0 : j = 0 <;> simp [Addr.add, hj0], this]
        simpa using hu
      have hr := run_append_grow (P := P) w t ty e i z ht hi hz ⟨b, 0, none⟩ n cap _ hxl holds a 1 c news (by omega) hnews (by omega) (by omega) (growslice_fits (by omega) hb1)
      have hg := grown (cur.toList.take (n * i.size)) cap hxl (fun j u hu => ?_) (by omega)
      · exact ⟨_, _, _, hr, hg⟩
      · have hj : j < n * i.size := by
          have := (List.getElem?_eq_some_iff.1 hu).1
          omega
        obtain ⟨u', hu', hp⟩ := hcells j hj
        rw [List.getElem?_take_of_lt hj] at hu
        have : cur[j]? = some u := by simpa using hu
        rw [this] at hu'
        injection hu' with hu'
        rw [hu']
        exact hp
/-- .. without the block's name -/
theorem run_append_ty {P : Program} (w : World) (t ty e : TypeId) (i : TypeInfo) (z : Value) (size bytes N lo : Nat) (Pp : Nat → Value → Prop) (ht : P.underlying t = some (.slice e)) (hi : P.info? e = some i) (hz : i.zero = some z)
    (hsize : i.size = size) (hby : i.bytes = bytes) (hzs : z.cells.size = size) (hsz : 0 < size) (A : Option Addr) (n cap : Nat) (h : TyS e size N lo w Pp (.slice A n cap))
    (a : Addr) (c : Nat) (news : List Value) (hl : news.length = size) (hnews : ∀ j u, news[j]? = some u → w.cell? (a.add j) = some u) (h1 : ∀ u ∈ news, u.oneCell' = true)
    (hP : ∀ j u, news[j]? = some u → Pp (n * size + j) u ∧ OK D lo w e (n * size + j) u) (hN : n + 1 ≤ N) (hN2 : n + 1 ≤ 1000) (hbytes : 1000 * bytes ≤ 140737488355328) (hlo : lo ≤ w.heap.size) :
    ∃ (A' : Option Addr) (cap' : Nat) (w' : World), (Builtin.append_ #[t, t] ty #[.slice A n cap, .slice (some a) 1 c]).run P w = .ok (.slice A' (n + 1) cap') w' ∧ TyS e size N lo w' Pp (.slice A' (n + 1) cap') ∧ Chg D lo w w' ∧ ∃ r : Option Nat, w.grownBy w' r ∧ ∀ b, r = some b → lo ≤ b ∧ ∃ cur, Row w b e cur := by
  obtain ⟨A', cap', w', h1', h2', h3', r, g, hr, _⟩ := run_append_ty2 (D := D) (P := P) w t ty e i z size bytes N lo Pp ht hi hz hsize hby hzs hsz A n cap h a c news hl hnews h1 hP hN hN2 hbytes hlo
  exact ⟨A', cap', w', h1', h2', h3', r, g, hr⟩
end Go.Proofs.Ytafembiemaflfaa
