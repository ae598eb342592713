/-
  Helpers of the copies of units: a list of numbers appended to an empty slice; rows of phis and of instructions; five cells written. Condition: few elements.
-/
import Derived.Test.YtafembiemaflfaaDrU5
import Derived.Deep.MidRow
namespace Go.Proofs.Ytafembiemaflfaa
open Go.RowKit Go.ChangeShapes Go.WideShapes Go.Deep
variable {D : Nat}
set_option linter.unusedVariables false
set_option linter.unusedSimpArgs false
theorem reg_call3 {P : Program} {ops : Array Oper} {Q : Exit → Act → World → Prop} {md : Region.Mode} {S : World → Prop} {fuel : Nat} {listed : Array Bool} {a : Act} {w : World} {i j k : Nat} {o o' o'' : Oper} (hr : Region.ready md ops listed = [i, j, k]) (ho : ops.toList[i]? = some o) (ho' : ops.toList[j]? = some o') (ho'' : ops.toList[k]? = some o'')
    (h : ∀ K' : Act → World → Prop, Shut (∀ a w, S w → (S w → wpAnyH P md ops Q S fuel (listed.setIfInBounds i true) a w) → K' a w) → if Region.wanted o (yielded ops a.tmps) = true then Oper.wp P o a w K' Q else K' (a.put o.dst undef) w)
    (h' : ∀ K' : Act → World → Prop, Shut (∀ a w, S w → (S w → wpAnyH P md ops Q S fuel (listed.setIfInBounds j true) a w) → K' a w) → if Region.wanted o' (yielded ops a.tmps) = true then Oper.wp P o' a w K' Q else K' (a.put o'.dst undef) w)
    (h'' : ∀ K' : Act → World → Prop, Shut (∀ a w, S w → (S w → wpAnyH P md ops Q S fuel (listed.setIfInBounds k true) a w) → K' a w) → if Region.wanted o'' (yielded ops a.tmps) = true then Oper.wp P o'' a w K' Q else K' (a.put o''.dst undef) w) : wpAnyH P md ops Q S (fuel + 1) listed a w :=
  wpAnyH_ready hr (by simp) (AllReadyH.cons (by simpa using ho) h (AllReadyH.cons (by simpa using ho') h' (AllReadyH.cons (by simpa using ho'') h'' AllReadyH.nil)))
theorem reg_call4 {P : Program} {ops : Array Oper} {Q : Exit → Act → World → Prop} {md : Region.Mode} {S : World → Prop} {fuel : Nat} {listed : Array Bool} {a : Act} {w : World} {i j k l : Nat} {o o' o'' o3 : Oper} (hr : Region.ready md ops listed = [i, j, k, l]) (ho : ops.toList[i]? = some o) (ho' : ops.toList[j]? = some o') (ho'' : ops.toList[k]? = some o'') (ho3 : ops.toList[l]? = some o3)
    (h : ∀ K' : Act → World → Prop, Shut (∀ a w, S w → (S w → wpAnyH P md ops Q S fuel (listed.setIfInBounds i true) a w) → K' a w) → if Region.wanted o (yielded ops a.tmps) = true then Oper.wp P o a w K' Q else K' (a.put o.dst undef) w)
    (h' : ∀ K' : Act → World → Prop, Shut (∀ a w, S w → (S w → wpAnyH P md ops Q S fuel (listed.setIfInBounds j true) a w) → K' a w) → if Region.wanted o' (yielded ops a.tmps) = true then Oper.wp P o' a w K' Q else K' (a.put o'.dst undef) w)
    (h'' : ∀ K' : Act → World → Prop, Shut (∀ a w, S w → (S w → wpAnyH P md ops Q S fuel (listed.setIfInBounds k true) a w) → K' a w) → if Region.wanted o'' (yielded ops a.tmps) = true then Oper.wp P o'' a w K' Q else K' (a.put o''.dst undef) w)
    (h3 : ∀ K' : Act → World → Prop, Shut (∀ a w, S w → (S w → wpAnyH P md ops Q S fuel (listed.setIfInBounds l true) a w) → K' a w) → if Region.wanted o3 (yielded ops a.tmps) = true then Oper.wp P o3 a w K' Q else K' (a.put o3.dst undef) w) : wpAnyH P md ops Q S (fuel + 1) listed a w :=
  wpAnyH_ready hr (by simp) (AllReadyH.cons (by simpa using ho) h (AllReadyH.cons (by simpa using ho') h' (AllReadyH.cons (by simpa using ho'') h'' (AllReadyH.cons (by simpa using ho3) h3 AllReadyH.nil))))
theorem grown_below {B : Nat} {w0 w w' : World} {r : Option Nat} (h : Below B w0 w) (hB : B ≤ w.heap.size) (g : w.grownBy w' r) (hr : ∀ b, r = some b → B ≤ b) : Below B w0 w' :=
  h.trans ⟨g.os, g.tape, g.output, g.size, fun k hk => g.block k (by omega) (fun e => by have := hr k e.symm; omega)⟩
theorem TyS.empty (t : TypeId) (size N lo : Nat) (w : World) (P : Nat → Value → Prop) (A : Option Addr) : TyS t size N lo w P (.slice A 0 0) := ⟨A, 0, 0, rfl, by omega, by omega, by simp [maxLen], fun h => absurd h (by omega)⟩
theorem TyPhis.empty (lo : Nat) (w : World) (A : Option Addr) : TyPhis D lo w (.slice A 0 0) := TyS.empty _ _ _ _ _ _ _
theorem TyInss.empty (lo : Nat) (w : World) (A : Option Addr) : TyInss D lo w (.slice A 0 0) := TyS.empty _ _ _ _ _ _ _
theorem TyI.empty (lo : Nat) (w : World) (A : Option Addr) : TyI D lo w (.slice A 0 0) := TyS.empty _ _ _ _ _ _ _
/-- a list of numbers appended to an empty slice: a new row -/
theorem append_ints (w : World) (lo lo2 : Nat) (a : Addr) (A : Option Addr) (n c : Nat) (h : TyI D lo w (.slice A n c)) (hlo2 : lo2 ≤ w.heap.size) (hD : D ≤ 100) :
    ∃ (A' : Option Addr) (n' c' : Nat) (w' : World), (Builtin.append_ #[28, 28] 28 #[.slice (some a) 0 0, .slice A n c]).run Try.prog w = .ok (.slice A' n' c') w' ∧ TyI D lo2 w' (.slice A' n' c') ∧ Below w.heap.size w w' := by
  obtain ⟨i0, hi, hz0, hz1, hz2⟩ := info_parts Try.info_int
  obtain ⟨A1, n1, c1, e1, k1, k2, k3, k4⟩ := h
  injection e1 with e1 e2 e3
  subst e1
  subst e2
  subst e3
  by_cases hn : n = 0
  · subst hn
    refine ⟨some a, 0, 0, w, ?_, TyI.empty _ _ _, Below.refl _ _⟩
    cases A with
    | none => simp [Builtin.append_, run_underlying Try.underlying28, sizeOf, typeInfo, hi, Builtin.lenOf, Builtin.firstCells, loadCells, loadCellsFrom, storeCells]
    | some p => simp [Builtin.append_, run_underlying Try.underlying28, sizeOf, typeInfo, hi, Builtin.lenOf, Builtin.firstCells, loadCells, loadCellsFrom, storeCells]
  · obtain ⟨b, cur, rfl, hb, R, hs, hc⟩ := k4 (by omega)
    have hxl : (cur.toList.take n).length = n := by
      rw [List.length_take, Array.length_toList, hs]
      omega
    have hnews : ∀ j u, (cur.toList.take n)[j]? = some u → w.cell? ((⟨b, 0, none⟩ : Addr).add j) = some u := by
      intro j u hu
      have hj : j < n := by
        have := (List.getElem?_eq_some_iff.1 hu).1
        omega
      rw [List.getElem?_take_of_lt hj] at hu
      have := R.cell j
      rw [show (⟨b, 0, none⟩ : Addr).add j = ⟨b, j, none⟩ by by_cases hj0 : j = 0 <;> simp [Addr.add, hj0], this]
      simpa using hu
    have hr := run_append_grow (P := Try.prog) w 28 28 3 i0 (.int .i64 0) Try.underlying28 hi hz0 a 0 0 [] (by simp) (fun j v hv => by simp at hv) ⟨b, 0, none⟩ n c (cur.toList.take n) (by rw [hz1]; omega) hnews (by omega) (by omega) (growslice_fits (by omega) (by rw [hz2]; omega))
    have hge := grownCap_ge w (0 + n) 0 3
    have hcm : grownCap w (0 + n) 0 3 ≤ maxLen := grownCap_le_maxLen w (0 + n) 0 3 (by unfold maxLen; omega)
    refine ⟨_, _, _, _, hr, ?_, ((Below.refl _ w).drew).alloc (Nat.le_refl _) _⟩
    refine ⟨_, _, _, rfl, by omega, hge, hcm, fun _ => ⟨w.heap.size, _, rfl, hlo2, heap_alloc_new w.drew _, ?_, fun j hj => ?_⟩⟩
    · simp only [Array.size_append, List.size_toArray, size_zeroCells, hxl]
      rw [show (Value.cells (.int .i64 0)).size = 1 from rfl]
      simp only [List.length_nil]
      omega
    · have hj' : j < n := by omega
      obtain ⟨u, hu, hp⟩ := hc j (by omega)
      refine ⟨u, ?_, hp⟩
      have hu' : cur.toList[j]? = some u := by simpa using hu
      rw [Array.getElem?_append_left (by simp; omega)]
      simp only [List.nil_append, Array.empty_append, List.getElem?_toArray]
      first | (rw [List.getElem?_take_of_lt hj']; exact hu') | (simp [List.getElem?_take_of_lt hj']; exact hu)
/-- an instruction appended: which row it can be written in -/
theorem append_ins2 (w : World) (lo : Nat) (A : Option Addr) (j c : Nat) (h : TyInss D lo w (.slice A j c)) (op : Int) (tg : Int) (va : Value) (n : Int) (h_op : I64 op) (h_to : I64 tg) (h_va : TyI D lo w va) (h_n : I64 n) (hj : j + 1 ≤ 10) (hlo : lo ≤ w.heap.size) :
    ∃ (A' : Option Addr) (c' : Nat) (w' : World), ((Builtin.append_ #[32, 32] 32 #[.slice A j c, .slice (some ⟨w.heap.size, 0, none⟩) 1 1]).run Try.prog (w.alloc (.cells #[.int .i64 op, .int .i64 tg, va, .int .i64 n] 44))) = .ok (.slice A' (j + 1) c') w' ∧ TyInss D lo w' (.slice A' (j + 1) c') ∧ Kept D lo w w' ∧ (∀ (b : Nat) (t : TypeId) (cs : Array Value), t ≠ 44 → Row (w.alloc (.cells #[.int .i64 op, .int .i64 tg, va, .int .i64 n] 44)) b t cs → Row w' b t cs) ∧ ∃ r : Option Nat, ((w.alloc (.cells #[.int .i64 op, .int .i64 tg, va, .int .i64 n] 44))).grownBy w' r ∧ (∀ b, r = some b → lo ≤ b) ∧ ∀ b, r = some b → A = some ⟨b, 0, none⟩ ∧ 0 < c := by
  obtain ⟨i0, hi, hz0, hz1, hz2⟩ := info_parts Try.info_Ins
  have hc : Chg D lo w (w.alloc (.cells #[.int .i64 op, .int .i64 tg, va, .int .i64 n] 44)) := Chg.below ((Below.refl _ _).alloc (Nat.le_refl _) _)
  have g_va := h_va.keep hc
  obtain ⟨A', c', w', r9, ty9, ch9, r, g9, hr9, hA9⟩ := run_append_ty2 (D := D) (P := Try.prog) (w.alloc (.cells #[.int .i64 op, .int .i64 tg, va, .int .i64 n] 44)) 32 32 44 i0 (.agg #[.int .i64 0, .int .i64 0, .slice none 0 0, .int .i64 0]) 4 48 10 lo (InsP D lo _) Try.underlying32 hi hz0 hz1 hz2 rfl (by decide) A j c (h.keep hc) ⟨w.heap.size, 0, none⟩ 1 [.int .i64 op, .int .i64 tg, va, .int .i64 n] rfl (news_at w #[.int .i64 op, .int .i64 tg, va, .int .i64 n] 44)
    (by intro u hu; simp at hu; rcases hu with rfl | rfl | rfl | rfl <;> first | rfl | exact TyS.one_cell h_va)
    (by
      have key : ∀ q u, ([.int .i64 op, .int .i64 tg, va, .int .i64 n] : List Value)[q]? = some u → InsP D lo (w.alloc (.cells #[.int .i64 op, .int .i64 tg, va, .int .i64 n] 44)) (j * 4 + q) u := by
        intro q u hu
        have hq : q < 4 := by simpa using (List.getElem?_eq_some_iff.1 hu).1
        unfold InsP
        match q, hq, hu with
        | 0, _, hu => simp at hu; subst hu; rw [if_neg (by omega)]; exact ⟨_, h_op, rfl⟩
        | 1, _, hu => simp at hu; subst hu; rw [if_neg (by omega)]; exact ⟨_, h_to, rfl⟩
        | 2, _, hu => simp at hu; subst hu; rw [if_pos (by omega)]; exact g_va
        | 3, _, hu => simp at hu; subst hu; rw [if_neg (by omega)]; exact ⟨_, h_n, rfl⟩
      intro q u hu
      exact ⟨key q u hu, Or.inr (Or.inr (Or.inl ⟨rfl, key q u hu⟩))⟩) hj (by omega) (by omega) (Nat.le_trans hlo (by simp))
  exact ⟨A', c', w', r9, TyS.mono_ ty9 (fun q u hp => InsP.keep hp ch9), hc.kept.trans ch9.kept, grown_row g9 hr9, r, g9, (fun b hb => (hr9 b hb).1), hA9⟩
/-- the row of phis, and one of them -/
theorem phis_row {lo : Nat} {w : World} {A : Option Addr} {n cap : Nat} (h : TyPhis D lo w (.slice A n cap)) {i : Nat} (hi : i < n) : ∃ (b : Nat) (t : Int) (A1 : Option Addr) (n1 c1 : Nat) (cur : Array Value), A = some ⟨b, 0, none⟩ ∧ lo ≤ b ∧ Row w b 68 cur ∧ cur[i * 2]? = some (.int .i64 t) ∧ cur[i * 2 + 1]? = some (.slice A1 n1 c1) ∧ I64 t ∧ TyI D lo w (.slice A1 n1 c1) := by
  obtain ⟨Aa, na, capa, e1, k1, k2, k3, k4⟩ := h
  injection e1 with e1 e2 e3
  subst e1
  subst e2
  subst e3
  obtain ⟨b, cur, rfl, hb, R, hs, hc⟩ := k4 (by omega)
  obtain ⟨u0, c0, p0⟩ := hc (i * 2) (by omega)
  obtain ⟨u1, c1, p1⟩ := hc (i * 2 + 1) (by omega)
  unfold PhiP at p0 p1
  rw [if_neg (by omega)] at p0
  rw [if_pos (by omega)] at p1
  obtain ⟨t, ht, rfl⟩ := p0
  obtain ⟨A1, n1, k1, rfl, _⟩ := TyS.form p1
  exact ⟨b, t, A1, n1, k1, cur, rfl, hb, R, c0, c1, ht, p1⟩
/-- the row of instructions, and one of them -/
theorem inss_row {lo : Nat} {w : World} {A : Option Addr} {n cap : Nat} (h : TyInss D lo w (.slice A n cap)) {i : Nat} (hi : i < n) : ∃ (b : Nat) (op t : Int) (A1 : Option Addr) (n1 c1 : Nat) (m : Int) (cur : Array Value), A = some ⟨b, 0, none⟩ ∧ lo ≤ b ∧ Row w b 44 cur ∧ cur[i * 4]? = some (.int .i64 op) ∧ cur[i * 4 + 1]? = some (.int .i64 t) ∧ cur[i * 4 + 2]? = some (.slice A1 n1 c1) ∧ cur[i * 4 + 3]? = some (.int .i64 m) ∧ I64 op ∧ I64 t ∧ I64 m ∧ TyI D lo w (.slice A1 n1 c1) := by
  obtain ⟨Aa, na, capa, e1, k1, k2, k3, k4⟩ := h
  injection e1 with e1 e2 e3
  subst e1
  subst e2
  subst e3
  obtain ⟨b, cur, rfl, hb, R, hs, hc⟩ := k4 (by omega)
  obtain ⟨u0, c0, p0⟩ := hc (i * 4) (by omega)
  obtain ⟨u1, c1, p1⟩ := hc (i * 4 + 1) (by omega)
  obtain ⟨u2, c2, p2⟩ := hc (i * 4 + 2) (by omega)
  obtain ⟨u3, c3, p3⟩ := hc (i * 4 + 3) (by omega)
  unfold InsP at p0 p1 p2 p3
  rw [if_neg (by omega)] at p0 p1 p3
  rw [if_pos (by omega)] at p2
  obtain ⟨op, ho, rfl⟩ := p0
  obtain ⟨t, ht, rfl⟩ := p1
  obtain ⟨A1, n1, k1, rfl, _⟩ := TyS.form p2
  obtain ⟨m, hm, rfl⟩ := p3
  exact ⟨b, op, t, A1, n1, k1, m, cur, rfl, hb, R, c0, c1, c2, c3, ho, ht, hm, p2⟩
/-- five cells are written -/
def set5 (w : World) (b : Nat) (u0 u1 u2 u3 u4 : Value) : World := ((((w.setCell ⟨b, 0, none⟩ u0).setCell ⟨b, 1, none⟩ u1).setCell ⟨b, 2, none⟩ u2).setCell ⟨b, 3, none⟩ u3).setCell ⟨b, 4, none⟩ u4
theorem row_set5 {w : World} {b : Nat} {t : TypeId} {x0 x1 x2 x3 x4 : Value} (R : Row w b t #[x0, x1, x2, x3, x4]) (u0 u1 u2 u3 u4 : Value) : Row (set5 w b u0 u1 u2 u3 u4) b t #[u0, u1, u2, u3, u4] := by
  have := ((((R.set_ 0 u0).set_ 1 u1).set_ 2 u2).set_ 3 u3).set_ 4 u4
  unfold set5
  simpa using this
theorem heap_set5 {w : World} {b c : Nat} (hne : c ≠ b) (u0 u1 u2 u3 u4 : Value) : (set5 w b u0 u1 u2 u3 u4).heap[c]? = w.heap[c]? := by
  unfold set5
  rw [Below.heap_setCell _ _ _ c hne, Below.heap_setCell _ _ _ c hne, Below.heap_setCell _ _ _ c hne, Below.heap_setCell _ _ _ c hne, Below.heap_setCell _ _ _ c hne]
theorem row_far5 {w : World} {b c : Nat} {t : TypeId} {cs : Array Value} (R : Row w c t cs) (hne : c ≠ b) (u0 u1 u2 u3 u4 : Value) : Row (set5 w b u0 u1 u2 u3 u4) c t cs := (heap_set5 hne u0 u1 u2 u3 u4).trans R
theorem below_set5 {w0 w : World} {B b : Nat} (h : Below B w0 w) (hb : B ≤ b) (u0 u1 u2 u3 u4 : Value) : Below B w0 (set5 w b u0 u1 u2 u3 u4) :=
  ((((h.setCell (p := ⟨b, 0, none⟩) hb u0).setCell (p := ⟨b, 1, none⟩) hb u1).setCell (p := ⟨b, 2, none⟩) hb u2).setCell (p := ⟨b, 3, none⟩) hb u3).setCell (p := ⟨b, 4, none⟩) hb u4
theorem row_there {w : World} {b : Nat} {t : TypeId} {cs : Array Value} (R : Row w b t cs) (n : Nat) (hn : n ≤ cs.size) : w.there b 0 n := fun j hj => ⟨by
  rw [Nat.zero_add]
  have := R.cell j
  rw [this, Array.getElem?_eq_getElem (by omega)]
  rfl, by rw [Nat.zero_add]; exact R.frozen j⟩
theorem size_block : (Try.prog.info? 34).map (·.size) = some 5 := by kernel_rfl
theorem set5_eq (w : World) (b : Nat) (u0 u1 u2 u3 u4 : Value) : w.setCells b 0 [u0, u1, u2, u3, u4] = set5 w b u0 u1 u2 u3 u4 := rfl
end Go.Proofs.Ytafembiemaflfaa
