/-
  Appending instructions, phis, blocks and codes in memory that goes by types. Condition: few elements.
-/
import Derived.Test.YtgcjccoglcgcoaaDrU2
namespace Go.Proofs.Ytgcjccoglcgcoaa
open Go.RowKit Go.ChangeShapes Go.WideShapes Go.Deep
variable {D : Nat}
set_option linter.unusedVariables false
set_option linter.unusedSimpArgs false
theorem TyS.one_cell {t : TypeId} {size N lo : Nat} {w : World} {P : Nat → Value → Prop} {v : Value} (h : TyS t size N lo w P v) : v.oneCell' = true := by
  obtain ⟨A, n, cap, rfl, _⟩ := h
  rfl
theorem TyS.mono_ {t : TypeId} {size N lo : Nat} {w : World} {P P' : Nat → Value → Prop} {v : Value} (h : TyS t size N lo w P v) (hP : ∀ j u, P j u → P' j u) : TyS t size N lo w P' v := by
  obtain ⟨A, n, cap, rfl, h1, h2, h3, h4⟩ := h
  refine ⟨A, n, cap, rfl, h1, h2, h3, fun hc => ?_⟩
  obtain ⟨b, cur, rfl, hb, R, hs, hcs⟩ := h4 hc
  exact ⟨b, cur, rfl, hb, R, hs, fun j hj => (hcs j hj).imp fun u hu => ⟨hu.1, hP j u hu.2⟩⟩
/-- what an append of one element leaves -/
def AppP (D lo : Nat) (e : TypeId) (w wR : World) (T : World → Value → Prop) (j : Nat) (res : Result Value) : Prop := ∃ (A' : Option Addr) (c' : Nat) (w' : World), res = .ok (.slice A' (j + 1) c') w' ∧ T w' (.slice A' (j + 1) c') ∧ Kept D lo w w' ∧ (∀ (b : Nat) (t : TypeId) (cs : Array Value), t ≠ e → Row wR b t cs → Row w' b t cs) ∧ ∃ r : Option Nat, wR.grownBy w' r ∧ ∀ b, r = some b → lo ≤ b
theorem news_at (w : World) (cs : Array Value) (t : TypeId) : ∀ (q : Nat) (u : Value), cs.toList[q]? = some u → (w.alloc (.cells cs t)).cell? ((⟨w.heap.size, 0, none⟩ : Addr).add q) = some u := by
  intro q u hu
  rw [show (⟨w.heap.size, 0, none⟩ : Addr).add q = ⟨w.heap.size, q, none⟩ by by_cases h : q = 0 <;> simp [Addr.add, h], (Row.new w t cs).cell q]
  simpa using hu
theorem append_ins (w : World) (lo : Nat) (A : Option Addr) (j c : Nat) (h : TyInss D lo w (.slice A j c)) (op : Int) (to : Int) (va : Value) (n : Int) (h_op : I64 op) (h_to : I64 to) (h_va : TyI D lo w va) (h_n : I64 n) (hj : j + 1 ≤ 10) (hlo : lo ≤ w.heap.size) :
    AppP D lo 72 w (w.alloc (.cells #[.int .i64 op, .int .i64 to, va, .int .i64 n] 72)) (TyInss D lo) j ((Builtin.append_ #[62, 62] 62 #[.slice A j c, .slice (some ⟨w.heap.size, 0, none⟩) 1 1]).run Try.prog (w.alloc (.cells #[.int .i64 op, .int .i64 to, va, .int .i64 n] 72))) := by
  obtain ⟨i0, hi, hz0, hz1, hz2⟩ := info_parts Try.info_Ins
  have hc : Chg D lo w (w.alloc (.cells #[.int .i64 op, .int .i64 to, va, .int .i64 n] 72)) := Chg.below ((Below.refl _ _).alloc (Nat.le_refl _) _)
  have g_va := h_va.keep hc
  obtain ⟨A', c', w', r9, ty9, ch9, r, g9, hr9⟩ := run_append_ty (D := D) (P := Try.prog) (w.alloc (.cells #[.int .i64 op, .int .i64 to, va, .int .i64 n] 72)) 62 62 72 i0 (.agg #[.int .i64 0, .int .i64 0, .slice none 0 0, .int .i64 0]) 4 48 10 lo (InsP D lo _) Try.underlying62 hi hz0 hz1 hz2 rfl (by decide) A j c (h.keep hc) ⟨w.heap.size, 0, none⟩ 1 [.int .i64 op, .int .i64 to, va, .int .i64 n] rfl (news_at w #[.int .i64 op, .int .i64 to, va, .int .i64 n] 72)
    (by intro u hu; simp at hu; rcases hu with rfl | rfl | rfl | rfl <;> first | rfl | exact TyS.one_cell h_va)
    (by
      have key : ∀ q u, ([.int .i64 op, .int .i64 to, va, .int .i64 n] : List Value)[q]? = some u → InsP D lo (w.alloc (.cells #[.int .i64 op, .int .i64 to, va, .int .i64 n] 72)) (j * 4 + q) u := by
        intro q u hu
        have hq : q < 4 := by simpa using (List.getElem?_eq_some_iff.1 hu).1
        unfold InsP
        match q, hq, hu with
        | 0, _, hu => simp at hu; subst hu; rw [if_neg (by omega)]; exact ⟨_, h_op, rfl⟩
        | 1, _, hu => simp at hu; subst hu; rw [if_neg (by omega)]; exact ⟨_, h_to, rfl⟩
        | 2, _, hu => simp at hu; subst hu; rw [if_pos (by omega)]; exact g_va
        | 3, _, hu => simp at hu; subst hu; rw [if_neg (by omega)]; exact ⟨_, h_n, rfl⟩
      intro q u hu
      exact ⟨key q u hu, Or.inr (Or.inr (Or.inl ⟨rfl, key q u hu⟩))⟩) hj (by omega) (by omega) (Nat.le_trans hlo (by simp))
  exact ⟨A', c', w', r9, TyS.mono_ ty9 (fun q u hp => InsP.keep hp ch9), hc.kept.trans ch9.kept, grown_row g9 hr9, r, g9, fun b hb => (hr9 b hb).1⟩
theorem append_phi (w : World) (lo : Nat) (A : Option Addr) (j c : Nat) (h : TyPhis D lo w (.slice A j c)) (to : Int) (va : Value) (h_to : I64 to) (h_va : TyI D lo w va) (hj : j + 1 ≤ 4 + D) (hj2 : j + 1 ≤ 1000) (hlo : lo ≤ w.heap.size) :
    AppP D lo 69 w (w.alloc (.cells #[.int .i64 to, va] 69)) (TyPhis D lo) j ((Builtin.append_ #[61, 61] 61 #[.slice A j c, .slice (some ⟨w.heap.size, 0, none⟩) 1 1]).run Try.prog (w.alloc (.cells #[.int .i64 to, va] 69))) := by
  obtain ⟨i0, hi, hz0, hz1, hz2⟩ := info_parts Try.info_Phi
  have hc : Chg D lo w (w.alloc (.cells #[.int .i64 to, va] 69)) := Chg.below ((Below.refl _ _).alloc (Nat.le_refl _) _)
  have g_va := h_va.keep hc
  obtain ⟨A', c', w', r9, ty9, ch9, r, g9, hr9⟩ := run_append_ty (D := D) (P := Try.prog) (w.alloc (.cells #[.int .i64 to, va] 69)) 61 61 69 i0 (.agg #[.int .i64 0, .slice none 0 0]) 2 32 (4 + D) lo (PhiP D lo _) Try.underlying61 hi hz0 hz1 hz2 rfl (by decide) A j c (h.keep hc) ⟨w.heap.size, 0, none⟩ 1 [.int .i64 to, va] rfl (news_at w #[.int .i64 to, va] 69)
    (by intro u hu; simp at hu; rcases hu with rfl | rfl <;> first | rfl | exact TyS.one_cell h_va)
    (by
      have key : ∀ q u, ([.int .i64 to, va] : List Value)[q]? = some u → PhiP D lo (w.alloc (.cells #[.int .i64 to, va] 69)) (j * 2 + q) u := by
        intro q u hu
        have hq : q < 2 := by simpa using (List.getElem?_eq_some_iff.1 hu).1
        unfold PhiP
        match q, hq, hu with
        | 0, _, hu => simp at hu; subst hu; rw [if_neg (by omega)]; exact ⟨_, h_to, rfl⟩
        | 1, _, hu => simp at hu; subst hu; rw [if_pos (by omega)]; exact g_va
      intro q u hu
      exact ⟨key q u hu, Or.inr (Or.inl ⟨rfl, key q u hu⟩)⟩) hj (by omega) (by omega) (Nat.le_trans hlo (by simp))
  exact ⟨A', c', w', r9, TyS.mono_ ty9 (fun q u hp => PhiP.keep hp ch9), hc.kept.trans ch9.kept, grown_row g9 hr9, r, g9, fun b hb => (hr9 b hb).1⟩
theorem append_blk (w : World) (lo : Nat) (A : Option Addr) (j c : Nat) (h : TyBlks D lo w (.slice A j c)) (vp : Value) (vi : Value) (jump : Int) (on : Int) (va : Value) (h_vp : TyPhis D lo w vp) (h_vi : TyInss D lo w vi) (h_jump : I64 jump) (h_on : I64 on) (h_va : TyI D lo w va) (hj : j + 1 ≤ 10) (hlo : lo ≤ w.heap.size) :
    AppP D lo 65 w (w.alloc (.cells #[vp, vi, .int .i64 jump, .int .i64 on, va] 65)) (TyBlks D lo) j ((Builtin.append_ #[37, 37] 37 #[.slice A j c, .slice (some ⟨w.heap.size, 0, none⟩) 1 1]).run Try.prog (w.alloc (.cells #[vp, vi, .int .i64 jump, .int .i64 on, va] 65))) := by
  obtain ⟨i0, hi, hz0, hz1, hz2⟩ := info_parts Try.info_Block
  have hc : Chg D lo w (w.alloc (.cells #[vp, vi, .int .i64 jump, .int .i64 on, va] 65)) := Chg.below ((Below.refl _ _).alloc (Nat.le_refl _) _)
  have g_vp := h_vp.keep hc
  have g_vi := h_vi.keep hc
  have g_va := h_va.keep hc
  obtain ⟨A', c', w', r9, ty9, ch9, r, g9, hr9⟩ := run_append_ty (D := D) (P := Try.prog) (w.alloc (.cells #[vp, vi, .int .i64 jump, .int .i64 on, va] 65)) 37 37 65 i0 (.agg #[.slice none 0 0, .slice none 0 0, .int .i64 0, .int .i64 0, .slice none 0 0]) 5 88 10 lo (BlkP D lo _) Try.underlying37 hi hz0 hz1 hz2 rfl (by decide) A j c (h.keep hc) ⟨w.heap.size, 0, none⟩ 1 [vp, vi, .int .i64 jump, .int .i64 on, va] rfl (news_at w #[vp, vi, .int .i64 jump, .int .i64 on, va] 65)
    (by intro u hu; simp at hu; rcases hu with rfl | rfl | rfl | rfl | rfl <;> first | rfl | exact TyS.one_cell h_vp | exact TyS.one_cell h_vi | exact TyS.one_cell h_va)
    (by
      have key : ∀ q u, ([vp, vi, .int .i64 jump, .int .i64 on, va] : List Value)[q]? = some u → BlkP D lo (w.alloc (.cells #[vp, vi, .int .i64 jump, .int .i64 on, va] 65)) (j * 5 + q) u := by
        intro q u hu
        have hq : q < 5 := by simpa using (List.getElem?_eq_some_iff.1 hu).1
        unfold BlkP
        match q, hq, hu with
        | 0, _, hu => simp at hu; subst hu; rw [if_pos (by omega)]; exact g_vp
        | 1, _, hu => simp at hu; subst hu; rw [if_neg (by omega), if_pos (by omega)]; exact g_vi
        | 2, _, hu => simp at hu; subst hu; rw [if_neg (by omega), if_neg (by omega), if_neg (by omega)]; exact ⟨_, h_jump, rfl⟩
        | 3, _, hu => simp at hu; subst hu; rw [if_neg (by omega), if_neg (by omega), if_neg (by omega)]; exact ⟨_, h_on, rfl⟩
        | 4, _, hu => simp at hu; subst hu; rw [if_neg (by omega), if_neg (by omega), if_pos (by omega)]; exact g_va
      intro q u hu
      exact ⟨key q u hu, Or.inr (Or.inr (Or.inr (Or.inl ⟨rfl, key q u hu⟩)))⟩) hj (by omega) (by omega) (Nat.le_trans hlo (by simp))
  exact ⟨A', c', w', r9, TyS.mono_ ty9 (fun q u hp => BlkP.keep hp ch9), hc.kept.trans ch9.kept, grown_row g9 hr9, r, g9, fun b hb => (hr9 b hb).1⟩
theorem append_cod (w : World) (lo : Nat) (A : Option Addr) (j c : Nat) (h : TyCods D lo w (.slice A j c)) (params : Nat) (regs : Nat) (vb : Value) (h_params : params ≤ 3) (h_regs : regs ≤ 300) (h_vb : TyBlks D lo w vb) (hne : NonE vb) (hj : j + 1 ≤ 10) (hlo : lo ≤ w.heap.size) :
    AppP D lo 39 w (w.alloc (.cells #[.int .i64 (params : Int), .int .i64 (regs : Int), vb] 39)) (TyCods D lo) j ((Builtin.append_ #[26, 26] 26 #[.slice A j c, .slice (some ⟨w.heap.size, 0, none⟩) 1 1]).run Try.prog (w.alloc (.cells #[.int .i64 (params : Int), .int .i64 (regs : Int), vb] 39))) := by
  obtain ⟨i0, hi, hz0, hz1, hz2⟩ := info_parts Try.info_Code
  have hc : Chg D lo w (w.alloc (.cells #[.int .i64 (params : Int), .int .i64 (regs : Int), vb] 39)) := Chg.below ((Below.refl _ _).alloc (Nat.le_refl _) _)
  have g_vb := h_vb.keep hc
  obtain ⟨A', c', w', r9, ty9, ch9, r, g9, hr9⟩ := run_append_ty (D := D) (P := Try.prog) (w.alloc (.cells #[.int .i64 (params : Int), .int .i64 (regs : Int), vb] 39)) 26 26 39 i0 (.agg #[.int .i64 0, .int .i64 0, .slice none 0 0]) 3 40 10 lo (CodP D lo _) Try.underlying26 hi hz0 hz1 hz2 rfl (by decide) A j c (h.keep hc) ⟨w.heap.size, 0, none⟩ 1 [.int .i64 (params : Int), .int .i64 (regs : Int), vb] rfl (news_at w #[.int .i64 (params : Int), .int .i64 (regs : Int), vb] 39)
    (by intro u hu; simp at hu; rcases hu with rfl | rfl | rfl <;> first | rfl | exact TyS.one_cell h_vb)
    (by
      have key : ∀ q u, ([.int .i64 (params : Int), .int .i64 (regs : Int), vb] : List Value)[q]? = some u → CodP D lo (w.alloc (.cells #[.int .i64 (params : Int), .int .i64 (regs : Int), vb] 39)) (j * 3 + q) u := by
        intro q u hu
        have hq : q < 3 := by simpa using (List.getElem?_eq_some_iff.1 hu).1
        unfold CodP
        match q, hq, hu with
        | 0, _, hu => simp at hu; subst hu; rw [if_pos (by omega)]; exact ⟨_, h_params, rfl⟩
        | 1, _, hu => simp at hu; subst hu; rw [if_neg (by omega), if_pos (by omega)]; exact ⟨_, h_regs, rfl⟩
        | 2, _, hu => simp at hu; subst hu; rw [if_neg (by omega), if_neg (by omega)]; exact ⟨g_vb, hne⟩
      intro q u hu
      exact ⟨key q u hu, Or.inr (Or.inr (Or.inr (Or.inr (Or.inl ⟨rfl, key q u hu⟩))))⟩) hj (by omega) (by omega) (Nat.le_trans hlo (by simp))
  exact ⟨A', c', w', r9, TyS.mono_ ty9 (fun q u hp => CodP.keep hp ch9), hc.kept.trans ch9.kept, grown_row g9 hr9, r, g9, fun b hb => (hr9 b hb).1⟩
theorem TyInss.nil_ (lo : Nat) (w : World) : TyInss D lo w (.slice none 0 0) := ⟨none, 0, 0, rfl, by omega, by omega, by simp [maxLen], fun h => absurd h (by omega)⟩
theorem TyPhis.nil_ (lo : Nat) (w : World) : TyPhis D lo w (.slice none 0 0) := ⟨none, 0, 0, rfl, by omega, by omega, by simp [maxLen], fun h => absurd h (by omega)⟩
theorem TyBlks.nil_ (lo : Nat) (w : World) : TyBlks D lo w (.slice none 0 0) := ⟨none, 0, 0, rfl, by omega, by omega, by simp [maxLen], fun h => absurd h (by omega)⟩
theorem TyCods.nil_ (lo : Nat) (w : World) : TyCods D lo w (.slice none 0 0) := ⟨none, 0, 0, rfl, by omega, by omega, by simp [maxLen], fun h => absurd h (by omega)⟩
end Go.Proofs.Ytgcjccoglcgcoaa
