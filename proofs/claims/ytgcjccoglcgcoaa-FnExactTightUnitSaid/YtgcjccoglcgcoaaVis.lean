/-
  What is done at each register: it takes its number, a new one if it has none. Conditions: the place holds a number; the map has the numbers of a list.
-/
import Derived.Test.YtgcjccoglcgcoaaRegT
import Derived.Test.YtgcjccoglcgcoaaUpd
import Derived.Deep.QuietTactic
import Derived.BigQuiet
import Derived.Deep.CutRange
import Derived.Deep.CutBlock
namespace Go.Proofs.Ytgcjccoglcgcoaa
open Go.RowKit Go.ChangeShapes Go.WideShapes Go.Deep
set_option linter.unusedVariables false
set_option linter.unusedSimpArgs false
theorem wp_mapUpdate_run {P : Program} {o : Oper} {a : Act} {w w' : World} {K : Act → World → Prop} {Q : Exit → Act → World → Prop} (m x v : Operand) (t : TypeId) (hop : o.op = Op.mapUpdate t m x v) {mv key val : Value} (hm : a.eval m = mv) (hx : a.eval x = key) (hv : a.eval v = val)
    (hrun : (Instr.mapUpdate t mv key val).run P w = .ok () w') (hK : K (a.put o.dst undef) w') : o.wp P a w K Q := by
  unfold Oper.wp
  simp [execOp, hop, hm, hx, hv, hrun, Result.andThen]
  exact hK
theorem cell_of_heap {w w' : World} {b : Nat} (h : w'.heap[b]? = w.heap[b]?) (o : Nat) : w'.cell? ⟨b, o, none⟩ = w.cell? ⟨b, o, none⟩ := by
  unfold World.cell?
  simp only [h]
theorem frozen_of_heap {w w' : World} {b : Nat} (h : w'.heap[b]? = w.heap[b]?) (o : Nat) : w'.frozen? ⟨b, o, none⟩ = w.frozen? ⟨b, o, none⟩ := by
  unfold World.frozen?
  simp only [h]
def VisP (b o : Nat) (r : Int) (s : List Int) (M : Nat) (w : World) (e : Ending) (w' : World) : Prop := e = .returned (.tuple #[]) ∧ MapSt w' M (tell s r) ∧ Upd w b o (numS (tell s r) r) M w'
theorem Upd.set {w w1 : World} {b o M : Nat} {n : Int} (hb : Below 0 w w1) (h : ∀ x, x ≠ M → w1.heap[x]? = w.heap[x]?) (hbM : b ≠ M) : Upd w b o n M (w1.setCell ⟨b, o, none⟩ (.int .i64 n)) := by
  refine ⟨hb.setCell (p := ⟨b, o, none⟩) (Nat.zero_le _) _, fun x hx => ?_⟩
  simp only [World.setCell, Array.getElem?_modify]
  rw [h x hx]
set_option maxRecDepth 100000 in
set_option maxHeartbeats 4000000 in
theorem impl_tight_1 (b o Bm M : Nat) (r : Int) (s : List Int) (w : World) (hc : w.cell? ⟨b, o, none⟩ = some (.int .i64 r)) (hf : w.frozen? ⟨b, o, none⟩ = false) (hr : I64 r) (R : Row w Bm 75 #[.map (some M)]) (hM : MapSt w M s) (hbM : b ≠ M) (hBM : Bm ≠ M) (hl : s.length ≤ 1048576) :
    Calls Try.prog 43 #[.pointer (some ⟨b, o, none⟩), .pointer (some ⟨Bm, 0, none⟩)] w (VisP b o r s M w) := by
  have hrun : ∀ n, _ := fun n => (hM.keep (w' := w.drewN n) rfl).look hr
  have y0 : w.cell? ⟨Bm, 0, none⟩ = some (.map (some M)) := R.cell 0
  by_cases hs : r ∈ s
  · have ht : tell s r = s := by unfold tell; rw [if_pos hs]
    have hd : decide (r ∈ s) = true := by simp [hs]
    simp only [hd, if_pos hs] at hrun
    have F := Lib.hid (show ∀ n : Nat, VisP b o r s M w (.returned (.tuple #[])) ((w.drewN n).setCell ⟨b, o, none⟩ (.int .i64 (numS s r))) from fun n => ⟨rfl, by rw [ht]; exact (hM.keep (w' := w.drewN n) rfl).keep (Below.heap_setCell (w.drewN n) _ _ M (Ne.symm hbM)), by rw [ht]; exact Upd.set (w := w) (w1 := w.drewN n) (below_drewN (Below.refl _ _) n) (fun _ _ => rfl) hbM⟩)
    obtain ⟨n, hn⟩ : ∃ n, numS s r = n := ⟨_, rfl⟩
    simp only [hn] at hrun F
    clear hd ht hn hs
    go_enter Try.func43, Try.ntmps43
    go_wp2_with fail
    go_quiet (fail)
    go_wp2_with fail
    go_end0
    exact F.out _
  · have ht : Hid (tell s r = s ++ [r]) := by show _ = _; unfold tell; rw [if_neg hs]
    have hn : Hid (numS (s ++ [r]) r = (s.length : Int)) := num_new hs
    have hd : decide (r ∈ s) = false := by simp [hs]
    simp only [hd, if_neg hs] at hrun
    have hlen : ∀ n, _ := fun n => (hM.keep (w' := w.drewN n) rfl).len 3
    clear hd
    go_enter Try.func43, Try.ntmps43
    go_wp2_with fail
    go_quiet (fail)
    go_upto_region 3 with fail
    have bq : Below 0 w (w.drewN nq) := below_drewN (Below.refl _ _) nq
    have kq : ∀ x : Nat, (w.drewN nq).heap[x]? = w.heap[x]? := fun _ => rfl
    replace hc : (w.drewN nq).cell? ⟨b, o, none⟩ = some (.int .i64 r) := hc
    replace hf : (w.drewN nq).frozen? ⟨b, o, none⟩ = false := hf
    replace R : Row (w.drewN nq) Bm 75 #[.map (some M)] := R
    replace hM : MapSt (w.drewN nq) M s := hM.keep rfl
    clear hrun hlen y0
    generalize w.drewN nq = w1 at bq kq hc hf R hM ⊢
    refine wp_region_held_drew (S := fun w' => (w'.cell? ⟨Bm, 0, none⟩ = some (.map (some M)) ∧ w'.cell? ⟨b, o, none⟩ = some (.int .i64 r))) (by kernel_rfl) ?_ (fun hHeld => ?_)
    · exact ⟨R.cell 0, hc⟩
    obtain ⟨wd, hwd⟩ : ∃ wd, w1.drew = wd := ⟨_, rfl⟩
    have R' : Row wd Bm 75 #[.map (some M)] := hwd ▸ R.drew
    have hM' : MapSt wd M s := hM.keep (by rw [← hwd]; rfl)
    have hc' : wd.cell? ⟨b, o, none⟩ = some (.int .i64 r) := hwd ▸ hc
    have hf' : wd.frozen? ⟨b, o, none⟩ = false := hwd ▸ hf
    have kd : ∀ x : Nat, wd.heap[x]? = w.heap[x]? := fun x => by rw [← hwd]; exact kq x
    have bd : Below 0 w wd := by rw [← hwd]; exact bq.drew
    rw [hwd] at hHeld ⊢
    clear hwd
    refine tk (i := 0) ?_
    try simp only [ap]
    refine tk (i := 1) ?_
    try simp only [ap]
    refine tk (i := 2) ?_
    try simp only [ap]
    refine tk (i := 3) ?_
    try simp only [ap]
    refine tk (i := 4) ?_
    try simp only [ap]
    refine reg_call (i := 5) (by kernel_rfl) rfl (fun K hK => ?_)
    rw [if_pos (show Region.wanted _ _ = true by kernel_rfl)]
    obtain ⟨w4, hrun4, m4, b4, k4⟩ := hM'.put hr hs hl
    refine wp_mapUpdate_run _ _ _ 75 rfl rfl rfl rfl hrun4 ?_
    clear hrun4
    have R4 : Row w4 Bm 75 #[.map (some M)] := (k4 Bm hBM).trans R'
    have c4 : w4.cell? ⟨b, o, none⟩ = some (.int .i64 r) := (cell_of_heap (k4 b hbM) o).trans hc'
    have f4 : w4.frozen? ⟨b, o, none⟩ = false := (frozen_of_heap (k4 b hbM) o).trans hf'
    refine hK.out _ _ ?_ (fun hHeld => ?_)
    · exact ⟨R4.cell 0, c4⟩
    clear hK K
    try simp only [ap]
    refine wpAnyH_done (by kernel_rfl) ?_ _
    have F := Lib.hid (show VisP b o r s M w (.returned (.tuple #[])) (w4.setCell ⟨b, o, none⟩ (.int .i64 (s.length : Int))) from ⟨rfl, by rw [ht.out]; exact m4.keep (Below.heap_setCell w4 _ _ M (Ne.symm hbM)), by rw [ht.out, hn.out]; exact Upd.set (bd.trans b4) (fun x hx => (k4 x hx).trans (kd x)) hbM⟩)
    clear ht hn
    go_wp2_with fail
    go_end0
    exact F.out
end Go.Proofs.Ytgcjccoglcgcoaa
