/-
  mapped: what a function makes of each element of a list. Conditions: the list reads as data; the function answers in new memory.
-/
import Derived.Test.YthfinoapfbhgcaaDoorTree
namespace Go.Proofs.YthfinoapfbhgcaaDoor
open Go.RowKit Go.ChangeShapes Go.WideShapes Go.Deep
set_option linter.unusedSimpArgs false
set_option linter.unusedVariables false
def ToTE (D : Nat) (a : Ex) (w : World) (e : Ending) (w' : World) : Prop :=
  ∃ v3 : Value, e = .returned (.agg #[.int .i64 a.op, .int .i64 a.n, .string a.name, v3]) ∧ (∀ m, (exT m (D + 1)).rep w' w.heap.size w'.heap.size a [.int .i64 a.op, .int .i64 a.n, .string a.name, v3]) ∧ Below w.heap.size w w'
theorem cells_row_new (w : World) (cs : List Value) (t : TypeId) : ∀ j u, cs[j]? = some u → (w.alloc (.cells cs.toArray t)).cell? ((⟨w.heap.size, 0, none⟩ : Addr).add j) = some u := by
  intro j u hj
  have h := (Row.new w t cs.toArray).cell j
  simp only [List.getElem?_toArray, hj] at h
  have e : (⟨w.heap.size, 0, none⟩ : Addr).add j = ⟨w.heap.size, j, none⟩ := by
    simp [Addr.add]
    intro h0
    exact h0.symm
  rw [e]
  exact h
set_option maxRecDepth 100000 in
set_option maxHeartbeats 4000000 in
theorem impl_mapped (N : FuncId) (C : Array Value) (F : Ex → Ex) (D' D : Nat) (l : List Ex) (v : Value) (w : World) (lo B : Nat) (hB : B ≤ w.heap.size) (hl : l.length ≤ 1000000) (hv : Sl false (exS false D) w lo B l v)
    (HN : ∀ (args : Array Value) (w : World), (callFunc N args).run Tryd.prog w = .ok (.enter N args) w)
    (HF : ∀ (d : Nat) (op n : Int) (name : ByteArray) (kids : List Ex) (v3 : Value) (w' : World), D = d + 1 → Below w.heap.size w w' → I64 op → I64 n → name.size ≤ maxLen → Sl false (exS false d) w' lo B kids v3 → .mk op n name kids ∈ l →
      Calls Tryd.prog N (#[.agg #[.int .i64 op, .int .i64 n, .string name, v3]] ++ C) w' (ToTE D' (F (.mk op n name kids)) w')) :
    Calls Tryd.prog 46 #[v, .func (.func N) #[] C] w (ToTP (fun m => exT m (D' + 1)) (l.map F) w) := by
  obtain ⟨A, cap, rfl, hlc, hcm⟩ := hv.form
  obtain ⟨i0, hi, hz0, hz1, hz2⟩ := info_parts Tryd.info_Expr
  replace HF := Lib.hid HF
  go_enter Tryd.func46, Tryd.ntmps46
  go_wp2_with fail
  go_loopw [5, 10] (fun vv i wr => ∃ k : Nat, k ≤ l.length ∧ i = .int .i64 k ∧ OwnT (fun m => exT m (D' + 1)) 25 wr w.heap.size vv ((l.take k).map F) ∧ Below w.heap.size w wr) (fun _ i _ => l.length - (intOf i).toNat)
  case atStart => exact ⟨0, by omega, rfl, OwnT.nil_ _ _ _ _, Below.refl _ _⟩
  case round =>
    obtain ⟨k, hk, rfl, own, hb⟩ := hrel
    have hsz := hb.size
    by_cases hkl : k < l.length
    · obtain ⟨d, rfl⟩ := exS_pos hv (by omega)
      obtain ⟨b, o, op, n, name, kids, v3, rfl, _, hbB, HL, g0, g1, g2, g3, c0, c1, c2, c3⟩ := ex_get d (hv.below hb hB) hkl
      obtain ⟨A3, p3, hf, _, _⟩ := g3.form
      change _ = Value.slice A3 kids.length p3 at hf
      subst hf
      have hkn : (k : Int) < (l.length : Int) := by omega
      have hki : (0 : Int) ≤ (k : Int) := by omega
      obtain ⟨y, hy⟩ : ∃ y, F (.mk op n name kids) = y := ⟨_, rfl⟩
      have hba : Below wr.heap.size wr (wr.alloc (.cells #[.int .i64 op, .int .i64 n, .string name, .slice A3 kids.length p3] 25)) := (Below.refl _ _).alloc (Nat.le_refl _) _
      have H1 := HF.out d op n name kids (.slice A3 kids.length p3) (wr.alloc (.cells #[.int .i64 op, .int .i64 n, .string name, .slice A3 kids.length p3] 25)) rfl (hb.trans (hba.mono hsz)) g0 g1 g2 (g3.below hba (by omega)) (HL.out ▸ List.getElem_mem hkl : Ex.mk op n name kids ∈ l)
      rw [hy] at H1
      have EL : Hid ((l.take (k + 1)).map F = (l.take k).map F ++ [y]) := by
        show _ = _
        rw [List.take_succ_eq_append_getElem hkl, HL.out, List.map_append]
        simp [hy]
      replace H1 := Lib.hid H1
      clear hy
      obtain ⟨xs, p, q, own0, hp⟩ := own
      have own0' : wr.ownsRow w.heap.size 25 4 u5 k xs := by
        have h := own0
        rw [List.length_map, List.length_take, Nat.min_eq_left hk] at h
        exact h
      go_wp2_with fail
      refine H1.out.mono ?_
      rintro e w1 ⟨v3', rfl, hx, b1⟩
      obtain ⟨A', p', hf, _, _⟩ := (exT_kids D' (hx false)).form
      subst hf
      have b01 : Below wr.heap.size wr w1 := hba.trans (b1.mono hba.size)
      have hsz1 : wr.heap.size + 1 ≤ w1.heap.size := by have := b1.size; simpa using this
      have own1 := own_below own0' b01 (Nat.le_refl _)
      clear own0'
      go_wp2_with (at_builtin; refine wpList_append_own_at _ rfl _ _ 23 rfl w.heap.size 25 i0 (.agg #[.int .i64 0, .int .i64 0, .string ⟨#[]⟩, .slice none 0 0]) 4 56 Tryd.underlying23 hi hz0 hz1 hz2 rfl (by decide) _ _ _ rfl (own1.alloc _) ⟨w1.heap.size, 0, none⟩ 1 1 [.int .i64 y.op, .int .i64 y.n, .string y.name, .slice A' y.kids.length p'] rfl rfl ?c1 ?c2 ?c3 ?c4 ?c5 ?_)
      case c1 => exact cells_row_new w1 [.int .i64 y.op, .int .i64 y.n, .string y.name, .slice A' y.kids.length p'] _
      case c2 => first | rfl | (intro u hu; simp at hu; rcases hu with rfl | rfl | rfl | rfl <;> rfl)
      case c3 => unfold maxLen; omega
      case c4 => omega
      case c5 => simp; omega
      intro v4 w4 own4 hgrow _ hat
      have ho1 : w1.ownsRow w.heap.size 25 (exT true (D' + 1)).size u5 ((l.take k).map F).length xs := own_below own0 b01 (Nat.le_refl _)
      have hp4 := PartsT.snoc (s := wr.heap.size + 1) (v' := v4) (hp.below b01) ho1 (by omega) hsz1 (fun i a ha => by have := (hp i a ha).2.1; omega) (fun b hb' => by have := (own0.lt b hb').2; omega) (fun m => by have := hx m; simpa using this) hgrow (by simpa using hat)
      have own4' : w4.ownsRow w.heap.size 25 (exT true (D' + 1)).size v4 (((l.take k).map F) ++ [y]).length (xs ++ [.int .i64 y.op, .int .i64 y.n, .string y.name, .slice A' y.kids.length p']) := by
        rw [List.length_append, List.length_map, List.length_take, Nat.min_eq_left hk]
        exact own4
      have ownT : OwnT (fun m => exT m (D' + 1)) 25 w4 w.heap.size v4 ((l.take (k + 1)).map F) := by
        rw [EL.out]
        exact ⟨_, _, _, own4', hp4⟩
      have hb4 : Below w.heap.size w w4 := ((hb.trans (b01.mono hsz)).alloc (by omega) _).grown hgrow (by simp; omega) (fun r hr => own_ge own1 hr)
      clear own4 own4' hgrow hat hp4 ho1 own1 own0 hp hx
      go_wp2_with fail
      go_roundw
      case rel => exact ⟨k + 1, by omega, by go_num, ownT, hb4⟩
      case measure => simp [intOf]; omega
    · obtain rfl : k = l.length := by omega
      rw [List.take_length] at own
      go_wp2_with fail
      go_ret
      exact ⟨_, rfl, fun m => own.slT (fun m => by rw [exT_size, exT_size]) (Nat.le_refl _) m, hb⟩
end Go.Proofs.YthfinoapfbhgcaaDoor
