/-
  Copies of expressions, by the reference. Conditions: the argument reads as data and has few Kids in each part.
-/
import Derived.Test.YthfinoapfbhgcaaDoorPreT
import Derived.Test.YthfinoapfbhgcaaDoorDrawA
namespace Go.Proofs.YthfinoapfbhgcaaDoor
open Go.RowKit Go.ChangeShapes Go.WideShapes Go.Deep

set_option linter.unusedVariables false
set_option linter.unusedSimpArgs false
/-- few Kids, and no deeper than so -/
def fewB : Nat → Ex → Bool
  | 0, _ => false
  | m + 1, .mk _ _ _ kids => decide (kids.length ≤ 14) && kids.all (fewB m)
def CopyAt (m : Nat) : Prop := ∀ (d : Nat) (op n : Int) (name : ByteArray) (kids : List Ex) (v3 : Value) (w : World) (lo B : Nat) (_ : B ≤ w.heap.size) (_ : I64 op) (_ : I64 n) (_ : name.size ≤ maxLen) (_ : Sl false (exS false d) w lo B kids v3) (_ : fewB m (.mk op n name kids) = true),
  Calls Tryd.prog 20 #[.agg #[.int .i64 op, .int .i64 n, .string name, v3]] w (ToTE m (.mk op n name kids) w)
set_option maxRecDepth 100000 in
set_option maxHeartbeats 4000000 in
theorem copy_stepN (m : Nat) (ih : CopyAt m) : CopyAt (m + 1) := by
  intro d op n name kids v3 w lo B hB ho hn64 hnm h3 hform
  rw [fewB, Bool.and_eq_true] at hform
  obtain ⟨hfm, hall⟩ := hform
  replace hall := Lib.hid hall
  have hk3 : kids.length ≤ 14 := of_decide_eq_true hfm
  clear hfm
  obtain ⟨i0, hi, hz0, hz1, hz2⟩ := info_parts Tryd.info_Expr
  obtain ⟨A, p, hf, hl1, hl2⟩ := h3.form
  subst hf
  have hb2 : Below w.heap.size w ((w.alloc (.cells #[.int .i64 op, .int .i64 n, .string name, .slice A kids.length p] 25)).alloc (.cells #[.int .i64 0, .int .i64 0, .string ⟨#[]⟩, .slice none 0 0] 25)) := ((Below.refl _ _).alloc (Nat.le_refl _) _).alloc (by simp) _
  have hbL : Below w.heap.size w (((w.alloc (.cells #[.int .i64 op, .int .i64 n, .string name, .slice A kids.length p] 25)).alloc (.cells #[.int .i64 0, .int .i64 0, .string ⟨#[]⟩, .slice none 0 0] 25)).alloc (.cells #[] 25)) := hb2.alloc (by simp; omega) _
  have R3 : Row (((w.alloc (.cells #[.int .i64 op, .int .i64 n, .string name, .slice A kids.length p] 25)).alloc (.cells #[.int .i64 0, .int .i64 0, .string ⟨#[]⟩, .slice none 0 0] 25)).alloc (.cells #[] 25)) w.heap.size 25 #[.int .i64 op, .int .i64 n, .string name, .slice A kids.length p] := ((Row.new w _ _).alloc _).alloc _
  have S3 : Row (((w.alloc (.cells #[.int .i64 op, .int .i64 n, .string name, .slice A kids.length p] 25)).alloc (.cells #[.int .i64 0, .int .i64 0, .string ⟨#[]⟩, .slice none 0 0] 25)).alloc (.cells #[] 25)) (w.heap.size + 1) 25 #[.int .i64 0, .int .i64 0, .string ⟨#[]⟩, .slice none 0 0] := by simpa using (Row.new (w.alloc (.cells #[.int .i64 op, .int .i64 n, .string name, .slice A kids.length p] 25)) 25 #[.int .i64 0, .int .i64 0, .string ⟨#[]⟩, .slice none 0 0]).alloc (.cells #[] 25)
  have own0 : OwnT (fun m' => exT m' (m + 1)) 25 (((w.alloc (.cells #[.int .i64 op, .int .i64 n, .string name, .slice A kids.length p] 25)).alloc (.cells #[.int .i64 0, .int .i64 0, .string ⟨#[]⟩, .slice none 0 0] 25)).alloc (.cells #[] 25)) (w.heap.size + 1 + 1) (.slice (some ⟨w.heap.size + 1 + 1, 0, none⟩) 0 0) ((kids.take 0).map id) := by
    have h := OwnT.empty (fun m' => exT m' (m + 1)) 25 ((w.alloc (.cells #[.int .i64 op, .int .i64 n, .string name, .slice A kids.length p] 25)).alloc (.cells #[.int .i64 0, .int .i64 0, .string ⟨#[]⟩, .slice none 0 0] 25)) (w.heap.size + 1 + 1) (by simp)
    simpa using h
  go_enter Tryd.func20, Tryd.ntmps20
  go_wp2_with fail
  go_loopw [3, 4] (fun vv i wr => ∃ k : Nat, k ≤ kids.length ∧ i = .int .i64 k ∧ OwnT (fun mm => exT mm (m + 1)) 25 wr (w.heap.size + 1 + 1) vv ((kids.take k).map (id)) ∧ Row wr (w.heap.size) 25 #[.int .i64 op, .int .i64 n, .string name, .slice A kids.length p] ∧ Row wr (w.heap.size + 1) 25 #[.int .i64 0, .int .i64 0, .string ⟨#[]⟩, .slice none 0 0] ∧ Below w.heap.size w wr) (fun _ i _ => kids.length - (intOf i).toNat)
  case atStart => exact ⟨0, by omega, rfl, own0, R3, S3, hbL⟩
  case round =>
    obtain ⟨k, hk, rfl, own, L0, L1, hb⟩ := hrel
    have hsz := hb.size
    have ll0 := L0.lt
    have y0_0 : wr.cell? ⟨w.heap.size, 0, none⟩ = some (.int .i64 op) := L0.cell 0
    have y0_1 : wr.cell? ⟨w.heap.size, 1, none⟩ = some (.int .i64 n) := L0.cell 1
    have y0_2 : wr.cell? ⟨w.heap.size, 2, none⟩ = some (.string name) := L0.cell 2
    have y0_3 : wr.cell? ⟨w.heap.size, 3, none⟩ = some (.slice A kids.length p) := L0.cell 3
    have ll1 := L1.lt
    have y1_0 : wr.cell? ⟨w.heap.size + 1, 0, none⟩ = some (.int .i64 0) := L1.cell 0
    have y1_1 : wr.cell? ⟨w.heap.size + 1, 1, none⟩ = some (.int .i64 0) := L1.cell 1
    have y1_2 : wr.cell? ⟨w.heap.size + 1, 2, none⟩ = some (.string ⟨#[]⟩) := L1.cell 2
    have y1_3 : wr.cell? ⟨w.heap.size + 1, 3, none⟩ = some (.slice none 0 0) := L1.cell 3
    by_cases hkl : k < kids.length
    · obtain ⟨d', rfl⟩ := exS_pos h3 (by omega)
      obtain ⟨b, o, op', n', name', kids', v', rfl, _, hbB, HL, g0, g1, g2, g3, c0, c1, c2, c3⟩ := ex_get d' (h3.below hb hB) hkl
      obtain ⟨A', p', hf, _, _⟩ := g3.form
      change _ = Value.slice A' kids'.length p' at hf
      subst hf
      have hkn : (k : Int) < (kids.length : Int) := by omega
      have hki : (0 : Int) ≤ (k : Int) := by omega
      have hmem : Ex.mk op' n' name' kids' ∈ kids := HL.out ▸ List.getElem_mem hkl
      obtain ⟨y, hy⟩ : ∃ y, (id) (Ex.mk op' n' name' kids') = y := ⟨_, rfl⟩
      have EL : Hid ((kids.take (k + 1)).map (id) = (kids.take k).map (id) ++ [y]) := by
        show _ = _
        rw [List.take_succ_eq_append_getElem hkl, HL.out, List.map_append, List.map_cons, List.map_nil, hy]
      obtain ⟨xs, p0, q0, own0_, hp⟩ := own
      have own0' : wr.ownsRow (w.heap.size + 1 + 1) 25 4 u3 k xs := by
        have h := own0_
        rw [List.length_map, List.length_take, Nat.min_eq_left hk] at h
        exact h
      go_wp2_with fail
      refine (ih d' op' n' name' kids' (.slice A' kids'.length p') _ lo B (Nat.le_trans hB hsz) g0 g1 g2 g3 (List.all_eq_true.1 hall.out _ hmem)).mono ?_
      rintro e w1 ⟨v3', he, hx, b1⟩
      simp only [id] at hy
      rw [hy] at hx he
      clear hy
      obtain ⟨Ay, py, hf, _, _⟩ := (exT_kids m (hx false)).form
      subst hf
      subst he
      have hsz1 := b1.size
      have own1 := own_below own0' b1 (Nat.le_refl _)
      clear own0'
      go_wp2_with (at_builtin; refine wpList_append_own_at _ rfl _ _ 23 rfl (w.heap.size + 1 + 1) 25 i0 (.agg #[.int .i64 0, .int .i64 0, .string ⟨#[]⟩, .slice none 0 0]) 4 56 Tryd.underlying23 hi hz0 hz1 hz2 rfl (by decide) _ _ _ rfl (own1.alloc _) ⟨w1.heap.size, 0, none⟩ 1 1 [.int .i64 y.op, .int .i64 y.n, .string y.name, .slice Ay y.kids.length py] rfl rfl ?c1 ?c2 ?c3 ?c4 ?c5 ?_)
      case c1 => exact cells_row_new w1 [.int .i64 y.op, .int .i64 y.n, .string y.name, .slice Ay y.kids.length py] _
      case c2 => first | rfl | (intro u hu; simp at hu; rcases hu with rfl | rfl | rfl | rfl <;> rfl)
      case c3 => unfold maxLen; omega
      case c4 => omega
      case c5 => simp; omega
      intro v4 w4 own4 hgrow _ hat
      have ho1 : w1.ownsRow (w.heap.size + 1 + 1) 25 (exT true (m + 1)).size u3 ((kids.take k).map (id)).length xs := own_below own0_ b1 (Nat.le_refl _)
      have hp4 := PartsT.snoc (s := wr.heap.size) (v' := v4) (hp.below b1) ho1 (by omega) hsz1 (fun i a ha => by have := (hp i a ha).2.1; omega) (fun b hb' => (own0_.lt b hb').2) hx hgrow (by simpa using hat)
      have own4' : w4.ownsRow (w.heap.size + 1 + 1) 25 (exT true (m + 1)).size v4 (((kids.take k).map (id)) ++ [y]).length (xs ++ [.int .i64 y.op, .int .i64 y.n, .string y.name, .slice Ay y.kids.length py]) := by
        rw [List.length_append, List.length_map, List.length_take, Nat.min_eq_left hk]
        exact own4
      have ownT : OwnT (fun mm => exT mm (m + 1)) 25 w4 (w.heap.size + 1 + 1) v4 ((kids.take (k + 1)).map (id)) := by
        rw [EL.out]
        exact ⟨_, _, _, own4', hp4⟩
      have hb4 : Below w.heap.size w w4 := ((hb.trans (b1.mono hsz)).alloc (by omega) _).grown hgrow (by simp; omega) (fun r hr => by have := own_ge own1 hr; omega)
      have M0 : Row w4 (w.heap.size) 25 #[.int .i64 op, .int .i64 n, .string name, .slice (some ⟨b, o, none⟩) kids.length p] := (hgrow.block _ (by simp; omega) (fun e => own_ne own1 (show w.heap.size < w.heap.size + 1 + 1 by omega) e.symm)).trans (((L0.below b1 ll0).alloc _))
      have M1 : Row w4 (w.heap.size + 1) 25 #[.int .i64 0, .int .i64 0, .string ⟨#[]⟩, .slice none 0 0] := (hgrow.block _ (by simp; omega) (fun e => own_ne own1 (show w.heap.size + 1 < w.heap.size + 1 + 1 by omega) e.symm)).trans (((L1.below b1 ll1).alloc _))
      clear own4 own4' hgrow hat hp4 ho1 own1 own0_ hp hx y0_0 y0_1 y0_2 y0_3 y1_0 y1_1 y1_2 y1_3
      go_wp2_with fail
      go_roundw
      case rel => exact ⟨k + 1, by omega, by go_num, ownT, M0, M1, hb4⟩
      case measure => simp [intOf]; omega
    · obtain rfl : k = kids.length := by omega
      rw [List.take_length] at own
      have fin := fun m' => own.slT (fun m => by rw [exT_size, exT_size]) (Nat.le_refl _) m'
      simp only [List.map_id] at fin
      obtain ⟨A', p', hf, _, _⟩ := (fin false).form
      subst hf
      clear own
      have rf0 : (wr).frozen? ⟨w.heap.size, 0, none⟩ = false := L0.frozen 0
      have rf1 : (wr).frozen? ⟨w.heap.size, 1, none⟩ = false := L0.frozen 1
      have rf2 : (wr).frozen? ⟨w.heap.size, 2, none⟩ = false := L0.frozen 2
      have rf3 : (wr).frozen? ⟨w.heap.size, 3, none⟩ = false := L0.frozen 3
      have sf0 : (wr).frozen? ⟨w.heap.size + 1, 0, none⟩ = false := L1.frozen 0
      have sf1 : (wr).frozen? ⟨w.heap.size + 1, 1, none⟩ = false := L1.frozen 1
      have sf2 : (wr).frozen? ⟨w.heap.size + 1, 2, none⟩ = false := L1.frozen 2
      have sf3 : (wr).frozen? ⟨w.heap.size + 1, 3, none⟩ = false := L1.frozen 3
      go_wp2_with fail
      refine bodyPost_ret (v := .agg #[.int .i64 op, .int .i64 n, .string name, .slice A' kids.length p']) (by simp [results, Tryd.results20, go_sem, y1_0, y1_1, y1_2, y1_3]) rfl ⟨_, rfl, fun m' => ?_, ?_⟩
      · exact exT_mk m' (m + 1) op n name kids _ ho hn64 hnm ((fin m').keep (by omega) (by simp [World.setCell]) ((((((Same.refl _ _ _).setCell (p := ⟨w.heap.size, 3, none⟩) (.inl (by first | omega | (simp; omega) | simp)) (.slice A' kids.length p')).setCell (p := ⟨w.heap.size + 1, 0, none⟩) (.inl (by first | omega | (simp; omega) | simp)) (.int .i64 op)).setCell (p := ⟨w.heap.size + 1, 1, none⟩) (.inl (by first | omega | (simp; omega) | simp)) (.int .i64 n)).setCell (p := ⟨w.heap.size + 1, 2, none⟩) (.inl (by first | omega | (simp; omega) | simp)) (.string name)).setCell (p := ⟨w.heap.size + 1, 3, none⟩) (.inl (by first | omega | (simp; omega) | simp)) (.slice A' kids.length p')))
      · exact (((((hb.setCell (p := ⟨w.heap.size, 3, none⟩) (by first | omega | (simp; omega) | simp) (.slice A' kids.length p')).setCell (p := ⟨w.heap.size + 1, 0, none⟩) (by first | omega | (simp; omega) | simp) (.int .i64 op)).setCell (p := ⟨w.heap.size + 1, 1, none⟩) (by first | omega | (simp; omega) | simp) (.int .i64 n)).setCell (p := ⟨w.heap.size + 1, 2, none⟩) (by first | omega | (simp; omega) | simp) (.string name)).setCell (p := ⟨w.heap.size + 1, 3, none⟩) (by first | omega | (simp; omega) | simp) (.slice A' kids.length p'))
theorem spec_l2CopyN : ∀ m : Nat, CopyAt m
  | 0 => fun d op n name kids v3 w lo B _ _ _ _ _ h => by simp [fewB] at h
  | m + 1 => copy_stepN m (spec_l2CopyN m)
end Go.Proofs.YthfinoapfbhgcaaDoor

