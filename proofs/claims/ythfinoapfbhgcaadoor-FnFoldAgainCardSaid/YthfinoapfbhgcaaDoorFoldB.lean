/-
  Several texts in one: Fold6, Fold7, Fold8, FoldC, FoldM.
-/
import Derived.Test.YthfinoapfbhgcaaDoorFoldSA
import Derived.Test.YthfinoapfbhgcaaDoorFoldSB
import Derived.Test.YthfinoapfbhgcaaDoorFoldIA
import Derived.Test.YthfinoapfbhgcaaDoorFoldIB
import Derived.Test.YthfinoapfbhgcaaDoorSet4
namespace Go.Proofs.YthfinoapfbhgcaaDoor
open Go.RowKit Go.ChangeShapes Go.WideShapes Go.Deep
set_option linter.unusedVariables false
set_option linter.unusedSimpArgs false
theorem form_kid {m : Nat} {op n : Int} {name : ByteArray} {kids : List Ex} (h : formB (m + 1) (.mk op n name kids) = true) {k : Ex} (hk : k ∈ kids) : formB m k = true := by
  rw [formB, Bool.and_eq_true] at h
  exact List.all_eq_true.1 h.2 k hk
theorem foldP_out {op n : Int} {name : ByteArray} {kids : List Ex} (h : op < 3 ∨ 11 < op) : foldP (.mk op n name kids) = .mk op n name kids := by
  unfold foldP
  simp only []
  rw [if_neg (by omega), if_neg (by omega)]
theorem foldP_two {op n : Int} {name : ByteArray} {a b : Ex} (h1 : 3 ≤ op) (h2 : op ≤ 10) : foldP (.mk op n name [a, b]) = foldTwo op a b (.mk op n name [a, b]) := by
  unfold foldP
  simp only []
  rw [if_neg (by omega), if_pos ⟨h1, h2⟩]
theorem form_op {m : Nat} {op n : Int} {name : ByteArray} {kids : List Ex} (h : formB (m + 1) (.mk op n name kids) = true) : 1 ≤ op ∧ op ≤ 13 := by
  rw [formB, Bool.and_eq_true] at h
  have h1 := h.1
  by_cases ho : op < 1 ∨ 13 < op
  · rw [fmK_out ho] at h1
    cases h1
  · omega
theorem form_leaf {m : Nat} {op n : Int} {name : ByteArray} {kids : List Ex} (h : formB (m + 1) (.mk op n name kids) = true) (ho : op = 1 ∨ op = 2) : kids.length = 0 := by
  rw [formB, Bool.and_eq_true] at h
  have h1 := h.1
  unfold fmK at h1
  rcases ho with rfl | rfl
  · rw [if_pos rfl] at h1
    simp only [Bool.and_eq_true, decide_eq_true_eq] at h1
    exact h1.2.2
  · rw [if_neg (by omega), if_pos rfl] at h1
    simp only [Bool.and_eq_true, decide_eq_true_eq] at h1
    exact h1.2.2
def PartAt (F : FuncId) : Prop := ∀ (d : Nat) (op n : Int) (name : ByteArray) (kids : List Ex) (A : Option Addr) (p : Nat) (w : World) (lo B : Nat) (_ : B ≤ w.heap.size) (_ : I64 op) (_ : I64 n) (_ : name.size ≤ maxLen) (_ : ∀ m, SlT m (exT m (d + 1)) w lo B kids (.slice A kids.length p)) (_ : formB 6 (.mk op n name kids) = true) (_ : partsE (.mk op n name kids) ≤ 30) (_ : Tabs w),
  Calls Tryd.prog F #[.agg #[.int .i64 op, .int .i64 n, .string name, .slice A kids.length p]] w (FoldRP (d + 1) (foldP (.mk op n name kids)) lo B w)

theorem spec_l6Part : PartAt 48 := by
  intro d op n name kids A p w lo B hB ho hn hnm h3 hf hp ht
  obtain ⟨o1, o13⟩ := form_op hf
  by_cases hlow : op < 3 ∨ 11 < op
  · rw [foldP_out hlow]
    exact spec_l6Part_out (d + 1) op n name kids A p w lo B hB ho hn hnm h3 hlow
  by_cases h11 : op = 11
  · subst h11
    have hl := form_len hf ⟨by omega, by omega⟩
    rw [if_pos rfl] at hl
    match kids, hl with
    | [.mk kop kn kname kkids], _ =>
      have hk := form_kid hf (k := .mk kop kn kname kkids) (by simp)
      exact spec_l6Part_11 d n name kop kn kname kkids A p w lo B hB hn hnm h3 (fun e => form_n hk e) (fun e => by
        subst e
        have := form_len hk ⟨by omega, by omega⟩
        rw [if_pos rfl] at this
        exact this)
  have hl := form_len hf ⟨by omega, by omega⟩
  rw [if_neg h11] at hl
  match kids, hl with
  | [.mk aop an aname akids, .mk bop bn bname bkids], _ =>
    have ha := form_kid hf (k := .mk aop an aname akids) (by simp)
    have hb := form_kid hf (k := .mk bop bn bname bkids) (by simp)
    have fa := formB_mono _ _ ha
    have fb := formB_mono _ _ hb
    rw [partsE_mk, partsL_cons, partsL_cons, partsL_nil] at hp
    have va : valE (.mk aop an aname akids) = true := val_mk fa (by omega)
    have vb : valE (.mk bop bn bname bkids) = true := val_mk fb (by omega)
    have ra : aop = 1 → 0 ≤ an ∧ an ≤ 255 := fun e => form_n ha e
    have rb : bop = 1 → 0 ≤ bn ∧ bn ≤ 255 := fun e => form_n hb e
    rw [foldP_two (by omega) (by omega)]
    have hcase : op = 3 ∨ op = 4 ∨ op = 5 ∨ op = 6 ∨ op = 7 ∨ op = 8 ∨ op = 9 ∨ op = 10 := by omega
    rcases hcase with rfl | rfl | rfl | rfl | rfl | rfl | rfl | rfl
    · exact spec_l6Part_3 d n name aop an aname akids bop bn bname bkids A p w lo B hB hn hnm h3 ra rb fa fb
    · exact spec_l6Part_4 d n name aop an aname akids bop bn bname bkids A p w lo B hB hn hnm h3 ra rb fa fb
    · exact spec_l6Part_5 d n name aop an aname akids bop bn bname bkids A p w lo B hB hn hnm h3 ra rb fa fb
    · exact spec_l6Part_6 d n name aop an aname akids bop bn bname bkids A p w lo B hB hn hnm h3 ra rb fa fb
    · exact spec_l6Part_7 d n name aop an aname akids bop bn bname bkids A p w lo B hB hn hnm h3 ra rb fa fb
    · exact spec_l6Part_8 d n name aop an aname akids bop bn bname bkids A p w lo B hB hn hnm h3 ra rb fa fb
    · exact spec_l6Part_9 d n name aop an aname akids bop bn bname bkids A p w lo B hB hn hnm h3 ra rb fa fb
    · exact spec_l6Part_10 d n name aop an aname akids bop bn bname bkids A p w lo B hB hn hnm h3 ra rb fa fb
theorem impl_foldPart : PartAt 47 := by
  intro d op n name kids A p w lo B hB ho hn hnm h3 hf hp ht
  obtain ⟨o1, o13⟩ := form_op hf
  by_cases hlow : op < 3 ∨ 11 < op
  · rw [foldP_out hlow]
    refine impl_foldPart_out (d + 1) op n name kids A p w lo B hB ho hn hnm h3 ?_
    by_cases hl : op = 1 ∨ op = 2
    · exact Or.inl (form_leaf hf hl)
    · exact Or.inr (by omega)
  by_cases h11 : op = 11
  · subst h11
    have hl := form_len hf ⟨by omega, by omega⟩
    rw [if_pos rfl] at hl
    match kids, hl with
    | [.mk kop kn kname kkids], _ =>
      have hk := form_kid hf (k := .mk kop kn kname kkids) (by simp)
      exact impl_foldPart_11 d n name kop kn kname kkids A p w lo B hB hn hnm h3 (fun e => form_n hk e) (fun e => by
        subst e
        have := form_len hk ⟨by omega, by omega⟩
        rw [if_pos rfl] at this
        exact this)
  have hl := form_len hf ⟨by omega, by omega⟩
  rw [if_neg h11] at hl
  match kids, hl with
  | [.mk aop an aname akids, .mk bop bn bname bkids], _ =>
    have ha := form_kid hf (k := .mk aop an aname akids) (by simp)
    have hb := form_kid hf (k := .mk bop bn bname bkids) (by simp)
    have fa := formB_mono _ _ ha
    have fb := formB_mono _ _ hb
    rw [partsE_mk, partsL_cons, partsL_cons, partsL_nil] at hp
    have va : valE (.mk aop an aname akids) = true := val_mk fa (by omega)
    have vb : valE (.mk bop bn bname bkids) = true := val_mk fb (by omega)
    have ra : aop = 1 → 0 ≤ an ∧ an ≤ 255 := fun e => form_n ha e
    have rb : bop = 1 → 0 ≤ bn ∧ bn ≤ 255 := fun e => form_n hb e
    rw [foldP_two (by omega) (by omega)]
    have hcase : op = 3 ∨ op = 4 ∨ op = 5 ∨ op = 6 ∨ op = 7 ∨ op = 8 ∨ op = 9 ∨ op = 10 := by omega
    rcases hcase with rfl | rfl | rfl | rfl | rfl | rfl | rfl | rfl
    · exact impl_foldPart_3 d n name aop an aname akids bop bn bname bkids A p w lo B hB hn hnm h3 ra rb fa fb va vb ht
    · exact impl_foldPart_4 d n name aop an aname akids bop bn bname bkids A p w lo B hB hn hnm h3 ra rb fa fb va vb ht
    · exact impl_foldPart_5 d n name aop an aname akids bop bn bname bkids A p w lo B hB hn hnm h3 ra rb fa fb va vb ht
    · exact impl_foldPart_6 d n name aop an aname akids bop bn bname bkids A p w lo B hB hn hnm h3 ra rb fa fb va vb ht
    · exact impl_foldPart_7 d n name aop an aname akids bop bn bname bkids A p w lo B hB hn hnm h3 ra rb fa fb va vb ht
    · exact impl_foldPart_8 d n name aop an aname akids bop bn bname bkids A p w lo B hB hn hnm h3 ra rb fa fb va vb ht
    · exact impl_foldPart_9 d n name aop an aname akids bop bn bname bkids A p w lo B hB hn hnm h3 ra rb fa fb va vb ht
    · exact impl_foldPart_10 d n name aop an aname akids bop bn bname bkids A p w lo B hB hn hnm h3 ra rb fa fb va vb ht
end Go.Proofs.YthfinoapfbhgcaaDoor

namespace Go.Proofs.YthfinoapfbhgcaaDoor
open Go.RowKit Go.ChangeShapes Go.WideShapes Go.Deep
set_option linter.unusedVariables false
set_option linter.unusedSimpArgs false
def FoldAt (F : FuncId) (m : Nat) : Prop := ∀ (d : Nat) (op n : Int) (name : ByteArray) (kids : List Ex) (v3 : Value) (w : World) (lo B : Nat) (_ : B ≤ w.heap.size) (_ : I64 op) (_ : I64 n) (_ : name.size ≤ maxLen) (_ : Sl false (exS false d) w lo B kids v3) (_ : formB m (.mk op n name kids) = true) (_ : partsE (.mk op n name kids) ≤ 30) (_ : m ≤ 6) (_ : Tabs w),
  Calls Tryd.prog F #[.agg #[.int .i64 op, .int .i64 n, .string name, v3]] w (ToTE m (foldE m (.mk op n name kids)) w)
theorem fold_kids {m : Nat} {op n : Int} {name : ByteArray} {kids kk : List Ex} (hk : kids.map (foldE m) = kk) (hf : formB (m + 1) (.mk op n name kids) = true) (hp : partsE (.mk op n name kids) ≤ 30) (hm : m + 1 ≤ 6) : formB 6 (.mk op n name kk) = true ∧ partsE (.mk op n name kk) ≤ 30 := by
  subst hk
  rw [formB, Bool.and_eq_true] at hf
  have h1 : formB (m + 1) (.mk op n name (kids.map (foldE m))) = true := by
    rw [formB, List.length_map, hf.1, Bool.true_and, List.all_map]
    exact List.all_eq_true.2 fun e he => (foldE_form m e (List.all_eq_true.1 hf.2 e he)).1
  have h2 := partsL_map (f := foldE m) kids (fun e he => (foldE_form m e (List.all_eq_true.1 hf.2 e he)).2)
  rw [partsE_mk] at hp ⊢
  exact ⟨formB_le hm h1, by omega⟩
set_option maxRecDepth 100000 in
set_option maxHeartbeats 8000000 in
theorem fold_step (m : Nat) (ih : FoldAt 28 m) : FoldAt 28 (m + 1) := by
  intro d op n name kids v3 w lo B hB ho hn64 hnm h3 hform hp hm ht
  have hK := fun kk (hk : kids.map (foldE m) = kk) => fold_kids hk hform hp hm
  replace hK := Lib.hid hK
  have HP : Hid (∀ e ∈ kids, partsE e ≤ 30) := fun e he => by
    have := partsL_mem he
    rw [partsE_mk] at hp
    omega
  have HT := Lib.hid (fun (w9 : World) (h9 : Below w.heap.size w w9) => ht.below h9 (Nat.le_refl _))
  clear hp ht
  rw [formB, Bool.and_eq_true] at hform
  obtain ⟨hfm, hall⟩ := hform
  replace hall := Lib.hid hall
  have hk3 := fmK_len hfm
  clear hfm
  obtain ⟨A, p, hf, hl1, hl2⟩ := h3.form
  subst hf
  have hb2 : Below w.heap.size w ((w.alloc (.cells #[.int .i64 op, .int .i64 n, .string name, .slice A kids.length p] 25)).alloc (.cells #[.int .i64 0, .int .i64 0, .string ⟨#[]⟩, .slice none 0 0] 25)) := ((Below.refl _ _).alloc (Nat.le_refl _) _).alloc (by simp) _
  have R2 : Row ((w.alloc (.cells #[.int .i64 op, .int .i64 n, .string name, .slice A kids.length p] 25)).alloc (.cells #[.int .i64 0, .int .i64 0, .string ⟨#[]⟩, .slice none 0 0] 25)) w.heap.size 25 #[.int .i64 op, .int .i64 n, .string name, .slice A kids.length p] := (Row.new w _ _).alloc _
  have S2 : Row ((w.alloc (.cells #[.int .i64 op, .int .i64 n, .string name, .slice A kids.length p] 25)).alloc (.cells #[.int .i64 0, .int .i64 0, .string ⟨#[]⟩, .slice none 0 0] 25)) (w.heap.size + 1) 25 #[.int .i64 0, .int .i64 0, .string ⟨#[]⟩, .slice none 0 0] := by simpa using Row.new (w.alloc (.cells #[.int .i64 op, .int .i64 n, .string name, .slice A kids.length p] 25)) 25 #[.int .i64 0, .int .i64 0, .string ⟨#[]⟩, .slice none 0 0]
  have z2 : w.heap.size + 1 + 1 = ((w.alloc (.cells #[.int .i64 op, .int .i64 n, .string name, .slice A kids.length p] 25)).alloc (.cells #[.int .i64 0, .int .i64 0, .string ⟨#[]⟩, .slice none 0 0] 25)).heap.size := by simp
  go_enter Tryd.func28, Tryd.ntmps28
  go_wp2_with fail
  refine (impl_mapped 28 #[] (foldE m) m d kids (.slice A kids.length p) _ lo B (Nat.le_trans hB hb2.size) (by omega) (h3.below hb2 hB) (fun args w => by kernel_rfl) (fun d' op' n' name' kids' v' w' hd hb' g0 g1 g2 g3 hmem => by simpa using ih d' op' n' name' kids' v' w' lo B (Nat.le_trans hB (hb2.trans (hb'.mono hb2.size)).size) g0 g1 g2 g3 (List.all_eq_true.1 hall.out _ hmem) (HP.out _ hmem) (by omega) (HT.out _ (hb2.trans (hb'.mono hb2.size))))).mono ?_
  rintro e w1 ⟨v', rfl, hx, b1⟩
  obtain ⟨kk, hkk⟩ : ∃ kk, kids.map (foldE m) = kk := ⟨_, rfl⟩
  rw [hkk] at hx
  have HKK := Lib.hid hkk
  clear hkk
  obtain ⟨A', p', hf, _, _⟩ := (hx false).form
  subst hf
  have hb1 : Below w.heap.size w w1 := hb2.trans (b1.mono hb2.size)
  have R1 := R2.below b1 R2.lt
  have S1 := S2.below b1 S2.lt
  have hy : ∀ mm, SlT mm (exT mm (m + 1)) w1 (w.heap.size + 1 + 1) w1.heap.size kk (.slice A' kk.length p') := fun mm => (hx mm).more (Nat.le_of_eq z2) (Nat.le_refl _)
  have z1 : w.heap.size + 1 + 1 ≤ w1.heap.size := z2 ▸ b1.size
  clear z2 hx b1 hb2 R2 S2
  obtain ⟨hf6, hp6⟩ := hK.out kk HKK.out
  have rf3 : (w1).frozen? ⟨w.heap.size, 3, none⟩ = false := R1.frozen 3
  have rc0 : (w1).cell? ⟨w.heap.size, 0, none⟩ = some (.int .i64 op) := R1.cell 0
  have rc1 : (w1).cell? ⟨w.heap.size, 1, none⟩ = some (.int .i64 n) := R1.cell 1
  have rc2 : (w1).cell? ⟨w.heap.size, 2, none⟩ = some (.string name) := R1.cell 2
  have rc3 : (w1).cell? ⟨w.heap.size, 3, none⟩ = some (.slice A kids.length p) := R1.cell 3
  have RN := R1.set_ 3 (.slice A' kk.length p')
  have SN : Row (w1.setCell ⟨w.heap.size, 3, none⟩ (.slice A' kk.length p')) (w.heap.size + 1) 25 #[.int .i64 0, .int .i64 0, .string ⟨#[]⟩, .slice none 0 0] := S1.far (by show w.heap.size + 1 ≠ w.heap.size; omega) _
  have hbN : Below w.heap.size w (w1.setCell ⟨w.heap.size, 3, none⟩ (.slice A' kk.length p')) := hb1.setCell (p := ⟨w.heap.size, 3, none⟩) (Nat.le_refl _) _
  have hxN : ∀ mm, SlT mm (exT mm (m + 1)) (w1.setCell ⟨w.heap.size, 3, none⟩ (.slice A' kk.length p')) (w.heap.size + 1 + 1) w1.heap.size kk (.slice A' kk.length p') := fun mm => (hy mm).keep (Nat.le_refl _) (Nat.le_refl _) (fun b h1 h2 => Below.heap_setCell _ _ _ b (by show b ≠ w.heap.size; omega))
  have hzN : w1.heap.size ≤ (w1.setCell ⟨w.heap.size, 3, none⟩ (.slice A' kk.length p')).heap.size := by simp [World.setCell]
  have nc0 : (w1.setCell ⟨w.heap.size, 3, none⟩ (.slice A' kk.length p')).cell? ⟨w.heap.size, 0, none⟩ = some (.int .i64 op) := RN.cell 0
  have nc1 : (w1.setCell ⟨w.heap.size, 3, none⟩ (.slice A' kk.length p')).cell? ⟨w.heap.size, 1, none⟩ = some (.int .i64 n) := RN.cell 1
  have nc2 : (w1.setCell ⟨w.heap.size, 3, none⟩ (.slice A' kk.length p')).cell? ⟨w.heap.size, 2, none⟩ = some (.string name) := RN.cell 2
  have nc3 : (w1.setCell ⟨w.heap.size, 3, none⟩ (.slice A' kk.length p')).cell? ⟨w.heap.size, 3, none⟩ = some (.slice A' kk.length p') := RN.cell 3
  go_wp2_with fail
  refine (impl_foldPart m op n name kk A' p' _ (w.heap.size + 1 + 1) w1.heap.size hzN ho hn64 hnm hxN hf6 hp6 (HT.out _ hbN)).mono ?_
  rintro e w4 ⟨v4, he, hr, b4⟩
  obtain ⟨yop, yn, ynm, yk, hyy⟩ : ∃ (yop yn : Int) (ynm : ByteArray) (yk : List Ex), foldP (.mk op n name kk) = .mk yop yn ynm yk := by
    cases hq : foldP (.mk op n name kk) with
    | mk a b c d => exact ⟨a, b, c, d, rfl⟩
  rw [hyy] at he hr
  replace hyy := Lib.hid hyy
  obtain ⟨Ay, py, hw, _, _⟩ := (exT_kids (m + 1) (hr false)).form
  change _ = Value.slice Ay yk.length py at hw
  subst hw
  change _ = Ending.returned (.agg #[.int .i64 yop, .int .i64 yn, .string ynm, .slice Ay yk.length py]) at he
  subst he
  have SM := SN.below b4 SN.lt
  have hbM : Below w.heap.size w w4 := hbN.trans (b4.mono hbN.size)
  have hzM := b4.size
  have t0 : w4.cell? ⟨w.heap.size + 1, 0, none⟩ = some (.int .i64 0) := SM.cell 0
  have t1 : w4.cell? ⟨w.heap.size + 1, 1, none⟩ = some (.int .i64 0) := SM.cell 1
  have t2 : w4.cell? ⟨w.heap.size + 1, 2, none⟩ = some (.string ⟨#[]⟩) := SM.cell 2
  have t3 : w4.cell? ⟨w.heap.size + 1, 3, none⟩ = some (.slice none 0 0) := SM.cell 3
  have tf0 : w4.frozen? ⟨w.heap.size + 1, 0, none⟩ = false := SM.frozen 0
  have tf1 : w4.frozen? ⟨w.heap.size + 1, 1, none⟩ = false := SM.frozen 1
  have tf2 : w4.frozen? ⟨w.heap.size + 1, 2, none⟩ = false := SM.frozen 2
  have tf3 : w4.frozen? ⟨w.heap.size + 1, 3, none⟩ = false := SM.frozen 3
  clear rc0 nc0 rc1 nc1 rc2 nc2 rc3 nc3
  go_wp2_with fail
  refine bodyPost_ret (v := .agg #[.int .i64 yop, .int .i64 yn, .string ynm, .slice Ay yk.length py]) (by simp [results, Tryd.results28, go_sem, t0, t1, t2, t3]) rfl ?_
  rw [foldE, HKK.out, hyy.out]
  refine ⟨_, rfl, fun m' => ?_, ?_⟩
  · exact (exT m' (m + 1 + 1)).keep (hr m') (by omega) (by simp only [World.setCell, Array.size_modify]; simp only [World.setCell, Array.size_modify] at hzM; omega) (fun b h1 h2 => set4_block w4 (w.heap.size + 1) _ _ _ _ b (by omega))
  · exact hbM.trans (set4_below w4 (w.heap.size + 1) _ _ _ _ (Nat.le_succ _))
theorem impl_fold : ∀ m : Nat, FoldAt 28 m
  | 0 => fun d op n name kids v3 w lo B _ _ _ _ _ h => by simp [formB] at h
  | m + 1 => fold_step m (impl_fold m)
end Go.Proofs.YthfinoapfbhgcaaDoor

namespace Go.Proofs.YthfinoapfbhgcaaDoor
open Go.RowKit Go.ChangeShapes Go.WideShapes Go.Deep
set_option linter.unusedVariables false
set_option linter.unusedSimpArgs false
set_option maxRecDepth 100000 in
set_option maxHeartbeats 8000000 in
theorem sfold_step (m : Nat) (ih : FoldAt 29 m) : FoldAt 29 (m + 1) := by
  intro d op n name kids v3 w lo B hB ho hn64 hnm h3 hform hp hm ht
  have hK := fun kk (hk : kids.map (foldE m) = kk) => fold_kids hk hform hp hm
  replace hK := Lib.hid hK
  have HP : Hid (∀ e ∈ kids, partsE e ≤ 30) := fun e he => by
    have := partsL_mem he
    rw [partsE_mk] at hp
    omega
  have HT := Lib.hid (fun (w9 : World) (h9 : Below w.heap.size w w9) => ht.below h9 (Nat.le_refl _))
  clear hp ht
  rw [formB, Bool.and_eq_true] at hform
  obtain ⟨hfm, hall⟩ := hform
  replace hall := Lib.hid hall
  have hk3 := fmK_len hfm
  clear hfm
  obtain ⟨i0, hi, hz0, hz1, hz2⟩ := info_parts Tryd.info_Expr
  obtain ⟨A, p, hf, hl1, hl2⟩ := h3.form
  subst hf
  have hb2 : Below w.heap.size w ((w.alloc (.cells #[.int .i64 op, .int .i64 n, .string name, .slice A kids.length p] 25)).alloc (.cells #[.int .i64 0, .int .i64 0, .string ⟨#[]⟩, .slice none 0 0] 25)) := ((Below.refl _ _).alloc (Nat.le_refl _) _).alloc (by simp) _
  have hbL : Below w.heap.size w (((w.alloc (.cells #[.int .i64 op, .int .i64 n, .string name, .slice A kids.length p] 25)).alloc (.cells #[.int .i64 0, .int .i64 0, .string ⟨#[]⟩, .slice none 0 0] 25)).alloc (.cells #[] 25)) := hb2.alloc (by simp; omega) _
  have R3 : Row (((w.alloc (.cells #[.int .i64 op, .int .i64 n, .string name, .slice A kids.length p] 25)).alloc (.cells #[.int .i64 0, .int .i64 0, .string ⟨#[]⟩, .slice none 0 0] 25)).alloc (.cells #[] 25)) w.heap.size 25 #[.int .i64 op, .int .i64 n, .string name, .slice A kids.length p] := ((Row.new w _ _).alloc _).alloc _
  have S3 : Row (((w.alloc (.cells #[.int .i64 op, .int .i64 n, .string name, .slice A kids.length p] 25)).alloc (.cells #[.int .i64 0, .int .i64 0, .string ⟨#[]⟩, .slice none 0 0] 25)).alloc (.cells #[] 25)) (w.heap.size + 1) 25 #[.int .i64 0, .int .i64 0, .string ⟨#[]⟩, .slice none 0 0] := by simpa using (Row.new (w.alloc (.cells #[.int .i64 op, .int .i64 n, .string name, .slice A kids.length p] 25)) 25 #[.int .i64 0, .int .i64 0, .string ⟨#[]⟩, .slice none 0 0]).alloc (.cells #[] 25)
  have own0 : OwnT (fun m' => exT m' (m + 1)) 25 (((w.alloc (.cells #[.int .i64 op, .int .i64 n, .string name, .slice A kids.length p] 25)).alloc (.cells #[.int .i64 0, .int .i64 0, .string ⟨#[]⟩, .slice none 0 0] 25)).alloc (.cells #[] 25)) (w.heap.size + 1 + 1) (.slice (some ⟨w.heap.size + 1 + 1, 0, none⟩) 0 0) ((kids.take 0).map (foldE m)) := by
    have h := OwnT.empty (fun m' => exT m' (m + 1)) 25 ((w.alloc (.cells #[.int .i64 op, .int .i64 n, .string name, .slice A kids.length p] 25)).alloc (.cells #[.int .i64 0, .int .i64 0, .string ⟨#[]⟩, .slice none 0 0] 25)) (w.heap.size + 1 + 1) (by simp)
    simpa using h
  go_enter Tryd.func29, Tryd.ntmps29
  go_wp2_with fail
  go_loopw [3, 4] (fun vv i wr => ∃ k : Nat, k ≤ kids.length ∧ i = .int .i64 k ∧ OwnT (fun mm => exT mm (m + 1)) 25 wr (w.heap.size + 1 + 1) vv ((kids.take k).map (foldE m)) ∧ Row wr (w.heap.size) 25 #[.int .i64 op, .int .i64 n, .string name, .slice A kids.length p] ∧ Row wr (w.heap.size + 1) 25 #[.int .i64 0, .int .i64 0, .string ⟨#[]⟩, .slice none 0 0] ∧ Below w.heap.size w wr) (fun _ i _ => kids.length - (intOf i).toNat)
  case atStart => exact ⟨0, by omega, rfl, own0, R3, S3, hbL⟩
  case round =>
    obtain ⟨k, hk, rfl, own, L0, L1, hb⟩ := hrel
    have hsz := hb.size
    have ll0 := L0.lt
    have y0_0 : wr.cell? ⟨w.heap.size, 0, none⟩ = some (.int .i64 op) := L0.cell 0
    have y0_1 : wr.cell? ⟨w.heap.size, 1, none⟩ = some (.int .i64 n) := L0.cell 1
    have y0_2 : wr.cell? ⟨w.heap.size, 2, none⟩ = some (.string name) := L0.cell 2
    have y0_3 : wr.cell? ⟨w.heap.size, 3, none⟩ = some (.slice A kids.length p) := L0.cell 3
    have ll1 := L1.lt
    have y1_0 : wr.cell? ⟨w.heap.size + 1, 0, none⟩ = some (.int .i64 0) := L1.cell 0
    have y1_1 : wr.cell? ⟨w.heap.size + 1, 1, none⟩ = some (.int .i64 0) := L1.cell 1
    have y1_2 : wr.cell? ⟨w.heap.size + 1, 2, none⟩ = some (.string ⟨#[]⟩) := L1.cell 2
    have y1_3 : wr.cell? ⟨w.heap.size + 1, 3, none⟩ = some (.slice none 0 0) := L1.cell 3
    by_cases hkl : k < kids.length
    · obtain ⟨d', rfl⟩ := exS_pos h3 (by omega)
      obtain ⟨b, o, op', n', name', kids', v', rfl, _, hbB, HL, g0, g1, g2, g3, c0, c1, c2, c3⟩ := ex_get d' (h3.below hb hB) hkl
      obtain ⟨A', p', hf, _, _⟩ := g3.form
      change _ = Value.slice A' kids'.length p' at hf
      subst hf
      have hkn : (k : Int) < (kids.length : Int) := by omega
      have hki : (0 : Int) ≤ (k : Int) := by omega
      have hmem : Ex.mk op' n' name' kids' ∈ kids := HL.out ▸ List.getElem_mem hkl
      obtain ⟨y, hy⟩ : ∃ y, (foldE m) (Ex.mk op' n' name' kids') = y := ⟨_, rfl⟩
      have EL : Hid ((kids.take (k + 1)).map (foldE m) = (kids.take k).map (foldE m) ++ [y]) := by
        show _ = _
        rw [List.take_succ_eq_append_getElem hkl, HL.out, List.map_append, List.map_cons, List.map_nil, hy]
      obtain ⟨xs, p0, q0, own0_, hp⟩ := own
      have own0' : wr.ownsRow (w.heap.size + 1 + 1) 25 4 u3 k xs := by
        have h := own0_
        rw [List.length_map, List.length_take, Nat.min_eq_left hk] at h
        exact h
      go_wp2_with fail
      refine (ih d' op' n' name' kids' (.slice A' kids'.length p') _ lo B (Nat.le_trans hB hsz) g0 g1 g2 g3 (List.all_eq_true.1 hall.out _ hmem) (HP.out _ hmem) (by omega) (HT.out _ hb)).mono ?_
      rintro e w1 ⟨v3', he, hx, b1⟩
      rw [hy] at hx he
      clear hy
      obtain ⟨Ay, py, hf, _, _⟩ := (exT_kids m (hx false)).form
      subst hf
      subst he
      have hsz1 := b1.size
      have own1 := own_below own0' b1 (Nat.le_refl _)
      clear own0'
      go_wp2_with (at_builtin; refine wpList_append_own_at _ rfl _ _ 23 rfl (w.heap.size + 1 + 1) 25 i0 (.agg #[.int .i64 0, .int .i64 0, .string ⟨#[]⟩, .slice none 0 0]) 4 56 Tryd.underlying23 hi hz0 hz1 hz2 rfl (by decide) _ _ _ rfl (own1.alloc _) ⟨w1.heap.size, 0, none⟩ 1 1 [.int .i64 y.op, .int .i64 y.n, .string y.name, .slice Ay y.kids.length py] rfl rfl ?c1 ?c2 ?c3 ?c4 ?c5 ?_)
      case c1 => exact cells_row_new w1 [.int .i64 y.op, .int .i64 y.n, .string y.name, .slice Ay y.kids.length py] _
      case c2 => first | rfl | (intro u hu; simp at hu; rcases hu with rfl | rfl | rfl | rfl <;> rfl)
      case c3 => unfold maxLen; omega
      case c4 => omega
      case c5 => simp; omega
      intro v4 w4 own4 hgrow _ hat
      have ho1 : w1.ownsRow (w.heap.size + 1 + 1) 25 (exT true (m + 1)).size u3 ((kids.take k).map (foldE m)).length xs := own_below own0_ b1 (Nat.le_refl _)
      have hp4 := PartsT.snoc (s := wr.heap.size) (v' := v4) (hp.below b1) ho1 (by omega) hsz1 (fun i a ha => by have := (hp i a ha).2.1; omega) (fun b hb' => (own0_.lt b hb').2) hx hgrow (by simpa using hat)
      have own4' : w4.ownsRow (w.heap.size + 1 + 1) 25 (exT true (m + 1)).size v4 (((kids.take k).map (foldE m)) ++ [y]).length (xs ++ [.int .i64 y.op, .int .i64 y.n, .string y.name, .slice Ay y.kids.length py]) := by
        rw [List.length_append, List.length_map, List.length_take, Nat.min_eq_left hk]
        exact own4
      have ownT : OwnT (fun mm => exT mm (m + 1)) 25 w4 (w.heap.size + 1 + 1) v4 ((kids.take (k + 1)).map (foldE m)) := by
        rw [EL.out]
        exact ⟨_, _, _, own4', hp4⟩
      have hb4 : Below w.heap.size w w4 := ((hb.trans (b1.mono hsz)).alloc (by omega) _).grown hgrow (by simp; omega) (fun r hr => by have := own_ge own1 hr; omega)
      have M0 : Row w4 (w.heap.size) 25 #[.int .i64 op, .int .i64 n, .string name, .slice (some ⟨b, o, none⟩) kids.length p] := (hgrow.block _ (by simp; omega) (fun e => own_ne own1 (show w.heap.size < w.heap.size + 1 + 1 by omega) e.symm)).trans (((L0.below b1 ll0).alloc _))
      have M1 : Row w4 (w.heap.size + 1) 25 #[.int .i64 0, .int .i64 0, .string ⟨#[]⟩, .slice none 0 0] := (hgrow.block _ (by simp; omega) (fun e => own_ne own1 (show w.heap.size + 1 < w.heap.size + 1 + 1 by omega) e.symm)).trans (((L1.below b1 ll1).alloc _))
      clear own4 own4' hgrow hat hp4 ho1 own1 own0_ hp hx y0_0 y0_1 y0_2 y0_3 y1_0 y1_1 y1_2 y1_3
      go_wp2_with fail
      go_roundw
      case rel => exact ⟨k + 1, by omega, by go_num, ownT, M0, M1, hb4⟩
      case measure => simp [intOf]; omega
    · obtain rfl : k = kids.length := by omega
      rw [List.take_length] at own
      have fin := fun m' => own.slT (fun m => by rw [exT_size, exT_size]) (Nat.le_refl _) m'
      obtain ⟨kk, hkk⟩ : ∃ kk, kids.map (foldE m) = kk := ⟨_, rfl⟩
      rw [hkk] at fin
      have HKK := Lib.hid hkk
      clear hkk
      obtain ⟨A', p', hf, _, _⟩ := (fin false).form
      subst hf
      clear own
      have hy := fin
      clear fin
      clear y0_0 y0_1 y0_2 y0_3 y1_0 y1_1 y1_2 y1_3
      obtain ⟨hf6, hp6⟩ := hK.out kk HKK.out
      have rf3 : (wr).frozen? ⟨w.heap.size, 3, none⟩ = false := L0.frozen 3
      have rc0 : (wr).cell? ⟨w.heap.size, 0, none⟩ = some (.int .i64 op) := L0.cell 0
      have rc1 : (wr).cell? ⟨w.heap.size, 1, none⟩ = some (.int .i64 n) := L0.cell 1
      have rc2 : (wr).cell? ⟨w.heap.size, 2, none⟩ = some (.string name) := L0.cell 2
      have rc3 : (wr).cell? ⟨w.heap.size, 3, none⟩ = some (.slice A kids.length p) := L0.cell 3
      have RN := L0.set_ 3 (.slice A' kk.length p')
      have SN : Row (wr.setCell ⟨w.heap.size, 3, none⟩ (.slice A' kk.length p')) (w.heap.size + 1) 25 #[.int .i64 0, .int .i64 0, .string ⟨#[]⟩, .slice none 0 0] := L1.far (by show w.heap.size + 1 ≠ w.heap.size; omega) _
      have hbN : Below w.heap.size w (wr.setCell ⟨w.heap.size, 3, none⟩ (.slice A' kk.length p')) := hb.setCell (p := ⟨w.heap.size, 3, none⟩) (Nat.le_refl _) _
      have hxN : ∀ mm, SlT mm (exT mm (m + 1)) (wr.setCell ⟨w.heap.size, 3, none⟩ (.slice A' kk.length p')) (w.heap.size + 1 + 1) wr.heap.size kk (.slice A' kk.length p') := fun mm => (hy mm).keep (Nat.le_refl _) (Nat.le_refl _) (fun b h1 h2 => Below.heap_setCell _ _ _ b (by show b ≠ w.heap.size; omega))
      have hzN : wr.heap.size ≤ (wr.setCell ⟨w.heap.size, 3, none⟩ (.slice A' kk.length p')).heap.size := by simp [World.setCell]
      have nc0 : (wr.setCell ⟨w.heap.size, 3, none⟩ (.slice A' kk.length p')).cell? ⟨w.heap.size, 0, none⟩ = some (.int .i64 op) := RN.cell 0
      have nc1 : (wr.setCell ⟨w.heap.size, 3, none⟩ (.slice A' kk.length p')).cell? ⟨w.heap.size, 1, none⟩ = some (.int .i64 n) := RN.cell 1
      have nc2 : (wr.setCell ⟨w.heap.size, 3, none⟩ (.slice A' kk.length p')).cell? ⟨w.heap.size, 2, none⟩ = some (.string name) := RN.cell 2
      have nc3 : (wr.setCell ⟨w.heap.size, 3, none⟩ (.slice A' kk.length p')).cell? ⟨w.heap.size, 3, none⟩ = some (.slice A' kk.length p') := RN.cell 3
      go_wp2_with fail
      refine (spec_l6Part m op n name kk A' p' _ (w.heap.size + 1 + 1) wr.heap.size hzN ho hn64 hnm hxN hf6 hp6 (HT.out _ hbN)).mono ?_
      rintro e w4 ⟨v4, he, hr, b4⟩
      obtain ⟨yop, yn, ynm, yk, hyy⟩ : ∃ (yop yn : Int) (ynm : ByteArray) (yk : List Ex), foldP (.mk op n name kk) = .mk yop yn ynm yk := by
        cases hq : foldP (.mk op n name kk) with
        | mk a b c d => exact ⟨a, b, c, d, rfl⟩
      rw [hyy] at he hr
      replace hyy := Lib.hid hyy
      obtain ⟨Ay, py, hw, _, _⟩ := (exT_kids (m + 1) (hr false)).form
      change _ = Value.slice Ay yk.length py at hw
      subst hw
      change _ = Ending.returned (.agg #[.int .i64 yop, .int .i64 yn, .string ynm, .slice Ay yk.length py]) at he
      subst he
      have SM := SN.below b4 SN.lt
      have hbM : Below w.heap.size w w4 := hbN.trans (b4.mono hbN.size)
      have hzM := b4.size
      have t0 : w4.cell? ⟨w.heap.size + 1, 0, none⟩ = some (.int .i64 0) := SM.cell 0
      have t1 : w4.cell? ⟨w.heap.size + 1, 1, none⟩ = some (.int .i64 0) := SM.cell 1
      have t2 : w4.cell? ⟨w.heap.size + 1, 2, none⟩ = some (.string ⟨#[]⟩) := SM.cell 2
      have t3 : w4.cell? ⟨w.heap.size + 1, 3, none⟩ = some (.slice none 0 0) := SM.cell 3
      have tf0 : w4.frozen? ⟨w.heap.size + 1, 0, none⟩ = false := SM.frozen 0
      have tf1 : w4.frozen? ⟨w.heap.size + 1, 1, none⟩ = false := SM.frozen 1
      have tf2 : w4.frozen? ⟨w.heap.size + 1, 2, none⟩ = false := SM.frozen 2
      have tf3 : w4.frozen? ⟨w.heap.size + 1, 3, none⟩ = false := SM.frozen 3
      clear rc0 nc0 rc1 nc1 rc2 nc2 rc3 nc3
      go_wp2_with fail
      refine bodyPost_ret (v := .agg #[.int .i64 yop, .int .i64 yn, .string ynm, .slice Ay yk.length py]) (by simp [results, Tryd.results29, go_sem, t0, t1, t2, t3]) rfl ?_
      rw [foldE, HKK.out, hyy.out]
      refine ⟨_, rfl, fun m' => ?_, ?_⟩
      · exact (exT m' (m + 1 + 1)).keep (hr m') (by omega) (by simp only [World.setCell, Array.size_modify]; simp only [World.setCell, Array.size_modify] at hzM; omega) (fun b h1 h2 => set4_block w4 (w.heap.size + 1) _ _ _ _ b (by omega))
      · exact hbM.trans (set4_below w4 (w.heap.size + 1) _ _ _ _ (Nat.le_succ _))
theorem spec_l6Fold : ∀ m : Nat, FoldAt 29 m
  | 0 => fun d op n name kids v3 w lo B _ _ _ _ _ h => by simp [formB] at h
  | m + 1 => sfold_step m (spec_l6Fold m)
end Go.Proofs.YthfinoapfbhgcaaDoor

namespace Go.Proofs.YthfinoapfbhgcaaDoor
open Go.RowKit Go.ChangeShapes Go.WideShapes Go.Deep
set_option linter.unusedVariables false
set_option linter.unusedSimpArgs false
/-- what FoldExpr answers -/
def foldV (e : Ex) : Ex × Bool := if valE e = true then (foldE 6 e, true) else (exZ, false)
theorem foldV_no {e : Ex} (h : valE e = false) : foldV e = (exZ, false) := by unfold foldV; rw [if_neg (by rw [h]; simp)]
theorem foldV_yes {e : Ex} (h : valE e = true) : foldV e = (foldE 6 e, true) := by unfold foldV; rw [if_pos h]
set_option maxRecDepth 100000 in
set_option maxHeartbeats 8000000 in
theorem spec_FoldExpr (d : Nat) (op n : Int) (name : ByteArray) (kids : List Ex) (v3 : Value) (w : World) (lo B : Nat) (hB : B ≤ w.heap.size) (ho : I64 op) (hn64 : I64 n) (hnm : name.size ≤ maxLen) (h3 : Sl false (exS false d) w lo B kids v3) (ht : Tabs w) :
    Calls Tryd.prog 12 #[.agg #[.int .i64 op, .int .i64 n, .string name, v3]] w (PairP 12 (foldV (.mk op n name kids)) w) := by
  obtain ⟨A, p, hf, hl1, hl2⟩ := h3.form
  subst hf
  have hb2 : Below w.heap.size w ((w.alloc (.cells #[.int .i64 op, .int .i64 n, .string name, .slice A kids.length p] 25)).alloc (.cells #[.int .i64 0, .int .i64 0, .string ⟨#[]⟩, .slice none 0 0] 25)) := ((Below.refl _ _).alloc (Nat.le_refl _) _).alloc (by simp) _
  have R2 : Row ((w.alloc (.cells #[.int .i64 op, .int .i64 n, .string name, .slice A kids.length p] 25)).alloc (.cells #[.int .i64 0, .int .i64 0, .string ⟨#[]⟩, .slice none 0 0] 25)) w.heap.size 25 #[.int .i64 op, .int .i64 n, .string name, .slice A kids.length p] := (Row.new w _ _).alloc _
  have S2 : Row ((w.alloc (.cells #[.int .i64 op, .int .i64 n, .string name, .slice A kids.length p] 25)).alloc (.cells #[.int .i64 0, .int .i64 0, .string ⟨#[]⟩, .slice none 0 0] 25)) (w.heap.size + 1) 25 #[.int .i64 0, .int .i64 0, .string ⟨#[]⟩, .slice none 0 0] := by simpa using Row.new (w.alloc (.cells #[.int .i64 op, .int .i64 n, .string name, .slice A kids.length p] 25)) 25 #[.int .i64 0, .int .i64 0, .string ⟨#[]⟩, .slice none 0 0]
  go_enter Tryd.func12, Tryd.ntmps12
  go_wp2_with fail
  refine (spec_ExprValid d op n name kids _ _ lo B (Nat.le_trans hB hb2.size) ho hn64 hnm (h3.below hb2 hB)).mono ?_
  rintro e w3 ⟨rfl, b3⟩
  have hb3 := hb2.trans (b3.mono hb2.size)
  have R3 := R2.below b3 R2.lt
  have S3 := S2.below b3 S2.lt
  cases hv : valE (.mk op n name kids)
  case false =>
    have E : Hid (foldV (.mk op n name kids) = (exZ, false)) := foldV_no hv
    have s0 : w3.cell? ⟨w.heap.size + 1, 0, none⟩ = some (.int .i64 0) := S3.cell 0
    have sf0 : w3.frozen? ⟨w.heap.size + 1, 0, none⟩ = false := S3.frozen 0
    have s1 : w3.cell? ⟨w.heap.size + 1, 1, none⟩ = some (.int .i64 0) := S3.cell 1
    have sf1 : w3.frozen? ⟨w.heap.size + 1, 1, none⟩ = false := S3.frozen 1
    have s2 : w3.cell? ⟨w.heap.size + 1, 2, none⟩ = some (.string ⟨#[]⟩) := S3.cell 2
    have sf2 : w3.frozen? ⟨w.heap.size + 1, 2, none⟩ = false := S3.frozen 2
    have s3 : w3.cell? ⟨w.heap.size + 1, 3, none⟩ = some (.slice none 0 0) := S3.cell 3
    have sf3 : w3.frozen? ⟨w.heap.size + 1, 3, none⟩ = false := S3.frozen 3
    go_wp2_with fail
    refine bodyPost_ret (v := .tuple #[.agg #[.int .i64 0, .int .i64 0, .string ⟨#[]⟩, .slice none 0 0], .bool false]) (by simp [results, Tryd.results12, go_sem, s0, s1, s2, s3]) rfl (PairP.no E.out rfl ((((hb3.setCell (p := ⟨w.heap.size + 1, 0, none⟩) (Nat.le_succ _) (.int .i64 0)).setCell (p := ⟨w.heap.size + 1, 1, none⟩) (Nat.le_succ _) (.int .i64 0)).setCell (p := ⟨w.heap.size + 1, 2, none⟩) (Nat.le_succ _) (.string ⟨#[]⟩)).setCell (p := ⟨w.heap.size + 1, 3, none⟩) (Nat.le_succ _) (.slice none 0 0)))
  case true =>
    have E : Hid (foldV (.mk op n name kids) = (foldE 6 (.mk op n name kids), true)) := foldV_yes hv
    replace hv := Lib.hid hv
    have r0 : w3.cell? ⟨w.heap.size, 0, none⟩ = some (.int .i64 op) := R3.cell 0
    have r1 : w3.cell? ⟨w.heap.size, 1, none⟩ = some (.int .i64 n) := R3.cell 1
    have r2 : w3.cell? ⟨w.heap.size, 2, none⟩ = some (.string name) := R3.cell 2
    have r3 : w3.cell? ⟨w.heap.size, 3, none⟩ = some (.slice A kids.length p) := R3.cell 3
    go_wp2_with fail
    refine (spec_l6Fold 6 d op n name kids _ _ lo B (Nat.le_trans hB hb3.size) ho hn64 hnm (h3.below hb3 hB) (val_form hv.out) (valE_parts hv.out) (Nat.le_refl _) (ht.below hb3 (Nat.le_refl _))).mono ?_
    rintro e w4 ⟨v4, he, hr, b4⟩
    obtain ⟨yop, yn, ynm, yk, hyy⟩ : ∃ (yop yn : Int) (ynm : ByteArray) (yk : List Ex), foldE 6 (.mk op n name kids) = .mk yop yn ynm yk := by
      cases hq : foldE 6 (.mk op n name kids) with
      | mk a b c d => exact ⟨a, b, c, d, rfl⟩
    rw [hyy] at he hr
    replace hyy := Lib.hid hyy
    obtain ⟨Ay, py, hw, _, _⟩ := (exT_kids 6 (hr false)).form
    change _ = Value.slice Ay yk.length py at hw
    subst hw
    change _ = Ending.returned (.agg #[.int .i64 yop, .int .i64 yn, .string ynm, .slice Ay yk.length py]) at he
    subst he
    have S4 := S3.below b4 S3.lt
    have hb4 := hb3.trans (b4.mono hb3.size)
    have hz3 := S3.lt
    clear r0 r1 r2 r3
    have s0 : w4.cell? ⟨w.heap.size + 1, 0, none⟩ = some (.int .i64 0) := S4.cell 0
    have sf0 : w4.frozen? ⟨w.heap.size + 1, 0, none⟩ = false := S4.frozen 0
    have s1 : w4.cell? ⟨w.heap.size + 1, 1, none⟩ = some (.int .i64 0) := S4.cell 1
    have sf1 : w4.frozen? ⟨w.heap.size + 1, 1, none⟩ = false := S4.frozen 1
    have s2 : w4.cell? ⟨w.heap.size + 1, 2, none⟩ = some (.string ⟨#[]⟩) := S4.cell 2
    have sf2 : w4.frozen? ⟨w.heap.size + 1, 2, none⟩ = false := S4.frozen 2
    have s3 : w4.cell? ⟨w.heap.size + 1, 3, none⟩ = some (.slice none 0 0) := S4.cell 3
    have sf3 : w4.frozen? ⟨w.heap.size + 1, 3, none⟩ = false := S4.frozen 3
    go_wp2_with fail
    refine bodyPost_ret (v := .tuple #[.agg #[.int .i64 yop, .int .i64 yn, .string ynm, .slice Ay yk.length py], .bool true]) (by simp [results, Tryd.results12, go_sem, s0, s1, s2, s3]) rfl ?_
    unfold PairP
    rw [E.out, hyy.out]
    refine ⟨_, rfl, fun m' => exT_le m' (show 7 ≤ 13 by omega) ((exT m' 7).keep (hr m') (by omega) (Nat.le_of_eq (set4_size w4 (w.heap.size + 1) _ _ _ _).symm) (fun b h1 h2 => set4_block w4 (w.heap.size + 1) _ _ _ _ b (by omega))), ?_⟩
    exact hb4.trans (set4_below w4 (w.heap.size + 1) _ _ _ _ (Nat.le_succ _))
set_option maxRecDepth 100000 in
set_option maxHeartbeats 8000000 in
theorem impl_FoldExpr (d : Nat) (op n : Int) (name : ByteArray) (kids : List Ex) (v3 : Value) (w : World) (lo B : Nat) (hB : B ≤ w.heap.size) (ho : I64 op) (hn64 : I64 n) (hnm : name.size ≤ maxLen) (h3 : Sl false (exS false d) w lo B kids v3) (ht : Tabs w) :
    Calls Tryd.prog 11 #[.agg #[.int .i64 op, .int .i64 n, .string name, v3]] w (PairP 12 (foldV (.mk op n name kids)) w) := by
  obtain ⟨A, p, hf, hl1, hl2⟩ := h3.form
  subst hf
  have hb2 : Below w.heap.size w ((w.alloc (.cells #[.int .i64 op, .int .i64 n, .string name, .slice A kids.length p] 25)).alloc (.cells #[.int .i64 0, .int .i64 0, .string ⟨#[]⟩, .slice none 0 0] 25)) := ((Below.refl _ _).alloc (Nat.le_refl _) _).alloc (by simp) _
  have R2 : Row ((w.alloc (.cells #[.int .i64 op, .int .i64 n, .string name, .slice A kids.length p] 25)).alloc (.cells #[.int .i64 0, .int .i64 0, .string ⟨#[]⟩, .slice none 0 0] 25)) w.heap.size 25 #[.int .i64 op, .int .i64 n, .string name, .slice A kids.length p] := (Row.new w _ _).alloc _
  have S2 : Row ((w.alloc (.cells #[.int .i64 op, .int .i64 n, .string name, .slice A kids.length p] 25)).alloc (.cells #[.int .i64 0, .int .i64 0, .string ⟨#[]⟩, .slice none 0 0] 25)) (w.heap.size + 1) 25 #[.int .i64 0, .int .i64 0, .string ⟨#[]⟩, .slice none 0 0] := by simpa using Row.new (w.alloc (.cells #[.int .i64 op, .int .i64 n, .string name, .slice A kids.length p] 25)) 25 #[.int .i64 0, .int .i64 0, .string ⟨#[]⟩, .slice none 0 0]
  go_enter Tryd.func11, Tryd.ntmps11
  go_wp2_with fail
  refine (impl_ExprValid d op n name kids _ _ lo B (Nat.le_trans hB hb2.size) ho hn64 hnm (h3.below hb2 hB) (ht.below hb2 (Nat.le_refl _))).mono ?_
  rintro e w3 ⟨rfl, b3⟩
  have hb3 := hb2.trans (b3.mono hb2.size)
  have R3 := R2.below b3 R2.lt
  have S3 := S2.below b3 S2.lt
  cases hv : valE (.mk op n name kids)
  case false =>
    have E : Hid (foldV (.mk op n name kids) = (exZ, false)) := foldV_no hv
    have s0 : w3.cell? ⟨w.heap.size + 1, 0, none⟩ = some (.int .i64 0) := S3.cell 0
    have sf0 : w3.frozen? ⟨w.heap.size + 1, 0, none⟩ = false := S3.frozen 0
    have s1 : w3.cell? ⟨w.heap.size + 1, 1, none⟩ = some (.int .i64 0) := S3.cell 1
    have sf1 : w3.frozen? ⟨w.heap.size + 1, 1, none⟩ = false := S3.frozen 1
    have s2 : w3.cell? ⟨w.heap.size + 1, 2, none⟩ = some (.string ⟨#[]⟩) := S3.cell 2
    have sf2 : w3.frozen? ⟨w.heap.size + 1, 2, none⟩ = false := S3.frozen 2
    have s3 : w3.cell? ⟨w.heap.size + 1, 3, none⟩ = some (.slice none 0 0) := S3.cell 3
    have sf3 : w3.frozen? ⟨w.heap.size + 1, 3, none⟩ = false := S3.frozen 3
    go_wp2_with fail
    refine bodyPost_ret (v := .tuple #[.agg #[.int .i64 0, .int .i64 0, .string ⟨#[]⟩, .slice none 0 0], .bool false]) (by simp [results, Tryd.results11, go_sem, s0, s1, s2, s3]) rfl (PairP.no E.out rfl ((((hb3.setCell (p := ⟨w.heap.size + 1, 0, none⟩) (Nat.le_succ _) (.int .i64 0)).setCell (p := ⟨w.heap.size + 1, 1, none⟩) (Nat.le_succ _) (.int .i64 0)).setCell (p := ⟨w.heap.size + 1, 2, none⟩) (Nat.le_succ _) (.string ⟨#[]⟩)).setCell (p := ⟨w.heap.size + 1, 3, none⟩) (Nat.le_succ _) (.slice none 0 0)))
  case true =>
    have E : Hid (foldV (.mk op n name kids) = (foldE 6 (.mk op n name kids), true)) := foldV_yes hv
    replace hv := Lib.hid hv
    have r0 : w3.cell? ⟨w.heap.size, 0, none⟩ = some (.int .i64 op) := R3.cell 0
    have r1 : w3.cell? ⟨w.heap.size, 1, none⟩ = some (.int .i64 n) := R3.cell 1
    have r2 : w3.cell? ⟨w.heap.size, 2, none⟩ = some (.string name) := R3.cell 2
    have r3 : w3.cell? ⟨w.heap.size, 3, none⟩ = some (.slice A kids.length p) := R3.cell 3
    go_wp2_with fail
    refine (impl_fold 6 d op n name kids _ _ lo B (Nat.le_trans hB hb3.size) ho hn64 hnm (h3.below hb3 hB) (val_form hv.out) (valE_parts hv.out) (Nat.le_refl _) (ht.below hb3 (Nat.le_refl _))).mono ?_
    rintro e w4 ⟨v4, he, hr, b4⟩
    obtain ⟨yop, yn, ynm, yk, hyy⟩ : ∃ (yop yn : Int) (ynm : ByteArray) (yk : List Ex), foldE 6 (.mk op n name kids) = .mk yop yn ynm yk := by
      cases hq : foldE 6 (.mk op n name kids) with
      | mk a b c d => exact ⟨a, b, c, d, rfl⟩
    rw [hyy] at he hr
    replace hyy := Lib.hid hyy
    obtain ⟨Ay, py, hw, _, _⟩ := (exT_kids 6 (hr false)).form
    change _ = Value.slice Ay yk.length py at hw
    subst hw
    change _ = Ending.returned (.agg #[.int .i64 yop, .int .i64 yn, .string ynm, .slice Ay yk.length py]) at he
    subst he
    have S4 := S3.below b4 S3.lt
    have hb4 := hb3.trans (b4.mono hb3.size)
    have hz3 := S3.lt
    clear r0 r1 r2 r3
    have s0 : w4.cell? ⟨w.heap.size + 1, 0, none⟩ = some (.int .i64 0) := S4.cell 0
    have sf0 : w4.frozen? ⟨w.heap.size + 1, 0, none⟩ = false := S4.frozen 0
    have s1 : w4.cell? ⟨w.heap.size + 1, 1, none⟩ = some (.int .i64 0) := S4.cell 1
    have sf1 : w4.frozen? ⟨w.heap.size + 1, 1, none⟩ = false := S4.frozen 1
    have s2 : w4.cell? ⟨w.heap.size + 1, 2, none⟩ = some (.string ⟨#[]⟩) := S4.cell 2
    have sf2 : w4.frozen? ⟨w.heap.size + 1, 2, none⟩ = false := S4.frozen 2
    have s3 : w4.cell? ⟨w.heap.size + 1, 3, none⟩ = some (.slice none 0 0) := S4.cell 3
    have sf3 : w4.frozen? ⟨w.heap.size + 1, 3, none⟩ = false := S4.frozen 3
    go_wp2_with fail
    refine bodyPost_ret (v := .tuple #[.agg #[.int .i64 yop, .int .i64 yn, .string ynm, .slice Ay yk.length py], .bool true]) (by simp [results, Tryd.results11, go_sem, s0, s1, s2, s3]) rfl ?_
    unfold PairP
    rw [E.out, hyy.out]
    refine ⟨_, rfl, fun m' => exT_le m' (show 7 ≤ 13 by omega) ((exT m' 7).keep (hr m') (by omega) (Nat.le_of_eq (set4_size w4 (w.heap.size + 1) _ _ _ _).symm) (fun b h1 h2 => set4_block w4 (w.heap.size + 1) _ _ _ _ b (by omega))), ?_⟩
    exact hb4.trans (set4_below w4 (w.heap.size + 1) _ _ _ _ (Nat.le_succ _))
end Go.Proofs.YthfinoapfbhgcaaDoor

namespace Go.Proofs.YthfinoapfbhgcaaDoor
open Go.RowKit Go.ChangeShapes Go.WideShapes Go.Deep
set_option linter.unusedVariables false
set_option linter.unusedSimpArgs false
theorem deep_num (n : Int) : deepE (exN1 n) = 1 := by
  unfold exN1
  rw [deepE_mk, deepL_nil]
/-- a part, folded: it is itself, or it has fewer parts and is no deeper -/
theorem foldP_less {m : Nat} {e : Ex} (h : formB (m + 1) e = true) : (foldP e = e ∨ partsE (foldP e) < partsE e) ∧ deepE (foldP e) ≤ deepE e := by
  obtain ⟨op, n, name, kids⟩ := e
  by_cases hlow : op < 3 ∨ 11 < op
  · rw [foldP_out hlow]
    exact ⟨Or.inl rfl, Nat.le_refl _⟩
  by_cases h11 : op = 11
  · subst h11
    have hl := form_len h ⟨by omega, by omega⟩
    rw [if_pos rfl] at hl
    match kids, hl with
    | [a], _ =>
      obtain ⟨kop, kn, kname, kkids⟩ := a
      have hp : partsE (Ex.mk 11 n name [Ex.mk kop kn kname kkids]) = 2 + partsL kkids := by rw [partsE_mk, partsL_cons, partsL_nil, partsE_mk]; omega
      have hdp : deepE (Ex.mk 11 n name [Ex.mk kop kn kname kkids]) = deepL kkids + 2 := by rw [deepE_mk, deepL_cons, deepL_nil, deepE_mk]; omega
      unfold foldP
      simp only [if_pos]
      by_cases q1 : (Ex.mk kop kn kname kkids).op = 1
      · rw [if_pos q1]
        exact ⟨Or.inr (by rw [parts_num, hp]; omega), by rw [deep_num, hdp]; omega⟩
      · rw [if_neg q1]
        by_cases q2 : (Ex.mk kop kn kname kkids).op = 11 ∧ (hd (Ex.mk kop kn kname kkids).kids).op = 11
        · rw [if_pos q2]
          have hk := form_kid h (k := .mk kop kn kname kkids) (by simp)
          cases m with
          | zero => simp [formB] at hk
          | succ m =>
            have e11 : kop = 11 := q2.1
            subst e11
            have hl2 := form_len hk ⟨by omega, by omega⟩
            rw [if_pos rfl] at hl2
            match kkids, hl2 with
            | [j], _ =>
              rw [partsL_cons, partsL_nil] at hp
              rw [deepL_cons, deepL_nil] at hdp
              exact ⟨Or.inr (by rw [hp]; show partsE j < _; omega), by rw [hdp]; show deepE j ≤ _; omega⟩
        · rw [if_neg q2]
          exact ⟨Or.inl rfl, Nat.le_refl _⟩
  have hl := form_len h ⟨by omega, by omega⟩
  rw [if_neg h11] at hl
  match kids, hl with
  | [a, b], _ =>
    rw [foldP_two (by omega) (by omega)]
    have ha := parts_pos a
    have hb := parts_pos b
    have hp : partsE (Ex.mk op n name [a, b]) = 1 + (partsE a + partsE b) := by rw [partsE_mk, partsL_cons, partsL_cons, partsL_nil]; omega
    have hdp : deepE (Ex.mk op n name [a, b]) = max (deepE a) (deepE b) + 1 := by rw [deepE_mk, deepL_cons, deepL_cons, deepL_nil]; omega
    rcases foldTwo_cases op a b (.mk op n name [a, b]) with ⟨e, _⟩ | e | e | e | e
    · rw [e]; exact ⟨Or.inr (by rw [parts_num, hp]; omega), by rw [deep_num, hdp]; omega⟩
    · rw [e]; exact ⟨Or.inr (by rw [parts_num, hp]; omega), by rw [deep_num, hdp]; omega⟩
    · rw [e]; exact ⟨Or.inr (by rw [hp]; omega), by rw [hdp]; omega⟩
    · rw [e]; exact ⟨Or.inr (by rw [hp]; omega), by rw [hdp]; omega⟩
    · rw [e]; exact ⟨Or.inl rfl, Nat.le_refl _⟩
theorem map_less {f : Ex → Ex} : ∀ l : List Ex, (∀ e ∈ l, (f e = e ∨ partsE (f e) < partsE e) ∧ deepE (f e) ≤ deepE e) → (l.map f = l ∨ partsL (l.map f) < partsL l) ∧ deepL (l.map f) ≤ deepL l
  | [], _ => ⟨Or.inl rfl, Nat.le_refl _⟩
  | e :: r, h => by
    obtain ⟨h1, h2⟩ := h e (by simp)
    obtain ⟨h3, h4⟩ := map_less r (fun x hx => h x (by simp [hx]))
    rw [List.map_cons, partsL_cons, partsL_cons, deepL_cons, deepL_cons]
    refine ⟨?_, by omega⟩
    have hle : partsE (f e) ≤ partsE e := by
      rcases h1 with h1 | h1
      · rw [h1]; exact Nat.le_refl _
      · omega
    have hlr : partsL (r.map f) ≤ partsL r := by
      rcases h3 with h3 | h3
      · rw [h3]; exact Nat.le_refl _
      · omega
    rcases h1 with h1 | h1
    · rcases h3 with h3 | h3
      · exact Or.inl (by rw [h1, h3])
      · exact Or.inr (by omega)
    · exact Or.inr (by omega)
theorem foldE_less : ∀ (m : Nat) (e : Ex), formB m e = true → (foldE m e = e ∨ partsE (foldE m e) < partsE e) ∧ deepE (foldE m e) ≤ deepE e
  | 0, e, h => by simp [formB] at h
  | m + 1, .mk op n name kids, h => by
    have h0 := h
    rw [formB, Bool.and_eq_true] at h
    obtain ⟨h1, h2⟩ := map_less (f := foldE m) kids (fun e he => foldE_less m e (List.all_eq_true.1 h.2 e he))
    have hf : formB (m + 1) (.mk op n name (kids.map (foldE m))) = true := by
      rw [formB, List.length_map, h.1, Bool.true_and, List.all_map]
      exact List.all_eq_true.2 fun e he => (foldE_form m e (List.all_eq_true.1 h.2 e he)).1
    obtain ⟨h3, h4⟩ := foldP_less hf
    rw [foldE]
    rw [deepE_mk] at h4 ⊢
    refine ⟨?_, by omega⟩
    rcases h1 with h1 | h1
    · rw [h1] at h3 ⊢
      exact h3
    · rw [partsE_mk] at h3 ⊢
      rcases h3 with h3 | h3
      · rw [h3, partsE_mk]
        exact Or.inr (by omega)
      · exact Or.inr (by omega)
theorem fold_val {e : Ex} (h : valE e = true) : valE (foldE 6 e) = true := val_fold (Nat.le_refl _) (val_form h) (valE_parts h)
theorem fold_parts {e : Ex} (h : valE e = true) : partsE (foldE 6 e) ≤ partsE e := (foldE_form 6 e (val_form h)).2
theorem fold_same {e : Ex} (h : valE e = true) (hp : partsE (foldE 6 e) = partsE e) : foldE 6 e = e := by
  rcases (foldE_less 6 e (val_form h)).1 with h1 | h1
  · exact h1
  · omega
theorem fold_deep {e : Ex} (h : valE e = true) : deepE (foldE 6 e) ≤ deepE e := (foldE_less 6 e (val_form h)).2
/-- one round more: it stands still, or there are few parts left -/
theorem fold_round {y : Ex} {k : Nat} (h : valE y = true) (hi : foldE 6 y = y ∨ partsE y + k ≤ 30) : foldE 6 (foldE 6 y) = foldE 6 y ∨ partsE (foldE 6 y) + (k + 1) ≤ 30 := by
  rcases hi with hi | hi
  · exact Or.inl (by rw [hi, hi])
  · by_cases hp : partsE (foldE 6 y) = partsE y
    · have := fold_same h hp
      exact Or.inl (by rw [this, this])
    · have := fold_parts h
      exact Or.inr (by omega)
end Go.Proofs.YthfinoapfbhgcaaDoor

