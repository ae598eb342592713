/-
  Plain laws of expressions: their names, their parts, and what is put into them. No condition.
-/
import Derived.Test.YtnamciblapddbaaDoorNames3
import Derived.Test.YtnamciblapddbaaDoorPutVarC
namespace Go.Proofs.YtnamciblapddbaaDoor
open Go.RowKit Go.ChangeShapes Go.WideShapes Go.Deep
set_option linter.unusedVariables false
set_option linter.unusedSimpArgs false
theorem ba_eq {a b : ByteArray} (h : (a.toList == b.toList) = true) : a = b := by
  have h1 := eq_of_beq h
  rw [ByteArray.toList_eq, ByteArray.toList_eq] at h1
  exact WideShapes.bytes_inj h1
theorem ba_beq (a b : ByteArray) : (a.toList == b.toList) = true ↔ a = b := ⟨ba_eq, by rintro rfl; simp⟩
theorem ba_ne {a b : ByteArray} (h : ¬ a = b) : (a.toList == b.toList) = false := by
  cases hb : a.toList == b.toList with
  | false => rfl
  | true => exact absurd (ba_eq hb) h
mutual
/-- the names of the parts with an op, in their order -/
def flE (tag : Int) : Ex → List ByteArray
  | .mk op _ name kids => (if op = tag then [name] else []) ++ flL tag kids
def flL (tag : Int) : List Ex → List ByteArray
  | [] => []
  | e :: r => flE tag e ++ flL tag r
end
theorem flE_mk (tag op n : Int) (name : ByteArray) (kids : List Ex) : flE tag (.mk op n name kids) = (if op = tag then [name] else []) ++ flL tag kids := by rw [flE]
theorem flL_nil (tag : Int) : flL tag [] = [] := by rw [flL]
theorem flL_cons (tag : Int) (e : Ex) (r : List Ex) : flL tag (e :: r) = flE tag e ++ flL tag r := by rw [flL]
theorem flL_append (tag : Int) (a b : List Ex) : flL tag (a ++ b) = flL tag a ++ flL tag b := by
  induction a with
  | nil => rw [flL_nil]; rfl
  | cons e r ih => rw [List.cons_append, flL_cons, flL_cons, ih, List.append_assoc]
/-- names are put to a list, each once -/
def dd (out l : List ByteArray) : List ByteArray := l.foldl addN out
theorem dd_append (out a b : List ByteArray) : dd out (a ++ b) = dd (dd out a) b := List.foldl_append
theorem dd_cons (out : List ByteArray) (s : ByteArray) (l : List ByteArray) : dd out (s :: l) = dd (addN out s) l := rfl
theorem addN_in {out : List ByteArray} {s : ByteArray} (h : s ∈ out) : addN out s = out := by
  unfold addN
  rw [if_pos (List.any_eq_true.2 ⟨s, h, by simp⟩)]
theorem addN_out {out : List ByteArray} {s : ByteArray} (h : ¬ s ∈ out) : addN out s = out ++ [s] := by
  unfold addN
  rw [if_neg]
  intro h1
  obtain ⟨y, hy, he⟩ := List.any_eq_true.1 h1
  exact h (ba_eq he ▸ hy)
theorem addN_mem {out : List ByteArray} {s x : ByteArray} : x ∈ addN out s ↔ x ∈ out ∨ x = s := by
  by_cases h : s ∈ out
  · rw [addN_in h]
    constructor
    · exact Or.inl
    · rintro (h1 | rfl)
      · exact h1
      · exact h
  · rw [addN_out h]
    simp
theorem dd_mem {x : ByteArray} : ∀ (l out : List ByteArray), x ∈ dd out l ↔ x ∈ out ∨ x ∈ l
  | [], out => by simp [dd]
  | s :: l, out => by
    rw [dd_cons, dd_mem l, addN_mem, List.mem_cons, or_assoc]
theorem addN_nodup {out : List ByteArray} {s : ByteArray} (h : out.Nodup) : (addN out s).Nodup := by
  by_cases h1 : s ∈ out
  · rw [addN_in h1]; exact h
  · rw [addN_out h1, List.nodup_append]
    refine ⟨h, by simp, fun a ha b hb => ?_⟩
    simp at hb
    subst hb
    rintro rfl
    exact h1 ha
theorem dd_nodup : ∀ (l : List ByteArray) {out : List ByteArray}, out.Nodup → (dd out l).Nodup
  | [], out, h => h
  | s :: l, out, h => by rw [dd_cons]; exact dd_nodup l (addN_nodup h)
theorem dd_len2 : ∀ (l out out' : List ByteArray), (∀ x ∈ out', x ∈ out) → (dd out l).length + out'.length ≤ out.length + (dd out' l).length
  | [], out, out', _ => by simp [dd]
  | s :: l, out, out', h => by
    rw [dd_cons, dd_cons]
    have h1 := dd_len2 l (addN out s) (addN out' s) (fun x hx => by
      rcases addN_mem.1 hx with h2 | h2
      · exact addN_mem.2 (Or.inl (h x h2))
      · exact addN_mem.2 (Or.inr h2))
    have h3 : (addN out s).length + out'.length ≤ out.length + (addN out' s).length := by
      by_cases h4 : s ∈ out
      · rw [addN_in h4]
        by_cases h5 : s ∈ out'
        · rw [addN_in h5]; omega
        · rw [addN_out h5, List.length_append]; omega
      · have h5 : ¬ s ∈ out' := fun h6 => h4 (h s h6)
        rw [addN_out h4, addN_out h5, List.length_append, List.length_append]
        simp only [List.length_singleton]
        omega
    omega
theorem dd_len (out l : List ByteArray) : (dd out l).length ≤ out.length + (dd [] l).length := by
  have := dd_len2 l out [] (fun x hx => by cases hx)
  simpa using this
theorem dd_eq_nil {l : List ByteArray} : dd [] l = [] ↔ l = [] := by
  constructor
  · intro h
    cases l with
    | nil => rfl
    | cons s l =>
      have h1 : s ∈ dd [] (s :: l) := (dd_mem _ _).2 (Or.inr (by simp))
      rw [h] at h1
      cases h1
  · rintro rfl
    rfl
/-- what goes away goes away from both -/
theorem dd_filter (p : ByteArray → Bool) : ∀ (l out : List ByteArray), dd (out.filter p) (l.filter p) = (dd out l).filter p
  | [], out => rfl
  | s :: l, out => by
    rw [dd_cons, ← dd_filter p l (addN out s)]
    by_cases hp : p s = true
    · rw [List.filter_cons_of_pos hp, dd_cons]
      congr 1
      by_cases h : s ∈ out
      · rw [addN_in h, addN_in (List.mem_filter.2 ⟨h, hp⟩)]
      · rw [addN_out h, addN_out (fun h1 => h (List.mem_filter.1 h1).1), List.filter_append]
        simp [hp]
    · rw [List.filter_cons_of_neg hp]
      congr 1
      by_cases h : s ∈ out
      · rw [addN_in h]
      · rw [addN_out h, List.filter_append]
        simp [hp]
theorem nodup_drop1 {s : ByteArray} : ∀ {l : List ByteArray}, l.Nodup → s ∈ l → (l.filter fun x => decide (x ≠ s)).length + 1 = l.length
  | [], _, h => by cases h
  | a :: l, hn, h => by
    rw [List.nodup_cons] at hn
    by_cases ha : a = s
    · subst ha
      rw [List.filter_cons_of_neg (by simp), List.length_cons]
      congr 1
      rw [List.filter_eq_self.2]
      intro x hx
      have hxa : x ≠ a := by
        rintro rfl
        exact hn.1 hx
      simpa using hxa
    · rw [List.filter_cons_of_pos (by simpa using ha), List.length_cons, List.length_cons]
      have := nodup_drop1 hn.2 ((List.mem_cons.1 h).resolve_left (fun e => ha e.symm))
      omega
theorem nmL_dd {m : Nat} {tag : Int} (ih : ∀ (e : Ex) (out : List ByteArray), formB m e = true → nmE m tag out e = dd out (flE tag e)) : ∀ (l : List Ex) (out : List ByteArray), (∀ e ∈ l, formB m e = true) → l.foldl (nmE m tag) out = dd out (flL tag l)
  | [], out, _ => by rw [flL_nil]; rfl
  | e :: r, out, h => by
    rw [List.foldl_cons, flL_cons, dd_append, ih e out (h e (by simp)), nmL_dd ih r _ (fun x hx => h x (by simp [hx]))]
theorem nmE_dd (tag : Int) : ∀ (m : Nat) (e : Ex) (out : List ByteArray), formB m e = true → nmE m tag out e = dd out (flE tag e)
  | 0, e, out, h => by simp [formB] at h
  | m + 1, .mk op n name kids, out, h => by
    rw [formB, Bool.and_eq_true] at h
    rw [nmE, nmL_dd (nmE_dd tag m) kids _ (fun e he => List.all_eq_true.1 h.2 e he), flE_mk, dd_append]
    congr 1
    unfold addK
    by_cases ho : op = tag
    · rw [if_pos ho, if_pos ho]; rfl
    · rw [if_neg ho, if_neg ho]; rfl
theorem nmV_dd {tag : Int} {e : Ex} (h : valE e = true) : nmV tag e = dd [] (flE tag e) := by
  unfold nmV
  rw [if_pos h, nmE_dd tag 6 e [] (val_form h)]
theorem nmV_no {tag : Int} {e : Ex} (h : valE e = false) : nmV tag e = [] := by
  unfold nmV
  rw [if_neg (by rw [h]; simp)]
-- forms
theorem formB_mono : ∀ (m : Nat) (e : Ex), formB m e = true → formB (m + 1) e = true
  | 0, e, h => by simp [formB] at h
  | m + 1, .mk op n name kids, h => by
    rw [formB, Bool.and_eq_true] at h
    rw [formB, Bool.and_eq_true]
    exact ⟨h.1, List.all_eq_true.2 fun x hx => formB_mono m x (List.all_eq_true.1 h.2 x hx)⟩
theorem formB_le {m m' : Nat} (hm : m ≤ m') {e : Ex} (h : formB m e = true) : formB m' e = true := by
  induction hm with
  | refl => exact h
  | step _ ih => exact formB_mono _ _ ih
theorem val_mk {e : Ex} (h1 : formB 6 e = true) (h2 : partsE e ≤ 30) : valE e = true := by
  rw [valE_form, h1, decide_eq_true h2]
  rfl
theorem val_kid {op n : Int} {name : ByteArray} {kids : List Ex} (h : valE (.mk op n name kids) = true) {k : Ex} (hk : k ∈ kids) : valE k = true := by
  have h1 := val_form h
  have h2 := valE_parts h
  rw [formB, Bool.and_eq_true] at h1
  rw [partsE_mk] at h2
  have h3 := partsL_mem hk
  exact val_mk (formB_mono _ _ (List.all_eq_true.1 h1.2 k hk)) (by omega)
theorem cntE_val {e : Ex} (h : valE e = true) : cntE e = partsE e := by unfold cntE; rw [if_pos h]
theorem cntE_no {e : Ex} (h : valE e = false) : cntE e = 0 := by unfold cntE; rw [if_neg (by rw [h]; simp)]
theorem dpE_val {e : Ex} (h : valE e = true) : dpE e = deepE e := by unfold dpE; rw [if_pos h]
theorem dpE_no {e : Ex} (h : valE e = false) : dpE e = 0 := by unfold dpE; rw [if_neg (by rw [h]; simp)]
theorem partsL_append (a b : List Ex) : partsL (a ++ b) = partsL a + partsL b := by
  induction a with
  | nil => rw [partsL_nil, List.nil_append]; omega
  | cons e r ih => rw [List.cons_append, partsL_cons, partsL_cons, ih]; omega
theorem deepL_append (a b : List Ex) : deepL (a ++ b) = max (deepL a) (deepL b) := by
  induction a with
  | nil => rw [deepL_nil, List.nil_append]; omega
  | cons e r ih => rw [List.cons_append, deepL_cons, deepL_cons, ih]; omega
theorem partsL_snoc (a : List Ex) (e : Ex) : partsL (a ++ [e]) = partsL a + partsE e := by
  rw [partsL_append, partsL_cons, partsL_nil]; omega
theorem deepL_snoc (a : List Ex) (e : Ex) : deepL (a ++ [e]) = max (deepL a) (deepE e) := by
  rw [deepL_append, deepL_cons, deepL_nil]; omega
/-- the form, by the depth -/
theorem form_deepL {M m : Nat} (ih : ∀ e : Ex, formB M e = true → formB m e = decide (deepE e ≤ m)) : ∀ l : List Ex, (∀ e ∈ l, formB M e = true) → l.all (formB m) = decide (deepL l ≤ m)
  | [], _ => by rw [deepL_nil]; simp
  | e :: r, h => by
    rw [List.all_cons, deepL_cons, form_deepL ih r (fun x hx => h x (by simp [hx])), ih e (h e (by simp)), ← Bool.decide_and]
    congr 1
    exact propext (by omega)
theorem form_deep : ∀ (M : Nat) (e : Ex) (m : Nat), formB M e = true → formB m e = decide (deepE e ≤ m)
  | 0, e, m, h => by simp [formB] at h
  | M + 1, .mk op n name kids, m, h => by
    rw [formB, Bool.and_eq_true] at h
    cases m with
    | zero =>
      rw [formB, deepE_mk]
      simp
    | succ m =>
      rw [formB, h.1, Bool.true_and, form_deepL (fun e he => form_deep M e m he) kids (fun e he => List.all_eq_true.1 h.2 e he), deepE_mk]
      congr 1
      exact propext (by omega)
theorem deep_val {e : Ex} (h : valE e = true) : deepE e ≤ 6 := by
  have h1 := form_deep 6 e 6 (val_form h)
  rw [val_form h] at h1
  simpa using h1.symm
-- what is put
theorem kids_of2 {n : Int} {name : ByteArray} {kids : List Ex} {m : Nat} (h : formB m (.mk 2 n name kids) = true) : n = 0 ∧ kids = [] := by
  cases m with
  | zero => simp [formB] at h
  | succ m =>
    rw [formB, Bool.and_eq_true] at h
    have h1 := h.1
    unfold fmK at h1
    rw [if_neg (by omega), if_pos rfl] at h1
    simp only [Bool.and_eq_true, decide_eq_true_eq] at h1
    exact ⟨h1.2.1, List.eq_nil_of_length_eq_zero h1.2.2⟩
theorem isV_out {op : Int} {name nm : ByteArray} (h : isV op name nm = true) : op = 2 ∧ name = nm := by
  unfold isV at h
  rw [Bool.and_eq_true] at h
  exact ⟨by simpa using h.1, ba_eq h.2⟩
theorem isV_no {op : Int} {name nm : ByteArray} (h : isV op name nm = false) : ¬ (op = 2 ∧ name = nm) := by
  rintro ⟨rfl, rfl⟩
  simp [isV] at h
theorem putE_yes {m : Nat} {nm : ByteArray} {y : Ex} {op n : Int} {name : ByteArray} {kids : List Ex} (h : isV op name nm = true) : putE (m + 1) nm y (.mk op n name kids) = y := by rw [putE, if_pos h]
theorem putE_no {m : Nat} {nm : ByteArray} {y : Ex} {op n : Int} {name : ByteArray} {kids : List Ex} (h : isV op name nm = false) : putE (m + 1) nm y (.mk op n name kids) = .mk op n name (kids.map (putE m nm y)) := by rw [putE, if_neg (by rw [h]; simp)]
theorem flL_map {f : Ex → Ex} {tag : Int} {p : ByteArray → Bool} : ∀ (l : List Ex), (∀ e ∈ l, flE tag (f e) = (flE tag e).filter p) → flL tag (l.map f) = (flL tag l).filter p
  | [], _ => by rw [List.map_nil, flL_nil]; rfl
  | e :: r, h => by rw [List.map_cons, flL_cons, flL_cons, List.filter_append, h e (by simp), flL_map r (fun x hx => h x (by simp [hx]))]
theorem fl_put {nm : ByteArray} {y : Ex} (hy : flE 2 y = []) : ∀ (m : Nat) (e : Ex), formB m e = true → flE 2 (putE m nm y e) = (flE 2 e).filter fun s => decide (s ≠ nm)
  | 0, e, h => by simp [formB] at h
  | m + 1, .mk op n name kids, h => by
    have hf := h
    rw [formB, Bool.and_eq_true] at h
    cases hv : isV op name nm with
    | true =>
      obtain ⟨rfl, rfl⟩ := isV_out hv
      obtain ⟨rfl, rfl⟩ := kids_of2 hf
      rw [putE_yes hv, hy, flE_mk, flL_nil]
      simp
    | false =>
      rw [putE_no hv, flE_mk, flE_mk, List.filter_append, flL_map kids (fun e he => fl_put hy m e (List.all_eq_true.1 h.2 e he))]
      congr 1
      by_cases ho : op = 2
      · have hne : name ≠ nm := fun e => isV_no hv ⟨ho, e⟩
        rw [if_pos ho]
        simp [hne]
      · rw [if_neg ho]
        rfl
theorem filter_all {l : List ByteArray} : l.filter (fun _ => true) = l := List.filter_eq_self.2 fun _ _ => rfl
theorem fl_put13 {nm : ByteArray} {y : Ex} (hy : flE 13 y = []) : ∀ (m : Nat) (e : Ex), formB m e = true → flE 13 (putE m nm y e) = flE 13 e
  | 0, e, h => by simp [formB] at h
  | m + 1, .mk op n name kids, h => by
    have hf := h
    rw [formB, Bool.and_eq_true] at h
    cases hv : isV op name nm with
    | true =>
      obtain ⟨rfl, rfl⟩ := isV_out hv
      obtain ⟨rfl, rfl⟩ := kids_of2 hf
      rw [putE_yes hv, hy, flE_mk, flL_nil]
      simp
    | false =>
      rw [putE_no hv, flE_mk, flE_mk, flL_map (p := fun _ => true) kids (fun e he => by rw [filter_all]; exact fl_put13 hy m e (List.all_eq_true.1 h.2 e he)), filter_all]
theorem partsL_map' {f g : Ex → Nat} {h : Ex → Ex} (c : Nat) : ∀ l : List Ex, (∀ e ∈ l, partsE (h e) + f e = partsE e + f e * c) → partsL (l.map h) + sumBy f l = partsL l + sumBy f l * c
  | [], _ => by rw [List.map_nil, partsL_nil]; simp [sumBy]
  | e :: r, hh => by
    have h1 := hh e (by simp)
    have h2 := partsL_map' (f := f) (g := g) c r (fun x hx => hh x (by simp [hx]))
    have h3 : sumBy f (e :: r) = f e + sumBy f r := by simp [sumBy]
    rw [List.map_cons, partsL_cons, partsL_cons, h3, Nat.add_mul]
    omega
/-- how often a name stands in a list -/
def occ (nm : ByteArray) (l : List ByteArray) : Nat := (l.filter fun s => decide (s = nm)).length
theorem occ_append (nm : ByteArray) (a b : List ByteArray) : occ nm (a ++ b) = occ nm a + occ nm b := by unfold occ; rw [List.filter_append, List.length_append]
theorem occ_flL (nm : ByteArray) : ∀ l : List Ex, occ nm (flL 2 l) = sumBy (fun e => occ nm (flE 2 e)) l
  | [] => by rw [flL_nil]; rfl
  | e :: r => by rw [flL_cons, occ_append, occ_flL nm r]; simp [sumBy]
theorem occ_pos {nm : ByteArray} {l : List ByteArray} : 0 < occ nm l ↔ nm ∈ l := by
  unfold occ
  rw [List.length_pos_iff_exists_mem]
  constructor
  · rintro ⟨x, hx⟩
    rw [List.mem_filter] at hx
    have := of_decide_eq_true hx.2
    subst this
    exact hx.1
  · intro h
    exact ⟨nm, List.mem_filter.2 ⟨h, by simp⟩⟩
theorem parts_put {nm : ByteArray} {y : Ex} : ∀ (m : Nat) (e : Ex), formB m e = true → partsE (putE m nm y e) + occ nm (flE 2 e) = partsE e + occ nm (flE 2 e) * partsE y
  | 0, e, h => by simp [formB] at h
  | m + 1, .mk op n name kids, h => by
    have hf := h
    rw [formB, Bool.and_eq_true] at h
    cases hv : isV op name nm with
    | true =>
      obtain ⟨rfl, rfl⟩ := isV_out hv
      obtain ⟨rfl, rfl⟩ := kids_of2 hf
      have h1 : occ name (flE 2 (.mk 2 0 name [])) = 1 := by rw [flE_mk, flL_nil]; simp [occ]
      rw [putE_yes hv, h1, partsE_mk, partsL_nil]
      omega
    | false =>
      have h1 : occ nm (flE 2 (.mk op n name kids)) = sumBy (fun e => occ nm (flE 2 e)) kids := by
        rw [flE_mk, occ_append, occ_flL]
        by_cases ho : op = 2
        · have hne : name ≠ nm := fun e => isV_no hv ⟨ho, e⟩
          rw [if_pos ho]
          simp [occ, hne]
        · rw [if_neg ho]
          simp [occ]
      have h2 := partsL_map' (f := fun e => occ nm (flE 2 e)) (g := fun e => 0) (h := putE m nm y) (partsE y) kids (fun e he => parts_put m e (List.all_eq_true.1 h.2 e he))
      rw [putE_no hv, h1, partsE_mk, partsE_mk]
      omega
theorem map_self {f : Ex → Ex} : ∀ l : List Ex, (∀ e ∈ l, f e = e) → l.map f = l
  | [], _ => rfl
  | e :: r, h => by rw [List.map_cons, h e (by simp), map_self r (fun x hx => h x (by simp [hx]))]
theorem fl_kid {tag : Int} {s : ByteArray} {k : Ex} {l : List Ex} (hk : k ∈ l) (h : s ∈ flE tag k) : s ∈ flL tag l := by
  induction l with
  | nil => cases hk
  | cons a r ih =>
    rw [flL_cons, List.mem_append]
    rcases List.mem_cons.1 hk with rfl | hk
    · exact Or.inl h
    · exact Or.inr (ih hk)
theorem put_id {nm : ByteArray} {y : Ex} : ∀ (m : Nat) (e : Ex), ¬ nm ∈ flE 2 e → putE m nm y e = e
  | 0, e, _ => rfl
  | m + 1, .mk op n name kids, h => by
    cases hv : isV op name nm with
    | true =>
      obtain ⟨rfl, rfl⟩ := isV_out hv
      exact absurd (by rw [flE_mk]; simp) h
    | false =>
      rw [putE_no hv, map_self kids (fun e he => put_id m e (fun h1 => h (by rw [flE_mk, List.mem_append]; exact Or.inr (fl_kid he h1))))]
theorem put_self {nm : ByteArray} : ∀ (m : Nat) (e : Ex), formB m e = true → putE m nm (.mk 2 0 nm []) e = e
  | 0, e, h => rfl
  | m + 1, .mk op n name kids, h => by
    have hf := h
    rw [formB, Bool.and_eq_true] at h
    cases hv : isV op name nm with
    | true =>
      obtain ⟨rfl, rfl⟩ := isV_out hv
      obtain ⟨rfl, rfl⟩ := kids_of2 hf
      rw [putE_yes hv]
    | false => rw [putE_no hv, map_self kids (fun e he => put_self m e (List.all_eq_true.1 h.2 e he))]
theorem form_put {nm : ByteArray} {y : Ex} (hy : formB 1 y = true) : ∀ (m : Nat) (e : Ex), formB m e = true → formB m (putE m nm y e) = true
  | 0, e, h => by simp [formB] at h
  | m + 1, .mk op n name kids, h => by
    rw [formB, Bool.and_eq_true] at h
    cases hv : isV op name nm with
    | true =>
      rw [putE_yes hv]
      exact formB_le (by omega) hy
    | false =>
      rw [putE_no hv, formB, List.length_map, h.1, Bool.true_and, List.all_map]
      exact List.all_eq_true.2 fun e he => form_put hy m e (List.all_eq_true.1 h.2 e he)
/-- a number is put: the parts stay as many -/
theorem put_leaf {nm : ByteArray} {y : Ex} (hy : formB 1 y = true) (h1 : partsE y = 1) {e : Ex} (h : valE e = true) : valE (putE 6 nm y e) = true ∧ partsE (putE 6 nm y e) = partsE e := by
  have hp := parts_put (nm := nm) (y := y) 6 e (val_form h)
  rw [h1] at hp
  have h2 := valE_parts h
  exact ⟨val_mk (form_put hy 6 e (val_form h)) (by omega), by omega⟩
theorem val_leaf {y : Ex} (hy : formB 1 y = true) (h1 : partsE y = 1) : valE y = true := val_mk (formB_le (by omega) hy) (by omega)
theorem putV_leaf {nm : ByteArray} {y : Ex} (hy : formB 1 y = true) (h1 : partsE y = 1) {e : Ex} (h : valE e = true) : putV e nm y = (putE 6 nm y e, true) := putV_yes h (val_leaf hy h1) rfl (put_leaf hy h1 h).1
theorem num_form {n : Int} (h0 : 0 ≤ n) (h1 : n ≤ 255) : formB 1 (.mk 1 n ⟨#[]⟩ []) = true := by
  rw [formB]
  unfold fmK
  rw [if_pos rfl]
  have : inB n 0 255 = true := by unfold inB; exact decide_eq_true ⟨h0, h1⟩
  have h2 : (⟨#[]⟩ : ByteArray).toList.isEmpty = true := by decide +kernel
  rw [this, h2]
  rfl
theorem num_parts (n : Int) : partsE (.mk 1 n ⟨#[]⟩ []) = 1 := by rw [partsE_mk, partsL_nil]
theorem num_fl (tag n : Int) (h : tag ≠ 1) : flE tag (.mk 1 n ⟨#[]⟩ []) = [] := by
  rw [flE_mk, flL_nil, if_neg (fun e => h e.symm)]
  rfl
theorem var_form {nm : ByteArray} : formB 1 (.mk 2 0 nm []) = isName nm := by
  rw [formB]
  unfold fmK
  rw [if_neg (by omega), if_pos rfl]
  simp
theorem var_val {nm : ByteArray} : valE (.mk 2 0 nm []) = isName nm := by
  have h1 : partsE (.mk 2 0 nm []) = 1 := by rw [partsE_mk, partsL_nil]
  rw [valE_form, h1]
  have h2 : formB 6 (.mk 2 0 nm []) = isName nm := by
    rw [formB]
    unfold fmK
    rw [if_neg (by omega), if_pos rfl]
    simp
  rw [h2]
  simp
-- what is no expression
theorem val_neg {op : Int} {name : ByteArray} {kids : List Ex} : valE (.mk op (-1) name kids) = false := by
  rw [valE_form, formB]
  have : fmK op (-1) name kids.length = false := by
    unfold fmK
    have h1 : inB (-1) 0 255 = false := by decide
    rw [h1]
    repeat' split
    all_goals simp
  rw [this]
  rfl
theorem val_do {op n : Int} {kids : List Ex} : valE (.mk op n ⟨#[100, 111]⟩ kids) = false := by
  rw [valE_form, formB]
  have : fmK op n ⟨#[100, 111]⟩ kids.length = false := by
    unfold fmK
    have h1 : isName ⟨#[100, 111]⟩ = false := by decide +kernel
    have h2 : (⟨#[100, 111]⟩ : ByteArray).toList.isEmpty = false := by decide +kernel
    rw [h1, h2]
    repeat' split
    all_goals simp
  rw [this]
  rfl
theorem val_not (e : Ex) : valE (.mk 11 0 ⟨#[]⟩ [e]) = (formB 5 e && decide (partsE e + 1 ≤ 30)) := by
  have h2 : (⟨#[]⟩ : ByteArray).toList.isEmpty = true := by decide +kernel
  rw [valE_form, formB, partsE_mk, partsL_cons, partsL_nil]
  have : fmK 11 0 ⟨#[]⟩ [e].length = true := by
    unfold fmK
    rw [if_neg (by omega), if_neg (by omega), if_neg (by omega), if_neg (by omega), if_pos (by omega), h2]
    rfl
  rw [this]
  simp [Nat.add_comm]
end Go.Proofs.YtnamciblapddbaaDoor
