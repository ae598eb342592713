/-
  The words of programs: plain functions; joined, they are the text that the reference tells. No condition.
-/
import Derived.Test.YtbikgakoeheahaaGreatDoorPr2
import Derived.Test.YtbikgakoeheahaaGreatDoorTextL
import Derived.Test.YtbikgakoeheahaaGreatDoorLawL
namespace Go.Proofs.YtbikgakoeheahaaGreatDoor
open Go.RowKit Go.ChangeShapes Go.WideShapes Go.Deep
set_option linter.unusedVariables false
set_option linter.unusedSimpArgs false
/-- how a statement begins -/
def hdW (op : Int) (name : ByteArray) : List WordD :=
  if op = 1 then [⟨4, ⟨#[108, 101, 116]⟩⟩, ⟨1, name⟩, ⟨3, ⟨#[61]⟩⟩]
  else if op = 2 then [⟨1, name⟩, ⟨3, ⟨#[61]⟩⟩]
  else if op = 3 then [⟨4, ⟨#[115, 97, 121]⟩⟩]
  else if op = 4 then [⟨4, ⟨#[112, 117, 116]⟩⟩]
  else if op = 5 then [⟨4, ⟨#[105, 102]⟩⟩]
  else if op = 6 then [⟨4, ⟨#[108, 111, 111, 112]⟩⟩]
  else if op = 7 then [⟨4, ⟨#[98, 97, 99, 107]⟩⟩]
  else [⟨4, ⟨#[100, 111]⟩⟩]
/-- the words of Args -/
def agW (args : List Ex) : List WordD := (args.foldl (cmW (wdE 6 false)) (0, [])).2
mutual
/-- the words of a statement -/
def stW : St → List WordD
  | .mk op name args body els => hdW op name ++ (agW args ++ (if op = 5 ∨ op = 6 then ([⟨3, ⟨#[123]⟩⟩] ++ (stsW body ++ [⟨3, ⟨#[125]⟩⟩])) ++ (if els.length = 0 then [] else [⟨4, ⟨#[101, 108, 115, 101]⟩⟩] ++ ([⟨3, ⟨#[123]⟩⟩] ++ (stsW els ++ [⟨3, ⟨#[125]⟩⟩]))) else [⟨3, ⟨#[59]⟩⟩]))
def stsW : List St → List WordD
  | [] => []
  | s :: r => stW s ++ stsW r
end
/-- the words of statements in brackets -/
def blW (l : List St) : List WordD := [⟨3, ⟨#[123]⟩⟩] ++ (stsW l ++ [⟨3, ⟨#[125]⟩⟩])
/-- a parameter more -/
def pmW (p : Nat × List WordD) (s : ByteArray) : Nat × List WordD := (p.1 + 1, (if 0 < p.1 then p.2 ++ [⟨3, ⟨#[44]⟩⟩] else p.2) ++ [⟨1, s⟩])
def paW (l : List ByteArray) : List WordD := (l.foldl pmW (0, [])).2
/-- the words of a function -/
def fnW (f : FnD) : List WordD := [⟨4, ⟨#[102, 110]⟩⟩, ⟨1, f.name⟩, ⟨3, ⟨#[40]⟩⟩] ++ (paW f.params ++ ([⟨3, ⟨#[41]⟩⟩] ++ blW f.body))
def prW (l : List FnD) : List WordD := l.flatMap fnW
theorem stW_mk (op : Int) (name : ByteArray) (args : List Ex) (body els : List St) : stW (.mk op name args body els) = hdW op name ++ (agW args ++ (if op = 5 ∨ op = 6 then blW body ++ (if els.length = 0 then [] else [⟨4, ⟨#[101, 108, 115, 101]⟩⟩] ++ blW els) else [⟨3, ⟨#[59]⟩⟩])) := by rw [stW]; rfl
theorem stsW_cons (s : St) (r : List St) : stsW (s :: r) = stW s ++ stsW r := by rw [stsW]
theorem stsW_app : ∀ (l r : List St), stsW (l ++ r) = stsW l ++ stsW r
  | [], r => by rw [List.nil_append, stsW, List.nil_append]
  | s :: l, r => by rw [List.cons_append, stsW_cons, stsW_cons, stsW_app l r, List.append_assoc]
theorem stsW_snoc {l : List St} {k : Nat} (h : k < l.length) {s : St} (hs : l[k] = s) : stsW (l.take (k + 1)) = stsW (l.take k) ++ stW s := by
  rw [List.take_succ_eq_append_getElem h, hs, stsW_app, stsW_cons, stsW, List.append_nil]
theorem hdW_ne (op : Int) (name : ByteArray) : hdW op name ≠ [] := by
  unfold hdW
  repeat' split
  all_goals simp
theorem stW_ne (s : St) : stW s ≠ [] := by
  obtain ⟨op, name, args, body, els⟩ := s
  rw [stW_mk]
  simp [hdW_ne]
theorem blW_ne (l : List St) : blW l ≠ [] := by unfold blW; simp
theorem fnW_ne (f : FnD) : fnW f ≠ [] := by unfold fnW; simp
theorem agW_one (a : Ex) : agW [a] = wdE 6 false a := by simp [agW, cmW]
theorem agW_two (a b : Ex) : agW [a, b] = wdE 6 false a ++ ([⟨3, ⟨#[44]⟩⟩] ++ wdE 6 false b) := by simp [agW, cmW]
theorem val_form6 {e : Ex} (h : valE e = true) : formB 6 e = true ∧ partsE e ≤ 30 := by
  rw [valE_form, Bool.and_eq_true, decide_eq_true_eq] at h
  exact h
/-- the text of an expression is the text of its words -/
theorem tx_words {e : Ex} (h : valE e = true) : txE 6 1 e = jT (wdE 6 false e) := by
  have h3 := wd_tx 6 1 e (val_form6 h).1
  have h4 : 1 ≤ levOf e.op := levOf_pos _
  rw [decide_eq_false (by omega)] at h3
  exact h3.symm
theorem wdE_ne6 {e : Ex} (h : valE e = true) : wdE 6 false e ≠ [] := wdE_ne (val_form6 h).1
theorem wdE_len6 {e : Ex} (h : valE e = true) : (wdE 6 false e).length ≤ 180 := by
  have h1 := wdE_len 6 false e (val_form6 h).1
  have h2 := (val_form6 h).2
  omega
/-- what a statement that is one has -/
theorem st_in {m : Nat} {op : Int} {name : ByteArray} {args : List Ex} {body els : List St} (h : stB (m + 1) (.mk op name args body els) = true) :
    (1 ≤ op ∧ op ≤ 8) ∧ args.length = stK op ∧ nmB op name = true ∧ args.all valE = true ∧ (els.length = 0 ∨ op = 5) ∧ (body.length = 0 ∨ op = 5 ∨ op = 6) ∧ body.all (stB m) = true ∧ els.all (stB m) = true := by
  rw [stB] at h
  unfold hdB at h
  simp only [Bool.and_eq_true, decide_eq_true_eq] at h
  obtain ⟨⟨a, b, c, d, e, f, g⟩, i, j⟩ := h
  exact ⟨a, b, c, d, f, g, i, j⟩
theorem hdW_len (op : Int) (name : ByteArray) : (hdW op name).length ≤ 3 := by
  unfold hdW
  repeat' split
  all_goals simp
theorem agW_len {args : List Ex} {op : Int} (h : args.length = stK op) (hv : args.all valE = true) : (agW args).length ≤ 361 := by
  unfold stK at h
  split at h
  · obtain ⟨a, b, rfl⟩ := two_listT h
    rw [List.all_cons, List.all_cons, Bool.and_eq_true, Bool.and_eq_true] at hv
    have h1 := wdE_len6 hv.1
    have h2 := wdE_len6 hv.2.1
    rw [agW_two]
    simp only [List.length_append, List.length_cons, List.length_nil]
    omega
  · obtain ⟨a, rfl⟩ := one_listT h
    rw [List.all_cons, Bool.and_eq_true] at hv
    have h1 := wdE_len6 hv.1
    rw [agW_one]
    omega
theorem stsW_len_of {m : Nat} (ih : ∀ s, stB m s = true → (stW s).length ≤ 400 * cnS s) : ∀ l : List St, l.all (stB m) = true → (stsW l).length ≤ 400 * cnL l
  | [], _ => by rw [stsW]; simp
  | s :: r, h => by
    rw [List.all_cons, Bool.and_eq_true] at h
    have h1 := ih s h.1
    have h2 := stsW_len_of ih r h.2
    rw [stsW_cons, List.length_append, cnL]
    omega
theorem stW_len : ∀ (m : Nat) (s : St), stB m s = true → (stW s).length ≤ 400 * cnS s
  | 0, s, h => by simp [stB] at h
  | m + 1, .mk op name args body els, h => by
    obtain ⟨_, h2, _, h4, h5, h6, h7, h8⟩ := st_in h
    have a1 := hdW_len op name
    have a2 := agW_len h2 h4
    have b1 := stsW_len_of (stW_len m) body h7
    have b2 := stsW_len_of (stW_len m) els h8
    rw [stW_mk, cnS]
    unfold blW
    split
    · split
      · simp only [List.length_append, List.length_cons, List.length_nil]; omega
      · simp only [List.length_append, List.length_cons, List.length_nil]; omega
    · simp only [List.length_append, List.length_cons, List.length_nil]; omega
theorem stsW_len (m : Nat) (l : List St) (h : l.all (stB m) = true) : (stsW l).length ≤ 400 * cnL l := stsW_len_of (stW_len m) l h
theorem blW_len (l : List St) : (blW l).length = (stsW l).length + 2 := by unfold blW; simp only [List.length_append, List.length_cons, List.length_nil]; omega
theorem hdW_wv {op : Int} {name : ByteArray} (h : nmB op name = true) : (hdW op name).all wv = true := by
  have hn : op = 1 ∨ op = 2 → wv ⟨1, name⟩ = true := fun ho => by
    unfold nmB at h
    rw [if_pos ho] at h
    exact h
  unfold hdW
  split
  · rename_i h1; rw [List.all_cons, List.all_cons, hn (Or.inl h1)]; decide +kernel
  split
  · rename_i h1; rw [List.all_cons, hn (Or.inr h1)]; decide +kernel
  repeat' split
  all_goals decide +kernel
theorem agW_wv {args : List Ex} (hv : args.all valE = true) : (agW args).all wv = true := by
  have hf : ∀ (l : List Ex) (i : Nat) (a : List WordD), l.all valE = true → a.all wv = true → (l.foldl (cmW (wdE 6 false)) (i, a)).2.all wv = true := by
    intro l
    induction l with
    | nil => intro i a _ ha; exact ha
    | cons k r ihl =>
      intro i a hl ha
      rw [List.all_cons, Bool.and_eq_true] at hl
      rw [List.foldl_cons]
      refine ihl _ _ hl.2 ?_
      rw [List.all_append, wv_word false k (val_form6 hl.1).1, Bool.and_true]
      simp only
      split
      · rw [List.all_append, ha]; decide +kernel
      · exact ha
  exact hf args 0 [] hv rfl
theorem sgn_wv : wv ⟨3, ⟨#[123]⟩⟩ = true ∧ wv ⟨3, ⟨#[125]⟩⟩ = true ∧ wv ⟨3, ⟨#[59]⟩⟩ = true ∧ wv ⟨4, ⟨#[101, 108, 115, 101]⟩⟩ = true ∧ wv ⟨3, ⟨#[40]⟩⟩ = true ∧ wv ⟨3, ⟨#[41]⟩⟩ = true ∧ wv ⟨3, ⟨#[44]⟩⟩ = true ∧ wv ⟨4, ⟨#[102, 110]⟩⟩ = true := by decide +kernel
theorem blW_wv {l : List St} (h : (stsW l).all wv = true) : (blW l).all wv = true := by
  unfold blW
  rw [List.all_append, List.all_append, h, List.all_cons, List.all_cons, sgn_wv.1, sgn_wv.2.1]
  rfl
theorem stsW_wv_of {m : Nat} (ih : ∀ s, stB m s = true → (stW s).all wv = true) : ∀ l : List St, l.all (stB m) = true → (stsW l).all wv = true
  | [], _ => by rw [stsW]; rfl
  | s :: r, h => by
    rw [List.all_cons, Bool.and_eq_true] at h
    rw [stsW_cons, List.all_append, ih s h.1, stsW_wv_of ih r h.2]
    rfl
theorem stW_wv : ∀ (m : Nat) (s : St), stB m s = true → (stW s).all wv = true
  | 0, s, h => by simp [stB] at h
  | m + 1, .mk op name args body els, h => by
    obtain ⟨_, h2, h3, h4, h5, h6, h7, h8⟩ := st_in h
    have b1 := blW_wv (stsW_wv_of (stW_wv m) body h7)
    have b2 := blW_wv (stsW_wv_of (stW_wv m) els h8)
    rw [stW_mk, List.all_append, List.all_append, hdW_wv h3, agW_wv h4, Bool.true_and, Bool.true_and]
    split
    · rw [List.all_append, b1, Bool.true_and]
      split
      · rfl
      · rw [List.all_append, b2, List.all_cons, sgn_wv.2.2.2.1]; rfl
    · rw [List.all_cons, sgn_wv.2.2.1]; rfl
theorem stsW_wv (m : Nat) (l : List St) (h : l.all (stB m) = true) : (stsW l).all wv = true := stsW_wv_of (stW_wv m) l h
theorem paW_wv {l : List ByteArray} (hv : l.all isName = true) : (paW l).all wv = true := by
  have hf : ∀ (l : List ByteArray) (i : Nat) (a : List WordD), l.all isName = true → a.all wv = true → (l.foldl pmW (i, a)).2.all wv = true := by
    intro l
    induction l with
    | nil => intro i a _ ha; exact ha
    | cons k r ihl =>
      intro i a hl ha
      rw [List.all_cons, Bool.and_eq_true] at hl
      have hk : wv ⟨1, k⟩ = true := hl.1
      rw [List.foldl_cons]
      refine ihl _ _ hl.2 ?_
      rw [List.all_append, List.all_cons, hk, List.all_nil, Bool.and_true, Bool.and_true]
      simp only
      split
      · rw [List.all_append, ha]; decide +kernel
      · exact ha
  exact hf l 0 [] hv rfl
theorem pmW_len : ∀ (l : List ByteArray) (p : Nat × List WordD), (l.foldl pmW p).2.length ≤ p.2.length + 2 * l.length
  | [], p => Nat.le_refl _
  | k :: r, p => by
    have h2 := pmW_len r (pmW p k)
    have h3 : (pmW p k).2.length ≤ p.2.length + 2 := by
      unfold pmW
      simp only [List.length_append, List.length_cons, List.length_nil]
      split
      · rw [List.length_append]; simp
      · omega
    rw [List.foldl_cons, List.length_cons]
    omega
theorem paW_len (l : List ByteArray) : (paW l).length ≤ 2 * l.length := by
  have := pmW_len l (0, [])
  simpa [paW] using this
theorem fn_in {f : FnD} (h : fnB f = true) : f.params.all isName = true ∧ isName f.name = true ∧ f.params.length ≤ 3 ∧ f.body.all (stB 4) = true := by
  unfold fnB at h
  simp only [Bool.and_eq_true, decide_eq_true_eq] at h
  exact ⟨h.1, h.2.1, h.2.2.1, h.2.2.2⟩
theorem fnW_wv {f : FnD} (h : fnB f = true) : (fnW f).all wv = true := by
  obtain ⟨h1, h2, h3, h4⟩ := fn_in h
  have hn : wv ⟨1, f.name⟩ = true := h2
  unfold fnW
  rw [List.all_append, List.all_append, List.all_append, paW_wv h1, blW_wv (stsW_wv 4 _ h4), List.all_cons, List.all_cons, List.all_cons, List.all_cons, sgn_wv.2.2.2.2.2.2.2, sgn_wv.2.2.2.2.1, sgn_wv.2.2.2.2.2.1, hn]
  rfl
theorem prW_wv {l : List FnD} (h : l.all fnB = true) : (prW l).all wv = true := by
  unfold prW
  rw [List.all_flatMap, List.all_eq_true]
  intro f hf
  exact fnW_wv (List.all_eq_true.1 h f hf)
theorem fnW_len {f : FnD} (h : fnB f = true) : (fnW f).length ≤ 12 + 400 * cnL f.body := by
  obtain ⟨h1, h2, h3, h4⟩ := fn_in h
  have a1 := paW_len f.params
  have a2 := stsW_len 4 _ h4
  have a3 := blW_len f.body
  unfold fnW
  simp only [List.length_append, List.length_cons, List.length_nil]
  omega
theorem prW_cons (f : FnD) (l : List FnD) : prW (f :: l) = fnW f ++ prW l := by unfold prW; rw [List.flatMap_cons]
theorem prW_len : ∀ {l : List FnD}, l.all fnB = true → (prW l).length ≤ 12 * l.length + 400 * cnP l
  | [], _ => Nat.zero_le _
  | f :: r, h => by
    rw [List.all_cons, Bool.and_eq_true] at h
    have h1 := fnW_len h.1
    have h2 := prW_len h.2
    rw [prW_cons, List.length_append, cnP_cons, List.length_cons]
    omega
theorem prW_snoc {l : List FnD} {k : Nat} (h : k < l.length) {f : FnD} (hs : l[k] = f) : prW (l.take (k + 1)) = prW (l.take k) ++ fnW f := by
  rw [List.take_succ_eq_append_getElem h, hs]
  unfold prW
  rw [List.flatMap_append]
  simp
theorem pr_in {fns : List FnD} (h : prB ⟨fns⟩ = true) : (1 ≤ fns.length ∧ fns.length ≤ 4) ∧ fns.all fnB = true ∧ cnP fns ≤ 40 := by
  unfold prB at h
  simp only [Bool.and_eq_true, decide_eq_true_eq] at h
  exact ⟨h.1, h.2.1, h.2.2⟩
/-- valid words are short -/
theorem wv_short {l : List WordD} (h : l.all wv = true) : ∀ a ∈ l, I64 a.kind ∧ a.text.size ≤ maxLen := fun a ha => by
  have h1 := List.all_eq_true.1 h a ha
  have h2 := wv_size h1
  refine ⟨?_, by unfold maxLen; omega⟩
  unfold wv wvB at h1
  unfold I64
  split at h1
  · omega
  split at h1
  · omega
  split at h1
  · omega
  split at h1
  · omega
  · cases h1
theorem wv_bulk {l : List WordD} (h : l.all wv = true) : sumBy wordN l ≤ l.length * 4 := bulk_le (fun a ha => wv_size (List.all_eq_true.1 h a ha))
theorem wv_text {l : List WordD} (h : l.all wv = true) : (jT l).size ≤ 5 * l.length := by
  have h1 := jT_len l
  have h2 := wv_bulk h
  omega
/-- the plain text of the joined words is the words joined -/
theorem plain_words {l : List WordD} (h : l.all wv = true) : pV (jT l) = jV l := by
  cases hj : jOk l with
  | true =>
    obtain ⟨h1, h2⟩ := join_cut hj
    rw [pV_of h1 h2 hj, jV_yes hj]
  | false =>
    rw [jV_no hj]
    apply pV_false
    unfold pOk
    have hc : cutOk (jT l) = false := by
      by_cases h3 : (jT l).size ≤ 3000
      · by_cases h6 : l.length ≤ 600
        · rw [jOk_mk h6 h h3] at hj; cases hj
        · exact cutOk_many (by rw [cutR_cutB]; exact cutB_jT l h) (by omega)
      · exact cutOk_long (by omega)
    rw [hc]
    rfl
theorem jT_cons {l : List WordD} (h : l ≠ []) (a : WordD) : jT (a :: l) = (a.text ++ ⟨#[32]⟩) ++ jT l := by
  have := jT_app (l := [a]) (by simp) l h
  rw [jT_one] at this
  exact this
theorem app_ne {l r : List WordD} (h : r ≠ []) : l ++ r ≠ [] := by simp [h]
/-- the text of the words of a program, or none -/
def ptV (fns : List FnD) : Value := if prB ⟨fns⟩ = true then jV (prW fns) else .tuple #[.string ⟨#[]⟩, .bool false]
end Go.Proofs.YtbikgakoeheahaaGreatDoor
