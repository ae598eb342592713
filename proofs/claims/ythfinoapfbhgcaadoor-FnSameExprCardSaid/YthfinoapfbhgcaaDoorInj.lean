/-
  Two valid expressions with one text are the same: the words are read back. No condition.
-/
import Derived.Test.YthfinoapfbhgcaaDoorTextL
namespace Go.Proofs.YthfinoapfbhgcaaDoor
open Go.RowKit Go.ChangeShapes Go.WideShapes Go.Deep
set_option linter.unusedVariables false
set_option linter.unusedSimpArgs false
-- a joined list of words without blanks tells the words
def splitB : List UInt8 → List UInt8 → List (List UInt8)
  | acc, [] => [acc]
  | acc, b :: r => if b = 32 then acc :: splitB [] r else splitB (acc ++ [b]) r
theorem split_word : ∀ (x acc r : List UInt8), (∀ b ∈ x, b ≠ 32) → splitB acc (x ++ r) = splitB (acc ++ x) r
  | [], acc, r, _ => by simp
  | b :: x, acc, r, h => by
    rw [List.cons_append, splitB, if_neg (h b (by simp)), split_word x _ _ (fun c hc => h c (by simp [hc])), List.append_assoc]
    rfl
theorem split_tail : ∀ (r : List (List UInt8)) (acc : List UInt8), (∀ t ∈ r, ∀ b ∈ t, b ≠ 32) → splitB acc (Lib.joinTail [32] r) = acc :: r
  | [], acc, _ => rfl
  | t :: r, acc, h => by
    have e : Lib.joinTail [32] (t :: r) = 32 :: (t ++ Lib.joinTail [32] r) := by unfold Lib.joinTail; simp
    rw [e, splitB, if_pos rfl, split_word t [] _ (h t (by simp)), List.nil_append, split_tail r t (fun u hu => h u (by simp [hu]))]
theorem join_inj {x y : List (List UInt8)} (hx : x ≠ []) (hy : y ≠ []) (h1 : ∀ t ∈ x, ∀ b ∈ t, b ≠ 32) (h2 : ∀ t ∈ y, ∀ b ∈ t, b ≠ 32) (h : Lib.join x [32] = Lib.join y [32]) : x = y := by
  cases x with
  | nil => exact absurd rfl hx
  | cons a r =>
    cases y with
    | nil => exact absurd rfl hy
    | cons b q =>
      rw [Lib.join_cons, Lib.join_cons] at h
      have e1 := split_word a [] (Lib.joinTail [32] r) (h1 a (by simp))
      have e2 := split_word b [] (Lib.joinTail [32] q) (h2 b (by simp))
      rw [h, e2, List.nil_append, List.nil_append, split_tail r a (fun u hu => h1 u (by simp [hu])), split_tail q b (fun u hu => h2 u (by simp [hu]))] at e1
      exact e1.symm
/-- the op of a sign between two -/
def opOf (t : List UInt8) : Int := if t = [43] then 3 else if t = [45] then 4 else if t = [42] then 5 else if t = [47] then 6 else if t = [37] then 7 else if t = [60] then 8 else if t = [61] then 9 else if t = [38] then 10 else 0
mutual
/-- an expression is read, at a level at least -/
def rdE : Nat → Int → List (List UInt8) → Option (Ex × List (List UInt8))
  | 0, _, _ => none
  | f + 1, p, l => (rdP f l).bind fun x => rdL f p x.1 x.2
def rdL : Nat → Int → Ex → List (List UInt8) → Option (Ex × List (List UInt8))
  | 0, _, _, _ => none
  | _ + 1, _, e, [] => some (e, [])
  | f + 1, p, e, t :: r => if 3 ≤ opOf t ∧ p ≤ levOf (opOf t) then (rdE f (levOf (opOf t) + 1) r).bind fun x => rdL f p (.mk (opOf t) 0 ⟨#[]⟩ [e, x.1]) x.2 else some (e, t :: r)
def rdP : Nat → List (List UInt8) → Option (Ex × List (List UInt8))
  | 0, _ => none
  | _ + 1, [] => none
  | f + 1, t :: r => if t = [40] then (rdE f 1 r).bind fun x => some (x.1, x.2.tail)
    else if t = [33] then (rdP f r).bind fun x => some (.mk 11 0 ⟨#[]⟩ [x.1], x.2)
    else if t = [64] then (rdP f r).bind fun x => some (.mk 12 0 ⟨#[]⟩ [x.1], x.2)
    else if t.all isDig = true then some (.mk 1 (numW ⟨t.toArray⟩) ⟨#[]⟩ [], r)
    else if r.head? = some [40] then (rdA f r.tail).bind fun x => some (.mk 13 0 ⟨t.toArray⟩ x.1, x.2)
    else some (.mk 2 0 ⟨t.toArray⟩ [], r)
def rdA : Nat → List (List UInt8) → Option (List Ex × List (List UInt8))
  | 0, _ => none
  | _ + 1, [] => none
  | f + 1, t :: r => if t = [41] then some ([], r) else (rdE f 1 (if t = [44] then r else t :: r)).bind fun x => (rdA f x.2).bind fun y => some (x.1 :: y.1, y.2)
end
/-- it answers so, given time enough -/
def Ev {α : Type} (g : Nat → Option α) (x : α) : Prop := ∃ n : Nat, ∀ f, n ≤ f → g f = some x
theorem Ev.det {α : Type} {g : Nat → Option α} {x y : α} (h1 : Ev g x) (h2 : Ev g y) : x = y := by
  obtain ⟨a, ha⟩ := h1
  obtain ⟨b, hb⟩ := h2
  have e1 := ha (a + b) (by omega)
  rw [hb (a + b) (by omega)] at e1
  exact (Option.some.inj e1).symm
theorem Ev.up {α : Type} {g : Nat → Option α} {k : Nat → Option α} {x : α} (h : Ev k x) (hg : ∀ f, g (f + 1) = k f) : Ev g x := by
  obtain ⟨a, ha⟩ := h
  refine ⟨a + 1, fun f hf => ?_⟩
  obtain ⟨f, rfl⟩ : ∃ q, f = q + 1 := ⟨f - 1, by omega⟩
  rw [hg]
  exact ha f (by omega)
theorem Ev.bind {α β : Type} {g : Nat → Option α} {x : α} {k : Nat → α → Option β} {y : β} (h1 : Ev g x) (h2 : Ev (fun f => k f x) y) : Ev (fun f => (g f).bind (k f)) y := by
  obtain ⟨a, ha⟩ := h1
  obtain ⟨b, hb⟩ := h2
  refine ⟨a + b, fun f hf => ?_⟩
  show (g f).bind (k f) = some y
  rw [ha f (by omega), Option.bind_some]
  exact hb f (by omega)
theorem Ev.pure {α : Type} (x : α) : Ev (fun _ => some x) x := ⟨0, fun _ _ => rfl⟩
/-- what follows ends an expression of a level -/
def okR (s : Int) (r : List (List UInt8)) : Prop := ∀ t q, r = t :: q → t ≠ [40] ∧ (3 ≤ opOf t → levOf (opOf t) < s)
theorem okR.mono {s s' : Int} {r : List (List UInt8)} (h : okR s r) (hs : s ≤ s') : okR s' r := fun t q e => ⟨(h t q e).1, fun h3 => by have := (h t q e).2 h3; omega⟩
theorem okR_sign {s : Int} {t : List UInt8} {r : List (List UInt8)} (h : opOf t = 0) (h40 : t ≠ [40]) : okR s (t :: r) := fun u q e => by
  injection e with e1 e2
  subst e1
  exact ⟨h40, fun h3 => by omega⟩
theorem okR_nil {s : Int} : okR s [] := fun t q e => by cases e
theorem ev_stop {p : Int} {e : Ex} {r : List (List UInt8)} (h : okR p r) : Ev (fun f => rdL f p e r) (e, r) := by
  refine Ev.up (Ev.pure (e, r)) (fun f => ?_)
  cases r with
  | nil => rfl
  | cons t q =>
    rw [rdL, if_neg (fun hc => by have := (h t q rfl).2 hc.1; omega)]
theorem ev_E {p : Int} {l r : List (List UInt8)} {e : Ex} {x : Ex × List (List UInt8)} (h1 : Ev (fun f => rdP f l) (e, r)) (h2 : Ev (fun f => rdL f p e r) x) : Ev (fun f => rdE f p l) x :=
  Ev.up (Ev.bind (k := fun f (y : Ex × List (List UInt8)) => rdL f p y.1 y.2) h1 h2) (fun f => by rw [rdE])
/-- the words' texts -/
def tk (m : Nat) (ar : Bool) (e : Ex) : List (List UInt8) := tx (wdE m ar e)
theorem tx_app (l r : List WordD) : tx (l ++ r) = tx l ++ tx r := by unfold tx; rw [List.map_append]
theorem tk_round {m : Nat} {e : Ex} (h : formB m e = true) : tk m true e = [40] :: (tk m false e ++ [[41]]) := by
  cases m with
  | zero => cases e; simp [formB] at h
  | succ m =>
    cases e with
    | mk op n name kids =>
      unfold tk
      rw [wdE, wdE, if_pos rfl, if_neg (by decide), tx_app, tx_app]
      rfl
def RdA (m : Nat) (e : Ex) : Prop := ∀ (p : Int) (r : List (List UInt8)) (x : Ex × List (List UInt8)), p ≤ levOf e.op → okR (levOf e.op + 1) r → Ev (fun f => rdL f p e r) x → Ev (fun f => rdE f p (tk m false e ++ r)) x
def RdB (m : Nat) (e : Ex) : Prop := ∀ (r : List (List UInt8)), okR 5 r → Ev (fun f => rdP f (tk m (decide (levOf e.op < 5)) e ++ r)) (e, r)
theorem rd_par {m : Nat} {e : Ex} (hf : formB m e = true) (h : RdA m e) (r : List (List UInt8)) : Ev (fun f => rdP f (tk m true e ++ r)) (e, r) := by
  rw [tk_round hf]
  have h1 := h 1 ([41] :: r) (e, [41] :: r) (levOf_pos _) (okR_sign rfl (by decide)) (ev_stop (okR_sign rfl (by decide)))
  refine Ev.up (Ev.bind (k := fun f (y : Ex × List (List UInt8)) => some (y.1, y.2.tail)) h1 (Ev.pure (e, r))) (fun f => ?_)
  rw [List.cons_append, rdP, if_pos rfl, List.append_assoc]
  rfl
theorem rd_at {m : Nat} {e : Ex} (hf : formB m e = true) (h : RdA m e) {q p : Int} {r : List (List UInt8)} {x : Ex × List (List UInt8)} (hp : p ≤ q) (ho : okR (q + 1) r) (hl : Ev (fun f => rdL f p e r) x) : Ev (fun f => rdE f p (tk m (decide (levOf e.op < q)) e ++ r)) x := by
  by_cases hq : levOf e.op < q
  · rw [decide_eq_true hq]
    exact ev_E (rd_par hf h r) hl
  · rw [decide_eq_false hq]
    exact h p r x (by omega) (ho.mono (by omega)) hl
theorem ba_empty {s : ByteArray} (h : s.toList.isEmpty = true) : s = ⟨#[]⟩ := by
  rw [ByteArray.toList_eq, List.isEmpty_iff] at h
  exact ba_of (by rw [h])
theorem fm_full {op n : Int} {name : ByteArray} {len : Nat} (h : fmK op n name len = true) : (op = 1 ∧ len = 0 ∧ name = ⟨#[]⟩ ∧ 0 ≤ n ∧ n ≤ 255) ∨ (op = 2 ∧ len = 0 ∧ n = 0 ∧ isName name = true) ∨ (op = 13 ∧ n = 0 ∧ isName name = true) ∨ (3 ≤ op ∧ op ≤ 10 ∧ len = 2 ∧ n = 0 ∧ name = ⟨#[]⟩) ∨ ((op = 11 ∨ op = 12) ∧ len = 1 ∧ n = 0 ∧ name = ⟨#[]⟩) := by
  unfold fmK at h
  split at h
  · simp only [Bool.and_eq_true, decide_eq_true_eq, inB] at h
    exact Or.inl ⟨by assumption, h.2.2, ba_empty h.2.1, h.1⟩
  · split at h
    · simp only [Bool.and_eq_true, decide_eq_true_eq] at h
      exact Or.inr (Or.inl ⟨by assumption, h.2.2, h.2.1, h.1⟩)
    · split at h
      · simp only [Bool.and_eq_true, decide_eq_true_eq] at h
        exact Or.inr (Or.inr (Or.inl ⟨by assumption, h.2.1, h.1⟩))
      · split at h
        · rename_i hr
          simp only [Bool.and_eq_true, decide_eq_true_eq] at h
          exact Or.inr (Or.inr (Or.inr (Or.inl ⟨hr.1, hr.2, h.2.2, h.1, ba_empty h.2.1⟩)))
        · split at h
          · rename_i hr
            simp only [Bool.and_eq_true, decide_eq_true_eq] at h
            exact Or.inr (Or.inr (Or.inr (Or.inr ⟨hr, h.2.2, h.1, ba_empty h.2.1⟩)))
          · cases h
theorem num_tok : ∀ n : Nat, n < 256 → ((decT n).data.toList ≠ [40] ∧ (decT n).data.toList ≠ [33] ∧ (decT n).data.toList ≠ [64] ∧ (decT n).data.toList ≠ [41] ∧ (decT n).data.toList ≠ [44]) ∧ (decT n).data.toList.all isDig = true ∧ numW (decT n) = (n : Int) := by decide +kernel
theorem name_tok {s : ByteArray} (h : isName s = true) : (s.data.toList ≠ [40] ∧ s.data.toList ≠ [33] ∧ s.data.toList ≠ [64] ∧ s.data.toList ≠ [41] ∧ s.data.toList ≠ [44]) ∧ s.data.toList.all isDig = false := by
  have h1 : 1 ≤ s.size ∧ s.data.toList.all low = true := by
    simp only [isName, Bool.and_eq_true, decide_eq_true_eq] at h
    constructor
    · omega
    · first | exact h.2.2.1 | exact h.2.2.2 | exact h.1.2 | (have := h; simp_all)
  obtain ⟨hs, hl⟩ := h1
  match hd : s.data.toList, hs, hl with
  | [], hs, hl => exact absurd (show s.data.toList.length = 0 by rw [hd]; rfl) (fun hc => by
      have e : s.data.toList.length = s.size := Array.length_toList
      omega)
  | b :: r, hs, hl =>
    rw [List.all_cons, Bool.and_eq_true] at hl
    have hb : ∀ c : UInt8, low c = false → b ≠ c := fun c hc e => by rw [e, hc] at hl; exact absurd hl.1 (by decide)
    refine ⟨⟨fun e => ?_, fun e => ?_, fun e => ?_, fun e => ?_, fun e => ?_⟩, ?_⟩
    · injection e with e1 e2; exact hb 40 (by decide) e1
    · injection e with e1 e2; exact hb 33 (by decide) e1
    · injection e with e1 e2; exact hb 64 (by decide) e1
    · injection e with e1 e2; exact hb 41 (by decide) e1
    · injection e with e1 e2; exact hb 44 (by decide) e1
    · rw [List.all_cons]
      cases hd : isDig b
      · rfl
      · have h1 := hl.1
        simp only [isDig, low, Bool.and_eq_true, decide_eq_true_eq] at hd h1
        omega
theorem ba_back (s : ByteArray) : (⟨s.data.toList.toArray⟩ : ByteArray) = s := ba_of (by simp)
theorem sg_op : ∀ op : Int, 3 ≤ op → op ≤ 10 → opOf (sgS op).data.toList = op := fun op h1 h2 => by
  have hc : op = 3 ∨ op = 4 ∨ op = 5 ∨ op = 6 ∨ op = 7 ∨ op = 8 ∨ op = 9 ∨ op = 10 := by omega
  rcases hc with rfl | rfl | rfl | rfl | rfl | rfl | rfl | rfl <;> decide
theorem sg_40 : ∀ op : Int, 3 ≤ op → op ≤ 10 → (sgS op).data.toList ≠ [40] := fun op h1 h2 => by
  have hc : op = 3 ∨ op = 4 ∨ op = 5 ∨ op = 6 ∨ op = 7 ∨ op = 8 ∨ op = 9 ∨ op = 10 := by omega
  rcases hc with rfl | rfl | rfl | rfl | rfl | rfl | rfl | rfl <;> decide
/-- an expression's first word is no comma and no closing bracket -/
theorem tk_head (m : Nat) : ∀ (ar : Bool) (e : Ex), formB m e = true → ∃ t q, tk m ar e = t :: q ∧ t ≠ [41] ∧ t ≠ [44] := by
  induction m with
  | zero => intro ar e h; cases e; simp [formB] at h
  | succ m ih =>
    intro ar e h
    cases ar with
    | true => exact ⟨_, _, tk_round h, by decide, by decide⟩
    | false =>
      cases e with
      | mk op n name kids =>
        rw [formB, Bool.and_eq_true] at h
        obtain ⟨hfm, hall⟩ := h
        unfold tk
        rw [wdE, if_neg (by decide)]
        unfold inW
        rcases fm_full hfm with ⟨rfl, hl, _, n0, n1⟩ | ⟨rfl, hl, _, hn⟩ | ⟨rfl, _, hn⟩ | ⟨h3, h10, hl, _, _⟩ | ⟨ho, hl, _, _⟩
        · have h1 := (num_tok n.toNat (by omega)).1
          rw [if_pos rfl]
          exact ⟨_, _, rfl, h1.2.2.2.1, h1.2.2.2.2⟩
        · have h1 := (name_tok hn).1
          rw [if_neg (by omega), if_pos rfl]
          exact ⟨_, _, rfl, h1.2.2.2.1, h1.2.2.2.2⟩
        · have h1 := (name_tok hn).1
          rw [if_neg (by omega), if_neg (by omega), if_pos rfl]
          have hf : ∀ (l : List Ex) (i : Nat) (a : List WordD), ∃ q, (l.foldl (cmW (wdE m false)) (i, (⟨1, name⟩ : WordD) :: a)).2 = ⟨1, name⟩ :: q := by
            intro l
            induction l with
            | nil => intro i a; exact ⟨_, rfl⟩
            | cons k r ihl =>
              intro i a
              rw [List.foldl_cons]
              have e : ∃ b, (cmW (wdE m false) (i, (⟨1, name⟩ : WordD) :: a) k) = (i + 1, (⟨1, name⟩ : WordD) :: b) := by
                unfold cmW
                by_cases h0 : 0 < i
                · exact ⟨_, by simp only [if_pos h0]; rfl⟩
                · exact ⟨_, by simp only [if_neg h0]; rfl⟩
              obtain ⟨b, hb⟩ := e
              rw [hb]
              exact ihl _ _
          obtain ⟨q, hq⟩ := hf kids 0 [⟨3, ⟨#[40]⟩⟩]
          rw [hq]
          exact ⟨_, _, rfl, h1.2.2.2.1, h1.2.2.2.2⟩
        · have hlv := lev_two h3 h10
          obtain ⟨a, b, rfl⟩ := two_listT hl
          rw [if_neg (by omega), if_neg (by omega), if_neg (by omega), if_neg (by omega), tx_app, tx_app]
          obtain ⟨t, q, h1, h2⟩ := ih (decide (levOf (kid0 [a, b]).op < levOf op)) (kid0 [a, b]) (List.all_eq_true.1 hall a (by simp))
          change tx _ = _ at h1
          rw [h1]
          exact ⟨_, _, rfl, h2⟩
        · have hlv : levOf op = 5 := by rcases ho with rfl | rfl <;> decide
          rw [if_neg (by omega), if_neg (by omega), if_neg (by omega), if_pos hlv, tx_app]
          rcases ho with rfl | rfl
          · exact ⟨_, _, rfl, by decide, by decide⟩
          · exact ⟨_, _, rfl, by decide, by decide⟩
/-- the words of further arguments -/
def argT (m : Nat) : List Ex → List (List UInt8)
  | [] => [[41]]
  | k :: q => [44] :: (tk m false k ++ argT m q)
def arg1 (m : Nat) : List Ex → List (List UInt8)
  | [] => [[41]]
  | k :: q => tk m false k ++ argT m q
theorem arg_fold (m : Nat) : ∀ (l : List Ex) (i : Nat) (a : List WordD), 0 < i → tx (l.foldl (cmW (wdE m false)) (i, a)).2 ++ [[41]] = tx a ++ argT m l
  | [], i, a, _ => rfl
  | k :: r, i, a, h => by
    rw [List.foldl_cons]
    have e : cmW (wdE m false) (i, a) k = (i + 1, (a ++ [⟨3, ⟨#[44]⟩⟩]) ++ wdE m false k) := by unfold cmW; simp only [if_pos h]
    rw [e, arg_fold m r (i + 1) _ (by omega), tx_app, tx_app, argT]
    simp [tk, tx]
theorem arg_first (m : Nat) (l : List Ex) (a : List WordD) : tx (l.foldl (cmW (wdE m false)) (0, a)).2 ++ [[41]] = tx a ++ arg1 m l := by
  cases l with
  | nil => rfl
  | cons k r =>
    rw [List.foldl_cons]
    have e : cmW (wdE m false) (0, a) k = (0 + 1, a ++ wdE m false k) := by unfold cmW; simp
    rw [e, arg_fold m r _ _ (by omega), tx_app, arg1]
    simp [tk, tx]
theorem rd_args {m : Nat} : ∀ (l : List Ex), (∀ k ∈ l, formB m k = true ∧ RdA m k) → ∀ r : List (List UInt8), Ev (fun f => rdA f (argT m l ++ r)) (l, r)
  | [], _, r => Ev.up (Ev.pure _) (fun f => by rw [argT, List.cons_append, rdA, if_pos rfl]; rfl)
  | k :: q, h, r => by
    obtain ⟨hf, hA⟩ := h k (by simp)
    have hok : ∀ s, okR s (argT m q ++ r) := fun s => by cases q <;> exact okR_sign rfl (by decide)
    have h1 := hA 1 (argT m q ++ r) (k, argT m q ++ r) (levOf_pos _) (hok _) (ev_stop (hok _))
    have h2 := rd_args q (fun x hx => h x (by simp [hx])) r
    refine Ev.up (Ev.bind (k := fun f (x : Ex × List (List UInt8)) => (rdA f x.2).bind fun y => some (x.1 :: y.1, y.2)) h1 (Ev.bind (k := fun f (y : List Ex × List (List UInt8)) => some (k :: y.1, y.2)) h2 (Ev.pure _))) (fun f => ?_)
    rw [argT, List.cons_append, rdA, if_neg (by decide), if_pos rfl, List.append_assoc]
theorem rd_args1 {m : Nat} (l : List Ex) (h : ∀ k ∈ l, formB m k = true ∧ RdA m k) (r : List (List UInt8)) : Ev (fun f => rdA f (arg1 m l ++ r)) (l, r) := by
  cases l with
  | nil => exact rd_args [] h r
  | cons k q =>
    obtain ⟨hf, hA⟩ := h k (by simp)
    have hok : ∀ s, okR s (argT m q ++ r) := fun s => by cases q <;> exact okR_sign rfl (by decide)
    have h1 := hA 1 (argT m q ++ r) (k, argT m q ++ r) (levOf_pos _) (hok _) (ev_stop (hok _))
    have h2 := rd_args q (fun x hx => h x (by simp [hx])) r
    obtain ⟨t, u, e, n41, n44⟩ := tk_head m false k hf
    refine Ev.up (Ev.bind (k := fun f (x : Ex × List (List UInt8)) => (rdA f x.2).bind fun y => some (x.1 :: y.1, y.2)) h1 (Ev.bind (k := fun f (y : List Ex × List (List UInt8)) => some (k :: y.1, y.2)) h2 (Ev.pure _))) (fun f => ?_)
    rw [arg1, e, List.append_assoc, List.cons_append, rdA, if_neg n41, if_neg n44]
theorem lev_opOf (t : List UInt8) : 3 ≤ opOf t → levOf (opOf t) < 5 := fun h => by
  have h10 : opOf t ≤ 10 := by unfold opOf; repeat' split
                                           <;> omega
  have := lev_two h h10
  omega
theorem rd_main (m : Nat) : ∀ e : Ex, formB m e = true → RdA m e ∧ RdB m e := by
  induction m with
  | zero => intro e h; cases e; simp [formB] at h
  | succ m ih =>
    intro e h
    have hform := h
    cases e with
    | mk op n name kids =>
      rw [formB, Bool.and_eq_true] at h
      obtain ⟨hfm, hall⟩ := h
      have hk : ∀ k ∈ kids, formB m k = true ∧ RdA m k := fun k hk => ⟨List.all_eq_true.1 hall k hk, (ih k (List.all_eq_true.1 hall k hk)).1⟩
      -- what a primary gives
      have fin : 5 ≤ levOf op → (∀ r, okR 5 r → Ev (fun f => rdP f (tk (m + 1) false (.mk op n name kids) ++ r)) (.mk op n name kids, r)) → RdA (m + 1) (.mk op n name kids) ∧ RdB (m + 1) (.mk op n name kids) := fun h5 hp =>
        ⟨fun p r x _ ho hl => ev_E (hp r (fun t q e => ⟨(ho t q e).1, fun h3 => lev_opOf t h3⟩)) hl, fun r ho => by
          rw [show decide (levOf (Ex.mk op n name kids).op < 5) = false from decide_eq_false (by show ¬ levOf op < 5; omega)]
          exact hp r ho⟩
      rcases fm_full hfm with ⟨rfl, hl, rfl, n0, n1⟩ | ⟨rfl, hl, rfl, hn⟩ | ⟨rfl, rfl, hn⟩ | ⟨h3, h10, hl, rfl, rfl⟩ | ⟨ho, hl, rfl, rfl⟩
      · obtain rfl := List.eq_nil_of_length_eq_zero hl
        refine fin (by decide) (fun r _ => ?_)
        obtain ⟨⟨h1, h2, h3, _⟩, h4, h5⟩ := num_tok n.toNat (by omega)
        refine Ev.up (Ev.pure _) (fun f => ?_)
        unfold tk
        rw [wdE, if_neg (by decide)]
        unfold inW
        rw [if_pos rfl]
        show rdP (f + 1) ((decT n.toNat).data.toList :: r) = _
        rw [rdP, if_neg h1, if_neg h2, if_neg h3, if_pos h4, ba_back, h5, show ((n.toNat : Nat) : Int) = n by omega]
      · obtain rfl := List.eq_nil_of_length_eq_zero hl
        refine fin (by decide) (fun r ho => ?_)
        obtain ⟨⟨h1, h2, h3, _⟩, h4⟩ := name_tok hn
        refine Ev.up (Ev.pure _) (fun f => ?_)
        unfold tk
        rw [wdE, if_neg (by decide)]
        unfold inW
        rw [if_neg (by decide), if_pos rfl]
        show rdP (f + 1) (name.data.toList :: r) = _
        have h5 : r.head? ≠ some [40] := fun e => by
          cases r with
          | nil => cases e
          | cons t q => exact (ho t q rfl).1 (Option.some.inj e)
        rw [rdP, if_neg h1, if_neg h2, if_neg h3, if_neg (by rw [h4]; decide), if_neg h5, ba_back]
      · refine fin (by decide) (fun r _ => ?_)
        obtain ⟨⟨h1, h2, h3, _⟩, h4⟩ := name_tok hn
        have hA := rd_args1 kids hk r
        refine Ev.up (Ev.bind (k := fun f (x : List Ex × List (List UInt8)) => some (Ex.mk 13 0 name x.1, x.2)) hA (Ev.pure _)) (fun f => ?_)
        unfold tk
        rw [wdE, if_neg (by decide)]
        unfold inW
        rw [if_neg (by decide), if_neg (by decide), if_pos rfl, tx_app, show tx [(⟨3, ⟨#[41]⟩⟩ : WordD)] = [[41]] from rfl, arg_first]
        show rdP (f + 1) (name.data.toList :: [40] :: (arg1 m kids ++ r)) = _
        rw [rdP, if_neg h1, if_neg h2, if_neg h3, if_neg (by rw [h4]; decide), if_pos (show ([40] :: (arg1 m kids ++ r)).head? = some [40] from rfl), ba_back]
        rfl
      · have hlv := lev_two h3 h10
        obtain ⟨a, b, rfl⟩ := two_listT hl
        obtain ⟨fa, ha⟩ := hk a (by simp)
        obtain ⟨fb, hb⟩ := hk b (by simp)
        have hso := sg_op op h3 h10
        have hA : RdA (m + 1) (.mk op 0 ⟨#[]⟩ [a, b]) := by
          intro p r x hp hok hl2
          change p ≤ levOf op at hp
          change okR (levOf op + 1) r at hok
          have e : tk (m + 1) false (.mk op 0 ⟨#[]⟩ [a, b]) ++ r = tk m (decide (levOf a.op < levOf op)) a ++ ((sgS op).data.toList :: (tk m (decide (levOf b.op < levOf op + 1)) b ++ r)) := by
            unfold tk
            rw [wdE, if_neg (by decide)]
            unfold inW
            rw [if_neg (by omega), if_neg (by omega), if_neg (by omega), if_neg (by omega), tx_app, tx_app, show decide (levOf b.op < levOf op + 1) = decide (levOf b.op ≤ levOf op) by simp only [decide_eq_decide]; omega]
            simp [kid0, kid1, tx]
            rfl
          rw [e]
          refine rd_at fa ha hp ?_ ?_
          · intro t q e
            injection e with e1 e2
            subst e1
            exact ⟨sg_40 op h3 h10, fun _ => by rw [hso]; omega⟩
          · have h1 := rd_at fb hb (q := levOf op + 1) (p := levOf op + 1) (Int.le_refl _) (hok.mono (by omega)) (ev_stop hok)
            refine Ev.up (Ev.bind (k := fun f (y : Ex × List (List UInt8)) => rdL f p (.mk op 0 ⟨#[]⟩ [a, y.1]) y.2) h1 hl2) (fun f => ?_)
            rw [rdL, hso, if_pos ⟨h3, hp⟩]
        refine ⟨hA, fun r _ => ?_⟩
        rw [show decide (levOf (Ex.mk op 0 ⟨#[]⟩ [a, b]).op < 5) = true from decide_eq_true (by show levOf op < 5; omega)]
        exact rd_par hform hA r
      · obtain ⟨a, rfl⟩ := one_listT hl
        have ha := (ih a (hk a (by simp)).1).2
        have hlv : levOf op = 5 := by rcases ho with rfl | rfl <;> decide
        refine fin (by omega) (fun r hok => ?_)
        have h1 := ha r hok
        have e : tk (m + 1) false (.mk op 0 ⟨#[]⟩ [a]) ++ r = (sgS op).data.toList :: (tk m (decide (levOf a.op < 5)) a ++ r) := by
          unfold tk
          rw [wdE, if_neg (by decide)]
          unfold inW
          rw [if_neg (by omega), if_neg (by omega), if_neg (by omega), if_pos hlv, tx_app]
          simp [kid0, tx]
          rfl
        rw [e]
        rcases ho with rfl | rfl
        · refine Ev.up (Ev.bind (k := fun f (y : Ex × List (List UInt8)) => some (Ex.mk 11 0 ⟨#[]⟩ [y.1], y.2)) h1 (Ev.pure _)) (fun f => ?_)
          rw [rdP, if_neg (by decide), if_pos (by decide)]
        · refine Ev.up (Ev.bind (k := fun f (y : Ex × List (List UInt8)) => some (Ex.mk 12 0 ⟨#[]⟩ [y.1], y.2)) h1 (Ev.pure _)) (fun f => ?_)
          rw [rdP, if_neg (by decide), if_neg (by decide), if_pos (by decide)]
theorem noB_word {m : Nat} (ar : Bool) (e : Ex) (h : formB m e = true) : (wdE m ar e).all (fun a => a.text.data.toList.all fun b => b != 32) = true :=
  wd_all _ (by decide +kernel) (by decide +kernel) (by decide +kernel) (fun s h => by
      have hl : s.data.toList.all low = true := by
        simp only [isName, Bool.and_eq_true, decide_eq_true_eq] at h
        first | exact h.2.2.1 | exact h.2.2.2 | exact h.1.2 | (have := h; simp_all)
      show s.data.toList.all (fun b => b != 32) = true
      rw [List.all_eq_true] at hl ⊢
      intro b hb
      have h1 := hl b hb
      simp only [bne_iff_ne, ne_eq]
      intro e
      subst e
      exact absurd h1 (by decide)) (by decide +kernel)
    (ops_all (by decide +kernel) (by decide +kernel) (by decide +kernel) (by decide +kernel) (by decide +kernel) (by decide +kernel) (by decide +kernel) (by decide +kernel) (by decide +kernel) (by decide +kernel)) ar e h
theorem text_inj {e1 e2 : Ex} (v1 : valE e1 = true) (v2 : valE e2 = true) (h : txE 6 1 e1 = txE 6 1 e2) : e1 = e2 := by
  rw [valE_form, Bool.and_eq_true] at v1 v2
  have a1 := wd_tx 6 1 e1 v1.1
  have a2 := wd_tx 6 1 e2 v2.1
  rw [decide_eq_false (by have := levOf_pos e1.op; omega)] at a1
  rw [decide_eq_false (by have := levOf_pos e2.op; omega)] at a2
  have hj : Lib.join (tk 6 false e1) [32] = Lib.join (tk 6 false e2) [32] := by
    have h1 := a1.trans (h.trans a2.symm)
    unfold jT at h1
    have h2 := congrArg (fun s : ByteArray => s.data.toList) h1
    unfold tk
    simpa using h2
  have hne : ∀ e, formB 6 e = true → tk 6 false e ≠ [] := fun e he hc => wdE_ne (ar := false) he (by unfold tk tx at hc; exact List.map_eq_nil_iff.1 hc)
  have hnb : ∀ e, formB 6 e = true → ∀ t ∈ tk 6 false e, ∀ b ∈ t, b ≠ 32 := fun e he t ht b hb => by
    unfold tk tx at ht
    obtain ⟨a, h1, h2⟩ := List.mem_map.1 ht
    have h3 := List.all_eq_true.1 (noB_word false e he) a h1
    have h4 := List.all_eq_true.1 h3 b (by rw [h2]; exact hb)
    simpa using h4
  have hT := join_inj (hne e1 v1.1) (hne e2 v2.1) (hnb e1 v1.1) (hnb e2 v2.1) hj
  have r1 := (rd_main 6 e1 v1.1).1 1 [] (e1, []) (levOf_pos _) okR_nil (ev_stop okR_nil)
  have r2 := (rd_main 6 e2 v2.1).1 1 [] (e2, []) (levOf_pos _) okR_nil (ev_stop okR_nil)
  rw [hT] at r1
  exact congrArg Prod.fst (Ev.det r1 r2)
end Go.Proofs.YthfinoapfbhgcaaDoor
