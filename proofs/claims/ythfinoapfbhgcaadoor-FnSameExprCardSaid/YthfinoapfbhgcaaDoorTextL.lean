/-
  The words of a valid expression, joined, are its text; they are all valid. No condition.
-/
import Derived.Test.YthfinoapfbhgcaaDoorWords0
import Derived.Test.YthfinoapfbhgcaaDoorJoin0
namespace Go.Proofs.YthfinoapfbhgcaaDoor
open Go.RowKit Go.ChangeShapes Go.WideShapes Go.Deep
set_option linter.unusedVariables false
set_option linter.unusedSimpArgs false
theorem levOf_pos (op : Int) : 1 ≤ levOf op := by unfold levOf; repeat' split <;> omega
theorem jT_one (a : WordD) : jT [a] = a.text := by
  unfold jT tx
  exact ba_of (by simp [Lib.join_one])
theorem jT_snoc {l : List WordD} (h : l ≠ []) (a : WordD) : jT (l ++ [a]) = (jT l ++ ⟨#[32]⟩) ++ a.text := by
  unfold jT tx
  rw [List.map_append, List.map_cons, List.map_nil, join_snoc, if_neg (fun e => h (List.map_eq_nil_iff.1 e))]
  exact ba_of (by simp)
theorem jT_app {l : List WordD} (h : l ≠ []) : ∀ (r : List WordD), r ≠ [] → jT (l ++ r) = (jT l ++ ⟨#[32]⟩) ++ jT r := by
  intro r
  induction hn : r.length generalizing r with
  | zero => intro hr; exact absurd (List.eq_nil_of_length_eq_zero hn) hr
  | succ n ih =>
    intro hr
    obtain ⟨q, a, rfl⟩ : ∃ q a, r = q ++ [a] := ⟨r.dropLast, r.getLast hr, (List.dropLast_concat_getLast hr).symm⟩
    by_cases hq : q = []
    · subst hq
      rw [List.nil_append, jT_snoc h, jT_one]
    · rw [← List.append_assoc, jT_snoc (by simp [h]), jT_snoc hq, ih q (by simpa using hn) hq]
      exact ba_of (by simp)
theorem app_ne' {l r : List WordD} (h : r ≠ []) : l ++ r ≠ [] := by simp [h]
theorem cmW_text {f : Ex → List WordD} {g : Ex → ByteArray} : ∀ (kids : List Ex), (∀ k ∈ kids, f k ≠ [] ∧ jT (f k) = g k) → ∀ (i : Nat) (l : List WordD), l ≠ [] →
    (kids.foldl (cmW f) (i, l)).2 ≠ [] ∧ jT (kids.foldl (cmW f) (i, l)).2 = (kids.foldl (cmS g) (i, jT l)).2
  | [], _, i, l, hl => ⟨hl, rfl⟩
  | k :: r, h, i, l, hl => by
    obtain ⟨h1, h2⟩ := h k (by simp)
    rw [List.foldl_cons, List.foldl_cons]
    have e : cmS g (i, jT l) k = (i + 1, jT (cmW f (i, l) k).2) := by
      unfold cmS cmW
      simp only
      by_cases h0 : 0 < i
      · rw [if_pos h0, if_pos h0, jT_app (by simp [hl]) _ h1, jT_snoc hl, h2]
        exact congrArg _ (ba_of (by simp))
      · rw [if_neg h0, if_neg h0, jT_app hl _ h1, h2]
    rw [e]
    exact cmW_text r (fun x hx => h x (by simp [hx])) (i + 1) _ (app_ne' h1)
theorem inW_ne {f : Bool → Ex → List WordD} {op n : Int} {name : ByteArray} {kids : List Ex} : inW f op n name kids ≠ [] := by
  unfold inW
  repeat' split
  all_goals simp
theorem wdE_ne {m : Nat} {ar : Bool} {e : Ex} (h : formB m e = true) : wdE m ar e ≠ [] := by
  cases m with
  | zero => cases e; simp [formB] at h
  | succ m =>
    cases e with
    | mk op n name kids =>
      rw [wdE]
      split
      · simp
      · exact inW_ne
theorem wd_tx (m : Nat) : ∀ (need : Int) (e : Ex), formB m e = true → jT (wdE m (decide (levOf e.op < need)) e) = txE m need e := by
  induction m with
  | zero => intro need e h; cases e; simp [formB] at h
  | succ m ih =>
    intro need e h
    cases e with
    | mk op n name kids =>
      rw [formB, Bool.and_eq_true] at h
      obtain ⟨hfm, hall⟩ := h
      have hk : ∀ k ∈ kids, formB m k = true := List.all_eq_true.1 hall
      have hin : jT (inW (wdE m) op n name kids) = inE (txE m) op n name kids := by
        unfold inW inE
        rcases fm_len hfm with ⟨rfl, hl, _⟩ | ⟨rfl, hl, _⟩ | ⟨rfl, hl, _⟩ | ⟨h3, h10, hl⟩ | ⟨ho, hl⟩
        · rw [if_pos rfl, if_pos rfl, jT_one]
        · rw [if_neg (by omega), if_pos rfl, if_neg (by omega), if_pos rfl, jT_one]
        · rw [if_neg (by omega), if_neg (by omega), if_pos rfl, if_neg (by omega), if_neg (by omega), if_pos rfl]
          have hf : ∀ k ∈ kids, wdE m false k ≠ [] ∧ jT (wdE m false k) = txE m 1 k := fun k h => ⟨wdE_ne (hk k h), by
            have h1 := ih 1 k (hk k h)
            have h2 : 1 ≤ levOf k.op := levOf_pos _
            rw [decide_eq_false (by omega)] at h1
            exact h1⟩
          obtain ⟨h1, h2⟩ := cmW_text kids hf 0 [⟨1, name⟩, ⟨3, ⟨#[40]⟩⟩] (by simp)
          rw [jT_snoc h1, h2]
          have h3 : jT [⟨1, name⟩, ⟨3, ⟨#[40]⟩⟩] = name ++ ⟨#[32, 40]⟩ := by
            rw [show ([⟨1, name⟩, ⟨3, ⟨#[40]⟩⟩] : List WordD) = [⟨1, name⟩] ++ [⟨3, ⟨#[40]⟩⟩] from rfl, jT_snoc (by simp), jT_one]
            exact ba_of (by simp)
          rw [h3]
          exact ba_of (by simp)
        · have hlv := lev_two h3 h10
          obtain ⟨a, b, rfl⟩ := two_listT hl
          rw [if_neg (by omega), if_neg (by omega), if_neg (by omega), if_neg (by omega), if_neg (by omega), if_neg (by omega), if_neg (by omega), if_neg (by omega)]
          have ha := ih (levOf op) a (hk a (by simp))
          have hb := ih (levOf op + 1) b (hk b (by simp))
          have e : decide (levOf b.op < levOf op + 1) = decide (levOf b.op ≤ levOf op) := by simp only [decide_eq_decide]; omega
          rw [e] at hb
          show jT ((wdE m (decide (levOf a.op < levOf op)) a ++ [(⟨3, sgS op⟩ : WordD)]) ++ wdE m (decide (levOf b.op ≤ levOf op)) b) = (((txE m (levOf op) a ++ ⟨#[32]⟩) ++ sgS op) ++ ⟨#[32]⟩) ++ txE m (levOf op + 1) b
          rw [jT_app (by simp) _ (wdE_ne (hk b (by simp))), jT_snoc (wdE_ne (hk a (by simp))), ha, hb]
        · have hlv : levOf op = 5 := by rcases ho with rfl | rfl <;> decide
          obtain ⟨a, rfl⟩ := one_listT hl
          rw [if_neg (by omega), if_neg (by omega), if_neg (by omega), if_pos hlv, if_neg (by omega), if_neg (by omega), if_neg (by omega), if_pos hlv]
          have ha := ih 5 a (hk a (by simp))
          show jT ([(⟨3, sgS op⟩ : WordD)] ++ wdE m (decide (levOf a.op < 5)) a) = (sgS op ++ ⟨#[32]⟩) ++ txE m 5 a
          rw [jT_app (by simp) _ (wdE_ne (hk a (by simp))), jT_one, ha]
      rw [wdE, txE]
      by_cases hn : levOf op < need
      · rw [if_pos (show decide (levOf (Ex.mk op n name kids).op < need) = true from decide_eq_true hn), if_pos hn, jT_snoc (by simp), jT_app (by simp) _ inW_ne, jT_one, hin]
        exact ba_of (by simp)
      · rw [if_neg (by rw [show decide (levOf (Ex.mk op n name kids).op < need) = false from decide_eq_false hn]; decide), if_neg hn, hin]
theorem num_dec : ∀ n : Nat, n < 256 → numOk (decT n) = true := by decide +kernel
theorem wd_all (p : WordD → Bool) (s40 : p ⟨3, ⟨#[40]⟩⟩ = true) (s41 : p ⟨3, ⟨#[41]⟩⟩ = true) (s44 : p ⟨3, ⟨#[44]⟩⟩ = true) (hnm : ∀ s, isName s = true → p ⟨1, s⟩ = true) (hnum : ∀ n : Nat, n < 256 → p ⟨2, decT n⟩ = true)
    (hsg : ∀ op : Int, 3 ≤ op → op ≤ 12 → p ⟨3, sgS op⟩ = true) {m : Nat} : ∀ (ar : Bool) (e : Ex), formB m e = true → (wdE m ar e).all p = true := by
  induction m with
  | zero => intro ar e h; cases e; simp [formB] at h
  | succ m ih =>
    intro ar e h
    cases e with
    | mk op n name kids =>
      rw [formB, Bool.and_eq_true] at h
      obtain ⟨hfm, hall⟩ := h
      have hk : ∀ k ∈ kids, ∀ b, (wdE m b k).all p = true := fun k hk b => ih b k (List.all_eq_true.1 hall k hk)
      have hname : (op = 2 ∨ op = 13) → p ⟨1, name⟩ = true := fun h => by
        rw [fmK_named h] at hfm
        simp only [Bool.and_eq_true] at hfm
        exact hnm _ hfm.1
      have hin : (inW (wdE m) op n name kids).all p = true := by
        unfold inW
        rcases fm_len hfm with ⟨rfl, hl, n0, n1⟩ | ⟨rfl, hl, _⟩ | ⟨rfl, hl, _⟩ | ⟨h3, h10, hl⟩ | ⟨ho, hl⟩
        · rw [if_pos rfl, List.all_cons, List.all_nil, Bool.and_true]
          exact hnum n.toNat (by omega)
        · rw [if_neg (by omega), if_pos rfl, List.all_cons, hname (Or.inl rfl)]
          rfl
        · rw [if_neg (by omega), if_neg (by omega), if_pos rfl, List.all_append, List.all_cons, s41, List.all_nil, Bool.and_true, Bool.and_true]
          have hf : ∀ (l : List Ex) (i : Nat) (a : List WordD), (∀ k ∈ l, (wdE m false k).all p = true) → a.all p = true → (l.foldl (cmW (wdE m false)) (i, a)).2.all p = true := by
            intro l
            induction l with
            | nil => intro i a _ ha; exact ha
            | cons k r ihl =>
              intro i a hl ha
              rw [List.foldl_cons]
              refine ihl _ _ (fun x hx => hl x (by simp [hx])) ?_
              rw [List.all_append, hl k (by simp), Bool.and_true]
              simp only
              split
              · rw [List.all_append, ha, List.all_cons, s44]; rfl
              · exact ha
          exact hf kids 0 _ (fun k h => hk k h false) (by rw [List.all_cons, List.all_cons, hname (Or.inr rfl), s40]; rfl)
        · have hlv := lev_two h3 h10
          obtain ⟨a, b, rfl⟩ := two_listT hl
          rw [if_neg (by omega), if_neg (by omega), if_neg (by omega), if_neg (by omega), List.all_append, List.all_append, List.all_cons, hsg op h3 (by omega)]
          simp only [kid0, kid1]
          rw [hk a (by simp), hk b (by simp)]
          rfl
        · have hlv : levOf op = 5 := by rcases ho with rfl | rfl <;> decide
          obtain ⟨a, rfl⟩ := one_listT hl
          rw [if_neg (by omega), if_neg (by omega), if_neg (by omega), if_pos hlv, List.all_append, List.all_cons, hsg op (by omega) (by omega)]
          simp only [kid0]
          rw [hk a (by simp)]
          rfl
      rw [wdE]
      split
      · rw [List.all_append, List.all_append, hin, List.all_cons, List.all_cons, s40, s41]; rfl
      · exact hin
theorem ops_all {p : Int → Prop} (h3 : p 3) (h4 : p 4) (h5 : p 5) (h6 : p 6) (h7 : p 7) (h8 : p 8) (h9 : p 9) (h10 : p 10) (h11 : p 11) (h12 : p 12) (op : Int) (a : 3 ≤ op) (b : op ≤ 12) : p op := by
  have hc : op = 3 ∨ op = 4 ∨ op = 5 ∨ op = 6 ∨ op = 7 ∨ op = 8 ∨ op = 9 ∨ op = 10 ∨ op = 11 ∨ op = 12 := by omega
  rcases hc with rfl | rfl | rfl | rfl | rfl | rfl | rfl | rfl | rfl | rfl <;> assumption
theorem wv_word {m : Nat} (ar : Bool) (e : Ex) (h : formB m e = true) : (wdE m ar e).all wv = true :=
  wd_all wv (by decide +kernel) (by decide +kernel) (by decide +kernel) (fun s h => h) num_dec
    (ops_all (by decide +kernel) (by decide +kernel) (by decide +kernel) (by decide +kernel) (by decide +kernel) (by decide +kernel) (by decide +kernel) (by decide +kernel) (by decide +kernel) (by decide +kernel)) ar e h
/-- a word of an expression is short -/
def shortW (a : WordD) : Bool := decide (1 ≤ a.kind ∧ a.kind ≤ 3) && decide (a.text.size ≤ 4)
theorem short_word {m : Nat} (ar : Bool) (e : Ex) (h : formB m e = true) : (wdE m ar e).all shortW = true :=
  wd_all shortW (by decide +kernel) (by decide +kernel) (by decide +kernel) (fun s h => by
      simp only [isName, Bool.and_eq_true, decide_eq_true_eq] at h
      unfold shortW
      rw [decide_eq_true (show s.size ≤ 4 from h.2.1)]
      rfl) (by decide +kernel)
    (fun op _ _ => by unfold shortW; have := sgS_size op; rw [decide_eq_true (show (sgS op).size ≤ 4 by omega)]; rfl) ar e h
theorem words_bulk {l : List WordD} (h : l.all shortW = true) : sumBy wordN l ≤ 4 * l.length := by
  induction l with
  | nil => exact Nat.le_refl _
  | cons a r ih =>
    rw [List.all_cons, Bool.and_eq_true] at h
    have h1 := ih h.2
    have h2 := h.1
    unfold shortW at h2
    simp only [Bool.and_eq_true, decide_eq_true_eq] at h2
    simp only [sumBy, List.map_cons, List.sum_cons, List.length_cons, wordN] at h1 ⊢
    omega
theorem short_mem {l : List WordD} (h : l.all shortW = true) : ∀ a ∈ l, I64 a.kind ∧ a.text.size ≤ maxLen := fun a ha => by
  have h2 := List.all_eq_true.1 h a ha
  unfold shortW at h2
  simp only [Bool.and_eq_true, decide_eq_true_eq] at h2
  unfold I64 maxLen
  omega
/-- a valid expression has the text that the reference tells -/
theorem text_ok {e : Ex} (h : valE e = true) : jV (wdE 6 false e) = .tuple #[.string (txE 6 1 e), .bool true] := by
  rw [valE_form, Bool.and_eq_true, decide_eq_true_eq] at h
  obtain ⟨h1, h2⟩ := h
  have h3 := wd_tx 6 1 e h1
  have h4 : 1 ≤ levOf e.op := levOf_pos _
  rw [decide_eq_false (by omega)] at h3
  have h5 := tx_size 6 1 e h1
  have h6 := wdE_len 6 false e h1
  rw [jV_yes ?_, h3]
  unfold jOk
  rw [wv_word false e h1, h3, decide_eq_true (show (wdE 6 false e).length ≤ 600 by omega), decide_eq_true (show (txE 6 1 e).size ≤ 3000 by omega)]
  rfl
end Go.Proofs.YthfinoapfbhgcaaDoor
