/-
  The words of an expression: the plain function; the program's small makers of words. No condition.
-/
import Derived.Test.YthfinoapfbhgcaaDoorWd
import Derived.Lib.SmallJoins
import Derived.Lib.AppendIntMem
import Derived.Lib.ItoaMem
import Derived.Lib.SlFresh
namespace Go.Proofs.YthfinoapfbhgcaaDoor
open Go.RowKit Go.ChangeShapes Go.WideShapes Go.Deep
set_option linter.unusedVariables false
set_option linter.unusedSimpArgs false
/-- an argument more of a call -/
def cmW (f : Ex → List WordD) (p : Nat × List WordD) (k : Ex) : Nat × List WordD := (p.1 + 1, (if 0 < p.1 then p.2 ++ [⟨3, ⟨#[44]⟩⟩] else p.2) ++ f k)
/-- the words, brackets aside -/
def inW (f : Bool → Ex → List WordD) (op n : Int) (name : ByteArray) (kids : List Ex) : List WordD :=
  if op = 1 then [⟨2, decT n.toNat⟩] else if op = 2 then [⟨1, name⟩]
  else if op = 13 then (kids.foldl (cmW (f false)) (0, [⟨1, name⟩, ⟨3, ⟨#[40]⟩⟩])).2 ++ [⟨3, ⟨#[41]⟩⟩]
  else if levOf op = 5 then [⟨3, sgS op⟩] ++ f (decide (levOf (kid0 kids).op < 5)) (kid0 kids)
  else (f (decide (levOf (kid0 kids).op < levOf op)) (kid0 kids) ++ [⟨3, sgS op⟩]) ++ f (decide (levOf (kid1 kids).op ≤ levOf op)) (kid1 kids)
/-- the words of an expression, in brackets or not -/
def wdE : Nat → Bool → Ex → List WordD
  | 0, _, _ => []
  | m + 1, ar, .mk op n name kids => if ar = true then ([⟨3, ⟨#[40]⟩⟩] ++ inW (wdE m) op n name kids) ++ [⟨3, ⟨#[41]⟩⟩] else inW (wdE m) op n name kids
theorem cmW_len {f : Ex → List WordD} : ∀ (l : List Ex) (p : Nat × List WordD), (∀ k ∈ l, (f k).length + 1 ≤ 6 * partsE k) → (l.foldl (cmW f) p).2.length ≤ p.2.length + 6 * partsL l
  | [], p, _ => by rw [partsL_nil]; exact Nat.le_refl _
  | k :: r, p, h => by
    have h1 := h k (by simp)
    have h2 := cmW_len r (cmW f p k) (fun x hx => h x (by simp [hx]))
    have h3 : (cmW f p k).2.length ≤ p.2.length + 1 + (f k).length := by
      unfold cmW
      simp only [List.length_append]
      split
      · rw [List.length_append]; show p.2.length + 1 + _ ≤ _; omega
      · omega
    rw [List.foldl_cons, partsL_cons]
    omega
theorem wdE_len (m : Nat) : ∀ (ar : Bool) (e : Ex), formB m e = true → (wdE m ar e).length + 1 ≤ 6 * partsE e := by
  induction m with
  | zero => intro ar e h; cases e; simp [formB] at h
  | succ m ih =>
    intro ar e h
    cases e with
    | mk op n name kids =>
      rw [formB, Bool.and_eq_true] at h
      obtain ⟨hfm, hall⟩ := h
      have hk : ∀ k ∈ kids, ∀ b, (wdE m b k).length + 1 ≤ 6 * partsE k := fun k hk b => ih b k (List.all_eq_true.1 hall k hk)
      have hin : (inW (wdE m) op n name kids).length + 3 ≤ 6 * partsE (.mk op n name kids) := by
        rw [partsE_mk]
        unfold inW
        split
        · simp; omega
        split
        · simp; omega
        split
        · have := cmW_len kids (0, [⟨1, name⟩, ⟨3, ⟨#[40]⟩⟩]) (fun k h => hk k h false)
          simp only [List.length_append, List.length_cons, List.length_nil] at this ⊢
          omega
        rename_i a1 a2 a3
        rcases fm_len hfm with ⟨rfl, _⟩ | ⟨rfl, _⟩ | ⟨rfl, _⟩ | ⟨h3, h10, hl⟩ | ⟨h12, hl⟩
        · exact absurd rfl a1
        · exact absurd rfl a2
        · exact absurd rfl a3
        · obtain ⟨a, b, rfl⟩ := two_listT hl
          have := lev_two h3 h10
          rw [if_neg (by omega)]
          have ha := hk a (by simp) (decide (levOf a.op < levOf op))
          have hb := hk b (by simp) (decide (levOf b.op ≤ levOf op))
          rw [partsL_cons, partsL_cons, partsL_nil]
          show ((wdE m (decide (levOf a.op < levOf op)) a ++ [(⟨3, sgS op⟩ : WordD)]) ++ wdE m (decide (levOf b.op ≤ levOf op)) b).length + 3 ≤ _
          simp only [List.length_append, List.length_cons, List.length_nil]
          omega
        · obtain ⟨a, rfl⟩ := one_listT hl
          have h5 : levOf op = 5 := by rcases h12 with rfl | rfl <;> rfl
          rw [if_pos h5]
          have ha := hk a (by simp) (decide (levOf a.op < 5))
          rw [partsL_cons, partsL_nil]
          show ([(⟨3, sgS op⟩ : WordD)] ++ wdE m (decide (levOf a.op < 5)) a).length + 3 ≤ _
          simp only [List.length_append, List.length_cons, List.length_nil]
          omega
      rw [wdE]
      split
      · simp only [List.length_append, List.length_cons, List.length_nil]; omega
      · omega
/-- what exprWords answers -/
def WordsP (ws l : List WordD) (v : Value) (base : Nat) (w : World) (en : Ending) (w' : World) : Prop := ∃ v', en = .returned v' ∧ OwnW w' base v' (l ++ ws) ∧ OwnG v v' w w'
/-- the tables lie -/
def TabX (w : World) : Prop := Tabs w ∧ Lib.TabIs Tryd.prog w "internal/strconv.uint64pow10" .u64 Lib.pow10Tab
theorem TabX.below {w w' : World} {B : Nat} (h : TabX w) (hb : Below B w w') (hB : w.heap.size ≤ B) : TabX w' := ⟨h.1.below hb hB, Go.Joins.tab_stays (g := (Tryd.prog.globalNamed "internal/strconv.uint64pow10").get rfl) (by kernel_rfl) h.2 hb hB⟩
theorem OwnG.ne {v v' : Value} {w w' : World} (h : OwnG v v' w w') {g : Nat} (h1 : v.ownBlock ≠ some g) (hg : g < w.heap.size) : v'.ownBlock ≠ some g := fun e => by
  rcases h.at_ g e with h2 | h2
  · exact h1 h2
  · omega
theorem olt_cons {w : World} {a : Addr} {u v : Value} {l : List (Addr × Value)} (h1 : a.block < w.heap.size) (h2 : v.ownBlock ≠ some a.block) (hl : ∀ x ∈ l, x.1.block < w.heap.size ∧ v.ownBlock ≠ some x.1.block) : ∀ x ∈ (a, u) :: l, x.1.block < w.heap.size ∧ v.ownBlock ≠ some x.1.block := fun x hx => by
  rcases List.mem_cons.1 hx with rfl | hx
  · exact ⟨h1, h2⟩
  · exact hl x hx
theorem olt_nil {w : World} {v : Value} : ∀ x ∈ ([] : List (Addr × Value)), x.1.block < w.heap.size ∧ v.ownBlock ≠ some x.1.block := fun x hx => by simp at hx
theorem olt_up {w w' : World} {v v' : Value} {l : List (Addr × Value)} (h : ∀ x ∈ l, x.1.block < w.heap.size ∧ v.ownBlock ≠ some x.1.block) (G : OwnG v v' w w') : ∀ x ∈ l, x.1.block < w'.heap.size ∧ v'.ownBlock ≠ some x.1.block := fun x hx => ⟨Nat.lt_of_lt_of_le (h x hx).1 G.size, G.ne (h x hx).2 (h x hx).1⟩
theorem OwnW.formN {w : World} {base : Nat} {v : Value} {l : List WordD} (h : OwnW w base v l) : ∃ A n c, v = .slice A n c := by
  obtain ⟨A, c, e⟩ := h.form
  exact ⟨A, _, c, e⟩
theorem OwnW.below {w w' : World} {base B : Nat} {v : Value} {l : List WordD} (h : OwnW w base v l) (hb : Below B w w') (hB : w.heap.size ≤ B) : OwnW w' base v l := own_below h hb hB
set_option maxRecDepth 100000 in
theorem impl_signWord (s : ByteArray) (w : World) : Calls Tryd.prog 36 #[.string s] w (RetV (.agg #[.int .i64 3, .string s]) w) := by
  go_enter Tryd.func36, Tryd.ntmps36
  go_wp2_with fail
  refine bodyPost_ret (v := .agg #[.int .i64 3, .string s]) (by simp [results, Tryd.results36, go_sem]) rfl ?_
  exact RetV.mk rfl rfl ((Below.refl _ _).alloc (Nat.le_refl _) _)
set_option maxRecDepth 100000 in
theorem impl_nameWord (s : ByteArray) (w : World) : Calls Tryd.prog 39 #[.string s] w (RetV (.agg #[.int .i64 1, .string s]) w) := by
  go_enter Tryd.func39, Tryd.ntmps39
  go_wp2_with fail
  refine bodyPost_ret (v := .agg #[.int .i64 1, .string s]) (by simp [results, Tryd.results39, go_sem]) rfl ?_
  exact RetV.mk rfl rfl ((Below.refl _ _).alloc (Nat.le_refl _) _)
theorem impl_itoa (n : Nat) (hn : n ≤ 255) (w : World) (h : TabX w) : Calls Tryd.prog 38 #[.int .i64 (n : Int)] w (RetV (.string (decT n)) w) := by
  refine (Tryd.strconv_Itoa (n : Int) (by omega) (by omega) w h.2).mono ?_
  rintro e w' ⟨rfl, k, os, rfl⟩
  rw [Lib.itoa_nonneg]
  exact RetV.mk rfl rfl (Lib.below_grow _ w (Nat.le_refl _) k os)
theorem field_sgn (w : World) (s : ByteArray) (l : Int) : (Instr.field 64 (.agg #[.string s, .int .i64 l]) 0).run Tryd.prog w = .ok (.string s) w := by kernel_rfl
theorem sgS_mid {op : Int} (h1 : 3 ≤ op) (h2 : op ≤ 10) : sgn op = sgS op := by unfold sgS; rw [if_neg (by omega), if_neg (by omega)]
end Go.Proofs.YthfinoapfbhgcaaDoor
