/-
  How many parts an expression has, and how deep it is, by the program (exprSize). Conditions: the tables lie as the program's text lays them.
-/
import Derived.Test.YthfinoapfbhgcaaDoorName3
namespace Go.Proofs.YthfinoapfbhgcaaDoor
open Go.RowKit Go.ChangeShapes Go.WideShapes Go.Deep

set_option linter.unusedVariables false
set_option linter.unusedSimpArgs false
mutual
def partsE : Ex → Nat
  | .mk _ _ _ kids => 1 + partsL kids
def partsL : List Ex → Nat
  | [] => 0
  | e :: r => partsE e + partsL r
end
mutual
def deepE : Ex → Nat
  | .mk _ _ _ kids => deepL kids + 1
def deepL : List Ex → Nat
  | [] => 0
  | e :: r => max (deepE e) (deepL r)
end
theorem deepE_mk (op n : Int) (name : ByteArray) (kids : List Ex) : deepE (.mk op n name kids) = deepL kids + 1 := by rw [deepE]
theorem partsE_mk (op n : Int) (name : ByteArray) (kids : List Ex) : partsE (.mk op n name kids) = 1 + partsL kids := by rw [partsE]
theorem partsL_cons (e : Ex) (r : List Ex) : partsL (e :: r) = partsE e + partsL r := by rw [partsL]
theorem deepL_cons (e : Ex) (r : List Ex) : deepL (e :: r) = max (deepE e) (deepL r) := by rw [deepL]
theorem partsL_nil : partsL [] = 0 := by rw [partsL]
theorem deepL_nil : deepL [] = 0 := by rw [deepL]
mutual
theorem deepE_le : ∀ e : Ex, deepE e ≤ partsE e
  | .mk op n name kids => by
    have := deepL_le kids
    rw [deepE_mk, partsE_mk]
    omega
theorem deepL_le : ∀ l : List Ex, deepL l ≤ partsL l
  | [] => by rw [deepL_nil]; omega
  | e :: r => by
    have h1 := deepE_le e
    have h2 := deepL_le r
    rw [deepL_cons, partsL_cons]
    omega
end
theorem partsE_pos (e : Ex) : 1 ≤ partsE e := by
  cases e
  rw [partsE_mk]
  omega
/-- the level of an op between two; 0 if it is none -/
def lev (op : Int) : Int := if op = 3 ∨ op = 4 then 3 else if op = 5 ∨ op = 6 ∨ op = 7 then 4 else if op = 8 ∨ op = 9 then 2 else if op = 10 then 1 else 0
/-- its sign -/
def sgn (op : Int) : ByteArray := if op = 3 then ⟨#[43]⟩ else if op = 4 then ⟨#[45]⟩ else if op = 5 then ⟨#[42]⟩ else if op = 6 then ⟨#[47]⟩ else if op = 7 then ⟨#[37]⟩ else if op = 8 then ⟨#[60]⟩ else if op = 9 then ⟨#[61]⟩ else if op = 10 then ⟨#[38]⟩ else ⟨#[]⟩
def levOf (op : Int) : Int := if 0 < lev op then lev op else if op = 11 ∨ op = 12 then 5 else 6
theorem lev_range (op : Int) : 0 ≤ lev op ∧ lev op ≤ 4 := by
  unfold lev
  repeat' split
  all_goals omega
theorem lev_mid {op : Int} (h1 : 3 ≤ op) (h2 : op ≤ 10) : 0 < lev op := by
  unfold lev
  repeat' split
  all_goals omega
theorem lev_out {op : Int} (h : op < 3 ∨ 10 < op) : lev op = 0 := by
  unfold lev
  rw [if_neg (by omega), if_neg (by omega), if_neg (by omega), if_neg (by omega)]
/-- the table of signs lies in block 0 -/
def SignsAt (w : World) : Prop := ∃ bm : Nat, bm < w.heap.size ∧ 0 < w.heap.size ∧ w.cell? ⟨0, 0, none⟩ = some (.map (some bm)) ∧
  ∀ (w' : World) (op : Int), I64 op → w'.heap[bm]? = w.heap[bm]? → (Instr.lookup 65 (.map (some bm)) (.int .i64 op) false).run Tryd.prog w' = .ok (.agg #[.string (sgn op), .int .i64 (lev op)]) w'
theorem SignsAt.below {w w' : World} {B : Nat} (h : SignsAt w) (hb : Below B w w') (hB : w.heap.size ≤ B) : SignsAt w' := by
  obtain ⟨bm, h1, h0, h2, h3⟩ := h
  exact ⟨bm, Nat.lt_of_lt_of_le h1 hb.size, Nat.lt_of_lt_of_le h0 hb.size, (hb.cell (p := ⟨0, 0, none⟩) (Nat.lt_of_lt_of_le h0 hB)).trans h2, fun w2 op ho he => h3 w2 op ho (he.trans (hb.block bm (by omega)))⟩
/-- both tables -/
def Tabs (w : World) : Prop := KeysAt w ∧ SignsAt w
theorem Tabs.below {w w' : World} {B : Nat} (h : Tabs w) (hb : Below B w w') (hB : w.heap.size ≤ B) : Tabs w' := ⟨h.1.below hb hB, h.2.below hb hB⟩

theorem field_lev (w : World) (s : ByteArray) (l : Int) : (Instr.field 64 (.agg #[.string s, .int .i64 l]) 1).run Tryd.prog w = .ok (.int .i64 l) w := by kernel_rfl
theorem impl_isByte (n : Int) (w : World) : Calls Tryd.prog 49 #[.int .i64 n] w (RetW (.bool (inB n 0 255)) w) := by
  go_enter Tryd.func49, Tryd.ntmps49
  go_wp2_with fail
  refine (impl_within n 0 255 _).mono ?_
  rintro e w' ⟨rfl, rfl⟩
  go_wp2_with fail
  go_ret
  exact ⟨rfl, rfl⟩

set_option maxRecDepth 100000 in
theorem impl_levelOf (op : Int) (w : World) (ho : I64 op) (hs : SignsAt w) : Calls Tryd.prog 37 #[.int .i64 op] w (RetW (.int .i64 (levOf op)) w) := by
  obtain ⟨bm, h1, h0, h2, h3⟩ := hs
  have hl := h3 w op ho rfl
  have hfl := field_lev w (sgn op) (lev op)
  clear h3
  by_cases hp : 0 < lev op
  · have E : Hid (levOf op = lev op) := by show _ = _; unfold levOf; rw [if_pos hp]
    go_enter Tryd.func37, Tryd.ntmps37
    go_wp2_with fail
    go_ret
    exact RetW.mk (by rw [E.out] <;> rfl) rfl
  · have hp' : lev op ≤ 0 := by omega
    by_cases h11 : op = 11
    · subst h11
      have E : Hid (levOf 11 = 5) := by show _ = _; decide
      rw [show lev 11 = 0 by decide] at hl hfl
      clear hp hp'
      go_enter Tryd.func37, Tryd.ntmps37
      go_wp2_with fail
      go_ret
      exact RetW.mk (by rw [E.out] <;> rfl) rfl
    · have n11 : (op == 11) = false := by simpa using h11
      by_cases h12 : op = 12
      · subst h12
        have E : Hid (levOf 12 = 5) := by show _ = _; decide
        rw [show lev 12 = 0 by decide] at hl hfl
        clear hp hp'
        go_enter Tryd.func37, Tryd.ntmps37
        go_wp2_with fail
        go_ret
        exact RetW.mk (by rw [E.out] <;> rfl) rfl
      · have n12 : (op == 12) = false := by simpa using h12
        have E : Hid (levOf op = 6) := by show _ = _; unfold levOf; rw [if_neg hp, if_neg (by omega)]
        clear h11 h12 hp
        go_enter Tryd.func37, Tryd.ntmps37
        go_wp2_with fail
        go_ret
        exact RetW.mk (by rw [E.out] <;> rfl) rfl

end Go.Proofs.YthfinoapfbhgcaaDoor

