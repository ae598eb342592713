/-
  Several texts in one: Fold1, Fold2, Fold3, Fold4, FoldL.
-/
import Derived.Test.YthfinoapfbhgcaaDoorPutVarC
import Derived.Test.YthfinoapfbhgcaaDoorSafeA
import Derived.Test.YthfinoapfbhgcaaDoorPlainE
namespace Go.Proofs.YthfinoapfbhgcaaDoor
open Go.RowKit Go.ChangeShapes Go.WideShapes Go.Deep

set_option linter.unusedVariables false
set_option linter.unusedSimpArgs false
def tru (p : Bool) : Int := if p = true then 1 else 0
/-- what an op makes of two values; false if something is divided by 0 -/
def arV (op a b : Int) : Int × Bool :=
  if op = 3 then ((a + b) % 256, true) else if op = 4 then ((a - b + 256) % 256, true) else if op = 5 then (a * b % 256, true)
  else if op = 6 then (if b = 0 then (0, false) else (a / b, true)) else if op = 7 then (if b = 0 then (0, false) else (a % b, true))
  else if op = 8 then (tru (decide (a < b)), true) else if op = 9 then (tru (a == b), true) else if op = 10 then (tru (!(a == 0) && !(b == 0)), true) else (tru (a == 0), true)
def endC (p : Bool) : Int := if p = true then 0 else 1
def isN (e : Ex) (v : Int) : Bool := (e.op == 1) && (e.n == v)
def exN1 (n : Int) : Ex := .mk 1 n ⟨#[]⟩ []
theorem impl_truth (p : Bool) (w : World) : Calls Tryd.prog 82 #[.bool p] w (RetW (.int .i64 (tru p)) w) := by
  cases p
  all_goals
    go_enter Tryd.func82, Tryd.ntmps82
    go_wp2_with fail
    go_ret
    exact RetW.mk rfl rfl
theorem spec_l5Truth (p : Bool) (w : World) : Calls Tryd.prog 67 #[.bool p] w (RetW (.int .i64 (tru p)) w) := by
  cases p
  all_goals
    go_enter Tryd.func67, Tryd.ntmps67
    go_wp2_with fail
    go_ret
    exact RetW.mk rfl rfl

set_option maxRecDepth 100000 in
set_option maxHeartbeats 4000000 in
theorem impl_arith (op a b : Int) (w : World) (a0 : 0 ≤ a) (a1 : a ≤ 255) (b0 : 0 ≤ b) (b1 : b ≤ 255) :
    Calls Tryd.prog 63 #[.int .i64 op, .int .i64 a, .int .i64 b] w (RetW (.tuple #[.int .i64 (arV op a b).1, .bool (arV op a b).2]) w) := by
  have hm0 : 0 ≤ a * b := Int.mul_nonneg a0 b0
  have hm1 : a * b ≤ 255 * 255 := Int.mul_le_mul a1 b1 b0 (by omega)
  have hm2 : a * b ≤ 65025 := by omega
  clear hm1
  by_cases o3 : op = 3
  case pos =>
    subst o3
    have E : Hid (arV 3 a b = ((a + b) % 256, true)) := by show _ = _; simp [arV]
    go_enter Tryd.func63, Tryd.ntmps63
    go_wp2_with fail
    go_ret2
    exact RetW.mk (by rw [E.out] <;> rfl) rfl
  have n3 : (op == 3) = false := by simpa using o3
  by_cases o4 : op = 4
  case pos =>
    subst o4
    clear o3 n3
    have E : Hid (arV 4 a b = ((a - b + 256) % 256, true)) := by show _ = _; simp [arV]
    go_enter Tryd.func63, Tryd.ntmps63
    go_wp2_with fail
    go_ret2
    exact RetW.mk (by rw [E.out] <;> rfl) rfl
  have n4 : (op == 4) = false := by simpa using o4
  by_cases o5 : op = 5
  case pos =>
    subst o5
    clear o3 n3 o4 n4
    have E : Hid (arV 5 a b = (a * b % 256, true)) := by show _ = _; simp [arV]
    go_enter Tryd.func63, Tryd.ntmps63
    go_wp2_with fail
    go_ret2
    exact RetW.mk (by rw [E.out] <;> rfl) rfl
  have n5 : (op == 5) = false := by simpa using o5
  by_cases o6 : op = 6
  case pos =>
    subst o6
    clear o3 n3 o4 n4 o5 n5
    by_cases hb : b = 0
    case pos =>
      subst hb
      have E : Hid (arV 6 a 0 = (0, false)) := by show _ = _; simp [arV]
      go_enter Tryd.func63, Tryd.ntmps63
      go_wp2_with fail
      go_ret2
      exact RetW.mk (by rw [E.out] <;> rfl) rfl
    have hb1 : (b == 0) = false := by simpa using hb
    have hb2 : ¬ b = 0 := hb
    have E : Hid (arV 6 a b = (a / b, true)) := by show _ = _; simp [arV, hb]
    clear hb
    go_enter Tryd.func63, Tryd.ntmps63
    go_wp2_with fail
    go_ret2
    exact RetW.mk (by rw [E.out] <;> rfl) rfl
  have n6 : (op == 6) = false := by simpa using o6
  by_cases o7 : op = 7
  case pos =>
    subst o7
    clear o3 n3 o4 n4 o5 n5 o6 n6
    by_cases hb : b = 0
    case pos =>
      subst hb
      have E : Hid (arV 7 a 0 = (0, false)) := by show _ = _; simp [arV]
      go_enter Tryd.func63, Tryd.ntmps63
      go_wp2_with fail
      go_ret2
      exact RetW.mk (by rw [E.out] <;> rfl) rfl
    have hb1 : (b == 0) = false := by simpa using hb
    have hb2 : ¬ b = 0 := hb
    have E : Hid (arV 7 a b = (a % b, true)) := by show _ = _; simp [arV, hb]
    clear hb
    go_enter Tryd.func63, Tryd.ntmps63
    go_wp2_with fail
    go_ret2
    exact RetW.mk (by rw [E.out] <;> rfl) rfl
  have n7 : (op == 7) = false := by simpa using o7
  by_cases o8 : op = 8
  case pos =>
    subst o8
    clear o3 n3 o4 n4 o5 n5 o6 n6 o7 n7
    have E : Hid (arV 8 a b = (tru (decide (a < b)), true)) := by show _ = _; simp [arV]
    go_enter Tryd.func63, Tryd.ntmps63
    go_wp2_with fail
    refine (impl_truth (decide (a < b)) _).mono ?_
    rintro e w' ⟨rfl, rfl⟩
    go_wp2_with fail
    go_ret2
    exact RetW.mk (by rw [E.out] <;> rfl) rfl
  have n8 : (op == 8) = false := by simpa using o8
  by_cases o9 : op = 9
  case pos =>
    subst o9
    clear o3 n3 o4 n4 o5 n5 o6 n6 o7 n7 o8 n8
    have E : Hid (arV 9 a b = (tru (a == b), true)) := by show _ = _; simp [arV]
    go_enter Tryd.func63, Tryd.ntmps63
    go_wp2_with fail
    refine (impl_truth (a == b) _).mono ?_
    rintro e w' ⟨rfl, rfl⟩
    go_wp2_with fail
    go_ret2
    exact RetW.mk (by rw [E.out] <;> rfl) rfl
  have n9 : (op == 9) = false := by simpa using o9
  by_cases o10 : op = 10
  case pos =>
    subst o10
    clear o3 n3 o4 n4 o5 n5 o6 n6 o7 n7 o8 n8 o9 n9
    by_cases ha : a = 0
    case pos =>
      subst ha
      have E : Hid (arV 10 0 b = (tru false, true)) := by show _ = _; simp [arV, tru]
      go_enter Tryd.func63, Tryd.ntmps63
      go_wp2_with fail
      refine (impl_truth _ _).mono ?_
      rintro e w' ⟨rfl, rfl⟩
      go_wp2_with fail
      go_ret2
      exact RetW.mk (by rw [E.out] <;> rfl) rfl
    have ha1 : (a != 0) = true := by simpa using ha
    have ha2 : (a == 0) = false := by simpa using ha
    have E : Hid (arV 10 a b = (tru (b != 0), true)) := by show _ = _; unfold arV; rw [ha2]; simp [bne]
    clear ha2
    clear ha
    go_enter Tryd.func63, Tryd.ntmps63
    go_wp2_with fail
    refine (impl_truth (b != 0) _).mono ?_
    rintro e w' ⟨rfl, rfl⟩
    go_wp2_with fail
    go_ret2
    exact RetW.mk (by rw [E.out] <;> rfl) rfl
  have n10 : (op == 10) = false := by simpa using o10
  have E : Hid (arV op a b = (tru (a == 0), true)) := by show _ = _; simp [arV, o3, o4, o5, o6, o7, o8, o9, o10]
  clear o3 o4 o5 o6 o7 o8 o9 o10
  go_enter Tryd.func63, Tryd.ntmps63
  go_wp2_with fail
  refine (impl_truth (a == 0) _).mono ?_
  rintro e w' ⟨rfl, rfl⟩
  go_wp2_with fail
  go_ret2
  exact RetW.mk (by rw [E.out] <;> rfl) rfl
set_option maxRecDepth 100000 in
set_option maxHeartbeats 4000000 in
theorem spec_l5Two (op a b : Int) (w : World) (a0 : 0 ≤ a) (a1 : a ≤ 255) (b0 : 0 ≤ b) (b1 : b ≤ 255) (h3 : 3 ≤ op) (h10 : op ≤ 9) :
    Calls Tryd.prog 85 #[.int .i64 op, .int .i64 a, .int .i64 b] w (RetW (.tuple #[.int .i64 (arV op a b).1, .int .i64 (endC (arV op a b).2)]) w) := by
  have hm0 : 0 ≤ a * b := Int.mul_nonneg a0 b0
  have hm1 : a * b ≤ 255 * 255 := Int.mul_le_mul a1 b1 b0 (by omega)
  have hm2 : a * b ≤ 65025 := by omega
  clear hm1
  have hop : op = 3 ∨ op = 4 ∨ op = 5 ∨ op = 6 ∨ op = 7 ∨ op = 8 ∨ op = 9 := by omega
  clear h3 h10
  rcases hop with rfl | rfl | rfl | rfl | rfl | rfl | rfl
  · have E : Hid (arV 3 a b = ((a + b) % 256, true)) := by show _ = _; simp [arV]
    go_enter Tryd.func85, Tryd.ntmps85
    go_wp2_with fail
    go_ret2
    exact RetW.mk (by rw [E.out]; first | rfl | (simp [endC]; done)) rfl
  · have E : Hid (arV 4 a b = ((a - b + 256) % 256, true)) := by show _ = _; simp [arV]
    go_enter Tryd.func85, Tryd.ntmps85
    go_wp2_with fail
    go_ret2
    exact RetW.mk (by rw [E.out]; first | rfl | (simp [endC]; done)) rfl
  · have E : Hid (arV 5 a b = (a * b % 256, true)) := by show _ = _; simp [arV]
    go_enter Tryd.func85, Tryd.ntmps85
    go_wp2_with fail
    go_ret2
    exact RetW.mk (by rw [E.out]; first | rfl | (simp [endC]; done)) rfl
  · by_cases hb : b = 0
    case pos =>
      subst hb
      have E : Hid (arV 6 a 0 = (0, false)) := by show _ = _; simp [arV]
      go_enter Tryd.func85, Tryd.ntmps85
      go_wp2_with fail
      go_ret2
      exact RetW.mk (by rw [E.out]; first | rfl | (simp [endC]; done)) rfl
    have hb1 : (b == 0) = false := by simpa using hb
    have hb2 : ¬ b = 0 := hb
    have E : Hid (arV 6 a b = (a / b, true)) := by show _ = _; simp [arV, hb]
    clear hb
    go_enter Tryd.func85, Tryd.ntmps85
    go_wp2_with fail
    go_ret2
    exact RetW.mk (by rw [E.out]; first | rfl | (simp [endC]; done)) rfl
  · by_cases hb : b = 0
    case pos =>
      subst hb
      have E : Hid (arV 7 a 0 = (0, false)) := by show _ = _; simp [arV]
      go_enter Tryd.func85, Tryd.ntmps85
      go_wp2_with fail
      go_ret2
      exact RetW.mk (by rw [E.out]; first | rfl | (simp [endC]; done)) rfl
    have hb1 : (b == 0) = false := by simpa using hb
    have hb2 : ¬ b = 0 := hb
    have E : Hid (arV 7 a b = (a % b, true)) := by show _ = _; simp [arV, hb]
    clear hb
    go_enter Tryd.func85, Tryd.ntmps85
    go_wp2_with fail
    go_ret2
    exact RetW.mk (by rw [E.out]; first | rfl | (simp [endC]; done)) rfl
  · have E : Hid (arV 8 a b = (tru (decide (a < b)), true)) := by show _ = _; simp [arV]
    go_enter Tryd.func85, Tryd.ntmps85
    go_wp2_with fail
    refine (spec_l5Truth (decide (a < b)) _).mono ?_
    rintro e w' ⟨rfl, rfl⟩
    go_wp2_with fail
    go_ret2
    exact RetW.mk (by rw [E.out]; first | rfl | (simp [endC]; done)) rfl
  · have E : Hid (arV 9 a b = (tru (a == b), true)) := by show _ = _; simp [arV]
    go_enter Tryd.func85, Tryd.ntmps85
    go_wp2_with fail
    refine (spec_l5Truth (a == b) _).mono ?_
    rintro e w' ⟨rfl, rfl⟩
    go_wp2_with fail
    go_ret2
    exact RetW.mk (by rw [E.out]; first | rfl | (simp [endC]; done)) rfl
theorem impl_isNum (op n : Int) (name : ByteArray) (v3 : Value) (x : Int) (w : World) (kids : List Ex) (hv : ∃ A p, v3 = .slice A kids.length p) :
    Calls Tryd.prog 65 #[.agg #[.int .i64 op, .int .i64 n, .string name, v3], .int .i64 x] w (RetV (.bool (isN (.mk op n name kids) x)) w) := by
  obtain ⟨A, p, rfl⟩ := hv
  have hb0 : Below w.heap.size w (w.alloc (.cells #[.int .i64 op, .int .i64 n, .string name, .slice A kids.length p] 25)) := (Below.refl _ _).alloc (Nat.le_refl _) _
  by_cases h1 : op = 1
  · subst h1
    have E : Hid (isN (.mk 1 n name kids) x = (n == x)) := by show _ = _; simp [isN, Ex.op, Ex.n]
    go_enter Tryd.func65, Tryd.ntmps65
    go_wp2_with fail
    go_ret
    exact RetV.mk (by rw [E.out] <;> rfl) rfl hb0
  · have q : (op == 1) = false := by simpa using h1
    have E : Hid (isN (.mk op n name kids) x = false) := by show _ = _; simp [isN, Ex.op, h1]
    clear h1
    go_enter Tryd.func65, Tryd.ntmps65
    go_wp2_with fail
    go_ret
    exact RetV.mk (by rw [E.out] <;> rfl) rfl hb0
theorem spec_l6Is (op n : Int) (name : ByteArray) (v3 : Value) (x : Int) (w : World) (kids : List Ex) (hv : ∃ A p, v3 = .slice A kids.length p) :
    Calls Tryd.prog 69 #[.agg #[.int .i64 op, .int .i64 n, .string name, v3], .int .i64 x] w (RetV (.bool (isN (.mk op n name kids) x)) w) := by
  obtain ⟨A, p, rfl⟩ := hv
  have hb0 : Below w.heap.size w (w.alloc (.cells #[.int .i64 op, .int .i64 n, .string name, .slice A kids.length p] 25)) := (Below.refl _ _).alloc (Nat.le_refl _) _
  by_cases h1 : op = 1
  · subst h1
    have E : Hid (isN (.mk 1 n name kids) x = (n == x)) := by show _ = _; simp [isN, Ex.op, Ex.n]
    go_enter Tryd.func69, Tryd.ntmps69
    go_wp2_with fail
    go_ret
    exact RetV.mk (by rw [E.out] <;> rfl) rfl hb0
  · have q : (op == 1) = false := by simpa using h1
    have E : Hid (isN (.mk op n name kids) x = false) := by show _ = _; simp [isN, Ex.op, h1]
    clear h1
    go_enter Tryd.func69, Tryd.ntmps69
    go_wp2_with fail
    go_ret
    exact RetV.mk (by rw [E.out] <;> rfl) rfl hb0
theorem impl_numExpr (D : Nat) (n : Int) (w : World) (hn : I64 n) : Calls Tryd.prog 64 #[.int .i64 n] w (ToTE D (exN1 n) w) := by
  go_enter Tryd.func64, Tryd.ntmps64
  go_wp2_with fail
  refine bodyPost_ret (v := .agg #[.int .i64 1, .int .i64 n, .string ⟨#[]⟩, .slice none 0 0]) (by simp [results, Tryd.results64, go_sem]) rfl ⟨_, rfl, fun m => exT_mk m D 1 n ⟨#[]⟩ [] _ ⟨by omega, by omega⟩ hn (by decide) (SlT.nil_ _ _ _ _ _), ?_⟩
  exact (Below.refl _ _).alloc (Nat.le_refl _) _
theorem spec_l6Num (D : Nat) (n : Int) (w : World) (hn : I64 n) : Calls Tryd.prog 62 #[.int .i64 n] w (ToTE D (exN1 n) w) := by
  go_enter Tryd.func62, Tryd.ntmps62
  go_wp2_with fail
  refine bodyPost_ret (v := .agg #[.int .i64 1, .int .i64 n, .string ⟨#[]⟩, .slice none 0 0]) (by simp [results, Tryd.results62, go_sem]) rfl ⟨_, rfl, fun m => exT_mk m D 1 n ⟨#[]⟩ [] _ ⟨by omega, by omega⟩ hn (by decide) (SlT.nil_ _ _ _ _ _), ?_⟩
  exact (Below.refl _ _).alloc (Nat.le_refl _) _
end Go.Proofs.YthfinoapfbhgcaaDoor


namespace Go.Proofs.YthfinoapfbhgcaaDoor
open Go.RowKit Go.ChangeShapes Go.WideShapes Go.Deep

set_option linter.unusedVariables false
set_option linter.unusedSimpArgs false
/-- the first of a list -/
def hd (l : List Ex) : Ex := match l with | a :: _ => a | [] => exZ
/-- two numbers of which the op makes a number -/
def numB (op : Int) (a b : Ex) : Bool := (a.op == 1) && ((b.op == 1) && (arV op a.n b.n).2)
/-- a part between two, folded -/
def foldTwo (op : Int) (a b e : Ex) : Ex :=
  if numB op a b = true then exN1 (arV op a.n b.n).1
  else if op = 10 then (if isN a 0 = true then exN1 0 else e)
  else if op = 3 then (if isN b 0 = true then a else if isN a 0 = true then b else e)
  else if op = 4 then (if isN b 0 = true then a else e)
  else if op = 5 then (if isN b 1 = true then a else if isN a 1 = true then b else if isN b 0 = true ∧ safeE 6 a = true then exN1 0 else if isN a 0 = true ∧ safeE 6 b = true then exN1 0 else e)
  else if op = 6 then (if isN b 1 = true then a else e)
  else e
/-- a part whose Kids are folded, folded -/
def foldP (e : Ex) : Ex :=
  match e with
  | .mk op n name kids =>
    if op = 11 then (match kids with
      | a :: _ => if a.op = 1 then exN1 (tru (a.n == 0)) else if a.op = 11 ∧ (hd a.kids).op = 11 then hd a.kids else .mk op n name kids
      | [] => .mk op n name kids)
    else if 3 ≤ op ∧ op ≤ 10 then (match kids with
      | a :: b :: _ => foldTwo op a b (.mk op n name kids)
      | _ => .mk op n name kids)
    else .mk op n name kids
def foldE : Nat → Ex → Ex
  | 0, e => e
  | m + 1, .mk op n name kids => foldP (.mk op n name (kids.map (foldE m)))
/-- an element of a list in memory of its own -/
theorem exT_get (d : Nat) {w : World} {lo B : Nat} {l : List Ex} {A : Option Addr} {n cap : Nat} (h : ∀ m, SlT m (exT m (d + 1)) w lo B l (.slice A n cap)) {i : Nat} (hi : i < l.length) :
    ∃ (b : Nat) (op n : Int) (name : ByteArray) (kids : List Ex) (A3 : Option Addr) (p3 : Nat), A = some ⟨b, 0, none⟩ ∧ lo ≤ b ∧ b < B ∧ Hid (l[i] = .mk op n name kids) ∧ I64 op ∧ I64 n ∧ name.size ≤ maxLen ∧ (∀ m, (exT m (d + 1)).rep w lo B (.mk op n name kids) [.int .i64 op, .int .i64 n, .string name, .slice A3 kids.length p3]) ∧ w.cell? ⟨b, i * 4, none⟩ = some (.int .i64 op) ∧ w.cell? ⟨b, i * 4 + 1, none⟩ = some (.int .i64 n) ∧ w.cell? ⟨b, i * 4 + 2, none⟩ = some (.string name) ∧ w.cell? ⟨b, i * 4 + 3, none⟩ = some (.slice A3 kids.length p3) := by
  have hne : l ≠ [] := List.ne_nil_of_length_pos (by omega)
  have hget := List.getElem?_eq_getElem hi
  obtain ⟨A', cap', hv, _, _, h3⟩ := h false
  injection hv with e1 e2 e3
  subst e1
  obtain ⟨b, p, q, rfl, hlb, hb, hf, hc⟩ := h3 hne
  obtain ⟨c1, c2, c3, c4, c5, cs, hr, hcs⟩ := hc i _ hget
  obtain ⟨e, he⟩ : ∃ e, l[i] = e := ⟨_, rfl⟩
  rw [he] at hr hget
  obtain ⟨v3, rfl, g0, g1, g2, g3⟩ := exT_open d hr
  obtain ⟨op, n', name, kids⟩ := e
  obtain ⟨A3, p3, hf3, _, _⟩ := g3.form
  subst hf3
  rw [exT_size] at hcs
  refine ⟨b, op, n', name, kids, A3, p3, rfl, hlb, hb, he, g0, g1, g2, fun m => ?_, hcs 0 _ rfl, hcs 1 _ rfl, hcs 2 _ rfl, hcs 3 _ rfl⟩
  obtain ⟨A', cap', hv', _, _, k3⟩ := h m
  injection hv' with e1 e2 e3
  subst e1
  obtain ⟨b', p', q', hb', _, _, _, hc'⟩ := k3 hne
  injection hb' with hb'
  injection hb' with hb'
  subst hb'
  obtain ⟨d1, d2, _, _, _, cs', hr', hcs'⟩ := hc' i _ hget
  have hl := (exT m (d + 1)).len hr'
  rw [exT_size] at hl hcs'
  match cs', hl with
  | [x0, x1, x2, x3], _ =>
    have z0 := (hcs' 0 _ rfl).symm.trans (hcs 0 _ rfl)
    have z1 := (hcs' 1 _ rfl).symm.trans (hcs 1 _ rfl)
    have z2 := (hcs' 2 _ rfl).symm.trans (hcs 2 _ rfl)
    have z3 := (hcs' 3 _ rfl).symm.trans (hcs 3 _ rfl)
    injection z0 with z0
    injection z1 with z1
    injection z2 with z2
    injection z3 with z3
    subst z0 z1 z2 z3
    exact (exT m (d + 1)).more hr' d1 d2
theorem spec_l5Eval_num (n : Int) (name : ByteArray) (A : Option Addr) (k p : Nat) (w : World) :
    Calls Tryd.prog 68 #[.agg #[.int .i64 1, .int .i64 n, .string name, .slice A k p], .slice none 0 0, .slice none 0 0] w (RetV (.tuple #[.int .i64 n, .int .i64 0]) w) := by
  go_enter Tryd.func68, Tryd.ntmps68
  go_wp2_with fail
  go_ret2
  exact RetV.mk rfl rfl ((Below.refl _ _).alloc (Nat.le_refl _) _)

set_option maxRecDepth 100000 in
set_option maxHeartbeats 8000000 in
theorem spec_l5Eval_two (d : Nat) (op n : Int) (name : ByteArray) (kids : List Ex) (A : Option Addr) (p : Nat) (w : World) (lo B : Nat) (x y : Int) (nx ny : ByteArray) (kx ky : List Ex) (hB : B ≤ w.heap.size) (h3 : Sl false (exS false d) w lo B kids (.slice A kids.length p)) (hk : kids = [.mk 1 x nx kx, .mk 1 y ny ky]) (x0 : 0 ≤ x) (x1 : x ≤ 255) (y0 : 0 ≤ y) (y1 : y ≤ 255) (o3 : 3 ≤ op) (o10 : op ≤ 10) :
    Calls Tryd.prog 68 #[.agg #[.int .i64 op, .int .i64 n, .string name, .slice A kids.length p], .slice none 0 0, .slice none 0 0] w (RetV (.tuple #[.int .i64 (arV op x y).1, .int .i64 (endC (arV op x y).2)]) w) := by
  have hl : kids.length = 2 := by rw [hk]; rfl
  have hb0 : Below w.heap.size w (w.alloc (.cells #[.int .i64 op, .int .i64 n, .string name, .slice A kids.length p] 25)) := (Below.refl _ _).alloc (Nat.le_refl _) _
  have R0 : Row (w.alloc (.cells #[.int .i64 op, .int .i64 n, .string name, .slice A kids.length p] 25)) w.heap.size 25 #[.int .i64 op, .int .i64 n, .string name, .slice A kids.length p] := Row.new w _ _
  obtain ⟨d', rfl⟩ := exS_pos h3 (by omega)
  have k0 : kids[0]? = some (.mk 1 x nx kx) := by rw [hk]; rfl
  have k1 : kids[1]? = some (.mk 1 y ny ky) := by rw [hk]; rfl
  obtain ⟨b, o, aop, an, aname, akids, av, rfl, _, hbB, HL, g0, g1, g2, g3, c0, c1, c2, c3⟩ := ex_get d' (h3.below hb0 hB) (show 0 < kids.length by omega)
  have e1 := HL.out
  rw [List.getElem?_eq_getElem (by omega)] at k0
  rw [Option.some.inj k0] at e1
  injection e1 with e1 e2 e3 e4
  subst e1 e2 e3 e4
  obtain ⟨A0, p0, hf, _, _⟩ := g3.form
  subst hf
  obtain ⟨b', o', bop, bn, bname, bkids, bv, hAe, _, _, HL', m0, m1, m2, m3, t0, t1, t2, t3⟩ := ex_get d' (h3.below hb0 hB) (show 1 < kids.length by omega)
  obtain ⟨rfl, rfl⟩ : b' = b ∧ o' = o := by
    simp only [Option.some.injEq, Addr.mk.injEq, and_true] at hAe
    exact ⟨hAe.1.symm, hAe.2.symm⟩
  clear hAe
  have e1 := HL'.out
  rw [List.getElem?_eq_getElem (by omega)] at k1
  rw [Option.some.inj k1] at e1
  injection e1 with e1 e2 e3 e4
  subst e1 e2 e3 e4
  obtain ⟨A1, p1, hf, _, _⟩ := m3.form
  subst hf
  clear k0 k1 HL HL'
  have hl0 : (0 : Int) < (kids.length : Int) := by omega
  have hl1 : (1 : Int) < (kids.length : Int) := by omega
  replace hl := Lib.hid hl
  replace hk := Lib.hid hk
  have hop : op = 3 ∨ op = 4 ∨ op = 5 ∨ op = 6 ∨ op = 7 ∨ op = 8 ∨ op = 9 ∨ op = 10 := by omega
  have q1 : (op == 1) = false := by simp; omega
  have q2 : (op == 2) = false := by simp; omega
  have q11 : (op == 11) = false := by simp; omega
  by_cases h10 : op = 10
  case pos =>
    subst h10
    clear hop q1 q2 q11 o3 o10
    by_cases hx : x = 0
    case pos =>
      subst hx
      have E : Hid (arV 10 0 y = (0, true)) := by show _ = _; simp [arV, tru]
      have d0 : (w.alloc (.cells #[.int .i64 10, .int .i64 n, .string name, .slice (some ⟨b', o', none⟩) kids.length p] 25)).cell? ⟨b', o', none⟩ = some (.int .i64 1) := by simpa using c0
      have d1 : (w.alloc (.cells #[.int .i64 10, .int .i64 n, .string name, .slice (some ⟨b', o', none⟩) kids.length p] 25)).cell? ⟨b', o' + 1, none⟩ = some (.int .i64 0) := by simpa using c1
      have d2 : (w.alloc (.cells #[.int .i64 10, .int .i64 n, .string name, .slice (some ⟨b', o', none⟩) kids.length p] 25)).cell? ⟨b', o' + 2, none⟩ = some (.string nx) := by simpa using c2
      have d3 : (w.alloc (.cells #[.int .i64 10, .int .i64 n, .string name, .slice (some ⟨b', o', none⟩) kids.length p] 25)).cell? ⟨b', o' + 3, none⟩ = some (.slice A0 kx.length p0) := by simpa using c3
      clear c0 c1 c2 c3
      go_enter Tryd.func68, Tryd.ntmps68
      go_wp2_with fail
      refine (spec_l5Eval_num 0 nx _ _ _ _).mono ?_
      rintro e w1 ⟨rfl, b1⟩
      have R1 := R0.below b1 R0.lt
      have hb1 : Below w.heap.size w w1 := hb0.trans (b1.mono hb0.size)
      have zb : b' < (w.alloc (.cells #[.int .i64 10, .int .i64 n, .string name, .slice (some ⟨b', o', none⟩) kids.length p] 25)).heap.size := Nat.lt_of_lt_of_le hbB (Nat.le_trans hB hb0.size)
      have y0_ : w1.cell? ⟨w.heap.size, 0, none⟩ = some (.int .i64 10) := R1.cell 0
      have y3_ : w1.cell? ⟨w.heap.size, 3, none⟩ = some (.slice (some ⟨b', o', none⟩) kids.length p) := R1.cell 3
      have u0 : w1.cell? ⟨b', o' + 4, none⟩ = some (.int .i64 1) := (b1.cell (p := ⟨b', o' + 4, none⟩) zb).trans t0
      have u1 : w1.cell? ⟨b', o' + 5, none⟩ = some (.int .i64 y) := (b1.cell (p := ⟨b', o' + 5, none⟩) zb).trans t1
      have u2 : w1.cell? ⟨b', o' + 6, none⟩ = some (.string ny) := (b1.cell (p := ⟨b', o' + 6, none⟩) zb).trans t2
      have u3 : w1.cell? ⟨b', o' + 7, none⟩ = some (.slice A1 ky.length p1) := (b1.cell (p := ⟨b', o' + 7, none⟩) zb).trans t3
      clear d0 d1 d2 d3 t0 t1 t2 t3
      go_wp2_with fail
      go_ret2
      exact RetV.mk (by rw [E.out] <;> rfl) rfl hb1
    have hx1 : (x == 0) = false := by simpa using hx
    have E : Hid (arV 10 x y = (tru (y != 0), true)) := by show _ = _; unfold arV; rw [hx1]; simp [bne]
    clear hx
    have d0 : (w.alloc (.cells #[.int .i64 10, .int .i64 n, .string name, .slice (some ⟨b', o', none⟩) kids.length p] 25)).cell? ⟨b', o', none⟩ = some (.int .i64 1) := by simpa using c0
    have d1 : (w.alloc (.cells #[.int .i64 10, .int .i64 n, .string name, .slice (some ⟨b', o', none⟩) kids.length p] 25)).cell? ⟨b', o' + 1, none⟩ = some (.int .i64 x) := by simpa using c1
    have d2 : (w.alloc (.cells #[.int .i64 10, .int .i64 n, .string name, .slice (some ⟨b', o', none⟩) kids.length p] 25)).cell? ⟨b', o' + 2, none⟩ = some (.string nx) := by simpa using c2
    have d3 : (w.alloc (.cells #[.int .i64 10, .int .i64 n, .string name, .slice (some ⟨b', o', none⟩) kids.length p] 25)).cell? ⟨b', o' + 3, none⟩ = some (.slice A0 kx.length p0) := by simpa using c3
    clear c0 c1 c2 c3
    go_enter Tryd.func68, Tryd.ntmps68
    go_wp2_with fail
    refine (spec_l5Eval_num x nx _ _ _ _).mono ?_
    rintro e w1 ⟨rfl, b1⟩
    have R1 := R0.below b1 R0.lt
    have hb1 : Below w.heap.size w w1 := hb0.trans (b1.mono hb0.size)
    have zb : b' < (w.alloc (.cells #[.int .i64 10, .int .i64 n, .string name, .slice (some ⟨b', o', none⟩) kids.length p] 25)).heap.size := Nat.lt_of_lt_of_le hbB (Nat.le_trans hB hb0.size)
    have y0_ : w1.cell? ⟨w.heap.size, 0, none⟩ = some (.int .i64 10) := R1.cell 0
    have y3_ : w1.cell? ⟨w.heap.size, 3, none⟩ = some (.slice (some ⟨b', o', none⟩) kids.length p) := R1.cell 3
    have u0 : w1.cell? ⟨b', o' + 4, none⟩ = some (.int .i64 1) := (b1.cell (p := ⟨b', o' + 4, none⟩) zb).trans t0
    have u1 : w1.cell? ⟨b', o' + 5, none⟩ = some (.int .i64 y) := (b1.cell (p := ⟨b', o' + 5, none⟩) zb).trans t1
    have u2 : w1.cell? ⟨b', o' + 6, none⟩ = some (.string ny) := (b1.cell (p := ⟨b', o' + 6, none⟩) zb).trans t2
    have u3 : w1.cell? ⟨b', o' + 7, none⟩ = some (.slice A1 ky.length p1) := (b1.cell (p := ⟨b', o' + 7, none⟩) zb).trans t3
    clear d0 d1 d2 d3 t0 t1 t2 t3
    go_wp2_with fail
    refine (spec_l5Eval_num y ny _ _ _ _).mono ?_
    rintro e w2 ⟨rfl, b2⟩
    have R2 := R1.below b2 R1.lt
    have hb2 : Below w.heap.size w w2 := hb1.trans (b2.mono hb1.size)
    have y0_2 : w2.cell? ⟨w.heap.size, 0, none⟩ = some (.int .i64 10) := R2.cell 0
    go_wp2_with fail
    refine (spec_l5Truth (y != 0) _).mono ?_
    rintro e w3 ⟨rfl, rfl⟩
    go_wp2_with fail
    go_ret2
    exact RetV.mk (by rw [E.out] <;> rfl) rfl hb2
  have q10 : (op == 10) = false := by simpa using h10
  have hT := Lib.hid (fun w' => spec_l5Two op x y w' x0 x1 y0 y1 o3 (by omega))
  clear hop h10 o3 o10
  have d0 : (w.alloc (.cells #[.int .i64 op, .int .i64 n, .string name, .slice (some ⟨b', o', none⟩) kids.length p] 25)).cell? ⟨b', o', none⟩ = some (.int .i64 1) := by simpa using c0
  have d1 : (w.alloc (.cells #[.int .i64 op, .int .i64 n, .string name, .slice (some ⟨b', o', none⟩) kids.length p] 25)).cell? ⟨b', o' + 1, none⟩ = some (.int .i64 x) := by simpa using c1
  have d2 : (w.alloc (.cells #[.int .i64 op, .int .i64 n, .string name, .slice (some ⟨b', o', none⟩) kids.length p] 25)).cell? ⟨b', o' + 2, none⟩ = some (.string nx) := by simpa using c2
  have d3 : (w.alloc (.cells #[.int .i64 op, .int .i64 n, .string name, .slice (some ⟨b', o', none⟩) kids.length p] 25)).cell? ⟨b', o' + 3, none⟩ = some (.slice A0 kx.length p0) := by simpa using c3
  clear c0 c1 c2 c3
  go_enter Tryd.func68, Tryd.ntmps68
  go_wp2_with fail
  refine (spec_l5Eval_num x nx _ _ _ _).mono ?_
  rintro e w1 ⟨rfl, b1⟩
  have R1 := R0.below b1 R0.lt
  have hb1 : Below w.heap.size w w1 := hb0.trans (b1.mono hb0.size)
  have zb : b' < (w.alloc (.cells #[.int .i64 op, .int .i64 n, .string name, .slice (some ⟨b', o', none⟩) kids.length p] 25)).heap.size := Nat.lt_of_lt_of_le hbB (Nat.le_trans hB hb0.size)
  have y0_ : w1.cell? ⟨w.heap.size, 0, none⟩ = some (.int .i64 op) := R1.cell 0
  have y3_ : w1.cell? ⟨w.heap.size, 3, none⟩ = some (.slice (some ⟨b', o', none⟩) kids.length p) := R1.cell 3
  have u0 : w1.cell? ⟨b', o' + 4, none⟩ = some (.int .i64 1) := (b1.cell (p := ⟨b', o' + 4, none⟩) zb).trans t0
  have u1 : w1.cell? ⟨b', o' + 5, none⟩ = some (.int .i64 y) := (b1.cell (p := ⟨b', o' + 5, none⟩) zb).trans t1
  have u2 : w1.cell? ⟨b', o' + 6, none⟩ = some (.string ny) := (b1.cell (p := ⟨b', o' + 6, none⟩) zb).trans t2
  have u3 : w1.cell? ⟨b', o' + 7, none⟩ = some (.slice A1 ky.length p1) := (b1.cell (p := ⟨b', o' + 7, none⟩) zb).trans t3
  clear d0 d1 d2 d3 t0 t1 t2 t3
  go_wp2_with fail
  refine (spec_l5Eval_num y ny _ _ _ _).mono ?_
  rintro e w2 ⟨rfl, b2⟩
  have R2 := R1.below b2 R1.lt
  have hb2 : Below w.heap.size w w2 := hb1.trans (b2.mono hb1.size)
  have y0_2 : w2.cell? ⟨w.heap.size, 0, none⟩ = some (.int .i64 op) := R2.cell 0
  go_wp2_with fail
  refine (hT.out _).mono ?_
  rintro e w3 ⟨rfl, rfl⟩
  go_wp2_with fail
  go_ret2
  exact RetV.mk rfl rfl hb2
end Go.Proofs.YthfinoapfbhgcaaDoor



namespace Go.Proofs.YthfinoapfbhgcaaDoor
open Go.RowKit Go.ChangeShapes Go.WideShapes Go.Deep
set_option linter.unusedVariables false
set_option linter.unusedSimpArgs false
theorem tru_range (p : Bool) : 0 ≤ tru p ∧ tru p ≤ 255 := by cases p <;> decide
theorem arV_range {op a b : Int} (a0 : 0 ≤ a) (a1 : a ≤ 255) (b0 : 0 ≤ b) (b1 : b ≤ 255) : 0 ≤ (arV op a b).1 ∧ (arV op a b).1 ≤ 255 := by
  unfold arV
  split
  · exact ⟨by simp; omega, by simp; omega⟩
  · split
    · exact ⟨by simp; omega, by simp; omega⟩
    · split
      · have h1 : 0 ≤ a * b % 256 := Int.emod_nonneg _ (by decide)
        have h2 : a * b % 256 < 256 := Int.emod_lt_of_pos _ (by decide)
        exact ⟨h1, by show a * b % 256 ≤ 255; omega⟩
      · split
        · split
          · exact ⟨by simp, by simp⟩
          · have h1 : 0 ≤ a / b := Int.ediv_nonneg a0 b0
            have h2 : a / b ≤ a := Int.ediv_le_self _ a0
            exact ⟨h1, by show a / b ≤ 255; omega⟩
        · split
          · split
            · exact ⟨by simp, by simp⟩
            · rename_i hb
              have h1 : 0 ≤ a % b := Int.emod_nonneg _ hb
              have h2 : a % b < b := Int.emod_lt_of_pos _ (by omega)
              exact ⟨h1, by show a % b ≤ 255; omega⟩
          · split
            · exact tru_range _
            · split
              · exact tru_range _
              · split
                · exact tru_range _
                · exact tru_range _
theorem formB_num {m : Nat} {n : Int} (h0 : 0 ≤ n) (h1 : n ≤ 255) : formB (m + 1) (exN1 n) = true := by
  have : inB n 0 255 = true := inB_yes h0 h1
  unfold exN1
  rw [formB]
  simp [fmK, this]
theorem form_n {m : Nat} {e : Ex} (h : formB m e = true) (h1 : e.op = 1) : 0 ≤ e.n ∧ e.n ≤ 255 := by
  cases m with
  | zero => simp [formB] at h
  | succ m =>
    obtain ⟨op, n, name, kids⟩ := e
    change op = 1 at h1
    subst h1
    rw [formB, Bool.and_eq_true] at h
    have h2 := h.1
    unfold fmK at h2
    rw [if_pos rfl, Bool.and_eq_true] at h2
    exact inB_out h2.1
theorem form_len {m : Nat} {op n : Int} {name : ByteArray} {kids : List Ex} (h : formB (m + 1) (.mk op n name kids) = true) (ho : 3 ≤ op ∧ op ≤ 11) : kids.length = if op = 11 then 1 else 2 := by
  rw [formB, Bool.and_eq_true] at h
  have h2 := h.1
  unfold fmK at h2
  rw [if_neg (by omega), if_neg (by omega), if_neg (by omega)] at h2
  by_cases h11 : op = 11
  · rw [if_neg (by omega), if_pos (by omega)] at h2
    simp only [Bool.and_eq_true, decide_eq_true_eq] at h2
    rw [if_pos h11]
    exact h2.2.2
  · rw [if_pos (by omega)] at h2
    simp only [Bool.and_eq_true, decide_eq_true_eq] at h2
    rw [if_neg h11]
    exact h2.2.2
theorem parts_pos (e : Ex) : 1 ≤ partsE e := by
  obtain ⟨op, n, name, kids⟩ := e
  rw [partsE_mk]
  omega
theorem parts_num (n : Int) : partsE (exN1 n) = 1 := by
  unfold exN1
  rw [partsE_mk]
  rfl
/-- a part between two: the answer is a number, a kid or itself -/
theorem foldTwo_cases (op : Int) (a b e : Ex) : foldTwo op a b e = exN1 (arV op a.n b.n).1 ∧ numB op a b = true ∨ foldTwo op a b e = exN1 0 ∨ foldTwo op a b e = a ∨ foldTwo op a b e = b ∨ foldTwo op a b e = e := by
  unfold foldTwo
  by_cases h : numB op a b = true
  · rw [if_pos h]
    exact Or.inl ⟨rfl, h⟩
  · right
    rw [if_neg h]
    repeat' split
    all_goals simp
theorem foldP_form {m : Nat} {e : Ex} (h : formB (m + 1) e = true) : formB (m + 1) (foldP e) = true ∧ partsE (foldP e) ≤ partsE e := by
  obtain ⟨op, n, name, kids⟩ := e
  have hk : kids.all (formB m) = true := by
    rw [formB, Bool.and_eq_true] at h
    exact h.2
  unfold foldP
  dsimp only
  by_cases h11 : op = 11
  · have hl := form_len h (by omega)
    rw [if_pos h11] at hl
    rw [if_pos h11]
    match kids, hl with
    | [a], _ =>
      have ha : formB m a = true := List.all_eq_true.1 hk a List.mem_cons_self
      dsimp only
      by_cases h1 : a.op = 1
      · rw [if_pos h1]
        refine ⟨formB_num (tru_range _).1 (tru_range _).2, ?_⟩
        rw [parts_num]
        exact parts_pos _
      · rw [if_neg h1]
        by_cases h2 : a.op = 11 ∧ (hd a.kids).op = 11
        · rw [if_pos h2]
          cases m with
          | zero => simp [formB] at ha
          | succ m =>
            obtain ⟨aop, an, aname, akids⟩ := a
            have hl2 := form_len ha (by have := h2.1; change aop = 11 at this; omega)
            have h21 : aop = 11 := h2.1
            rw [if_pos h21] at hl2
            match akids, hl2 with
            | [c], _ =>
              have hc : formB m c = true := by
                rw [formB, Bool.and_eq_true] at ha
                exact List.all_eq_true.1 ha.2 c List.mem_cons_self
              refine ⟨formB_le (by omega) hc, ?_⟩
              show partsE c ≤ _
              rw [partsE_mk, partsL_cons, partsE_mk, partsL_cons]
              omega
        · rw [if_neg h2]
          exact ⟨h, Nat.le_refl _⟩
  · rw [if_neg h11]
    by_cases h3 : 3 ≤ op ∧ op ≤ 10
    · have hl := form_len h (by omega)
      rw [if_neg h11] at hl
      rw [if_pos h3]
      match kids, hl with
      | [a, b], _ =>
        have ha : formB m a = true := List.all_eq_true.1 hk a List.mem_cons_self
        have hb : formB m b = true := List.all_eq_true.1 hk b (List.mem_cons_of_mem _ List.mem_cons_self)
        dsimp only
        have pe : partsE (.mk op n name [a, b]) = 1 + (partsE a + (partsE b + 0)) := by
          rw [partsE_mk, partsL_cons, partsL_cons]
          rfl
        rcases foldTwo_cases op a b (.mk op n name [a, b]) with ⟨h4, h5⟩ | h4 | h4 | h4 | h4
        · rw [h4]
          unfold numB at h5
          simp only [Bool.and_eq_true, beq_iff_eq] at h5
          have h6 := arV_range (op := op) (form_n ha h5.1).1 (form_n ha h5.1).2 (form_n hb h5.2.1).1 (form_n hb h5.2.1).2
          refine ⟨formB_num h6.1 h6.2, ?_⟩
          rw [parts_num]
          exact parts_pos _
        · rw [h4]
          refine ⟨formB_num (by omega) (by omega), ?_⟩
          rw [parts_num]
          exact parts_pos _
        · rw [h4]
          exact ⟨formB_mono _ _ ha, by rw [pe]; omega⟩
        · rw [h4]
          exact ⟨formB_mono _ _ hb, by rw [pe]; omega⟩
        · rw [h4]
          exact ⟨h, Nat.le_refl _⟩
    · rw [if_neg h3]
      exact ⟨h, Nat.le_refl _⟩
theorem partsL_map {f : Ex → Ex} : ∀ l : List Ex, (∀ e ∈ l, partsE (f e) ≤ partsE e) → partsL (l.map f) ≤ partsL l
  | [], _ => Nat.le_refl _
  | a :: r, h => by
    have h1 := partsL_map r fun e he => h e (List.mem_cons_of_mem _ he)
    have h2 := h a List.mem_cons_self
    rw [List.map_cons, partsL_cons, partsL_cons]
    omega
theorem foldE_form : ∀ (m : Nat) (e : Ex), formB m e = true → formB m (foldE m e) = true ∧ partsE (foldE m e) ≤ partsE e
  | 0, e, h => by simp [formB] at h
  | m + 1, .mk op n name kids, h => by
    have h' := h
    rw [formB, Bool.and_eq_true] at h
    have hk := List.all_eq_true.1 h.2
    have hmap : formB (m + 1) (.mk op n name (kids.map (foldE m))) = true := by
      rw [formB, Bool.and_eq_true]
      refine ⟨by rw [List.length_map]; exact h.1, List.all_eq_true.2 fun x hx => ?_⟩
      obtain ⟨e, he, rfl⟩ := List.mem_map.1 hx
      exact (foldE_form m e (hk e he)).1
    have hp := foldP_form hmap
    rw [foldE]
    refine ⟨hp.1, Nat.le_trans hp.2 ?_⟩
    rw [partsE_mk, partsE_mk]
    have := partsL_map (f := foldE m) kids fun e he => (foldE_form m e (hk e he)).2
    omega
theorem val_fold {m : Nat} (hm : m ≤ 6) {e : Ex} (hf : formB m e = true) (hp : partsE e ≤ 30) : valE (foldE m e) = true := by
  obtain ⟨h1, h2⟩ := foldE_form m e hf
  rw [valE_form, formB_le hm h1]
  simp
  omega
end Go.Proofs.YthfinoapfbhgcaaDoor

namespace Go.Proofs.YthfinoapfbhgcaaDoor
open Go.RowKit Go.ChangeShapes Go.WideShapes Go.Deep
set_option linter.unusedVariables false
set_option linter.unusedSimpArgs false
/-- what a folding of one part answers: the part reads in the argument's own range -/
def FoldRP (D : Nat) (y : Ex) (lo B : Nat) (w : World) (en : Ending) (w' : World) : Prop :=
  ∃ v3 : Value, en = .returned (.agg #[.int .i64 y.op, .int .i64 y.n, .string y.name, v3]) ∧ (∀ m, (exT m (D + 1)).rep w' lo B y [.int .i64 y.op, .int .i64 y.n, .string y.name, v3]) ∧ Below w.heap.size w w'
/-- the result cell is written: what the walk asks, and the answer -/
theorem fold_fin {D lo B : Nat} {w wX : World} {y : Ex} {v3 : Value} {t : TypeId} {g : Nat} (hX : Below w.heap.size w wX) (hB : B ≤ w.heap.size) (hg : w.heap.size ≤ g) {c0 c1 c2 c3 : Value} (R : Row wX g t #[c0, c1, c2, c3]) (hy : ∀ m, (exT m (D + 1)).rep w lo B y [.int .i64 y.op, .int .i64 y.n, .string y.name, v3]) :
    FoldRP D y lo B w (.returned (.agg #[.int .i64 y.op, .int .i64 y.n, .string y.name, v3])) ((((wX.setCell ⟨g, 0, none⟩ (.int .i64 y.op)).setCell ⟨g, 1, none⟩ (.int .i64 y.n)).setCell ⟨g, 2, none⟩ (.string y.name)).setCell ⟨g, 3, none⟩ v3) := by
  have hb := (((hX.setCell (p := ⟨g, 0, none⟩) hg (.int .i64 y.op)).setCell (p := ⟨g, 1, none⟩) hg (.int .i64 y.n)).setCell (p := ⟨g, 2, none⟩) hg (.string y.name)).setCell (p := ⟨g, 3, none⟩) hg v3
  exact ⟨v3, rfl, fun m => (exT m (D + 1)).keep (hy m) (Nat.le_refl _) (Nat.le_refl _) (fun b _ h2 => hb.block b (by omega)), hb⟩
theorem fold_end {D lo B : Nat} {w wX : World} {y : Ex} {v3 : Value} (hX : Below w.heap.size w wX) (hB : B ≤ w.heap.size) (hy : ∀ m, (exT m (D + 1)).rep w lo B y [.int .i64 y.op, .int .i64 y.n, .string y.name, v3]) :
    FoldRP D y lo B w (.returned (.agg #[.int .i64 y.op, .int .i64 y.n, .string y.name, v3])) wX :=
  ⟨v3, rfl, fun m => (exT m (D + 1)).keep (hy m) (Nat.le_refl _) (Nat.le_refl _) (fun b _ h2 => hX.block b (by omega)), hX⟩
set_option maxRecDepth 100000 in
set_option maxHeartbeats 4000000 in
/-- a part that is neither between two nor a negation stays -/
theorem spec_l6Part_out (D : Nat) (op n : Int) (name : ByteArray) (kids : List Ex) (A : Option Addr) (p : Nat) (w : World) (lo B : Nat) (hB : B ≤ w.heap.size) (ho : I64 op) (hn : I64 n) (hnm : name.size ≤ maxLen) (h3 : ∀ m, SlT m (exT m D) w lo B kids (.slice A kids.length p)) (hop : op < 3 ∨ 11 < op) :
    Calls Tryd.prog 48 #[.agg #[.int .i64 op, .int .i64 n, .string name, .slice A kids.length p]] w (FoldRP D (.mk op n name kids) lo B w) := by
  have hb0 : Below w.heap.size w ((w.alloc (.cells #[.int .i64 op, .int .i64 n, .string name, .slice A kids.length p] 25)).alloc (.cells #[.int .i64 0, .int .i64 0, .string ⟨#[]⟩, .slice none 0 0] 25)) := ((Below.refl _ _).alloc (Nat.le_refl _) _).alloc (by simp) _
  have R0 : Row ((w.alloc (.cells #[.int .i64 op, .int .i64 n, .string name, .slice A kids.length p] 25)).alloc (.cells #[.int .i64 0, .int .i64 0, .string ⟨#[]⟩, .slice none 0 0] 25)) (w.heap.size + 1) 25 #[.int .i64 0, .int .i64 0, .string ⟨#[]⟩, .slice none 0 0] := by simpa using Row.new (w.alloc (.cells #[.int .i64 op, .int .i64 n, .string name, .slice A kids.length p] 25)) 25 #[.int .i64 0, .int .i64 0, .string ⟨#[]⟩, .slice none 0 0]
  have hy : ∀ m, (exT m (D + 1)).rep w lo B (.mk op n name kids) [.int .i64 op, .int .i64 n, .string name, .slice A kids.length p] := fun m => exT_mk m D op n name kids _ ho hn hnm (h3 m)
  have F := Lib.hid (fold_fin (y := .mk op n name kids) (v3 := .slice A kids.length p) hb0 hB (Nat.le_succ _) R0 hy)
  have q11 : (op == 11) = false := by simp; omega
  have HI : Hid (inB op 3 10 = false) := inB_no (by omega)
  clear hop
  by_cases h1 : kids.length = 1
  · have ql : ((kids.length : Int) == 1) = true := by rw [h1]; rfl
    replace h1 := Lib.hid h1
    go_enter Tryd.func48, Tryd.ntmps48
    go_wp2_with fail
    refine (spec_l1In op 3 10 _).mono ?_
    rw [HI.out]
    rintro e w' ⟨rfl, rfl⟩
    go_wp2_with fail
    refine bodyPost_ret (v := .agg #[.int .i64 op, .int .i64 n, .string name, .slice A kids.length p]) (by simp [results, Tryd.results48, go_sem]) rfl ?_
    exact fold_end (y := .mk op n name kids) (((Below.refl _ _).alloc (Nat.le_refl _) _).alloc (by simp) _) hB hy
  · have ql : ((kids.length : Int) == 1) = false := beq_eq_false_iff_ne.2 (by omega)
    clear h1
    go_enter Tryd.func48, Tryd.ntmps48
    go_wp2_with fail
    refine (spec_l1In op 3 10 _).mono ?_
    rw [HI.out]
    rintro e w' ⟨rfl, rfl⟩
    go_wp2_with fail
    refine bodyPost_ret (v := .agg #[.int .i64 op, .int .i64 n, .string name, .slice A kids.length p]) (by simp [results, Tryd.results48, go_sem]) rfl ?_
    exact fold_end (y := .mk op n name kids) (((Below.refl _ _).alloc (Nat.le_refl _) _).alloc (by simp) _) hB hy
end Go.Proofs.YthfinoapfbhgcaaDoor

namespace Go.Proofs.YthfinoapfbhgcaaDoor
open Go.RowKit Go.ChangeShapes Go.WideShapes Go.Deep
set_option linter.unusedVariables false
set_option linter.unusedSimpArgs false
/-- what makes a number answers -/
def NumP (D : Nat) (n : Int) (w : World) (e : Ending) (w' : World) : Prop :=
  ∃ A c, e = .returned (.agg #[.int .i64 1, .int .i64 n, .string ⟨#[]⟩, .slice A 0 c]) ∧ (∀ (w2 : World) (lo B : Nat) (m : Bool), (exT m (D + 1)).rep w2 lo B (exN1 n) [.int .i64 1, .int .i64 n, .string ⟨#[]⟩, .slice A 0 c]) ∧ Below w.heap.size w w'
theorem num_of {D : Nat} {n : Int} {w : World} {e : Ending} {w' : World} (h : ToTE D (exN1 n) w e w') (hn : I64 n) : NumP D n w e w' := by
  obtain ⟨v3, he, hr, hb⟩ := h
  obtain ⟨A, c, hf, h1, h2⟩ := (exT_kids D (hr false)).form
  change v3 = Value.slice A 0 c at hf
  subst hf
  refine ⟨A, c, he, fun w2 lo B m => exT_mk m D 1 n ⟨#[]⟩ [] _ ⟨by omega, by omega⟩ hn (by decide) ⟨A, c, rfl, h1, ?_, fun h => absurd rfl h⟩, hb⟩
  unfold maxLen
  omega
theorem spec_num (D : Nat) (n : Int) (w : World) (hn : I64 n) : Calls Tryd.prog 62 #[.int .i64 n] w (NumP D n w) := (spec_l6Num D n w hn).mono fun _ _ h => num_of h hn
theorem impl_num (D : Nat) (n : Int) (w : World) (hn : I64 n) : Calls Tryd.prog 64 #[.int .i64 n] w (NumP D n w) := (impl_numExpr D n w hn).mono fun _ _ h => num_of h hn
end Go.Proofs.YthfinoapfbhgcaaDoor

