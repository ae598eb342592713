/-
  The sz.. functions: they answer what is left of a size. Conditions: the arguments read as data.
-/
import Derived.Test.YtnamciblapddbaaDoorTypes
import Derived.Lib.Hide
namespace Go.Proofs.YtnamciblapddbaaDoor
open Go.RowKit Go.ChangeShapes Go.WideShapes Go.Deep

/-- what a sz.. function answers: what is left, or -1 -/
def SzP (left : Int) (n : Nat) (w : World) (e : Ending) (w' : World) : Prop :=
  ∃ r : Int, e = .returned (.int .i64 r) ∧ -1 ≤ r ∧ r ≤ left ∧ (0 ≤ r → r = left - n) ∧ Below w.heap.size w w'
theorem sumBy_take {α : Type} (f : α → Nat) (l : List α) {k : Nat} (h : k < l.length) : sumBy f (l.take (k + 1)) = sumBy f (l.take k) + f l[k] := by
  unfold sumBy
  rw [List.take_succ_eq_append_getElem h, List.map_append, List.sum_append]
  simp
theorem sumBy_all {α : Type} (f : α → Nat) (l : List α) {k : Nat} (h : l.length ≤ k) : sumBy f (l.take k) = sumBy f l := by rw [List.take_of_length_le h]
theorem sumBy_mem {α : Type} (f : α → Nat) {l : List α} {a : α} (h : a ∈ l) : f a ≤ sumBy f l := by
  unfold sumBy
  induction l with
  | nil => cases h
  | cons x r ih =>
    simp only [List.map_cons, List.sum_cons]
    cases List.mem_cons.1 h with
    | inl e => subst e; omega
    | inr e => have := ih e; omega

theorem int_get {w : World} {lo B : Nat} {l : List Int} {A : Option Addr} {n cap : Nat} (h : Sl false (intS false) w lo B l (.slice A n cap)) {i : Nat} (hi : i < l.length) :
    ∃ (b o : Nat) (a : Int), A = some ⟨b, o, none⟩ ∧ lo ≤ b ∧ b < B ∧ Hid (l[i] = a) ∧ I64 a ∧ w.cell? ⟨b, o + i, none⟩ = some (.int .i64 a) := by
  obtain ⟨b, o, cs, rfl, hlb, hb, _, hr, hc⟩ := h.at_ hi
  obtain ⟨rfl, hg⟩ := int_rep hr
  exact ⟨b, o, _, rfl, hlb, hb, rfl, hg, by simpa [intS] using hc 0 _ rfl⟩

theorem str_get {w : World} {lo B : Nat} {l : List ByteArray} {A : Option Addr} {n cap : Nat} (h : Sl false (strS false) w lo B l (.slice A n cap)) {i : Nat} (hi : i < l.length) :
    ∃ (b o : Nat) (a : ByteArray), A = some ⟨b, o, none⟩ ∧ lo ≤ b ∧ b < B ∧ Hid (l[i] = a) ∧ a.size ≤ maxLen ∧ w.cell? ⟨b, o + i, none⟩ = some (.string a) := by
  obtain ⟨b, o, cs, rfl, hlb, hb, _, hr, hc⟩ := h.at_ hi
  obtain ⟨rfl, hg⟩ := str_rep hr
  exact ⟨b, o, _, rfl, hlb, hb, rfl, hg, by simpa [strS] using hc 0 _ rfl⟩

theorem ex_get (d : Nat) {w : World} {lo B : Nat} {l : List Ex} {A : Option Addr} {n cap : Nat} (h : Sl false (exS false (d + 1)) w lo B l (.slice A n cap)) {i : Nat} (hi : i < l.length) :
    ∃ (b o : Nat) (op : Int) (n : Int) (name : ByteArray) (kids : List Ex) (v3 : Value), A = some ⟨b, o, none⟩ ∧ lo ≤ b ∧ b < B ∧ Hid (l[i] = .mk op n name kids) ∧ I64 op ∧ I64 n ∧ name.size ≤ maxLen ∧ Sl false (exS false d) w lo B kids v3 ∧ w.cell? ⟨b, o + i * 4, none⟩ = some (.int .i64 op) ∧ w.cell? ⟨b, o + i * 4 + 1, none⟩ = some (.int .i64 n) ∧ w.cell? ⟨b, o + i * 4 + 2, none⟩ = some (.string name) ∧ w.cell? ⟨b, o + i * 4 + 3, none⟩ = some (v3) := by
  obtain ⟨b, o, cs, rfl, hlb, hb, _, hr, hc⟩ := h.at_ hi
  obtain ⟨e, hl⟩ : ∃ e, l[i] = e := ⟨_, rfl⟩
  rw [hl] at hr ⊢
  obtain ⟨v3, rfl, g0, g1, g2, g3⟩ := ex_open d hr
  rw [exS_size] at hc
  obtain ⟨op, n, name, kids⟩ := e
  exact ⟨b, o, op, n, name, kids, v3, rfl, hlb, hb, rfl, g0, g1, g2, g3, hc 0 _ rfl, hc 1 _ rfl, hc 2 _ rfl, hc 3 _ rfl⟩

theorem exS_pos {m : Bool} {D : Nat} {w : World} {lo B : Nat} {l : List Ex} {v : Value} (h : Sl m (exS m D) w lo B l v) (hl : 0 < l.length) : ∃ d, D = d + 1 := by
  cases D with
  | zero =>
    obtain ⟨A, cap, rfl, _, _, h3⟩ := h
    obtain ⟨_, _, _, _, _, _, hc⟩ := h3 (List.ne_nil_of_length_pos hl)
    obtain ⟨_, hr, _⟩ := hc 0 l[0] (List.getElem?_eq_getElem hl)
    exact hr.elim
  | succ d => exact ⟨d, rfl⟩

theorem sz_Expr_of (d : Nat) (HExprS : ∀ (l : List Ex) (v : Value) (left : Int) (w : World) (lo B : Nat) (_ : left ≤ 1048576) (_ : 0 ≤ left) (_ : B ≤ w.heap.size) (_ : Sl false (exS false d) w lo B l v), Calls Tryd.prog 38 #[v, .int .i64 left] w (SzP left (l.length + sumBy exN l) w)) (op : Int) (n : Int) (name : ByteArray) (kids : List Ex) (v3 : Value) (left : Int) (w : World) (lo B : Nat) (hl : left ≤ 1048576) (l0 : 0 ≤ left) (hB : B ≤ w.heap.size) (_h0 : I64 op) (_h1 : I64 n) (h2 : name.size ≤ maxLen) (h3 : Sl false (exS false d) w lo B kids v3) :
    Calls Tryd.prog 12 #[.agg #[.int .i64 op, .int .i64 n, .string name, v3], .int .i64 left] w (SzP left (name.size + (kids.length + sumBy exN kids)) w) := by
  have KExprS := Lib.hid HExprS
  clear HExprS
  have hb0 : Below w.heap.size w (w.alloc (.cells #[.int .i64 op, .int .i64 n, .string name, v3] 24)) := (Below.refl _ _).alloc (Nat.le_refl _) _
  go_enter Tryd.func12, Tryd.ntmps12
  have q1 : name.size ≤ maxLen := h2
  unfold maxLen at q1
  by_cases hr1 : left < name.size
  · go_wp2_with fail
    go_ret
    exact ⟨-1, rfl, by omega, by omega, fun h => by omega, hb0⟩
  · have tt1 : 0 ≤ left - name.size := by omega
    go_wp2_with fail
    refine (KExprS.out kids v3 _ _ lo B (by omega) (by omega) (Nat.le_trans hB hb0.size) (h3.below hb0 hB)).mono ?_
    rintro e w2 ⟨r2, rfl, a2, b2, c2, e2⟩
    have hb2 : Below w.heap.size w w2 := hb0.trans (e2.mono hb0.size)
    have R2 : Row w2 w.heap.size 24 #[.int .i64 op, .int .i64 n, .string name, v3] := (Row.new w _ _).below e2 (by simp)
    have C2 := Lib.hid c2
    clear c2
    by_cases hr2 : r2 < 0
    · go_wp2_with fail
      go_ret
      exact ⟨-1, rfl, by omega, by omega, fun h => by omega, hb2⟩
    · have t2 : 0 ≤ r2 := by omega
      go_wp2_with fail
      go_ret
      refine ⟨_, rfl, by omega, by omega, fun _ => ?_, hb2⟩
      have f2 := C2.out t2
      omega

theorem sz_ExprS_of (D : Nat) (HExpr : ∀ d, D = d + 1 → ∀ (op : Int) (n : Int) (name : ByteArray) (kids : List Ex) (v3 : Value) (left : Int) (w : World) (lo B : Nat) (_ : left ≤ 1048576) (_ : 0 ≤ left) (_ : B ≤ w.heap.size) (_ : I64 op) (_ : I64 n) (_ : name.size ≤ maxLen) (_ : Sl false (exS false d) w lo B kids v3), Calls Tryd.prog 12 #[.agg #[.int .i64 op, .int .i64 n, .string name, v3], .int .i64 left] w (SzP left (name.size + (kids.length + sumBy exN kids)) w)) (l : List Ex) (v : Value) (left : Int) (w : World) (lo B : Nat) (hl : left ≤ 1048576) (l0 : 0 ≤ left) (hB : B ≤ w.heap.size) (hv : Sl false (exS false D) w lo B l v) :
    Calls Tryd.prog 38 #[v, .int .i64 left] w (SzP left (l.length + sumBy exN l) w) := by
  have KExpr := Lib.hid HExpr
  clear HExpr
  obtain ⟨A, cap, rfl, hlc, hcm⟩ := hv.form
  by_cases hlt : left < l.length
  · go_enter Tryd.func38, Tryd.ntmps38
    go_wp2_with fail
    go_ret
    exact ⟨-1, rfl, by omega, by omega, fun h => by omega, Below.refl _ _⟩
  · go_enter Tryd.func38, Tryd.ntmps38
    go_wp2_with fail
    go_loopw [1, 5] (fun t i wr => ∃ (k : Nat) (r : Int), k ≤ l.length ∧ i = .int .i64 k ∧ t = .int .i64 r ∧ 0 ≤ r ∧ r ≤ left - l.length ∧ Hid (r = left - l.length - (sumBy exN (l.take k) : Nat)) ∧ Below w.heap.size w wr) (fun _ i _ => l.length - (intOf i).toNat)
    case atStart => exact ⟨0, _, by omega, rfl, rfl, by omega, by omega, (show _ = _ by simp [sumBy]), Below.refl _ _⟩
    case round =>
      obtain ⟨k, r, hk, rfl, rfl, hr0, hr1, HR, hb⟩ := hrel
      have hsz := hb.size
      by_cases hkl : k < l.length
      · obtain ⟨d, rfl⟩ := exS_pos hv (by omega)
        obtain ⟨b, o, op, n, name, kids, v3, rfl, _, _, HL, g0, g1, g2, g3, c0, c1, c2, c3⟩ := ex_get d (hv.below hb hB) hkl
        have HS : Hid (sumBy exN (l.take (k + 1)) = sumBy exN (l.take k) + (name.size + (kids.length + sumBy exN kids))) := by
          have h1 := sumBy_take exN l hkl
          rw [HL.out] at h1
          show _ = _
          simpa [exN, exNs_eq] using h1
        go_wp2_with fail
        refine (KExpr.out d rfl op n name kids v3 _ _ lo B (by omega) (by omega) (by omega) g0 g1 g2 g3).mono ?_
        rintro e w1 ⟨r1, rfl, a1, b1, c1, e1⟩
        have hb1 : Below w.heap.size w w1 := hb.trans (e1.mono hb.size)
        have C1 := Lib.hid c1
        clear c1
        by_cases hneg : r1 < 0
        · go_wp2_with fail
          go_ret
          exact ⟨-1, rfl, by omega, by omega, fun h => by omega, hb1⟩
        · have t1 : 0 ≤ r1 := by omega
          go_wp2_with fail
          go_roundw
          case rel => exact ⟨k + 1, _, by omega, by go_num, rfl, by omega, by omega, (by have h1 := HR.out; have h2 := HS.out; have h3 := C1.out t1; show _ = _; rw [h2]; omega), hb1⟩
          case measure => simp [intOf]; omega
      · obtain rfl : k = l.length := by omega
        have h1 := sumBy_all exN l (Nat.le_refl _)
        have H1 : Hid (r = left - ((l.length + sumBy exN l : Nat) : Int)) := by
          have h2 := HR.out
          rw [h1] at h2
          show _ = _
          omega
        clear h1 HR
        go_wp2_with fail
        go_ret
        exact ⟨_, rfl, by omega, by omega, fun _ => H1.out, hb⟩

theorem sz_ExprS : ∀ d : Nat, ∀ (l : List Ex) (v : Value) (left : Int) (w : World) (lo B : Nat) (_ : left ≤ 1048576) (_ : 0 ≤ left) (_ : B ≤ w.heap.size) (_ : Sl false (exS false d) w lo B l v), Calls Tryd.prog 38 #[v, .int .i64 left] w (SzP left (l.length + sumBy exN l) w) := by
  intro d
  induction d with
  | zero => exact sz_ExprS_of 0 (fun d h => by omega)
  | succ d ih =>
    refine sz_ExprS_of (d + 1) (fun d' h => ?_)
    obtain rfl : d = d' := by omega
    exact sz_Expr_of d ih
theorem sz_Expr (d : Nat) : ∀ (op : Int) (n : Int) (name : ByteArray) (kids : List Ex) (v3 : Value) (left : Int) (w : World) (lo B : Nat) (_ : left ≤ 1048576) (_ : 0 ≤ left) (_ : B ≤ w.heap.size) (_ : I64 op) (_ : I64 n) (_ : name.size ≤ maxLen) (_ : Sl false (exS false d) w lo B kids v3), Calls Tryd.prog 12 #[.agg #[.int .i64 op, .int .i64 n, .string name, v3], .int .i64 left] w (SzP left (name.size + (kids.length + sumBy exN kids)) w) := sz_Expr_of d (sz_ExprS d)

end Go.Proofs.YtnamciblapddbaaDoor

