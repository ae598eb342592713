/-
  The sz.. functions: they answer what is left of a size. Conditions: the arguments read as data.
-/
import Derived.Test.YtbikgakoeheahaaGreatDoorTypes
import Derived.Lib.Hide
namespace Go.Proofs.YtbikgakoeheahaaGreatDoor
open Go.RowKit Go.ChangeShapes Go.WideShapes Go.Deep

/-- what a sz.. function answers: what is left, or -1 -/
def SzP (left : Int) (n : Nat) (w : World) (e : Ending) (w' : World) : Prop :=
  ∃ r : Int, e = .returned (.int .i64 r) ∧ -1 ≤ r ∧ r ≤ left ∧ (0 ≤ r → r = left - n) ∧ Below w.heap.size w w'
theorem sumBy_take {α : Type} (f : α → Nat) (l : List α) {k : Nat} (h : k < l.length) : sumBy f (l.take (k + 1)) = sumBy f (l.take k) + f l[k] := by
  unfold sumBy
  rw [List.take_succ_eq_append_getElem h, List.map_append, List.sum_append]
  simp
theorem sumBy_all {α : Type} (f : α → Nat) (l : List α) {k : Nat} (h : l.length ≤ k) : sumBy f (l.take k) = sumBy f l := by rw [List.take_of_length_le h]
theorem sumBy_mem {α : Type} (f : α → Nat) {l : List α} {a : α} (h : a ∈ l) : f a ≤ sumBy f l := by
  unfold sumBy
  induction l with
  | nil => cases h
  | cons x r ih =>
    simp only [List.map_cons, List.sum_cons]
    cases List.mem_cons.1 h with
    | inl e => subst e; omega
    | inr e => have := ih e; omega

theorem str_get {w : World} {lo B : Nat} {l : List ByteArray} {A : Option Addr} {n cap : Nat} (h : Sl false (strS false) w lo B l (.slice A n cap)) {i : Nat} (hi : i < l.length) :
    ∃ (b o : Nat) (a : ByteArray), A = some ⟨b, o, none⟩ ∧ lo ≤ b ∧ b < B ∧ Hid (l[i] = a) ∧ a.size ≤ maxLen ∧ w.cell? ⟨b, o + i, none⟩ = some (.string a) := by
  obtain ⟨b, o, cs, rfl, hlb, hb, _, hr, hc⟩ := h.at_ hi
  obtain ⟨rfl, hg⟩ := str_rep hr
  exact ⟨b, o, _, rfl, hlb, hb, rfl, hg, by simpa [strS] using hc 0 _ rfl⟩

theorem ex_get (d : Nat) {w : World} {lo B : Nat} {l : List Ex} {A : Option Addr} {n cap : Nat} (h : Sl false (exS false (d + 1)) w lo B l (.slice A n cap)) {i : Nat} (hi : i < l.length) :
    ∃ (b o : Nat) (op : Int) (n : Int) (name : ByteArray) (kids : List Ex) (v3 : Value), A = some ⟨b, o, none⟩ ∧ lo ≤ b ∧ b < B ∧ Hid (l[i] = .mk op n name kids) ∧ I64 op ∧ I64 n ∧ name.size ≤ maxLen ∧ Sl false (exS false d) w lo B kids v3 ∧ w.cell? ⟨b, o + i * 4, none⟩ = some (.int .i64 op) ∧ w.cell? ⟨b, o + i * 4 + 1, none⟩ = some (.int .i64 n) ∧ w.cell? ⟨b, o + i * 4 + 2, none⟩ = some (.string name) ∧ w.cell? ⟨b, o + i * 4 + 3, none⟩ = some (v3) := by
  obtain ⟨b, o, cs, rfl, hlb, hb, _, hr, hc⟩ := h.at_ hi
  obtain ⟨e, hl⟩ : ∃ e, l[i] = e := ⟨_, rfl⟩
  rw [hl] at hr ⊢
  obtain ⟨v3, rfl, g0, g1, g2, g3⟩ := ex_open d hr
  rw [exS_size] at hc
  obtain ⟨op, n, name, kids⟩ := e
  exact ⟨b, o, op, n, name, kids, v3, rfl, hlb, hb, rfl, g0, g1, g2, g3, hc 0 _ rfl, hc 1 _ rfl, hc 2 _ rfl, hc 3 _ rfl⟩

theorem st_get (d : Nat) {w : World} {lo B : Nat} {l : List St} {A : Option Addr} {n cap : Nat} (h : Sl false (stS false (d + 1)) w lo B l (.slice A n cap)) {i : Nat} (hi : i < l.length) :
    ∃ (b o : Nat) (op : Int) (name : ByteArray) (args : List Ex) (v2 : Value) (body : List St) (v3 : Value) (els : List St) (v4 : Value), A = some ⟨b, o, none⟩ ∧ lo ≤ b ∧ b < B ∧ Hid (l[i] = .mk op name args body els) ∧ I64 op ∧ name.size ≤ maxLen ∧ Sl false (exS false d) w lo B args v2 ∧ Sl false (stS false d) w lo B body v3 ∧ Sl false (stS false d) w lo B els v4 ∧ w.cell? ⟨b, o + i * 5, none⟩ = some (.int .i64 op) ∧ w.cell? ⟨b, o + i * 5 + 1, none⟩ = some (.string name) ∧ w.cell? ⟨b, o + i * 5 + 2, none⟩ = some (v2) ∧ w.cell? ⟨b, o + i * 5 + 3, none⟩ = some (v3) ∧ w.cell? ⟨b, o + i * 5 + 4, none⟩ = some (v4) := by
  obtain ⟨b, o, cs, rfl, hlb, hb, _, hr, hc⟩ := h.at_ hi
  obtain ⟨e, hl⟩ : ∃ e, l[i] = e := ⟨_, rfl⟩
  rw [hl] at hr ⊢
  obtain ⟨v2, v3, v4, rfl, g0, g1, g2, g3, g4⟩ := st_open d hr
  rw [stS_size] at hc
  obtain ⟨op, name, args, body, els⟩ := e
  exact ⟨b, o, op, name, args, v2, body, v3, els, v4, rfl, hlb, hb, rfl, g0, g1, g2, g3, g4, hc 0 _ rfl, hc 1 _ rfl, hc 2 _ rfl, hc 3 _ rfl, hc 4 _ rfl⟩

theorem fn_get (d : Nat) {w : World} {lo B : Nat} {l : List FnD} {A : Option Addr} {n cap : Nat} (h : Sl false (fnS false d) w lo B l (.slice A n cap)) {i : Nat} (hi : i < l.length) :
    ∃ (b o : Nat) (name : ByteArray) (params : List ByteArray) (v1 : Value) (body : List St) (v2 : Value), A = some ⟨b, o, none⟩ ∧ lo ≤ b ∧ b < B ∧ Hid (l[i] = ⟨name, params, body⟩) ∧ name.size ≤ maxLen ∧ Sl false (strS false) w lo B params v1 ∧ Sl false (stS false d) w lo B body v2 ∧ w.cell? ⟨b, o + i * 3, none⟩ = some (.string name) ∧ w.cell? ⟨b, o + i * 3 + 1, none⟩ = some (v1) ∧ w.cell? ⟨b, o + i * 3 + 2, none⟩ = some (v2) := by
  obtain ⟨b, o, cs, rfl, hlb, hb, _, hr, hc⟩ := h.at_ hi
  obtain ⟨e, hl⟩ : ∃ e, l[i] = e := ⟨_, rfl⟩
  rw [hl] at hr ⊢
  obtain ⟨v1, v2, rfl, g0, g1, g2⟩ := fn_open d hr
  obtain ⟨name, params, body⟩ := e
  exact ⟨b, o, name, params, v1, body, v2, rfl, hlb, hb, rfl, g0, g1, g2, hc 0 _ rfl, hc 1 _ rfl, hc 2 _ rfl⟩

theorem exS_pos {m : Bool} {D : Nat} {w : World} {lo B : Nat} {l : List Ex} {v : Value} (h : Sl m (exS m D) w lo B l v) (hl : 0 < l.length) : ∃ d, D = d + 1 := by
  cases D with
  | zero =>
    obtain ⟨A, cap, rfl, _, _, h3⟩ := h
    obtain ⟨_, _, _, _, _, _, hc⟩ := h3 (List.ne_nil_of_length_pos hl)
    obtain ⟨_, hr, _⟩ := hc 0 l[0] (List.getElem?_eq_getElem hl)
    exact hr.elim
  | succ d => exact ⟨d, rfl⟩

theorem stS_pos {m : Bool} {D : Nat} {w : World} {lo B : Nat} {l : List St} {v : Value} (h : Sl m (stS m D) w lo B l v) (hl : 0 < l.length) : ∃ d, D = d + 1 := by
  cases D with
  | zero =>
    obtain ⟨A, cap, rfl, _, _, h3⟩ := h
    obtain ⟨_, _, _, _, _, _, hc⟩ := h3 (List.ne_nil_of_length_pos hl)
    obtain ⟨_, hr, _⟩ := hc 0 l[0] (List.getElem?_eq_getElem hl)
    exact hr.elim
  | succ d => exact ⟨d, rfl⟩

theorem sz_StringS (l : List ByteArray) (v : Value) (left : Int) (w : World) (lo B : Nat) (hl : left ≤ 1048576) (l0 : 0 ≤ left) (hB : B ≤ w.heap.size) (hv : Sl false (strS false) w lo B l v) :
    Calls Tryz.prog 39 #[v, .int .i64 left] w (SzP left (l.length + sumBy ByteArray.size l) w) := by
  obtain ⟨A, cap, rfl, hlc, hcm⟩ := hv.form
  by_cases hlt : left < l.length
  · go_enter Tryz.func39, Tryz.ntmps39
    go_wp2_with fail
    go_ret
    exact ⟨-1, rfl, by omega, by omega, fun h => by omega, Below.refl _ _⟩
  · go_enter Tryz.func39, Tryz.ntmps39
    go_wp2_with fail
    go_loopw [1, 5] (fun t i wr => ∃ (k : Nat) (r : Int), k ≤ l.length ∧ i = .int .i64 k ∧ t = .int .i64 r ∧ 0 ≤ r ∧ r ≤ left - l.length ∧ Hid (r = left - l.length - (sumBy ByteArray.size (l.take k) : Nat)) ∧ Below w.heap.size w wr) (fun _ i _ => l.length - (intOf i).toNat)
    case atStart => exact ⟨0, _, by omega, rfl, rfl, by omega, by omega, (show _ = _ by simp [sumBy]), Below.refl _ _⟩
    case round =>
      obtain ⟨k, r, hk, rfl, rfl, hr0, hr1, HR, hb⟩ := hrel
      have hsz := hb.size
      by_cases hkl : k < l.length
      · obtain ⟨b, o, a, rfl, _, _, HL, ha, c0⟩ := str_get (hv.below hb hB) hkl
        have HS : Hid (sumBy ByteArray.size (l.take (k + 1)) = sumBy ByteArray.size (l.take k) + a.size) := by
          have := sumBy_take ByteArray.size l hkl
          rw [HL.out] at this
          exact this
        have ha' : a.size ≤ maxLen := ha
        unfold maxLen at ha'
        by_cases hneg : r < a.size
        · go_wp2_with fail
          go_ret
          exact ⟨-1, rfl, by omega, by omega, fun h => by omega, hb⟩
        · go_wp2_with fail
          go_roundw
          case rel => exact ⟨k + 1, _, by omega, by go_num, rfl, by omega, by omega, (by have h1 := HR.out; have h2 := HS.out; show _ = _; rw [h2]; omega), hb⟩
          case measure => simp [intOf]; omega
      · obtain rfl : k = l.length := by omega
        have h1 := sumBy_all ByteArray.size l (Nat.le_refl _)
        have H1 : Hid (r = left - ((l.length + sumBy ByteArray.size l : Nat) : Int)) := by
          have h2 := HR.out
          rw [h1] at h2
          show _ = _
          omega
        clear h1 HR
        go_wp2_with fail
        go_ret
        exact ⟨_, rfl, by omega, by omega, fun _ => H1.out, hb⟩

theorem sz_Expr_of (d : Nat) (HExprS : ∀ (l : List Ex) (v : Value) (left : Int) (w : World) (lo B : Nat) (_ : left ≤ 1048576) (_ : 0 ≤ left) (_ : B ≤ w.heap.size) (_ : Sl false (exS false d) w lo B l v), Calls Tryz.prog 88 #[v, .int .i64 left] w (SzP left (l.length + sumBy exN l) w)) (op : Int) (n : Int) (name : ByteArray) (kids : List Ex) (v3 : Value) (left : Int) (w : World) (lo B : Nat) (hl : left ≤ 1048576) (l0 : 0 ≤ left) (hB : B ≤ w.heap.size) (_h0 : I64 op) (_h1 : I64 n) (h2 : name.size ≤ maxLen) (h3 : Sl false (exS false d) w lo B kids v3) :
    Calls Tryz.prog 104 #[.agg #[.int .i64 op, .int .i64 n, .string name, v3], .int .i64 left] w (SzP left (name.size + (kids.length + sumBy exN kids)) w) := by
  have KExprS := Lib.hid HExprS
  clear HExprS
  have hb0 : Below w.heap.size w (w.alloc (.cells #[.int .i64 op, .int .i64 n, .string name, v3] 142)) := (Below.refl _ _).alloc (Nat.le_refl _) _
  go_enter Tryz.func104, Tryz.ntmps104
  have q1 : name.size ≤ maxLen := h2
  unfold maxLen at q1
  by_cases hr1 : left < name.size
  · go_wp2_with fail
    go_ret
    exact ⟨-1, rfl, by omega, by omega, fun h => by omega, hb0⟩
  · have tt1 : 0 ≤ left - name.size := by omega
    go_wp2_with fail
    refine (KExprS.out kids v3 _ _ lo B (by omega) (by omega) (Nat.le_trans hB hb0.size) (h3.below hb0 hB)).mono ?_
    rintro e w2 ⟨r2, rfl, a2, b2, c2, e2⟩
    have hb2 : Below w.heap.size w w2 := hb0.trans (e2.mono hb0.size)
    have R2 : Row w2 w.heap.size 142 #[.int .i64 op, .int .i64 n, .string name, v3] := (Row.new w _ _).below e2 (by simp)
    have C2 := Lib.hid c2
    clear c2
    by_cases hr2 : r2 < 0
    · go_wp2_with fail
      go_ret
      exact ⟨-1, rfl, by omega, by omega, fun h => by omega, hb2⟩
    · have t2 : 0 ≤ r2 := by omega
      go_wp2_with fail
      go_ret
      refine ⟨_, rfl, by omega, by omega, fun _ => ?_, hb2⟩
      have f2 := C2.out t2
      omega

theorem sz_ExprS_of (D : Nat) (HExpr : ∀ d, D = d + 1 → ∀ (op : Int) (n : Int) (name : ByteArray) (kids : List Ex) (v3 : Value) (left : Int) (w : World) (lo B : Nat) (_ : left ≤ 1048576) (_ : 0 ≤ left) (_ : B ≤ w.heap.size) (_ : I64 op) (_ : I64 n) (_ : name.size ≤ maxLen) (_ : Sl false (exS false d) w lo B kids v3), Calls Tryz.prog 104 #[.agg #[.int .i64 op, .int .i64 n, .string name, v3], .int .i64 left] w (SzP left (name.size + (kids.length + sumBy exN kids)) w)) (l : List Ex) (v : Value) (left : Int) (w : World) (lo B : Nat) (hl : left ≤ 1048576) (l0 : 0 ≤ left) (hB : B ≤ w.heap.size) (hv : Sl false (exS false D) w lo B l v) :
    Calls Tryz.prog 88 #[v, .int .i64 left] w (SzP left (l.length + sumBy exN l) w) := by
  have KExpr := Lib.hid HExpr
  clear HExpr
  obtain ⟨A, cap, rfl, hlc, hcm⟩ := hv.form
  by_cases hlt : left < l.length
  · go_enter Tryz.func88, Tryz.ntmps88
    go_wp2_with fail
    go_ret
    exact ⟨-1, rfl, by omega, by omega, fun h => by omega, Below.refl _ _⟩
  · go_enter Tryz.func88, Tryz.ntmps88
    go_wp2_with fail
    go_loopw [1, 5] (fun t i wr => ∃ (k : Nat) (r : Int), k ≤ l.length ∧ i = .int .i64 k ∧ t = .int .i64 r ∧ 0 ≤ r ∧ r ≤ left - l.length ∧ Hid (r = left - l.length - (sumBy exN (l.take k) : Nat)) ∧ Below w.heap.size w wr) (fun _ i _ => l.length - (intOf i).toNat)
    case atStart => exact ⟨0, _, by omega, rfl, rfl, by omega, by omega, (show _ = _ by simp [sumBy]), Below.refl _ _⟩
    case round =>
      obtain ⟨k, r, hk, rfl, rfl, hr0, hr1, HR, hb⟩ := hrel
      have hsz := hb.size
      by_cases hkl : k < l.length
      · obtain ⟨d, rfl⟩ := exS_pos hv (by omega)
        obtain ⟨b, o, op, n, name, kids, v3, rfl, _, _, HL, g0, g1, g2, g3, c0, c1, c2, c3⟩ := ex_get d (hv.below hb hB) hkl
        have HS : Hid (sumBy exN (l.take (k + 1)) = sumBy exN (l.take k) + (name.size + (kids.length + sumBy exN kids))) := by
          have h1 := sumBy_take exN l hkl
          rw [HL.out] at h1
          show _ = _
          simpa [exN, exNs_eq] using h1
        go_wp2_with fail
        refine (KExpr.out d rfl op n name kids v3 _ _ lo B (by omega) (by omega) (by omega) g0 g1 g2 g3).mono ?_
        rintro e w1 ⟨r1, rfl, a1, b1, c1, e1⟩
        have hb1 : Below w.heap.size w w1 := hb.trans (e1.mono hb.size)
        have C1 := Lib.hid c1
        clear c1
        by_cases hneg : r1 < 0
        · go_wp2_with fail
          go_ret
          exact ⟨-1, rfl, by omega, by omega, fun h => by omega, hb1⟩
        · have t1 : 0 ≤ r1 := by omega
          go_wp2_with fail
          go_roundw
          case rel => exact ⟨k + 1, _, by omega, by go_num, rfl, by omega, by omega, (by have h1 := HR.out; have h2 := HS.out; have h3 := C1.out t1; show _ = _; rw [h2]; omega), hb1⟩
          case measure => simp [intOf]; omega
      · obtain rfl : k = l.length := by omega
        have h1 := sumBy_all exN l (Nat.le_refl _)
        have H1 : Hid (r = left - ((l.length + sumBy exN l : Nat) : Int)) := by
          have h2 := HR.out
          rw [h1] at h2
          show _ = _
          omega
        clear h1 HR
        go_wp2_with fail
        go_ret
        exact ⟨_, rfl, by omega, by omega, fun _ => H1.out, hb⟩

theorem sz_ExprS : ∀ d : Nat, ∀ (l : List Ex) (v : Value) (left : Int) (w : World) (lo B : Nat) (_ : left ≤ 1048576) (_ : 0 ≤ left) (_ : B ≤ w.heap.size) (_ : Sl false (exS false d) w lo B l v), Calls Tryz.prog 88 #[v, .int .i64 left] w (SzP left (l.length + sumBy exN l) w) := by
  intro d
  induction d with
  | zero => exact sz_ExprS_of 0 (fun d h => by omega)
  | succ d ih =>
    refine sz_ExprS_of (d + 1) (fun d' h => ?_)
    obtain rfl : d = d' := by omega
    exact sz_Expr_of d ih
theorem sz_Stmt_of (d : Nat) (HStmtS : ∀ (l : List St) (v : Value) (left : Int) (w : World) (lo B : Nat) (_ : left ≤ 1048576) (_ : 0 ≤ left) (_ : B ≤ w.heap.size) (_ : Sl false (stS false d) w lo B l v), Calls Tryz.prog 40 #[v, .int .i64 left] w (SzP left (l.length + sumBy stN l) w)) (op : Int) (name : ByteArray) (args : List Ex) (v2 : Value) (body : List St) (v3 : Value) (els : List St) (v4 : Value) (left : Int) (w : World) (lo B : Nat) (hl : left ≤ 1048576) (l0 : 0 ≤ left) (hB : B ≤ w.heap.size) (_h0 : I64 op) (h1 : name.size ≤ maxLen) (h2 : Sl false (exS false d) w lo B args v2) (h3 : Sl false (stS false d) w lo B body v3) (h4 : Sl false (stS false d) w lo B els v4) :
    Calls Tryz.prog 67 #[.agg #[.int .i64 op, .string name, v2, v3, v4], .int .i64 left] w (SzP left (name.size + (args.length + sumBy exN args) + (body.length + sumBy stN body) + (els.length + sumBy stN els)) w) := by
  have KStmtS := Lib.hid HStmtS
  clear HStmtS
  have hb0 : Below w.heap.size w (w.alloc (.cells #[.int .i64 op, .string name, v2, v3, v4] 109)) := (Below.refl _ _).alloc (Nat.le_refl _) _
  go_enter Tryz.func67, Tryz.ntmps67
  have q1 : name.size ≤ maxLen := h1
  unfold maxLen at q1
  by_cases hr1 : left < name.size
  · go_wp2_with fail
    go_ret
    exact ⟨-1, rfl, by omega, by omega, fun h => by omega, hb0⟩
  · have tt1 : 0 ≤ left - name.size := by omega
    go_wp2_with fail
    refine (sz_ExprS d args v2 _ _ lo B (by omega) (by omega) (Nat.le_trans hB hb0.size) (h2.below hb0 hB)).mono ?_
    rintro e w2 ⟨r2, rfl, a2, b2, c2, e2⟩
    have hb2 : Below w.heap.size w w2 := hb0.trans (e2.mono hb0.size)
    have R2 : Row w2 w.heap.size 109 #[.int .i64 op, .string name, v2, v3, v4] := (Row.new w _ _).below e2 (by simp)
    have y2_3 : w2.cell? ⟨w.heap.size, 3, none⟩ = some (v3) := R2.cell 3
    have y2_4 : w2.cell? ⟨w.heap.size, 4, none⟩ = some (v4) := R2.cell 4
    have C2 := Lib.hid c2
    clear c2
    by_cases hr2 : r2 < 0
    · go_wp2_with fail
      go_ret
      exact ⟨-1, rfl, by omega, by omega, fun h => by omega, hb2⟩
    · have t2 : 0 ≤ r2 := by omega
      go_wp2_with fail
      refine (KStmtS.out body v3 _ _ lo B (by omega) (by omega) (Nat.le_trans hB hb2.size) (h3.below hb2 hB)).mono ?_
      rintro e w3 ⟨r3, rfl, a3, b3, c3, e3⟩
      have hb3 : Below w.heap.size w w3 := hb2.trans (e3.mono hb2.size)
      have R3 : Row w3 w.heap.size 109 #[.int .i64 op, .string name, v2, v3, v4] := R2.below e3 R2.lt
      have y3_4 : w3.cell? ⟨w.heap.size, 4, none⟩ = some (v4) := R3.cell 4
      have C3 := Lib.hid c3
      clear c3
      by_cases hr3 : r3 < 0
      · go_wp2_with fail
        go_ret
        exact ⟨-1, rfl, by omega, by omega, fun h => by omega, hb3⟩
      · have t3 : 0 ≤ r3 := by omega
        go_wp2_with fail
        refine (KStmtS.out els v4 _ _ lo B (by omega) (by omega) (Nat.le_trans hB hb3.size) (h4.below hb3 hB)).mono ?_
        rintro e w4 ⟨r4, rfl, a4, b4, c4, e4⟩
        have hb4 : Below w.heap.size w w4 := hb3.trans (e4.mono hb3.size)
        have R4 : Row w4 w.heap.size 109 #[.int .i64 op, .string name, v2, v3, v4] := R3.below e4 R3.lt
        have C4 := Lib.hid c4
        clear c4
        by_cases hr4 : r4 < 0
        · go_wp2_with fail
          go_ret
          exact ⟨-1, rfl, by omega, by omega, fun h => by omega, hb4⟩
        · have t4 : 0 ≤ r4 := by omega
          go_wp2_with fail
          go_ret
          refine ⟨_, rfl, by omega, by omega, fun _ => ?_, hb4⟩
          have f2 := C2.out t2
          have f3 := C3.out t3
          have f4 := C4.out t4
          omega

theorem sz_StmtS_of (D : Nat) (HStmt : ∀ d, D = d + 1 → ∀ (op : Int) (name : ByteArray) (args : List Ex) (v2 : Value) (body : List St) (v3 : Value) (els : List St) (v4 : Value) (left : Int) (w : World) (lo B : Nat) (_ : left ≤ 1048576) (_ : 0 ≤ left) (_ : B ≤ w.heap.size) (_ : I64 op) (_ : name.size ≤ maxLen) (_ : Sl false (exS false d) w lo B args v2) (_ : Sl false (stS false d) w lo B body v3) (_ : Sl false (stS false d) w lo B els v4), Calls Tryz.prog 67 #[.agg #[.int .i64 op, .string name, v2, v3, v4], .int .i64 left] w (SzP left (name.size + (args.length + sumBy exN args) + (body.length + sumBy stN body) + (els.length + sumBy stN els)) w)) (l : List St) (v : Value) (left : Int) (w : World) (lo B : Nat) (hl : left ≤ 1048576) (l0 : 0 ≤ left) (hB : B ≤ w.heap.size) (hv : Sl false (stS false D) w lo B l v) :
    Calls Tryz.prog 40 #[v, .int .i64 left] w (SzP left (l.length + sumBy stN l) w) := by
  have KStmt := Lib.hid HStmt
  clear HStmt
  obtain ⟨A, cap, rfl, hlc, hcm⟩ := hv.form
  by_cases hlt : left < l.length
  · go_enter Tryz.func40, Tryz.ntmps40
    go_wp2_with fail
    go_ret
    exact ⟨-1, rfl, by omega, by omega, fun h => by omega, Below.refl _ _⟩
  · go_enter Tryz.func40, Tryz.ntmps40
    go_wp2_with fail
    go_loopw [1, 5] (fun t i wr => ∃ (k : Nat) (r : Int), k ≤ l.length ∧ i = .int .i64 k ∧ t = .int .i64 r ∧ 0 ≤ r ∧ r ≤ left - l.length ∧ Hid (r = left - l.length - (sumBy stN (l.take k) : Nat)) ∧ Below w.heap.size w wr) (fun _ i _ => l.length - (intOf i).toNat)
    case atStart => exact ⟨0, _, by omega, rfl, rfl, by omega, by omega, (show _ = _ by simp [sumBy]), Below.refl _ _⟩
    case round =>
      obtain ⟨k, r, hk, rfl, rfl, hr0, hr1, HR, hb⟩ := hrel
      have hsz := hb.size
      by_cases hkl : k < l.length
      · obtain ⟨d, rfl⟩ := stS_pos hv (by omega)
        obtain ⟨b, o, op, name, args, v2, body, v3, els, v4, rfl, _, _, HL, g0, g1, g2, g3, g4, c0, c1, c2, c3, c4⟩ := st_get d (hv.below hb hB) hkl
        have HS : Hid (sumBy stN (l.take (k + 1)) = sumBy stN (l.take k) + (name.size + (args.length + sumBy exN args) + (body.length + sumBy stN body) + (els.length + sumBy stN els))) := by
          have h1 := sumBy_take stN l hkl
          rw [HL.out] at h1
          show _ = _
          simpa [stN, stNs_eq, Nat.add_assoc] using h1
        go_wp2_with fail
        refine (KStmt.out d rfl op name args v2 body v3 els v4 _ _ lo B (by omega) (by omega) (by omega) g0 g1 g2 g3 g4).mono ?_
        rintro e w1 ⟨r1, rfl, a1, b1, c1, e1⟩
        have hb1 : Below w.heap.size w w1 := hb.trans (e1.mono hb.size)
        have C1 := Lib.hid c1
        clear c1
        by_cases hneg : r1 < 0
        · go_wp2_with fail
          go_ret
          exact ⟨-1, rfl, by omega, by omega, fun h => by omega, hb1⟩
        · have t1 : 0 ≤ r1 := by omega
          go_wp2_with fail
          go_roundw
          case rel => exact ⟨k + 1, _, by omega, by go_num, rfl, by omega, by omega, (by have h1 := HR.out; have h2 := HS.out; have h3 := C1.out t1; show _ = _; rw [h2]; omega), hb1⟩
          case measure => simp [intOf]; omega
      · obtain rfl : k = l.length := by omega
        have h1 := sumBy_all stN l (Nat.le_refl _)
        have H1 : Hid (r = left - ((l.length + sumBy stN l : Nat) : Int)) := by
          have h2 := HR.out
          rw [h1] at h2
          show _ = _
          omega
        clear h1 HR
        go_wp2_with fail
        go_ret
        exact ⟨_, rfl, by omega, by omega, fun _ => H1.out, hb⟩

theorem sz_StmtS : ∀ d : Nat, ∀ (l : List St) (v : Value) (left : Int) (w : World) (lo B : Nat) (_ : left ≤ 1048576) (_ : 0 ≤ left) (_ : B ≤ w.heap.size) (_ : Sl false (stS false d) w lo B l v), Calls Tryz.prog 40 #[v, .int .i64 left] w (SzP left (l.length + sumBy stN l) w) := by
  intro d
  induction d with
  | zero => exact sz_StmtS_of 0 (fun d h => by omega)
  | succ d ih =>
    refine sz_StmtS_of (d + 1) (fun d' h => ?_)
    obtain rfl : d = d' := by omega
    exact sz_Stmt_of d ih
theorem sz_Fn (d : Nat) (name : ByteArray) (params : List ByteArray) (v1 : Value) (body : List St) (v2 : Value) (left : Int) (w : World) (lo B : Nat) (hl : left ≤ 1048576) (l0 : 0 ≤ left) (hB : B ≤ w.heap.size) (h0 : name.size ≤ maxLen) (h1 : Sl false (strS false) w lo B params v1) (h2 : Sl false (stS false d) w lo B body v2) :
    Calls Tryz.prog 21 #[.agg #[.string name, v1, v2], .int .i64 left] w (SzP left (name.size + (params.length + sumBy ByteArray.size params) + (body.length + sumBy stN body)) w) := by
  have hb0 : Below w.heap.size w (w.alloc (.cells #[.string name, v1, v2] 53)) := (Below.refl _ _).alloc (Nat.le_refl _) _
  go_enter Tryz.func21, Tryz.ntmps21
  have q1 : name.size ≤ maxLen := h0
  unfold maxLen at q1
  by_cases hr1 : left < name.size
  · go_wp2_with fail
    go_ret
    exact ⟨-1, rfl, by omega, by omega, fun h => by omega, hb0⟩
  · have tt1 : 0 ≤ left - name.size := by omega
    go_wp2_with fail
    refine (sz_StringS params v1 _ _ lo B (by omega) (by omega) (Nat.le_trans hB hb0.size) (h1.below hb0 hB)).mono ?_
    rintro e w2 ⟨r2, rfl, a2, b2, c2, e2⟩
    have hb2 : Below w.heap.size w w2 := hb0.trans (e2.mono hb0.size)
    have R2 : Row w2 w.heap.size 53 #[.string name, v1, v2] := (Row.new w _ _).below e2 (by simp)
    have y2_2 : w2.cell? ⟨w.heap.size, 2, none⟩ = some (v2) := R2.cell 2
    have C2 := Lib.hid c2
    clear c2
    by_cases hr2 : r2 < 0
    · go_wp2_with fail
      go_ret
      exact ⟨-1, rfl, by omega, by omega, fun h => by omega, hb2⟩
    · have t2 : 0 ≤ r2 := by omega
      go_wp2_with fail
      refine (sz_StmtS d body v2 _ _ lo B (by omega) (by omega) (Nat.le_trans hB hb2.size) (h2.below hb2 hB)).mono ?_
      rintro e w3 ⟨r3, rfl, a3, b3, c3, e3⟩
      have hb3 : Below w.heap.size w w3 := hb2.trans (e3.mono hb2.size)
      have R3 : Row w3 w.heap.size 53 #[.string name, v1, v2] := R2.below e3 R2.lt
      have C3 := Lib.hid c3
      clear c3
      by_cases hr3 : r3 < 0
      · go_wp2_with fail
        go_ret
        exact ⟨-1, rfl, by omega, by omega, fun h => by omega, hb3⟩
      · have t3 : 0 ≤ r3 := by omega
        go_wp2_with fail
        go_ret
        refine ⟨_, rfl, by omega, by omega, fun _ => ?_, hb3⟩
        have f2 := C2.out t2
        have f3 := C3.out t3
        omega

theorem sz_FnS (d : Nat) (l : List FnD) (v : Value) (left : Int) (w : World) (lo B : Nat) (hl : left ≤ 1048576) (l0 : 0 ≤ left) (hB : B ≤ w.heap.size) (hv : Sl false (fnS false d) w lo B l v) :
    Calls Tryz.prog 9 #[v, .int .i64 left] w (SzP left (l.length + sumBy fnN l) w) := by
  obtain ⟨A, cap, rfl, hlc, hcm⟩ := hv.form
  by_cases hlt : left < l.length
  · go_enter Tryz.func9, Tryz.ntmps9
    go_wp2_with fail
    go_ret
    exact ⟨-1, rfl, by omega, by omega, fun h => by omega, Below.refl _ _⟩
  · go_enter Tryz.func9, Tryz.ntmps9
    go_wp2_with fail
    go_loopw [1, 5] (fun t i wr => ∃ (k : Nat) (r : Int), k ≤ l.length ∧ i = .int .i64 k ∧ t = .int .i64 r ∧ 0 ≤ r ∧ r ≤ left - l.length ∧ Hid (r = left - l.length - (sumBy fnN (l.take k) : Nat)) ∧ Below w.heap.size w wr) (fun _ i _ => l.length - (intOf i).toNat)
    case atStart => exact ⟨0, _, by omega, rfl, rfl, by omega, by omega, (show _ = _ by simp [sumBy]), Below.refl _ _⟩
    case round =>
      obtain ⟨k, r, hk, rfl, rfl, hr0, hr1, HR, hb⟩ := hrel
      have hsz := hb.size
      by_cases hkl : k < l.length
      · obtain ⟨b, o, name, params, v1, body, v2, rfl, _, _, HL, g0, g1, g2, c0, c1, c2⟩ := fn_get d (hv.below hb hB) hkl
        have HS : Hid (sumBy fnN (l.take (k + 1)) = sumBy fnN (l.take k) + (name.size + (params.length + sumBy ByteArray.size params) + (body.length + sumBy stN body))) := by
          have h1 := sumBy_take fnN l hkl
          rw [HL.out] at h1
          exact h1
        go_wp2_with fail
        refine (sz_Fn d name params v1 body v2 _ _ lo B (by omega) (by omega) (by omega) g0 g1 g2).mono ?_
        rintro e w1 ⟨r1, rfl, a1, b1, c1, e1⟩
        have hb1 : Below w.heap.size w w1 := hb.trans (e1.mono hb.size)
        have C1 := Lib.hid c1
        clear c1
        by_cases hneg : r1 < 0
        · go_wp2_with fail
          go_ret
          exact ⟨-1, rfl, by omega, by omega, fun h => by omega, hb1⟩
        · have t1 : 0 ≤ r1 := by omega
          go_wp2_with fail
          go_roundw
          case rel => exact ⟨k + 1, _, by omega, by go_num, rfl, by omega, by omega, (by have h1 := HR.out; have h2 := HS.out; have h3 := C1.out t1; show _ = _; rw [h2]; omega), hb1⟩
          case measure => simp [intOf]; omega
      · obtain rfl : k = l.length := by omega
        have h1 := sumBy_all fnN l (Nat.le_refl _)
        have H1 : Hid (r = left - ((l.length + sumBy fnN l : Nat) : Int)) := by
          have h2 := HR.out
          rw [h1] at h2
          show _ = _
          omega
        clear h1 HR
        go_wp2_with fail
        go_ret
        exact ⟨_, rfl, by omega, by omega, fun _ => H1.out, hb⟩

theorem sz_Program (d : Nat) (fns : List FnD) (v0 : Value) (left : Int) (w : World) (lo B : Nat) (hl : left ≤ 1048576) (l0 : 0 ≤ left) (hB : B ≤ w.heap.size) (h0 : Sl false (fnS false d) w lo B fns v0) :
    Calls Tryz.prog 4 #[.agg #[v0], .int .i64 left] w (SzP left ((fns.length + sumBy fnN fns)) w) := by
  have hb0 : Below w.heap.size w (w.alloc (.cells #[v0] 24)) := (Below.refl _ _).alloc (Nat.le_refl _) _
  go_enter Tryz.func4, Tryz.ntmps4
  go_wp2_with fail
  refine (sz_FnS d fns v0 _ _ lo B (by omega) (by omega) (Nat.le_trans hB hb0.size) (h0.below hb0 hB)).mono ?_
  rintro e w1 ⟨r1, rfl, a1, b1, c1, e1⟩
  have hb1 : Below w.heap.size w w1 := hb0.trans (e1.mono hb0.size)
  have R1 : Row w1 w.heap.size 24 #[v0] := (Row.new w _ _).below e1 (by simp)
  have C1 := Lib.hid c1
  clear c1
  by_cases hr1 : r1 < 0
  · go_wp2_with fail
    go_ret
    exact ⟨-1, rfl, by omega, by omega, fun h => by omega, hb1⟩
  · have t1 : 0 ≤ r1 := by omega
    go_wp2_with fail
    go_ret
    refine ⟨_, rfl, by omega, by omega, fun _ => ?_, hb1⟩
    have f1 := C1.out t1
    omega

end Go.Proofs.YtbikgakoeheahaaGreatDoor

