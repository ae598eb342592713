/-
  The sz.. functions: they answer what is left of a size. Conditions: the arguments read as data.
-/
import Derived.Test.YtafembiemaflfaaTypes
import Derived.Lib.Hide
namespace Go.Proofs.Ytafembiemaflfaa
open Go.RowKit Go.ChangeShapes Go.WideShapes Go.Deep

/-- what a sz.. function answers: what is left, or -1 -/
def SzP (left : Int) (n : Nat) (w : World) (e : Ending) (w' : World) : Prop :=
  ∃ r : Int, e = .returned (.int .i64 r) ∧ -1 ≤ r ∧ r ≤ left ∧ (0 ≤ r → r = left - n) ∧ Below w.heap.size w w'
theorem sumBy_take {α : Type} (f : α → Nat) (l : List α) {k : Nat} (h : k < l.length) : sumBy f (l.take (k + 1)) = sumBy f (l.take k) + f l[k] := by
  unfold sumBy
  rw [List.take_succ_eq_append_getElem h, List.map_append, List.sum_append]
  simp
theorem sumBy_all {α : Type} (f : α → Nat) (l : List α) {k : Nat} (h : l.length ≤ k) : sumBy f (l.take k) = sumBy f l := by rw [List.take_of_length_le h]
theorem sumBy_mem {α : Type} (f : α → Nat) {l : List α} {a : α} (h : a ∈ l) : f a ≤ sumBy f l := by
  unfold sumBy
  induction l with
  | nil => cases h
  | cons x r ih =>
    simp only [List.map_cons, List.sum_cons]
    cases List.mem_cons.1 h with
    | inl e => subst e; omega
    | inr e => have := ih e; omega

theorem int_get {w : World} {lo B : Nat} {l : List Int} {A : Option Addr} {n cap : Nat} (h : Sl false (intS false) w lo B l (.slice A n cap)) {i : Nat} (hi : i < l.length) :
    ∃ (b o : Nat) (a : Int), A = some ⟨b, o, none⟩ ∧ lo ≤ b ∧ b < B ∧ Hid (l[i] = a) ∧ I64 a ∧ w.cell? ⟨b, o + i, none⟩ = some (.int .i64 a) := by
  obtain ⟨b, o, cs, rfl, hlb, hb, _, hr, hc⟩ := h.at_ hi
  obtain ⟨rfl, hg⟩ := int_rep hr
  exact ⟨b, o, _, rfl, hlb, hb, rfl, hg, by simpa [intS] using hc 0 _ rfl⟩

theorem str_get {w : World} {lo B : Nat} {l : List ByteArray} {A : Option Addr} {n cap : Nat} (h : Sl false (strS false) w lo B l (.slice A n cap)) {i : Nat} (hi : i < l.length) :
    ∃ (b o : Nat) (a : ByteArray), A = some ⟨b, o, none⟩ ∧ lo ≤ b ∧ b < B ∧ Hid (l[i] = a) ∧ a.size ≤ maxLen ∧ w.cell? ⟨b, o + i, none⟩ = some (.string a) := by
  obtain ⟨b, o, cs, rfl, hlb, hb, _, hr, hc⟩ := h.at_ hi
  obtain ⟨rfl, hg⟩ := str_rep hr
  exact ⟨b, o, _, rfl, hlb, hb, rfl, hg, by simpa [strS] using hc 0 _ rfl⟩

theorem phi_get {w : World} {lo B : Nat} {l : List PhiD} {A : Option Addr} {n cap : Nat} (h : Sl false (phiS false) w lo B l (.slice A n cap)) {i : Nat} (hi : i < l.length) :
    ∃ (b o : Nat) (to : Int) (args : List Int) (v1 : Value), A = some ⟨b, o, none⟩ ∧ lo ≤ b ∧ b < B ∧ Hid (l[i] = ⟨to, args⟩) ∧ I64 to ∧ Sl false (intS false) w lo B args v1 ∧ w.cell? ⟨b, o + i * 2, none⟩ = some (.int .i64 to) ∧ w.cell? ⟨b, o + i * 2 + 1, none⟩ = some (v1) := by
  obtain ⟨b, o, cs, rfl, hlb, hb, _, hr, hc⟩ := h.at_ hi
  obtain ⟨e, hl⟩ : ∃ e, l[i] = e := ⟨_, rfl⟩
  rw [hl] at hr ⊢
  obtain ⟨v1, rfl, g0, g1⟩ := phi_open hr
  obtain ⟨to, args⟩ := e
  exact ⟨b, o, to, args, v1, rfl, hlb, hb, rfl, g0, g1, hc 0 _ rfl, hc 1 _ rfl⟩

theorem ins_get {w : World} {lo B : Nat} {l : List InsD} {A : Option Addr} {n cap : Nat} (h : Sl false (insS false) w lo B l (.slice A n cap)) {i : Nat} (hi : i < l.length) :
    ∃ (b o : Nat) (op : Int) (to : Int) (args : List Int) (v2 : Value) (n : Int), A = some ⟨b, o, none⟩ ∧ lo ≤ b ∧ b < B ∧ Hid (l[i] = ⟨op, to, args, n⟩) ∧ I64 op ∧ I64 to ∧ Sl false (intS false) w lo B args v2 ∧ I64 n ∧ w.cell? ⟨b, o + i * 4, none⟩ = some (.int .i64 op) ∧ w.cell? ⟨b, o + i * 4 + 1, none⟩ = some (.int .i64 to) ∧ w.cell? ⟨b, o + i * 4 + 2, none⟩ = some (v2) ∧ w.cell? ⟨b, o + i * 4 + 3, none⟩ = some (.int .i64 n) := by
  obtain ⟨b, o, cs, rfl, hlb, hb, _, hr, hc⟩ := h.at_ hi
  obtain ⟨e, hl⟩ : ∃ e, l[i] = e := ⟨_, rfl⟩
  rw [hl] at hr ⊢
  obtain ⟨v2, rfl, g0, g1, g2, g3⟩ := ins_open hr
  obtain ⟨op, to, args, n⟩ := e
  exact ⟨b, o, op, to, args, v2, n, rfl, hlb, hb, rfl, g0, g1, g2, g3, hc 0 _ rfl, hc 1 _ rfl, hc 2 _ rfl, hc 3 _ rfl⟩

theorem blk_get {w : World} {lo B : Nat} {l : List BlkD} {A : Option Addr} {n cap : Nat} (h : Sl false (blkS false) w lo B l (.slice A n cap)) {i : Nat} (hi : i < l.length) :
    ∃ (b o : Nat) (phis : List PhiD) (v0 : Value) (ins : List InsD) (v1 : Value) (jump : Int) (on : Int) (next : List Int) (v4 : Value), A = some ⟨b, o, none⟩ ∧ lo ≤ b ∧ b < B ∧ Hid (l[i] = ⟨phis, ins, jump, on, next⟩) ∧ Sl false (phiS false) w lo B phis v0 ∧ Sl false (insS false) w lo B ins v1 ∧ I64 jump ∧ I64 on ∧ Sl false (intS false) w lo B next v4 ∧ w.cell? ⟨b, o + i * 5, none⟩ = some (v0) ∧ w.cell? ⟨b, o + i * 5 + 1, none⟩ = some (v1) ∧ w.cell? ⟨b, o + i * 5 + 2, none⟩ = some (.int .i64 jump) ∧ w.cell? ⟨b, o + i * 5 + 3, none⟩ = some (.int .i64 on) ∧ w.cell? ⟨b, o + i * 5 + 4, none⟩ = some (v4) := by
  obtain ⟨b, o, cs, rfl, hlb, hb, _, hr, hc⟩ := h.at_ hi
  obtain ⟨e, hl⟩ : ∃ e, l[i] = e := ⟨_, rfl⟩
  rw [hl] at hr ⊢
  obtain ⟨v0, v1, v4, rfl, g0, g1, g2, g3, g4⟩ := blk_open hr
  obtain ⟨phis, ins, jump, on, next⟩ := e
  exact ⟨b, o, phis, v0, ins, v1, jump, on, next, v4, rfl, hlb, hb, rfl, g0, g1, g2, g3, g4, hc 0 _ rfl, hc 1 _ rfl, hc 2 _ rfl, hc 3 _ rfl, hc 4 _ rfl⟩

theorem code_get {w : World} {lo B : Nat} {l : List CodeD} {A : Option Addr} {n cap : Nat} (h : Sl false (codeS false) w lo B l (.slice A n cap)) {i : Nat} (hi : i < l.length) :
    ∃ (b o : Nat) (params : Int) (regs : Int) (blocks : List BlkD) (v2 : Value), A = some ⟨b, o, none⟩ ∧ lo ≤ b ∧ b < B ∧ Hid (l[i] = ⟨params, regs, blocks⟩) ∧ I64 params ∧ I64 regs ∧ Sl false (blkS false) w lo B blocks v2 ∧ w.cell? ⟨b, o + i * 3, none⟩ = some (.int .i64 params) ∧ w.cell? ⟨b, o + i * 3 + 1, none⟩ = some (.int .i64 regs) ∧ w.cell? ⟨b, o + i * 3 + 2, none⟩ = some (v2) := by
  obtain ⟨b, o, cs, rfl, hlb, hb, _, hr, hc⟩ := h.at_ hi
  obtain ⟨e, hl⟩ : ∃ e, l[i] = e := ⟨_, rfl⟩
  rw [hl] at hr ⊢
  obtain ⟨v2, rfl, g0, g1, g2⟩ := code_open hr
  obtain ⟨params, regs, blocks⟩ := e
  exact ⟨b, o, params, regs, blocks, v2, rfl, hlb, hb, rfl, g0, g1, g2, hc 0 _ rfl, hc 1 _ rfl, hc 2 _ rfl⟩

theorem ex_get (d : Nat) {w : World} {lo B : Nat} {l : List Ex} {A : Option Addr} {n cap : Nat} (h : Sl false (exS false (d + 1)) w lo B l (.slice A n cap)) {i : Nat} (hi : i < l.length) :
    ∃ (b o : Nat) (op : Int) (n : Int) (name : ByteArray) (kids : List Ex) (v3 : Value), A = some ⟨b, o, none⟩ ∧ lo ≤ b ∧ b < B ∧ Hid (l[i] = .mk op n name kids) ∧ I64 op ∧ I64 n ∧ name.size ≤ maxLen ∧ Sl false (exS false d) w lo B kids v3 ∧ w.cell? ⟨b, o + i * 4, none⟩ = some (.int .i64 op) ∧ w.cell? ⟨b, o + i * 4 + 1, none⟩ = some (.int .i64 n) ∧ w.cell? ⟨b, o + i * 4 + 2, none⟩ = some (.string name) ∧ w.cell? ⟨b, o + i * 4 + 3, none⟩ = some (v3) := by
  obtain ⟨b, o, cs, rfl, hlb, hb, _, hr, hc⟩ := h.at_ hi
  obtain ⟨e, hl⟩ : ∃ e, l[i] = e := ⟨_, rfl⟩
  rw [hl] at hr ⊢
  obtain ⟨v3, rfl, g0, g1, g2, g3⟩ := ex_open d hr
  rw [exS_size] at hc
  obtain ⟨op, n, name, kids⟩ := e
  exact ⟨b, o, op, n, name, kids, v3, rfl, hlb, hb, rfl, g0, g1, g2, g3, hc 0 _ rfl, hc 1 _ rfl, hc 2 _ rfl, hc 3 _ rfl⟩

theorem st_get (d : Nat) {w : World} {lo B : Nat} {l : List St} {A : Option Addr} {n cap : Nat} (h : Sl false (stS false (d + 1)) w lo B l (.slice A n cap)) {i : Nat} (hi : i < l.length) :
    ∃ (b o : Nat) (op : Int) (name : ByteArray) (args : List Ex) (v2 : Value) (body : List St) (v3 : Value) (els : List St) (v4 : Value), A = some ⟨b, o, none⟩ ∧ lo ≤ b ∧ b < B ∧ Hid (l[i] = .mk op name args body els) ∧ I64 op ∧ name.size ≤ maxLen ∧ Sl false (exS false d) w lo B args v2 ∧ Sl false (stS false d) w lo B body v3 ∧ Sl false (stS false d) w lo B els v4 ∧ w.cell? ⟨b, o + i * 5, none⟩ = some (.int .i64 op) ∧ w.cell? ⟨b, o + i * 5 + 1, none⟩ = some (.string name) ∧ w.cell? ⟨b, o + i * 5 + 2, none⟩ = some (v2) ∧ w.cell? ⟨b, o + i * 5 + 3, none⟩ = some (v3) ∧ w.cell? ⟨b, o + i * 5 + 4, none⟩ = some (v4) := by
  obtain ⟨b, o, cs, rfl, hlb, hb, _, hr, hc⟩ := h.at_ hi
  obtain ⟨e, hl⟩ : ∃ e, l[i] = e := ⟨_, rfl⟩
  rw [hl] at hr ⊢
  obtain ⟨v2, v3, v4, rfl, g0, g1, g2, g3, g4⟩ := st_open d hr
  rw [stS_size] at hc
  obtain ⟨op, name, args, body, els⟩ := e
  exact ⟨b, o, op, name, args, v2, body, v3, els, v4, rfl, hlb, hb, rfl, g0, g1, g2, g3, g4, hc 0 _ rfl, hc 1 _ rfl, hc 2 _ rfl, hc 3 _ rfl, hc 4 _ rfl⟩

theorem fn_get (d : Nat) {w : World} {lo B : Nat} {l : List FnD} {A : Option Addr} {n cap : Nat} (h : Sl false (fnS false d) w lo B l (.slice A n cap)) {i : Nat} (hi : i < l.length) :
    ∃ (b o : Nat) (name : ByteArray) (params : List ByteArray) (v1 : Value) (body : List St) (v2 : Value), A = some ⟨b, o, none⟩ ∧ lo ≤ b ∧ b < B ∧ Hid (l[i] = ⟨name, params, body⟩) ∧ name.size ≤ maxLen ∧ Sl false (strS false) w lo B params v1 ∧ Sl false (stS false d) w lo B body v2 ∧ w.cell? ⟨b, o + i * 3, none⟩ = some (.string name) ∧ w.cell? ⟨b, o + i * 3 + 1, none⟩ = some (v1) ∧ w.cell? ⟨b, o + i * 3 + 2, none⟩ = some (v2) := by
  obtain ⟨b, o, cs, rfl, hlb, hb, _, hr, hc⟩ := h.at_ hi
  obtain ⟨e, hl⟩ : ∃ e, l[i] = e := ⟨_, rfl⟩
  rw [hl] at hr ⊢
  obtain ⟨v1, v2, rfl, g0, g1, g2⟩ := fn_open d hr
  obtain ⟨name, params, body⟩ := e
  exact ⟨b, o, name, params, v1, body, v2, rfl, hlb, hb, rfl, g0, g1, g2, hc 0 _ rfl, hc 1 _ rfl, hc 2 _ rfl⟩

theorem exS_pos {m : Bool} {D : Nat} {w : World} {lo B : Nat} {l : List Ex} {v : Value} (h : Sl m (exS m D) w lo B l v) (hl : 0 < l.length) : ∃ d, D = d + 1 := by
  cases D with
  | zero =>
    obtain ⟨A, cap, rfl, _, _, h3⟩ := h
    obtain ⟨_, _, _, _, _, _, hc⟩ := h3 (List.ne_nil_of_length_pos hl)
    obtain ⟨_, hr, _⟩ := hc 0 l[0] (List.getElem?_eq_getElem hl)
    exact hr.elim
  | succ d => exact ⟨d, rfl⟩

theorem stS_pos {m : Bool} {D : Nat} {w : World} {lo B : Nat} {l : List St} {v : Value} (h : Sl m (stS m D) w lo B l v) (hl : 0 < l.length) : ∃ d, D = d + 1 := by
  cases D with
  | zero =>
    obtain ⟨A, cap, rfl, _, _, h3⟩ := h
    obtain ⟨_, _, _, _, _, _, hc⟩ := h3 (List.ne_nil_of_length_pos hl)
    obtain ⟨_, hr, _⟩ := hc 0 l[0] (List.getElem?_eq_getElem hl)
    exact hr.elim
  | succ d => exact ⟨d, rfl⟩

end Go.Proofs.Ytafembiemaflfaa

