/-
  The sz.. functions: they answer what is left of a size. Conditions: the arguments read as data.
-/
import Derived.Test.YtgcjccoglcgcoaaTypes
import Derived.Lib.Hide
namespace Go.Proofs.Ytgcjccoglcgcoaa
open Go.RowKit Go.ChangeShapes Go.WideShapes Go.Deep

theorem sumBy_mem {α : Type} (f : α → Nat) {l : List α} {a : α} (h : a ∈ l) : f a ≤ sumBy f l := by
  unfold sumBy
  induction l with
  | nil => cases h
  | cons x r ih =>
    simp only [List.map_cons, List.sum_cons]
    cases List.mem_cons.1 h with
    | inl e => subst e; omega
    | inr e => have := ih e; omega

theorem int_get {w : World} {lo B : Nat} {l : List Int} {A : Option Addr} {n cap : Nat} (h : Sl false (intS false) w lo B l (.slice A n cap)) {i : Nat} (hi : i < l.length) :
    ∃ (b o : Nat) (a : Int), A = some ⟨b, o, none⟩ ∧ lo ≤ b ∧ b < B ∧ Hid (l[i] = a) ∧ I64 a ∧ w.cell? ⟨b, o + i, none⟩ = some (.int .i64 a) := by
  obtain ⟨b, o, cs, rfl, hlb, hb, _, hr, hc⟩ := h.at_ hi
  obtain ⟨rfl, hg⟩ := int_rep hr
  exact ⟨b, o, _, rfl, hlb, hb, rfl, hg, by simpa [intS] using hc 0 _ rfl⟩

theorem phi_get {w : World} {lo B : Nat} {l : List PhiD} {A : Option Addr} {n cap : Nat} (h : Sl false (phiS false) w lo B l (.slice A n cap)) {i : Nat} (hi : i < l.length) :
    ∃ (b o : Nat) (to : Int) (args : List Int) (v1 : Value), A = some ⟨b, o, none⟩ ∧ lo ≤ b ∧ b < B ∧ Hid (l[i] = ⟨to, args⟩) ∧ I64 to ∧ Sl false (intS false) w lo B args v1 ∧ w.cell? ⟨b, o + i * 2, none⟩ = some (.int .i64 to) ∧ w.cell? ⟨b, o + i * 2 + 1, none⟩ = some (v1) := by
  obtain ⟨b, o, cs, rfl, hlb, hb, _, hr, hc⟩ := h.at_ hi
  obtain ⟨e, hl⟩ : ∃ e, l[i] = e := ⟨_, rfl⟩
  rw [hl] at hr ⊢
  obtain ⟨v1, rfl, g0, g1⟩ := phi_open hr
  obtain ⟨to, args⟩ := e
  exact ⟨b, o, to, args, v1, rfl, hlb, hb, rfl, g0, g1, hc 0 _ rfl, hc 1 _ rfl⟩

theorem ins_get {w : World} {lo B : Nat} {l : List InsD} {A : Option Addr} {n cap : Nat} (h : Sl false (insS false) w lo B l (.slice A n cap)) {i : Nat} (hi : i < l.length) :
    ∃ (b o : Nat) (op : Int) (to : Int) (args : List Int) (v2 : Value) (n : Int), A = some ⟨b, o, none⟩ ∧ lo ≤ b ∧ b < B ∧ Hid (l[i] = ⟨op, to, args, n⟩) ∧ I64 op ∧ I64 to ∧ Sl false (intS false) w lo B args v2 ∧ I64 n ∧ w.cell? ⟨b, o + i * 4, none⟩ = some (.int .i64 op) ∧ w.cell? ⟨b, o + i * 4 + 1, none⟩ = some (.int .i64 to) ∧ w.cell? ⟨b, o + i * 4 + 2, none⟩ = some (v2) ∧ w.cell? ⟨b, o + i * 4 + 3, none⟩ = some (.int .i64 n) := by
  obtain ⟨b, o, cs, rfl, hlb, hb, _, hr, hc⟩ := h.at_ hi
  obtain ⟨e, hl⟩ : ∃ e, l[i] = e := ⟨_, rfl⟩
  rw [hl] at hr ⊢
  obtain ⟨v2, rfl, g0, g1, g2, g3⟩ := ins_open hr
  obtain ⟨op, to, args, n⟩ := e
  exact ⟨b, o, op, to, args, v2, n, rfl, hlb, hb, rfl, g0, g1, g2, g3, hc 0 _ rfl, hc 1 _ rfl, hc 2 _ rfl, hc 3 _ rfl⟩

theorem blk_get {w : World} {lo B : Nat} {l : List BlkD} {A : Option Addr} {n cap : Nat} (h : Sl false (blkS false) w lo B l (.slice A n cap)) {i : Nat} (hi : i < l.length) :
    ∃ (b o : Nat) (phis : List PhiD) (v0 : Value) (ins : List InsD) (v1 : Value) (jump : Int) (on : Int) (next : List Int) (v4 : Value), A = some ⟨b, o, none⟩ ∧ lo ≤ b ∧ b < B ∧ Hid (l[i] = ⟨phis, ins, jump, on, next⟩) ∧ Sl false (phiS false) w lo B phis v0 ∧ Sl false (insS false) w lo B ins v1 ∧ I64 jump ∧ I64 on ∧ Sl false (intS false) w lo B next v4 ∧ w.cell? ⟨b, o + i * 5, none⟩ = some (v0) ∧ w.cell? ⟨b, o + i * 5 + 1, none⟩ = some (v1) ∧ w.cell? ⟨b, o + i * 5 + 2, none⟩ = some (.int .i64 jump) ∧ w.cell? ⟨b, o + i * 5 + 3, none⟩ = some (.int .i64 on) ∧ w.cell? ⟨b, o + i * 5 + 4, none⟩ = some (v4) := by
  obtain ⟨b, o, cs, rfl, hlb, hb, _, hr, hc⟩ := h.at_ hi
  obtain ⟨e, hl⟩ : ∃ e, l[i] = e := ⟨_, rfl⟩
  rw [hl] at hr ⊢
  obtain ⟨v0, v1, v4, rfl, g0, g1, g2, g3, g4⟩ := blk_open hr
  obtain ⟨phis, ins, jump, on, next⟩ := e
  exact ⟨b, o, phis, v0, ins, v1, jump, on, next, v4, rfl, hlb, hb, rfl, g0, g1, g2, g3, g4, hc 0 _ rfl, hc 1 _ rfl, hc 2 _ rfl, hc 3 _ rfl, hc 4 _ rfl⟩

theorem code_get {w : World} {lo B : Nat} {l : List CodeD} {A : Option Addr} {n cap : Nat} (h : Sl false (codeS false) w lo B l (.slice A n cap)) {i : Nat} (hi : i < l.length) :
    ∃ (b o : Nat) (params : Int) (regs : Int) (blocks : List BlkD) (v2 : Value), A = some ⟨b, o, none⟩ ∧ lo ≤ b ∧ b < B ∧ Hid (l[i] = ⟨params, regs, blocks⟩) ∧ I64 params ∧ I64 regs ∧ Sl false (blkS false) w lo B blocks v2 ∧ w.cell? ⟨b, o + i * 3, none⟩ = some (.int .i64 params) ∧ w.cell? ⟨b, o + i * 3 + 1, none⟩ = some (.int .i64 regs) ∧ w.cell? ⟨b, o + i * 3 + 2, none⟩ = some (v2) := by
  obtain ⟨b, o, cs, rfl, hlb, hb, _, hr, hc⟩ := h.at_ hi
  obtain ⟨e, hl⟩ : ∃ e, l[i] = e := ⟨_, rfl⟩
  rw [hl] at hr ⊢
  obtain ⟨v2, rfl, g0, g1, g2⟩ := code_open hr
  obtain ⟨params, regs, blocks⟩ := e
  exact ⟨b, o, params, regs, blocks, v2, rfl, hlb, hb, rfl, g0, g1, g2, hc 0 _ rfl, hc 1 _ rfl, hc 2 _ rfl⟩

end Go.Proofs.Ytgcjccoglcgcoaa

