/-
  Marks: a datum in memory of its own is written over, number by number; its structure stays. Conditions: it may be written.
-/
import Derived.Test.YtafembiemaflfaaSoft
namespace Go.Proofs.Ytafembiemaflfaa
open Go.RowKit Go.ChangeShapes Go.WideShapes Go.Deep

set_option linter.unusedVariables false
theorem softOk_phi : SoftOk (phiS true) := by
  intro w w' lo0 B0 lo B a cs cs' hs hr hl h
  obtain ⟨c0, c1, rfl, h0, h1⟩ := hr
  match cs', hl with
  | [d0, d1], _ =>
    exact ⟨d0, d1, rfl, softOk_int hs h0 rfl (soft_1 (h 0 _ _ rfl rfl)), (softOk_sl softOk_int) hs h1 rfl (soft_1 (h 1 _ _ rfl rfl))⟩

theorem phi_getm {w : World} {lo B : Nat} {l : List PhiD} {A : Option Addr} {n cap : Nat} (h : Sl true (phiS true) w lo B l (.slice A n cap)) {i : Nat} (hi : i < l.length) :
    ∃ (b o : Nat) (n0 : Int) (A1 : Option Addr) (p1 : Nat), A = some ⟨b, o, none⟩ ∧ lo ≤ b ∧ b < B ∧ (∀ j : Nat, w.frozen? ⟨b, j, none⟩ = false) ∧ Sl true (intS true) w lo B l[i].args (.slice A1 l[i].args.length p1) ∧ w.cell? ⟨b, o + i * 2, none⟩ = some (.int .i64 n0) ∧ w.cell? ⟨b, o + i * 2 + 1, none⟩ = some (.slice A1 l[i].args.length p1) := by
  obtain ⟨b, o, cs, rfl, hlb, hb, hf, hr, hc⟩ := h.at_ hi
  have hf := hf rfl
  obtain ⟨c0, c1, rfl, h0, h1⟩ := hr
  obtain ⟨x0, e0⟩ := int_any h0
  injection e0 with e0
  subst e0
  obtain ⟨x1, e1, g1⟩ := h1
  injection e1 with e1
  subst e1
  obtain ⟨A1, p1, hx1, _, _⟩ := g1.form
  subst hx1
  exact ⟨b, o, x0, A1, p1, rfl, hlb, hb, hf, g1, hc 0 _ rfl, hc 1 _ rfl⟩

theorem softOk_ins : SoftOk (insS true) := by
  intro w w' lo0 B0 lo B a cs cs' hs hr hl h
  obtain ⟨c0, c1, c2, c3, rfl, h0, h1, h2, h3⟩ := hr
  match cs', hl with
  | [d0, d1, d2, d3], _ =>
    exact ⟨d0, d1, d2, d3, rfl, softOk_int hs h0 rfl (soft_1 (h 0 _ _ rfl rfl)), softOk_int hs h1 rfl (soft_1 (h 1 _ _ rfl rfl)), (softOk_sl softOk_int) hs h2 rfl (soft_1 (h 2 _ _ rfl rfl)), softOk_int hs h3 rfl (soft_1 (h 3 _ _ rfl rfl))⟩

theorem ins_getm {w : World} {lo B : Nat} {l : List InsD} {A : Option Addr} {n cap : Nat} (h : Sl true (insS true) w lo B l (.slice A n cap)) {i : Nat} (hi : i < l.length) :
    ∃ (b o : Nat) (n0 : Int) (n1 : Int) (A2 : Option Addr) (p2 : Nat) (n3 : Int), A = some ⟨b, o, none⟩ ∧ lo ≤ b ∧ b < B ∧ (∀ j : Nat, w.frozen? ⟨b, j, none⟩ = false) ∧ Sl true (intS true) w lo B l[i].args (.slice A2 l[i].args.length p2) ∧ w.cell? ⟨b, o + i * 4, none⟩ = some (.int .i64 n0) ∧ w.cell? ⟨b, o + i * 4 + 1, none⟩ = some (.int .i64 n1) ∧ w.cell? ⟨b, o + i * 4 + 2, none⟩ = some (.slice A2 l[i].args.length p2) ∧ w.cell? ⟨b, o + i * 4 + 3, none⟩ = some (.int .i64 n3) := by
  obtain ⟨b, o, cs, rfl, hlb, hb, hf, hr, hc⟩ := h.at_ hi
  have hf := hf rfl
  obtain ⟨c0, c1, c2, c3, rfl, h0, h1, h2, h3⟩ := hr
  obtain ⟨x0, e0⟩ := int_any h0
  injection e0 with e0
  subst e0
  obtain ⟨x1, e1⟩ := int_any h1
  injection e1 with e1
  subst e1
  obtain ⟨x2, e2, g2⟩ := h2
  injection e2 with e2
  subst e2
  obtain ⟨A2, p2, hx2, _, _⟩ := g2.form
  subst hx2
  obtain ⟨x3, e3⟩ := int_any h3
  injection e3 with e3
  subst e3
  exact ⟨b, o, x0, x1, A2, p2, x3, rfl, hlb, hb, hf, g2, hc 0 _ rfl, hc 1 _ rfl, hc 2 _ rfl, hc 3 _ rfl⟩

theorem softOk_blk : SoftOk (blkS true) := by
  intro w w' lo0 B0 lo B a cs cs' hs hr hl h
  obtain ⟨c0, c1, c2, c3, c4, rfl, h0, h1, h2, h3, h4⟩ := hr
  match cs', hl with
  | [d0, d1, d2, d3, d4], _ =>
    exact ⟨d0, d1, d2, d3, d4, rfl, (softOk_sl softOk_phi) hs h0 rfl (soft_1 (h 0 _ _ rfl rfl)), (softOk_sl softOk_ins) hs h1 rfl (soft_1 (h 1 _ _ rfl rfl)), softOk_int hs h2 rfl (soft_1 (h 2 _ _ rfl rfl)), softOk_int hs h3 rfl (soft_1 (h 3 _ _ rfl rfl)), (softOk_sl softOk_int) hs h4 rfl (soft_1 (h 4 _ _ rfl rfl))⟩

theorem blk_getm {w : World} {lo B : Nat} {l : List BlkD} {A : Option Addr} {n cap : Nat} (h : Sl true (blkS true) w lo B l (.slice A n cap)) {i : Nat} (hi : i < l.length) :
    ∃ (b o : Nat) (A0 : Option Addr) (p0 : Nat) (A1 : Option Addr) (p1 : Nat) (n2 : Int) (n3 : Int) (A4 : Option Addr) (p4 : Nat), A = some ⟨b, o, none⟩ ∧ lo ≤ b ∧ b < B ∧ (∀ j : Nat, w.frozen? ⟨b, j, none⟩ = false) ∧ Sl true (phiS true) w lo B l[i].phis (.slice A0 l[i].phis.length p0) ∧ Sl true (insS true) w lo B l[i].ins (.slice A1 l[i].ins.length p1) ∧ Sl true (intS true) w lo B l[i].next (.slice A4 l[i].next.length p4) ∧ w.cell? ⟨b, o + i * 5, none⟩ = some (.slice A0 l[i].phis.length p0) ∧ w.cell? ⟨b, o + i * 5 + 1, none⟩ = some (.slice A1 l[i].ins.length p1) ∧ w.cell? ⟨b, o + i * 5 + 2, none⟩ = some (.int .i64 n2) ∧ w.cell? ⟨b, o + i * 5 + 3, none⟩ = some (.int .i64 n3) ∧ w.cell? ⟨b, o + i * 5 + 4, none⟩ = some (.slice A4 l[i].next.length p4) := by
  obtain ⟨b, o, cs, rfl, hlb, hb, hf, hr, hc⟩ := h.at_ hi
  have hf := hf rfl
  obtain ⟨c0, c1, c2, c3, c4, rfl, h0, h1, h2, h3, h4⟩ := hr
  obtain ⟨x0, e0, g0⟩ := h0
  injection e0 with e0
  subst e0
  obtain ⟨A0, p0, hx0, _, _⟩ := g0.form
  subst hx0
  obtain ⟨x1, e1, g1⟩ := h1
  injection e1 with e1
  subst e1
  obtain ⟨A1, p1, hx1, _, _⟩ := g1.form
  subst hx1
  obtain ⟨x2, e2⟩ := int_any h2
  injection e2 with e2
  subst e2
  obtain ⟨x3, e3⟩ := int_any h3
  injection e3 with e3
  subst e3
  obtain ⟨x4, e4, g4⟩ := h4
  injection e4 with e4
  subst e4
  obtain ⟨A4, p4, hx4, _, _⟩ := g4.form
  subst hx4
  exact ⟨b, o, A0, p0, A1, p1, x2, x3, A4, p4, rfl, hlb, hb, hf, g0, g1, g4, hc 0 _ rfl, hc 1 _ rfl, hc 2 _ rfl, hc 3 _ rfl, hc 4 _ rfl⟩

theorem softOk_code : SoftOk (codeS true) := by
  intro w w' lo0 B0 lo B a cs cs' hs hr hl h
  obtain ⟨c0, c1, c2, rfl, h0, h1, h2⟩ := hr
  match cs', hl with
  | [d0, d1, d2], _ =>
    exact ⟨d0, d1, d2, rfl, softOk_int hs h0 rfl (soft_1 (h 0 _ _ rfl rfl)), softOk_int hs h1 rfl (soft_1 (h 1 _ _ rfl rfl)), (softOk_sl softOk_blk) hs h2 rfl (soft_1 (h 2 _ _ rfl rfl))⟩

theorem code_getm {w : World} {lo B : Nat} {l : List CodeD} {A : Option Addr} {n cap : Nat} (h : Sl true (codeS true) w lo B l (.slice A n cap)) {i : Nat} (hi : i < l.length) :
    ∃ (b o : Nat) (n0 : Int) (n1 : Int) (A2 : Option Addr) (p2 : Nat), A = some ⟨b, o, none⟩ ∧ lo ≤ b ∧ b < B ∧ (∀ j : Nat, w.frozen? ⟨b, j, none⟩ = false) ∧ Sl true (blkS true) w lo B l[i].blocks (.slice A2 l[i].blocks.length p2) ∧ w.cell? ⟨b, o + i * 3, none⟩ = some (.int .i64 n0) ∧ w.cell? ⟨b, o + i * 3 + 1, none⟩ = some (.int .i64 n1) ∧ w.cell? ⟨b, o + i * 3 + 2, none⟩ = some (.slice A2 l[i].blocks.length p2) := by
  obtain ⟨b, o, cs, rfl, hlb, hb, hf, hr, hc⟩ := h.at_ hi
  have hf := hf rfl
  obtain ⟨c0, c1, c2, rfl, h0, h1, h2⟩ := hr
  obtain ⟨x0, e0⟩ := int_any h0
  injection e0 with e0
  subst e0
  obtain ⟨x1, e1⟩ := int_any h1
  injection e1 with e1
  subst e1
  obtain ⟨x2, e2, g2⟩ := h2
  injection e2 with e2
  subst e2
  obtain ⟨A2, p2, hx2, _, _⟩ := g2.form
  subst hx2
  exact ⟨b, o, x0, x1, A2, p2, rfl, hlb, hb, hf, g2, hc 0 _ rfl, hc 1 _ rfl, hc 2 _ rfl⟩

end Go.Proofs.Ytafembiemaflfaa

