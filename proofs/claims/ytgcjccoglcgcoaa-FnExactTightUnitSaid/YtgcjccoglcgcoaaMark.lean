/-
  Marks: a datum in memory of its own is written over, number by number; its structure stays. Conditions: it may be written.
-/
import Derived.Test.YtgcjccoglcgcoaaSoft
namespace Go.Proofs.Ytgcjccoglcgcoaa
open Go.RowKit Go.ChangeShapes Go.WideShapes Go.Deep

set_option linter.unusedVariables false
theorem softOk_phi : SoftOk (phiS true) := by
  intro w w' lo0 B0 lo B a cs cs' hs hr hl h
  obtain ⟨c0, c1, rfl, h0, h1⟩ := hr
  match cs', hl with
  | [d0, d1], _ =>
    exact ⟨d0, d1, rfl, softOk_int hs h0 rfl (soft_1 (h 0 _ _ rfl rfl)), (softOk_sl softOk_int) hs h1 rfl (soft_1 (h 1 _ _ rfl rfl))⟩

theorem phi_getm {w : World} {lo B : Nat} {l : List PhiD} {A : Option Addr} {n cap : Nat} (h : Sl true (phiS true) w lo B l (.slice A n cap)) {i : Nat} (hi : i < l.length) :
    ∃ (b o : Nat) (n0 : Int) (A1 : Option Addr) (p1 : Nat), A = some ⟨b, o, none⟩ ∧ lo ≤ b ∧ b < B ∧ (∀ j : Nat, w.frozen? ⟨b, j, none⟩ = false) ∧ Sl true (intS true) w lo B l[i].args (.slice A1 l[i].args.length p1) ∧ w.cell? ⟨b, o + i * 2, none⟩ = some (.int .i64 n0) ∧ w.cell? ⟨b, o + i * 2 + 1, none⟩ = some (.slice A1 l[i].args.length p1) := by
  obtain ⟨b, o, cs, rfl, hlb, hb, hf, hr, hc⟩ := h.at_ hi
  have hf := hf rfl
  obtain ⟨c0, c1, rfl, h0, h1⟩ := hr
  obtain ⟨x0, e0⟩ := int_any h0
  injection e0 with e0
  subst e0
  obtain ⟨x1, e1, g1⟩ := h1
  injection e1 with e1
  subst e1
  obtain ⟨A1, p1, hx1, _, _⟩ := g1.form
  subst hx1
  exact ⟨b, o, x0, A1, p1, rfl, hlb, hb, hf, g1, hc 0 _ rfl, hc 1 _ rfl⟩

theorem softOk_ins : SoftOk (insS true) := by
  intro w w' lo0 B0 lo B a cs cs' hs hr hl h
  obtain ⟨c0, c1, c2, c3, rfl, h0, h1, h2, h3⟩ := hr
  match cs', hl with
  | [d0, d1, d2, d3], _ =>
    exact ⟨d0, d1, d2, d3, rfl, softOk_int hs h0 rfl (soft_1 (h 0 _ _ rfl rfl)), softOk_int hs h1 rfl (soft_1 (h 1 _ _ rfl rfl)), (softOk_sl softOk_int) hs h2 rfl (soft_1 (h 2 _ _ rfl rfl)), softOk_int hs h3 rfl (soft_1 (h 3 _ _ rfl rfl))⟩

theorem ins_getm {w : World} {lo B : Nat} {l : List InsD} {A : Option Addr} {n cap : Nat} (h : Sl true (insS true) w lo B l (.slice A n cap)) {i : Nat} (hi : i < l.length) :
    ∃ (b o : Nat) (n0 : Int) (n1 : Int) (A2 : Option Addr) (p2 : Nat) (n3 : Int), A = some ⟨b, o, none⟩ ∧ lo ≤ b ∧ b < B ∧ (∀ j : Nat, w.frozen? ⟨b, j, none⟩ = false) ∧ Sl true (intS true) w lo B l[i].args (.slice A2 l[i].args.length p2) ∧ w.cell? ⟨b, o + i * 4, none⟩ = some (.int .i64 n0) ∧ w.cell? ⟨b, o + i * 4 + 1, none⟩ = some (.int .i64 n1) ∧ w.cell? ⟨b, o + i * 4 + 2, none⟩ = some (.slice A2 l[i].args.length p2) ∧ w.cell? ⟨b, o + i * 4 + 3, none⟩ = some (.int .i64 n3) := by
  obtain ⟨b, o, cs, rfl, hlb, hb, hf, hr, hc⟩ := h.at_ hi
  have hf := hf rfl
  obtain ⟨c0, c1, c2, c3, rfl, h0, h1, h2, h3⟩ := hr
  obtain ⟨x0, e0⟩ := int_any h0
  injection e0 with e0
  subst e0
  obtain ⟨x1, e1⟩ := int_any h1
  injection e1 with e1
  subst e1
  obtain ⟨x2, e2, g2⟩ := h2
  injection e2 with e2
  subst e2
  obtain ⟨A2, p2, hx2, _, _⟩ := g2.form
  subst hx2
  obtain ⟨x3, e3⟩ := int_any h3
  injection e3 with e3
  subst e3
  exact ⟨b, o, x0, x1, A2, p2, x3, rfl, hlb, hb, hf, g2, hc 0 _ rfl, hc 1 _ rfl, hc 2 _ rfl, hc 3 _ rfl⟩

theorem softOk_blk : SoftOk (blkS true) := by
  intro w w' lo0 B0 lo B a cs cs' hs hr hl h
  obtain ⟨c0, c1, c2, c3, c4, rfl, h0, h1, h2, h3, h4⟩ := hr
  match cs', hl with
  | [d0, d1, d2, d3, d4], _ =>
    exact ⟨d0, d1, d2, d3, d4, rfl, (softOk_sl softOk_phi) hs h0 rfl (soft_1 (h 0 _ _ rfl rfl)), (softOk_sl softOk_ins) hs h1 rfl (soft_1 (h 1 _ _ rfl rfl)), softOk_int hs h2 rfl (soft_1 (h 2 _ _ rfl rfl)), softOk_int hs h3 rfl (soft_1 (h 3 _ _ rfl rfl)), (softOk_sl softOk_int) hs h4 rfl (soft_1 (h 4 _ _ rfl rfl))⟩

theorem blk_getm {w : World} {lo B : Nat} {l : List BlkD} {A : Option Addr} {n cap : Nat} (h : Sl true (blkS true) w lo B l (.slice A n cap)) {i : Nat} (hi : i < l.length) :
    ∃ (b o : Nat) (A0 : Option Addr) (p0 : Nat) (A1 : Option Addr) (p1 : Nat) (n2 : Int) (n3 : Int) (A4 : Option Addr) (p4 : Nat), A = some ⟨b, o, none⟩ ∧ lo ≤ b ∧ b < B ∧ (∀ j : Nat, w.frozen? ⟨b, j, none⟩ = false) ∧ Sl true (phiS true) w lo B l[i].phis (.slice A0 l[i].phis.length p0) ∧ Sl true (insS true) w lo B l[i].ins (.slice A1 l[i].ins.length p1) ∧ Sl true (intS true) w lo B l[i].next (.slice A4 l[i].next.length p4) ∧ w.cell? ⟨b, o + i * 5, none⟩ = some (.slice A0 l[i].phis.length p0) ∧ w.cell? ⟨b, o + i * 5 + 1, none⟩ = some (.slice A1 l[i].ins.length p1) ∧ w.cell? ⟨b, o + i * 5 + 2, none⟩ = some (.int .i64 n2) ∧ w.cell? ⟨b, o + i * 5 + 3, none⟩ = some (.int .i64 n3) ∧ w.cell? ⟨b, o + i * 5 + 4, none⟩ = some (.slice A4 l[i].next.length p4) := by
  obtain ⟨b, o, cs, rfl, hlb, hb, hf, hr, hc⟩ := h.at_ hi
  have hf := hf rfl
  obtain ⟨c0, c1, c2, c3, c4, rfl, h0, h1, h2, h3, h4⟩ := hr
  obtain ⟨x0, e0, g0⟩ := h0
  injection e0 with e0
  subst e0
  obtain ⟨A0, p0, hx0, _, _⟩ := g0.form
  subst hx0
  obtain ⟨x1, e1, g1⟩ := h1
  injection e1 with e1
  subst e1
  obtain ⟨A1, p1, hx1, _, _⟩ := g1.form
  subst hx1
  obtain ⟨x2, e2⟩ := int_any h2
  injection e2 with e2
  subst e2
  obtain ⟨x3, e3⟩ := int_any h3
  injection e3 with e3
  subst e3
  obtain ⟨x4, e4, g4⟩ := h4
  injection e4 with e4
  subst e4
  obtain ⟨A4, p4, hx4, _, _⟩ := g4.form
  subst hx4
  exact ⟨b, o, A0, p0, A1, p1, x2, x3, A4, p4, rfl, hlb, hb, hf, g0, g1, g4, hc 0 _ rfl, hc 1 _ rfl, hc 2 _ rfl, hc 3 _ rfl, hc 4 _ rfl⟩

theorem softOk_code : SoftOk (codeS true) := by
  intro w w' lo0 B0 lo B a cs cs' hs hr hl h
  obtain ⟨c0, c1, c2, rfl, h0, h1, h2⟩ := hr
  match cs', hl with
  | [d0, d1, d2], _ =>
    exact ⟨d0, d1, d2, rfl, softOk_int hs h0 rfl (soft_1 (h 0 _ _ rfl rfl)), softOk_int hs h1 rfl (soft_1 (h 1 _ _ rfl rfl)), (softOk_sl softOk_blk) hs h2 rfl (soft_1 (h 2 _ _ rfl rfl))⟩

theorem code_getm {w : World} {lo B : Nat} {l : List CodeD} {A : Option Addr} {n cap : Nat} (h : Sl true (codeS true) w lo B l (.slice A n cap)) {i : Nat} (hi : i < l.length) :
    ∃ (b o : Nat) (n0 : Int) (n1 : Int) (A2 : Option Addr) (p2 : Nat), A = some ⟨b, o, none⟩ ∧ lo ≤ b ∧ b < B ∧ (∀ j : Nat, w.frozen? ⟨b, j, none⟩ = false) ∧ Sl true (blkS true) w lo B l[i].blocks (.slice A2 l[i].blocks.length p2) ∧ w.cell? ⟨b, o + i * 3, none⟩ = some (.int .i64 n0) ∧ w.cell? ⟨b, o + i * 3 + 1, none⟩ = some (.int .i64 n1) ∧ w.cell? ⟨b, o + i * 3 + 2, none⟩ = some (.slice A2 l[i].blocks.length p2) := by
  obtain ⟨b, o, cs, rfl, hlb, hb, hf, hr, hc⟩ := h.at_ hi
  have hf := hf rfl
  obtain ⟨c0, c1, c2, rfl, h0, h1, h2⟩ := hr
  obtain ⟨x0, e0⟩ := int_any h0
  injection e0 with e0
  subst e0
  obtain ⟨x1, e1⟩ := int_any h1
  injection e1 with e1
  subst e1
  obtain ⟨x2, e2, g2⟩ := h2
  injection e2 with e2
  subst e2
  obtain ⟨A2, p2, hx2, _, _⟩ := g2.form
  subst hx2
  exact ⟨b, o, x0, x1, A2, p2, rfl, hlb, hb, hf, g2, hc 0 _ rfl, hc 1 _ rfl, hc 2 _ rfl⟩

set_option maxRecDepth 100000 in
theorem mark_IntS (l : List Int) (v : Value) (k : Int) (w : World) (lo B : Nat) (k0 : 0 ≤ k) (hk : k + 3 * (l.length : Nat) ≤ 1073741824) (hv : Sl true (intS true) w lo B l v) :
    Calls Try.prog 76 #[v, .int .i64 k] w (MarkP k l.length lo B w) := by
  obtain ⟨A, cap, rfl, hlc, hcm⟩ := hv.form
  go_enter Try.func76, Try.ntmps76
  go_wp2_with fail
  go_loopw [1, 5] (fun t i wr => ∃ j : Nat, j ≤ l.length ∧ i = .int .i64 j ∧ t = .int .i64 (k + j) ∧ Soft lo B w wr) (fun _ i _ => l.length - (intOf i).toNat)
  case atStart => exact ⟨0, by omega, rfl, by simp, Soft.refl _ _ _⟩
  case round =>
    obtain ⟨j, hj, rfl, rfl, hs⟩ := hrel
    by_cases hjl : j < l.length
    · obtain ⟨b, o, cs, rfl, hlb, hbB, hf, hr, hc⟩ := (hv.soft softOk_int hs).at_ hjl
      obtain ⟨n0, rfl⟩ := int_any hr
      have c0 : wr.cell? ⟨b, o + j, none⟩ = some (.int .i64 n0) := by simpa [intS] using hc 0 _ rfl
      have f0 : wr.frozen? ⟨b, o + j, none⟩ = false := hf rfl _
      clear hc hf hr
      go_wp2_with fail
      go_roundw
      case rel => exact ⟨j + 1, by omega, by go_num, by go_num, hs.st c0 hlb hbB _⟩
      case measure => simp [intOf]; omega
    · obtain rfl : j = l.length := by omega
      go_wp2_with fail
      go_ret
      exact ⟨_, rfl, by omega, by omega, hs⟩

set_option maxRecDepth 100000 in
theorem mark_PhiS (l : List PhiD) (v : Value) (k : Int) (w : World) (lo B : Nat) (k0 : 0 ≤ k) (hk : k + 3 * ((l.length + sumBy phiN l) : Nat) ≤ 1073741824) (hv : Sl true (phiS true) w lo B l v) :
    Calls Try.prog 74 #[v, .int .i64 k] w (MarkP k (l.length + sumBy phiN l) lo B w) := by
  obtain ⟨A, cap, rfl, hlc, hcm⟩ := hv.form
  go_enter Try.func74, Try.ntmps74
  go_wp2_with fail
  go_loopw [1, 5] (fun t i wr => ∃ (j : Nat) (r : Int), j ≤ l.length ∧ i = .int .i64 j ∧ t = .int .i64 r ∧ k ≤ r ∧ r ≤ k + 3 * (j + sumBy phiN (l.take j) : Nat) ∧ Soft lo B w wr) (fun _ i _ => l.length - (intOf i).toNat)
  case atStart => exact ⟨0, k, by omega, rfl, rfl, by omega, by omega, Soft.refl _ _ _⟩
  case round =>
    obtain ⟨j, r, hj, rfl, rfl, hr0, hr1, hs⟩ := hrel
    have Z0 := sumBy_le phiN l j
    by_cases hjl : j < l.length
    · have HS : Hid (sumBy phiN (l.take (j + 1)) = sumBy phiN (l.take j) + (l[j].args.length)) := sumBy_take phiN l hjl
      have Z1 := sumBy_le phiN l (j + 1)
      have ZZ : l[j].args.length ≤ sumBy phiN l - sumBy phiN (l.take j) := by have := HS.out; omega
      obtain ⟨b, o, n0, A1, p1, rfl, hlb, hbB, hf, g1, c0, c1⟩ := phi_getm (hv.soft softOk_phi hs) hjl
      have f0 : wr.frozen? ⟨b, o + j * 2, none⟩ = false := hf _
      have hf' := Lib.hid hf
      clear hf
      go_wp2_with fail
      have X1 : Soft lo B wr ((wr.setCell ⟨b, o + j * 2, none⟩ (.int .i64 (r)))) := (Soft.st (Soft.refl lo B wr) c0 hlb hbB _)
      have ss1 : Soft lo B w ((wr.setCell ⟨b, o + j * 2, none⟩ (.int .i64 (r)))) := (Soft.st hs c0 hlb hbB (r))
      refine (mark_IntS l[j].args (.slice A1 l[j].args.length p1) _ _ lo B (by omega) (by omega) (g1.soft softOk_int X1)).mono ?_
      rintro e' w1 ⟨r1, rfl, a1, b1, z1⟩
      have hs1 := ss1.trans z1
      go_wp2_with fail
      have hsE : Soft lo B w (w1) := hs1
      go_roundw
      case rel => exact ⟨j + 1, _, by omega, by go_num, rfl, by omega, (by have := HS.out; omega), hsE⟩
      case measure => simp [intOf]; omega
    · obtain rfl : j = l.length := by omega
      go_wp2_with fail
      go_ret
      exact ⟨_, rfl, by omega, by omega, hs⟩

set_option maxRecDepth 100000 in
theorem mark_InsS (l : List InsD) (v : Value) (k : Int) (w : World) (lo B : Nat) (k0 : 0 ≤ k) (hk : k + 3 * ((l.length + sumBy insN l) : Nat) ≤ 1073741824) (hv : Sl true (insS true) w lo B l v) :
    Calls Try.prog 75 #[v, .int .i64 k] w (MarkP k (l.length + sumBy insN l) lo B w) := by
  obtain ⟨A, cap, rfl, hlc, hcm⟩ := hv.form
  go_enter Try.func75, Try.ntmps75
  go_wp2_with fail
  go_loopw [1, 5] (fun t i wr => ∃ (j : Nat) (r : Int), j ≤ l.length ∧ i = .int .i64 j ∧ t = .int .i64 r ∧ k ≤ r ∧ r ≤ k + 3 * (j + sumBy insN (l.take j) : Nat) ∧ Soft lo B w wr) (fun _ i _ => l.length - (intOf i).toNat)
  case atStart => exact ⟨0, k, by omega, rfl, rfl, by omega, by omega, Soft.refl _ _ _⟩
  case round =>
    obtain ⟨j, r, hj, rfl, rfl, hr0, hr1, hs⟩ := hrel
    have Z0 := sumBy_le insN l j
    by_cases hjl : j < l.length
    · have HS : Hid (sumBy insN (l.take (j + 1)) = sumBy insN (l.take j) + (l[j].args.length)) := sumBy_take insN l hjl
      have Z1 := sumBy_le insN l (j + 1)
      have ZZ : l[j].args.length ≤ sumBy insN l - sumBy insN (l.take j) := by have := HS.out; omega
      obtain ⟨b, o, n0, n1, A2, p2, n3, rfl, hlb, hbB, hf, g2, c0, c1, c2, c3⟩ := ins_getm (hv.soft softOk_ins hs) hjl
      have f0 : wr.frozen? ⟨b, o + j * 4, none⟩ = false := hf _
      have f1 : wr.frozen? ⟨b, o + j * 4 + 1, none⟩ = false := hf _
      have f3 : wr.frozen? ⟨b, o + j * 4 + 3, none⟩ = false := hf _
      have hf' := Lib.hid hf
      clear hf
      go_wp2_with fail
      have X1 : Soft lo B wr (((wr.setCell ⟨b, o + j * 4, none⟩ (.int .i64 (r))).setCell ⟨b, o + j * 4 + 1, none⟩ (.int .i64 (r + 1)))) := (Soft.st (Soft.st (Soft.refl lo B wr) c0 hlb hbB _) ((World.cell?_setCell_other _ _ _ _ (addr_ne (by omega))).trans c1) hlb hbB _)
      have ss1 : Soft lo B w (((wr.setCell ⟨b, o + j * 4, none⟩ (.int .i64 (r))).setCell ⟨b, o + j * 4 + 1, none⟩ (.int .i64 (r + 1)))) := (Soft.st (Soft.st hs c0 hlb hbB (r)) ((World.cell?_setCell_other _ _ _ _ (addr_ne (by omega))).trans c1) hlb hbB (r + 1))
      refine (mark_IntS l[j].args (.slice A2 l[j].args.length p2) _ _ lo B (by omega) (by omega) (g2.soft softOk_int X1)).mono ?_
      rintro e' w1 ⟨r1, rfl, a1, b1, z1⟩
      have hs1 := ss1.trans z1
      obtain ⟨n3_1, c3_1⟩ := z1.int_at ((World.cell?_setCell_other _ _ _ _ (addr_ne (by omega))).trans ((World.cell?_setCell_other _ _ _ _ (addr_ne (by omega))).trans c3))
      have f3_1 : w1.frozen? ⟨b, o + j * 4 + 3, none⟩ = false := (z1.frozen _).trans (by simpa using hf'.out _)
      have Hf1 : Hid (∀ x : Nat, w1.frozen? ⟨b, x, none⟩ = false) := fun x => (z1.frozen _).trans (by simpa using hf'.out x)
      go_wp2_with fail
      have hsE : Soft lo B w ((w1.setCell ⟨b, o + j * 4 + 3, none⟩ (.int .i64 (r1)))) := (Soft.st hs1 c3_1 hlb hbB (r1))
      go_roundw
      case rel => exact ⟨j + 1, _, by omega, by go_num, rfl, by omega, (by have := HS.out; omega), hsE⟩
      case measure => simp [intOf]; omega
    · obtain rfl : j = l.length := by omega
      go_wp2_with fail
      go_ret
      exact ⟨_, rfl, by omega, by omega, hs⟩

set_option maxRecDepth 100000 in
theorem mark_BlockS (l : List BlkD) (v : Value) (k : Int) (w : World) (lo B : Nat) (k0 : 0 ≤ k) (hk : k + 3 * ((l.length + sumBy blkN l) : Nat) ≤ 1073741824) (hv : Sl true (blkS true) w lo B l v) :
    Calls Try.prog 45 #[v, .int .i64 k] w (MarkP k (l.length + sumBy blkN l) lo B w) := by
  obtain ⟨A, cap, rfl, hlc, hcm⟩ := hv.form
  go_enter Try.func45, Try.ntmps45
  go_wp2_with fail
  go_loopw [1, 5] (fun t i wr => ∃ (j : Nat) (r : Int), j ≤ l.length ∧ i = .int .i64 j ∧ t = .int .i64 r ∧ k ≤ r ∧ r ≤ k + 3 * (j + sumBy blkN (l.take j) : Nat) ∧ Soft lo B w wr) (fun _ i _ => l.length - (intOf i).toNat)
  case atStart => exact ⟨0, k, by omega, rfl, rfl, by omega, by omega, Soft.refl _ _ _⟩
  case round =>
    obtain ⟨j, r, hj, rfl, rfl, hr0, hr1, hs⟩ := hrel
    have Z0 := sumBy_le blkN l j
    by_cases hjl : j < l.length
    · have HS : Hid (sumBy blkN (l.take (j + 1)) = sumBy blkN (l.take j) + ((l[j].phis.length + sumBy phiN l[j].phis) + (l[j].ins.length + sumBy insN l[j].ins) + l[j].next.length)) := sumBy_take blkN l hjl
      have Z1 := sumBy_le blkN l (j + 1)
      have ZZ : (l[j].phis.length + sumBy phiN l[j].phis) + (l[j].ins.length + sumBy insN l[j].ins) + l[j].next.length ≤ sumBy blkN l - sumBy blkN (l.take j) := by have := HS.out; omega
      obtain ⟨b, o, A0, p0, A1, p1, n2, n3, A4, p4, rfl, hlb, hbB, hf, g0, g1, g4, c0, c1, c2, c3, c4⟩ := blk_getm (hv.soft softOk_blk hs) hjl
      have f2 : wr.frozen? ⟨b, o + j * 5 + 2, none⟩ = false := hf _
      have f3 : wr.frozen? ⟨b, o + j * 5 + 3, none⟩ = false := hf _
      have hf' := Lib.hid hf
      clear hf
      go_wp2_with fail
      have X1 : Soft lo B wr (wr) := (Soft.refl lo B wr)
      have ss1 : Soft lo B w (wr) := hs
      refine (mark_PhiS l[j].phis (.slice A0 l[j].phis.length p0) _ _ lo B (by omega) (by omega) (g0.soft softOk_phi X1)).mono ?_
      rintro e' w1 ⟨r1, rfl, a1, b1, z1⟩
      have hs1 := ss1.trans z1
      have c1_1 := z1.sl_at c1
      obtain ⟨n2_1, c2_1⟩ := z1.int_at c2
      have f2_1 : w1.frozen? ⟨b, o + j * 5 + 2, none⟩ = false := (z1.frozen _).trans (by simpa using hf'.out _)
      obtain ⟨n3_1, c3_1⟩ := z1.int_at c3
      have f3_1 : w1.frozen? ⟨b, o + j * 5 + 3, none⟩ = false := (z1.frozen _).trans (by simpa using hf'.out _)
      have c4_1 := z1.sl_at c4
      have Hf1 : Hid (∀ x : Nat, w1.frozen? ⟨b, x, none⟩ = false) := fun x => (z1.frozen _).trans (by simpa using hf'.out x)
      have g1 := g1.soft softOk_ins (X1.trans z1)
      have g4 := g4.soft softOk_int (X1.trans z1)
      go_wp2_with fail
      have X2 : Soft lo B w1 (w1) := (Soft.refl lo B w1)
      have ss2 : Soft lo B w (w1) := hs1
      refine (mark_InsS l[j].ins (.slice A1 l[j].ins.length p1) _ _ lo B (by omega) (by omega) (g1.soft softOk_ins X2)).mono ?_
      rintro e' w2 ⟨r2, rfl, a2, b2, z2⟩
      have hs2 := ss2.trans z2
      obtain ⟨n2_2, c2_2⟩ := z2.int_at c2_1
      have f2_2 : w2.frozen? ⟨b, o + j * 5 + 2, none⟩ = false := (z2.frozen _).trans (by simpa using Hf1.out _)
      obtain ⟨n3_2, c3_2⟩ := z2.int_at c3_1
      have f3_2 : w2.frozen? ⟨b, o + j * 5 + 3, none⟩ = false := (z2.frozen _).trans (by simpa using Hf1.out _)
      have c4_2 := z2.sl_at c4_1
      have Hf2 : Hid (∀ x : Nat, w2.frozen? ⟨b, x, none⟩ = false) := fun x => (z2.frozen _).trans (by simpa using Hf1.out x)
      have g4 := g4.soft softOk_int (X2.trans z2)
      go_wp2_with fail
      have X3 : Soft lo B w2 (((w2.setCell ⟨b, o + j * 5 + 2, none⟩ (.int .i64 (r2))).setCell ⟨b, o + j * 5 + 3, none⟩ (.int .i64 (r2 + 1)))) := (Soft.st (Soft.st (Soft.refl lo B w2) c2_2 hlb hbB _) ((World.cell?_setCell_other _ _ _ _ (addr_ne (by omega))).trans c3_2) hlb hbB _)
      have ss3 : Soft lo B w (((w2.setCell ⟨b, o + j * 5 + 2, none⟩ (.int .i64 (r2))).setCell ⟨b, o + j * 5 + 3, none⟩ (.int .i64 (r2 + 1)))) := (Soft.st (Soft.st hs2 c2_2 hlb hbB (r2)) ((World.cell?_setCell_other _ _ _ _ (addr_ne (by omega))).trans c3_2) hlb hbB (r2 + 1))
      refine (mark_IntS l[j].next (.slice A4 l[j].next.length p4) _ _ lo B (by omega) (by omega) (g4.soft softOk_int X3)).mono ?_
      rintro e' w3 ⟨r3, rfl, a3, b3, z3⟩
      have hs3 := ss3.trans z3
      go_wp2_with fail
      have hsE : Soft lo B w (w3) := hs3
      go_roundw
      case rel => exact ⟨j + 1, _, by omega, by go_num, rfl, by omega, (by have := HS.out; omega), hsE⟩
      case measure => simp [intOf]; omega
    · obtain rfl : j = l.length := by omega
      go_wp2_with fail
      go_ret
      exact ⟨_, rfl, by omega, by omega, hs⟩

set_option maxRecDepth 100000 in
theorem mark_CodeS (l : List CodeD) (v : Value) (k : Int) (w : World) (lo B : Nat) (k0 : 0 ≤ k) (hk : k + 3 * ((l.length + sumBy codeN l) : Nat) ≤ 1073741824) (hv : Sl true (codeS true) w lo B l v) :
    Calls Try.prog 24 #[v, .int .i64 k] w (MarkP k (l.length + sumBy codeN l) lo B w) := by
  obtain ⟨A, cap, rfl, hlc, hcm⟩ := hv.form
  go_enter Try.func24, Try.ntmps24
  go_wp2_with fail
  go_loopw [1, 5] (fun t i wr => ∃ (j : Nat) (r : Int), j ≤ l.length ∧ i = .int .i64 j ∧ t = .int .i64 r ∧ k ≤ r ∧ r ≤ k + 3 * (j + sumBy codeN (l.take j) : Nat) ∧ Soft lo B w wr) (fun _ i _ => l.length - (intOf i).toNat)
  case atStart => exact ⟨0, k, by omega, rfl, rfl, by omega, by omega, Soft.refl _ _ _⟩
  case round =>
    obtain ⟨j, r, hj, rfl, rfl, hr0, hr1, hs⟩ := hrel
    have Z0 := sumBy_le codeN l j
    by_cases hjl : j < l.length
    · have HS : Hid (sumBy codeN (l.take (j + 1)) = sumBy codeN (l.take j) + ((l[j].blocks.length + sumBy blkN l[j].blocks))) := sumBy_take codeN l hjl
      have Z1 := sumBy_le codeN l (j + 1)
      have ZZ : (l[j].blocks.length + sumBy blkN l[j].blocks) ≤ sumBy codeN l - sumBy codeN (l.take j) := by have := HS.out; omega
      obtain ⟨b, o, n0, n1, A2, p2, rfl, hlb, hbB, hf, g2, c0, c1, c2⟩ := code_getm (hv.soft softOk_code hs) hjl
      have f0 : wr.frozen? ⟨b, o + j * 3, none⟩ = false := hf _
      have f1 : wr.frozen? ⟨b, o + j * 3 + 1, none⟩ = false := hf _
      have hf' := Lib.hid hf
      clear hf
      go_wp2_with fail
      have X1 : Soft lo B wr (((wr.setCell ⟨b, o + j * 3, none⟩ (.int .i64 (r))).setCell ⟨b, o + j * 3 + 1, none⟩ (.int .i64 (r + 1)))) := (Soft.st (Soft.st (Soft.refl lo B wr) c0 hlb hbB _) ((World.cell?_setCell_other _ _ _ _ (addr_ne (by omega))).trans c1) hlb hbB _)
      have ss1 : Soft lo B w (((wr.setCell ⟨b, o + j * 3, none⟩ (.int .i64 (r))).setCell ⟨b, o + j * 3 + 1, none⟩ (.int .i64 (r + 1)))) := (Soft.st (Soft.st hs c0 hlb hbB (r)) ((World.cell?_setCell_other _ _ _ _ (addr_ne (by omega))).trans c1) hlb hbB (r + 1))
      refine (mark_BlockS l[j].blocks (.slice A2 l[j].blocks.length p2) _ _ lo B (by omega) (by omega) (g2.soft softOk_blk X1)).mono ?_
      rintro e' w1 ⟨r1, rfl, a1, b1, z1⟩
      have hs1 := ss1.trans z1
      go_wp2_with fail
      have hsE : Soft lo B w (w1) := hs1
      go_roundw
      case rel => exact ⟨j + 1, _, by omega, by go_num, rfl, by omega, (by have := HS.out; omega), hsE⟩
      case measure => simp [intOf]; omega
    · obtain rfl : j = l.length := by omega
      go_wp2_with fail
      go_ret
      exact ⟨_, rfl, by omega, by omega, hs⟩

theorem mark_Unit (v0 : Value) (codes : List CodeD) (k : Int) (w : World) (lo B : Nat) (hB : B ≤ w.heap.size) (k0 : 0 ≤ k) (hk : k + 3 * ((codes.length + sumBy codeN codes) : Nat) ≤ 1073741824) (h0 : Sl true (codeS true) w lo B codes v0) :
    Calls Try.prog 10 #[.agg #[v0], .int .i64 k] w (fun e w' => ∃ r : Int, e = .returned (.int .i64 r) ∧ k ≤ r ∧ r ≤ k + 3 * ((codes.length + sumBy codeN codes) : Nat) ∧ Soft lo B (w.alloc (.cells #[v0] 28)) w') := by
  obtain ⟨A, cap, rfl, _, _⟩ := h0.form
  go_enter Try.func10, Try.ntmps10
  go_wp2_with fail
  refine (mark_CodeS codes (.slice A codes.length cap) k _ lo B k0 (by omega) (h0.keep (Nat.le_refl _) (Nat.le_refl _) (fun b _ hb => Below.heap_alloc _ _ b (by omega)))).mono ?_
  rintro e w1 ⟨r, rfl, a1, b1, z1⟩
  go_wp2_with fail
  go_ret
  exact ⟨_, rfl, a1, by omega, z1⟩

end Go.Proofs.Ytgcjccoglcgcoaa

