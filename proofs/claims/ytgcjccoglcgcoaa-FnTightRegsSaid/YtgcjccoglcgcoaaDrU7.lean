/-
  The copy of a code by types, out of the exact copy: l7Copy. Condition: the code's memory goes by types.
-/
import Derived.Test.YtgcjccoglcgcoaaDrUe
import Derived.Test.YtgcjccoglcgcoaaTyA
import Derived.Test.YtgcjccoglcgcoaaCpc
namespace Go.Proofs.Ytgcjccoglcgcoaa
open Go.RowKit Go.ChangeShapes Go.WideShapes Go.Deep
variable {D : Nat}
set_option linter.unusedVariables false
set_option linter.unusedSimpArgs false
/-- what a copy answers: a value of new blocks; all old ones are as they were -/
def CpP (T : World → Value → Prop) (w : World) (e : Ending) (w' : World) : Prop := ∃ v, e = .returned v ∧ T w' v ∧ Below w.heap.size w w'
/-- bounds of data that memory by types has -/
def GI (D : Nat) (l : List Int) : Prop := l.length ≤ 30 + D
def GB (D : Nat) (a : BlkD) : Prop := (a.phis.length ≤ 4 + D ∧ ∀ f ∈ a.phis, GI D f.args) ∧ (a.ins.length ≤ 10 ∧ ∀ x ∈ a.ins, GI D x.args) ∧ GI D a.next
theorem TyI.slD {lo : Nat} {w : World} {v : Value} (h : TyI D lo w v) : ∃ l : List Int, GI D l ∧ Sl false (intS false) w lo w.heap.size l v := by
  obtain ⟨l, h1, _, _, h2⟩ := TyS.sl (S := intS false) (G := fun _ => True) h rfl (by omega) (fun f i hf => by
    obtain ⟨n, hn, e⟩ := hf 0 (by omega)
    exact ⟨n, by simp only [List.range_succ, List.range_zero, List.map_append, List.map_nil, List.map_cons, List.nil_append]; rw [e]; exact int_mk false _ _ _ hn, trivial⟩)
  exact ⟨l, h1, h2⟩
theorem TyPhis.slD {lo : Nat} {w : World} {v : Value} (h : TyPhis D lo w v) : ∃ l : List PhiD, l.length ≤ 4 + D ∧ (∀ a ∈ l, GI D a.args) ∧ Sl false (phiS false) w lo w.heap.size l v := by
  obtain ⟨l, h1, h2, _, h3⟩ := TyS.sl (S := phiS false) (G := fun a => GI D a.args) h rfl (by omega) (fun f i hf => by
    have p0 := hf 0 (by omega)
    have p1 := hf 1 (by omega)
    unfold PhiP at p0 p1
    rw [if_neg (by omega)] at p0
    rw [if_pos (by omega)] at p1
    obtain ⟨tg, ht, e0⟩ := p0
    obtain ⟨args, ha, hs⟩ := p1.slD
    exact ⟨⟨tg, args⟩, by rw [rng2, e0]; exact phi_mk false tg args _ ht hs, ha⟩)
  exact ⟨l, h1, h2, h3⟩
theorem TyInss.slD {lo : Nat} {w : World} {v : Value} (h : TyInss D lo w v) : ∃ l : List InsD, l.length ≤ 10 ∧ (∀ a ∈ l, GI D a.args) ∧ Sl false (insS false) w lo w.heap.size l v := by
  obtain ⟨l, h1, h2, _, h3⟩ := TyS.sl (S := insS false) (G := fun a => GI D a.args) h rfl (by omega) (fun f i hf => by
    have p0 := hf 0 (by omega)
    have p1 := hf 1 (by omega)
    have p2 := hf 2 (by omega)
    have p3 := hf 3 (by omega)
    unfold InsP at p0 p1 p2 p3
    rw [if_neg (by omega)] at p0 p1 p3
    rw [if_pos (by omega)] at p2
    obtain ⟨op, h0, e0⟩ := p0
    obtain ⟨tg, h1, e1⟩ := p1
    obtain ⟨args, ha, hs⟩ := p2.slD
    obtain ⟨n, hn, e3⟩ := p3
    exact ⟨⟨op, tg, args, n⟩, by rw [rng4, e0, e1, e3]; exact ins_mk false op tg args _ n h0 h1 hs hn, ha⟩)
  exact ⟨l, h1, h2, h3⟩
theorem TyBlks.slD {lo : Nat} {w : World} {v : Value} (h : TyBlks D lo w v) : ∃ l : List BlkD, l.length ≤ 10 ∧ (∀ a ∈ l, GB D a) ∧ (∃ A cap, v = .slice A l.length cap) ∧ Sl false (blkS false) w lo w.heap.size l v := by
  refine TyS.sl (S := blkS false) (G := GB D) h rfl (by omega) (fun f i hf => ?_)
  have p0 := hf 0 (by omega)
  have p1 := hf 1 (by omega)
  have p2 := hf 2 (by omega)
  have p3 := hf 3 (by omega)
  have p4 := hf 4 (by omega)
  unfold BlkP at p0 p1 p2 p3 p4
  rw [if_pos (by omega)] at p0
  rw [if_neg (by omega), if_pos (by omega)] at p1
  rw [if_neg (by omega), if_neg (by omega), if_neg (by omega)] at p2 p3
  rw [if_neg (by omega), if_neg (by omega), if_pos (by omega)] at p4
  obtain ⟨phis, a0, b0, s0⟩ := p0.slD
  obtain ⟨ins, a1, b1, s1⟩ := p1.slD
  obtain ⟨jump, hj, e2⟩ := p2
  obtain ⟨on, ho, e3⟩ := p3
  obtain ⟨next, a4, s4⟩ := p4.slD
  exact ⟨⟨phis, ins, jump, on, next⟩, by rw [rng5, e2, e3]; exact blk_mk false phis _ ins _ jump on next _ s0 s1 hj ho s4, ⟨a0, b0⟩, ⟨a1, b1⟩, a4⟩
theorem GB.small {a : BlkD} (hD : D ≤ 6) (h : GB D a) : blkN a ≤ 1000 := by
  obtain ⟨⟨h1, h2⟩, ⟨h3, h4⟩, h5⟩ := h
  unfold GI at h2 h4 h5
  have c0 := sumBy_few phiN 40 a.phis (fun f hf => by have := h2 f hf; unfold phiN; omega)
  have c1 := sumBy_few insN 40 a.ins (fun f hf => by have := h4 f hf; unfold insN; omega)
  unfold blkN
  omega
/-- what lies in blocks of a call's own goes by types -/
theorem SlF.ty {α : Type} {S : Fsh α} {t : TypeId} {size N lo : Nat} {w : World} {f : List Nat} {l : List α} {v : Value} {P : Nat → Value → Prop} (h : SlF S t w f l v) (hz : S.size = size) (hs : 0 < size) (hN : l.length ≤ N) (hf : ∀ x ∈ f, lo ≤ x)
    (hP : ∀ (a : α) (g : List Nat) (cs : List Value), a ∈ l → (∀ x ∈ g, lo ≤ x) → S.rep w g a cs → ∀ (i q : Nat) (u : Value), q < size → cs[q]? = some u → P (i * size + q) u) : TyS t size N lo w P v := by
  obtain ⟨A, cap, rfl, h1, h2, h3⟩ := h
  refine ⟨A, l.length, cap, rfl, hN, h1, h2, fun hc => ?_⟩
  rcases h3 with ⟨_, _, h4⟩ | ⟨b, cur, fps, rfl, R, hcz, hl, rfl, hcell⟩
  · omega
  · refine ⟨b, cur, rfl, hf b (by simp), R, by rw [hcz, hz], fun j hj => ?_⟩
    have hi : j / size < l.length := (Nat.div_lt_iff_lt_mul hs).2 hj
    have hq : j % size < size := Nat.mod_lt _ hs
    have hfp : fps[j / size]? = some (fps[j / size]'(by omega)) := List.getElem?_eq_getElem (by omega)
    obtain ⟨cs, hr, hcs⟩ := hcell (j / size) _ _ (List.getElem?_eq_getElem hi) hfp
    have hlen := S.len hr
    obtain ⟨u, hu⟩ : ∃ u, cs[j % size]? = some u := ⟨_, List.getElem?_eq_getElem (by omega)⟩
    have e : j / size * size + j % size = j := by
      rw [Nat.mul_comm]
      exact Nat.div_add_mod j size
    have k1 := hcs (j % size) u hu
    rw [hz, e] at k1
    have k2 := hP _ _ cs (List.getElem_mem hi) (fun x hx => hf x (List.mem_cons_of_mem _ (flat_mem hfp hx))) hr (j / size) (j % size) u hq hu
    rw [e] at k2
    exact ⟨u, k1, k2⟩
theorem SlF.tyI {lo : Nat} {w : World} {f : List Nat} {l : List Int} {v : Value} (h : SlF intF 3 w f l v) (hl : GI D l) (hf : ∀ x ∈ f, lo ≤ x) : TyI D lo w v :=
  SlF.ty h rfl (by omega) hl hf (fun a g cs _ _ hr i q u hq hu => by
    obtain ⟨_, rfl, hi⟩ := hr
    obtain rfl : q = 0 := by omega
    simp at hu
    subst hu
    exact ⟨a, hi, rfl⟩)
theorem SlF.tyPhis {lo : Nat} {w : World} {f : List Nat} {l : List PhiD} {v : Value} (h : SlF phF 69 w f l v) (hl : l.length ≤ 4 + D) (hg : ∀ a ∈ l, GI D a.args) (hf : ∀ x ∈ f, lo ≤ x) : TyPhis D lo w v :=
  SlF.ty h rfl (by omega) hl hf (fun a g cs ha hgf hr i q u hq hu => by
    obtain ⟨v1, rfl, hi, hs⟩ := hr
    unfold PhiP
    have hq2 : q = 0 ∨ q = 1 := by omega
    rcases hq2 with rfl | rfl
    · simp at hu
      subst hu
      rw [if_neg (by omega)]
      exact ⟨_, hi, rfl⟩
    · simp at hu
      subst hu
      rw [if_pos (by omega)]
      exact hs.tyI (hg a ha) hgf)
theorem SlF.tyInss {lo : Nat} {w : World} {f : List Nat} {l : List InsD} {v : Value} (h : SlF isF 72 w f l v) (hl : l.length ≤ 10) (hg : ∀ a ∈ l, GI D a.args) (hf : ∀ x ∈ f, lo ≤ x) : TyInss D lo w v :=
  SlF.ty h rfl (by omega) hl hf (fun a g cs ha hgf hr i q u hq hu => by
    obtain ⟨v1, rfl, h0, h1, h2, hs⟩ := hr
    unfold InsP
    have hq2 : q = 0 ∨ q = 1 ∨ q = 2 ∨ q = 3 := by omega
    rcases hq2 with rfl | rfl | rfl | rfl
    · simp at hu
      subst hu
      rw [if_neg (by omega)]
      exact ⟨_, h0, rfl⟩
    · simp at hu
      subst hu
      rw [if_neg (by omega)]
      exact ⟨_, h1, rfl⟩
    · simp at hu
      subst hu
      rw [if_pos (by omega)]
      exact hs.tyI (hg a ha) hgf
    · simp at hu
      subst hu
      rw [if_neg (by omega)]
      exact ⟨_, h2, rfl⟩)
theorem SlF.tyBlks {lo : Nat} {w : World} {f : List Nat} {l : List BlkD} {v : Value} (h : SlF bkF 65 w f l v) (hl : l.length ≤ 10) (hg : ∀ a ∈ l, GB D a) (hf : ∀ x ∈ f, lo ≤ x) : TyBlks D lo w v :=
  SlF.ty h rfl (by omega) hl hf (fun a g cs ha hgf hr i q u hq hu => by
    obtain ⟨f0, f1, f2, v0, v1, v2, rfl, rfl, h0, h1, s0, s1, s2⟩ := hr
    obtain ⟨⟨b0, b1⟩, ⟨b2, b3⟩, b4⟩ := hg a ha
    unfold BlkP
    have hq2 : q = 0 ∨ q = 1 ∨ q = 2 ∨ q = 3 ∨ q = 4 := by omega
    rcases hq2 with rfl | rfl | rfl | rfl | rfl
    · simp at hu
      subst hu
      rw [if_pos (by omega)]
      exact s0.tyPhis b0 b1 (fun x hx => hgf x (by simp [hx]))
    · simp at hu
      subst hu
      rw [if_neg (by omega), if_pos (by omega)]
      exact s1.tyInss b2 b3 (fun x hx => hgf x (by simp [hx]))
    · simp at hu
      subst hu
      rw [if_neg (by omega), if_neg (by omega), if_neg (by omega)]
      exact ⟨_, h0, rfl⟩
    · simp at hu
      subst hu
      rw [if_neg (by omega), if_neg (by omega), if_neg (by omega)]
      exact ⟨_, h1, rfl⟩
    · simp at hu
      subst hu
      rw [if_neg (by omega), if_neg (by omega), if_pos (by omega)]
      exact s2.tyI b4 (fun x hx => hgf x (by simp [hx])))
/-- a code as a copy answers it -/
def CodC (D lo : Nat) (w : World) (v : Value) : Prop := ∃ (m r : Nat) (A : Option Addr) (n c : Nat), v = .agg #[.int .i64 (m : Int), .int .i64 (r : Int), .slice A n c] ∧ m ≤ 3 ∧ r ≤ 300 ∧ TyBlks D lo w (.slice A n c) ∧ 0 < n
theorem copy_ok (lo : Nat) (w : World) (hD : D ≤ 6) (m1 r1 : Nat) (A9 : Option Addr) (nb cb : Nat) (hm1 : m1 ≤ 3) (hr1 : r1 ≤ 300) (tb : TyBlks D lo w (.slice A9 nb cb)) (hnb : 0 < nb) :
    Calls Try.prog 68 #[.agg #[.int .i64 (m1 : Int), .int .i64 (r1 : Int), .slice A9 nb cb]] w (CpP (fun w' v => CodC D w.heap.size w' v) w) := by
  obtain ⟨blocks, hl, hg, ⟨A', cap', hv⟩, hs⟩ := tb.slD
  injection hv with _ hn _
  have c2 := sumBy_few blkN 1000 blocks (fun a ha => (hg a ha).small hD)
  refine (spec_l7Copy (m1 : Int) (r1 : Int) blocks (.slice A9 nb cb) w lo w.heap.size (Nat.le_refl _) (show blocks.length + sumBy blkN blocks ≤ 1048576 by omega) ⟨by omega, by omega⟩ ⟨by omega, by omega⟩ hs).mono ?_
  rintro e w' ⟨cs, f, rfl, ⟨v', hcs, _, _, sl⟩, _, hf, hb⟩
  replace sl : SlF bkF 65 w' f blocks v' := sl
  obtain ⟨A2, p2, hv2, _, _⟩ := sl.form
  subst hv2
  change cs = [.int .i64 (m1 : Int), .int .i64 (r1 : Int), .slice A2 blocks.length p2] at hcs
  subst hcs
  exact ⟨_, rfl, ⟨m1, r1, A2, blocks.length, p2, rfl, hm1, hr1, sl.tyBlks hl hg hf, by omega⟩, hb⟩
end Go.Proofs.Ytgcjccoglcgcoaa
