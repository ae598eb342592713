/-
  Memory that goes by types reads as data. No condition.
-/
import Derived.Test.YtafembiemaflfaaTy
namespace Go.Proofs.Ytafembiemaflfaa
open Go.RowKit Go.ChangeShapes Go.WideShapes Go.Deep
variable {D : Nat}
set_option linter.unusedVariables false
set_option linter.unusedSimpArgs false
theorem TyS.sl {α : Type} {S : Shp α} {t : TypeId} {size N lo : Nat} {w : World} {P : Nat → Value → Prop} {v : Value} {G : α → Prop} (h : TyS t size N lo w P v) (hz : S.size = size) (hs : 0 < size)
    (hR : ∀ (f : Nat → Value) (i : Nat), (∀ q, q < size → P (i * size + q) (f q)) → ∃ a, S.rep w lo w.heap.size a ((List.range size).map f) ∧ G a) :
    ∃ l : List α, l.length ≤ N ∧ (∀ a ∈ l, G a) ∧ (∃ A cap, v = .slice A l.length cap) ∧ Sl false S w lo w.heap.size l v := by
  obtain ⟨A, n, cap, rfl, h1, h2, h3, h4⟩ := h
  by_cases hc : cap = 0
  · obtain rfl : n = 0 := by omega
    exact ⟨[], by simp, (fun a ha => by cases ha), ⟨A, cap, rfl⟩, A, cap, rfl, by simp, h3, fun hl => absurd rfl hl⟩
  · obtain ⟨b, cur, rfl, hb, R, hcs, hcells⟩ := h4 (by omega)
    have hcell : ∀ i, i < n → ∀ q, q < size → ∃ u, cur[i * size + q]? = some u ∧ P (i * size + q) u := fun i hi q hq => hcells _ (by
      have : (i + 1) * size ≤ n * size := Nat.mul_le_mul_right _ hi
      rw [Nat.add_mul, Nat.one_mul] at this
      omega)
    obtain ⟨l, hl, hla⟩ := choose_list (n := n) (p := fun i a => (∃ f : Nat → Value, (∀ q, q < size → cur[i * size + q]? = some (f q)) ∧ S.rep w lo w.heap.size a ((List.range size).map f)) ∧ G a) (fun i hi => by
      have hf : ∀ q, ∃ u, q < size → cur[i * size + q]? = some u ∧ P (i * size + q) u := fun q => by
        by_cases hq : q < size
        · obtain ⟨u, hu⟩ := hcell i hi q hq
          exact ⟨u, fun _ => hu⟩
        · exact ⟨.nilFunc, fun h => absurd h hq⟩
      obtain ⟨a, ha, hg⟩ := hR (fun q => Classical.choose (hf q)) i (fun q hq => (Classical.choose_spec (hf q) hq).2)
      exact ⟨a, ⟨_, fun q hq => (Classical.choose_spec (hf q) hq).1, ha⟩, hg⟩)
    refine ⟨l, by omega, fun a ha => ?_, ⟨_, _, by rw [hl]⟩, some ⟨b, 0, none⟩, cap, by rw [hl], by omega, h3, fun _ => ⟨b, 0, rfl, hb, R.lt, (fun h => by cases h), fun i a ha => ?_⟩⟩
    · obtain ⟨i, hi⟩ := List.mem_iff_getElem?.1 ha
      exact (hla i a hi).2
    · obtain ⟨⟨f, hf, hrep⟩, _⟩ := hla i a ha
      refine ⟨_, hrep, fun j u hu => ?_⟩
      have hj : j < size := by simpa using (List.getElem?_eq_some_iff.1 hu).1
      rw [List.getElem?_map, List.getElem?_range hj] at hu
      simp at hu
      subst hu
      rw [hz, Nat.zero_add]
      exact (R.cell _).trans (hf j hj)
theorem TyI.sl {lo : Nat} {w : World} {v : Value} (hD : D ≤ 6) (h : TyI D lo w v) : ∃ l : List Int, l.length ≤ 40 ∧ Sl false (intS false) w lo w.heap.size l v := by
  obtain ⟨l, h1, _, _, h2⟩ := TyS.sl (S := intS false) (G := fun _ => True) h rfl (by omega) (fun f i hf => by
    obtain ⟨n, hn, e⟩ := hf 0 (by omega)
    exact ⟨n, by simp only [List.range_succ, List.range_zero, List.map_append, List.map_nil, List.map_cons, List.nil_append]; rw [e]; exact int_mk false _ _ _ hn, trivial⟩)
  exact ⟨l, by omega, h2⟩
theorem rng2 (f : Nat → Value) : (List.range 2).map f = [f 0, f 1] := rfl
theorem rng3 (f : Nat → Value) : (List.range 3).map f = [f 0, f 1, f 2] := rfl
theorem rng4 (f : Nat → Value) : (List.range 4).map f = [f 0, f 1, f 2, f 3] := rfl
theorem rng5 (f : Nat → Value) : (List.range 5).map f = [f 0, f 1, f 2, f 3, f 4] := rfl
theorem TyPhis.sl {lo : Nat} {w : World} {v : Value} (hD : D ≤ 6) (h : TyPhis D lo w v) : ∃ l : List PhiD, l.length ≤ 10 ∧ (∀ a ∈ l, phiN a ≤ 40) ∧ Sl false (phiS false) w lo w.heap.size l v := by
  obtain ⟨l, h1, h2, _, h3⟩ := TyS.sl (S := phiS false) (G := fun a => phiN a ≤ 40) h rfl (by omega) (fun f i hf => by
    have p0 := hf 0 (by omega)
    have p1 := hf 1 (by omega)
    unfold PhiP at p0 p1
    rw [if_neg (by omega)] at p0
    rw [if_pos (by omega)] at p1
    obtain ⟨to, ht, e0⟩ := p0
    obtain ⟨args, ha, hs⟩ := p1.sl hD
    exact ⟨⟨to, args⟩, by rw [rng2, e0]; exact phi_mk false to args _ ht hs, ha⟩)
  exact ⟨l, by omega, h2, h3⟩
theorem TyInss.sl {lo : Nat} {w : World} {v : Value} (hD : D ≤ 6) (h : TyInss D lo w v) : ∃ l : List InsD, l.length ≤ 10 ∧ (∀ a ∈ l, insN a ≤ 40) ∧ Sl false (insS false) w lo w.heap.size l v := by
  obtain ⟨l, h1, h2, _, h3⟩ := TyS.sl (S := insS false) (G := fun a => insN a ≤ 40) h rfl (by omega) (fun f i hf => by
    have p0 := hf 0 (by omega)
    have p1 := hf 1 (by omega)
    have p2 := hf 2 (by omega)
    have p3 := hf 3 (by omega)
    unfold InsP at p0 p1 p2 p3
    rw [if_neg (by omega)] at p0 p1 p3
    rw [if_pos (by omega)] at p2
    obtain ⟨op, h0, e0⟩ := p0
    obtain ⟨to, h1, e1⟩ := p1
    obtain ⟨args, ha, hs⟩ := p2.sl hD
    obtain ⟨n, hn, e3⟩ := p3
    exact ⟨⟨op, to, args, n⟩, by rw [rng4, e0, e1, e3]; exact ins_mk false op to args _ n h0 h1 hs hn, ha⟩)
  exact ⟨l, h1, h2, h3⟩
theorem sumBy_few {α : Type} (f : α → Nat) (K : Nat) : ∀ l : List α, (∀ a ∈ l, f a ≤ K) → sumBy f l ≤ l.length * K
  | [], _ => by simp [sumBy]
  | a :: r, h => by
    have h1 := h a (by simp)
    have h2 := sumBy_few f K r (fun x hx => h x (by simp [hx]))
    have e : sumBy f (a :: r) = f a + sumBy f r := by simp [sumBy]
    rw [e, List.length_cons, Nat.add_mul, Nat.one_mul]
    omega
theorem TyBlks.sl {lo : Nat} {w : World} {v : Value} (hD : D ≤ 6) (h : TyBlks D lo w v) : ∃ l : List BlkD, l.length ≤ 10 ∧ (∀ a ∈ l, blkN a ≤ 1000) ∧ (∃ A cap, v = .slice A l.length cap) ∧ Sl false (blkS false) w lo w.heap.size l v := by
  refine TyS.sl (S := blkS false) (G := fun a => blkN a ≤ 1000) h rfl (by omega) (fun f i hf => ?_)
  have p0 := hf 0 (by omega)
  have p1 := hf 1 (by omega)
  have p2 := hf 2 (by omega)
  have p3 := hf 3 (by omega)
  have p4 := hf 4 (by omega)
  unfold BlkP at p0 p1 p2 p3 p4
  rw [if_pos (by omega)] at p0
  rw [if_neg (by omega), if_pos (by omega)] at p1
  rw [if_neg (by omega), if_neg (by omega), if_neg (by omega)] at p2 p3
  rw [if_neg (by omega), if_neg (by omega), if_pos (by omega)] at p4
  obtain ⟨phis, a0, b0, s0⟩ := p0.sl hD
  obtain ⟨ins, a1, b1, s1⟩ := p1.sl hD
  obtain ⟨jump, hj, e2⟩ := p2
  obtain ⟨on, ho, e3⟩ := p3
  obtain ⟨next, a4, s4⟩ := p4.sl hD
  refine ⟨⟨phis, ins, jump, on, next⟩, by rw [rng5, e2, e3]; exact blk_mk false phis _ ins _ jump on next _ s0 s1 hj ho s4, ?_⟩
  have c0 := sumBy_few phiN 40 phis b0
  have c1 := sumBy_few insN 40 ins b1
  show (phis.length + sumBy phiN phis) + (ins.length + sumBy insN ins) + next.length ≤ 1000
  omega
theorem TyCods.sl {lo : Nat} {w : World} {v : Value} (hD : D ≤ 6) (h : TyCods D lo w v) : ∃ l : List CodeD, l.length ≤ 10 ∧ (∀ a ∈ l, codeN a ≤ 10010) ∧ (∃ A cap, v = .slice A l.length cap) ∧ Sl false (codeS false) w lo w.heap.size l v := by
  refine TyS.sl (S := codeS false) (G := fun a => codeN a ≤ 10010) h rfl (by omega) (fun f i hf => ?_)
  have p0 := hf 0 (by omega)
  have p1 := hf 1 (by omega)
  have p2 := hf 2 (by omega)
  unfold CodP at p0 p1 p2
  rw [if_pos (by omega)] at p0
  rw [if_neg (by omega), if_pos (by omega)] at p1
  rw [if_neg (by omega), if_neg (by omega)] at p2
  obtain ⟨m, hm, e0⟩ := p0
  obtain ⟨r, hr, e1⟩ := p1
  obtain ⟨blocks, a2, b2, _, s2⟩ := p2.1.sl hD
  refine ⟨⟨(m : Int), (r : Int), blocks⟩, by rw [rng3, e0, e1]; exact code_mk false (m : Int) (r : Int) blocks _ ⟨by omega, by omega⟩ ⟨by omega, by omega⟩ s2, ?_⟩
  have c2 := sumBy_few blkN 1000 blocks b2
  show blocks.length + sumBy blkN blocks ≤ 10010
  omega
/-- the size of a drawn unit -/
theorem cods_small {l : List CodeD} (h1 : l.length ≤ 10) (h2 : ∀ a ∈ l, codeN a ≤ 10010) : l.length + sumBy codeN l ≤ 1048576 := by
  have := sumBy_few codeN 10010 l h2
  omega
end Go.Proofs.Ytafembiemaflfaa
