/-
  Expressions whose parts lie apart are marked, and asked for their marks. Conditions: they may be written.
-/
import Derived.Test.YtnamciblapddbaaDoorMarkS
import Derived.Test.YtnamciblapddbaaDoorTree
namespace Go.Proofs.YtnamciblapddbaaDoor
open Go.RowKit Go.ChangeShapes Go.WideShapes Go.Deep
set_option linter.unusedSimpArgs false
set_option linter.unusedVariables false
mutual
/-- the expression with its marks, from k on -/
def mkE : Ex → Nat → Ex
  | .mk _ _ _ kids, k => .mk (k : Int) ((k : Int) + 1) (mtx (k + 2)) (mkL kids (k + 3))
def mkL : List Ex → Nat → List Ex
  | [], _ => []
  | e :: r, k => mkE e k :: mkL r (k + 3 * partsE e)
end
theorem mkE_mk (op n : Int) (name : ByteArray) (kids : List Ex) (k : Nat) : mkE (.mk op n name kids) k = .mk (k : Int) ((k : Int) + 1) (mtx (k + 2)) (mkL kids (k + 3)) := by rw [mkE]
theorem mkL_length : ∀ (l : List Ex) (k : Nat), (mkL l k).length = l.length
  | [], k => by rw [mkL]
  | e :: r, k => by rw [mkL, List.length_cons, List.length_cons, mkL_length r]
theorem mkL_get : ∀ (l : List Ex) (k i : Nat) (a : Ex), l[i]? = some a → (mkL l k)[i]? = some (mkE a (k + 3 * partsL (l.take i)))
  | [], k, i, a, h => by simp at h
  | e :: r, k, 0, a, h => by
    simp at h
    subst h
    rw [mkL, List.take_zero, partsL_nil]
    rfl
  | e :: r, k, i + 1, a, h => by
    rw [List.getElem?_cons_succ] at h
    rw [mkL, List.getElem?_cons_succ, mkL_get r _ i a h, List.take_succ_cons, partsL_cons]
    congr 2
    omega
theorem partsL_split (l : List Ex) : ∀ j, partsL (l.take j) + partsL (l.drop j) = partsL l := by
  induction l with
  | nil => intro j; simp [partsL_nil]
  | cons a r ih =>
    intro j
    cases j with
    | zero => simp [partsL_nil]
    | succ j =>
      have := ih j
      rw [List.take_succ_cons, List.drop_succ_cons, partsL_cons, partsL_cons]
      omega
theorem I64_nat {k : Nat} (h : k ≤ 1073741827) : I64 (k : Int) := ⟨by omega, by omega⟩
def MarkXP (k : Nat) (l : List Ex) (D lo B : Nat) (v : Value) (w : World) (e : Ending) (w' : World) : Prop :=
  e = .returned (.int .i64 ((k : Int) + 3 * (partsL l : Nat))) ∧ SlT false (exT false D) w' lo B (mkL l k) v ∧ Soft lo B w w'
def MarkXAt (D : Nat) : Prop := ∀ (l : List Ex) (v : Value) (k : Nat) (w : World) (lo B : Nat) (_ : k + 3 * partsL l ≤ 1073741824) (_ : B ≤ w.heap.size) (_ : SlT true (exT true D) w lo B l v), Calls Tryd.prog 53 #[v, .int .i64 (k : Int)] w (MarkXP k l D lo B v w)
/-- element i, marked or not -/
def ElX (D : Nat) (w : World) (b : Nat) (p q : Nat → Nat) (i j : Nat) (a y : Ex) : Prop :=
  if i < j then ∃ cs, (exT false D).rep w (p i) (q i) y cs ∧ ∀ (c : Nat) (u : Value), cs[c]? = some u → w.cell? ⟨b, i * 4 + c, none⟩ = some u
  else ∃ cs, (exT true D).rep w (p i) (q i) a cs ∧ ∀ (c : Nat) (u : Value), cs[c]? = some u → w.cell? ⟨b, i * 4 + c, none⟩ = some u
theorem ElX.keep {D : Nat} {w w' : World} {b : Nat} {p q : Nat → Nat} {i j j' : Nat} {a y : Ex} (h : ElX D w b p q i j a y) (hj : i < j ↔ i < j') (hk : ∀ x : Nat, p i ≤ x → x < q i → w'.heap[x]? = w.heap[x]?) (hc : ∀ c, c < 4 → w'.cell? ⟨b, i * 4 + c, none⟩ = w.cell? ⟨b, i * 4 + c, none⟩) : ElX D w' b p q i j' a y := by
  unfold ElX at h ⊢
  by_cases hi : i < j
  · rw [if_pos hi] at h
    rw [if_pos (hj.1 hi)]
    obtain ⟨cs, hr, hcs⟩ := h
    have hl := (exT false D).len hr
    rw [exT_size] at hl
    exact ⟨cs, (exT false D).keep hr (Nat.le_refl _) (Nat.le_refl _) hk, fun c u hu => (hc c (by have := (List.getElem?_eq_some_iff.1 hu).1; omega)).trans (hcs c u hu)⟩
  · rw [if_neg hi] at h
    rw [if_neg (fun h' => hi (hj.2 h'))]
    obtain ⟨cs, hr, hcs⟩ := h
    have hl := (exT true D).len hr
    rw [exT_size] at hl
    exact ⟨cs, (exT true D).keep hr (Nat.le_refl _) (Nat.le_refl _) hk, fun c u hu => (hc c (by have := (List.getElem?_eq_some_iff.1 hu).1; omega)).trans (hcs c u hu)⟩
set_option maxRecDepth 100000 in
set_option maxHeartbeats 4000000 in
theorem markx_step (D : Nat) (ih : ∀ d, D = d + 1 → MarkXAt d) : MarkXAt D := by
  intro l v k w lo B hk hB hv
  obtain ⟨A, cap, rfl, hlc, hcm, h3⟩ := hv
  have hcm' : cap ≤ 9223372036854775807 := by unfold maxLen at hcm; omega
  obtain ⟨b, p, q, hA⟩ : ∃ (b : Nat) (p q : Nat → Nat), l ≠ [] → A = some ⟨b, 0, none⟩ ∧ lo ≤ b ∧ b < B ∧ (∀ j : Nat, w.frozen? ⟨b, j, none⟩ = false) ∧ ∀ (i : Nat) (a : Ex), l[i]? = some a → lo ≤ p i ∧ q i ≤ B ∧ p i ≤ q i ∧ (b < p i ∨ q i ≤ b) ∧ (∀ j, j < i → q j ≤ p i) ∧ ∃ cs, (exT true D).rep w (p i) (q i) a cs ∧ ∀ (j : Nat) (u : Value), cs[j]? = some u → w.cell? ⟨b, i * (exT true D).size + j, none⟩ = some u := by
    by_cases hl : l = []
    · exact ⟨0, fun _ => 0, fun _ => 0, fun h => absurd hl h⟩
    · obtain ⟨b, p, q, h⟩ := h3 hl
      exact ⟨b, p, q, fun _ => h⟩
  clear h3
  replace ih := Lib.hid ih
  have hstart : ∀ (i : Nat) (a : Ex), l[i]? = some a → ElX D w b p q i 0 a (mkE a (k + 3 * partsL (l.take i))) := fun i a ha => by
    obtain ⟨_, _, _, _, h5⟩ := hA (fun e => by rw [e] at ha; simp at ha)
    obtain ⟨_, _, _, _, _, cs, hr, hc⟩ := h5 i a ha
    unfold ElX
    rw [if_neg (Nat.not_lt_zero _)]
    rw [exT_size] at hc
    exact ⟨cs, hr, hc⟩
  replace hstart := Lib.hid hstart
  go_enter Tryd.func53, Tryd.ntmps53
  go_wp2_with fail
  go_loopw [1, 5] (fun t i wr => ∃ j : Nat, j ≤ l.length ∧ i = .int .i64 j ∧ t = .int .i64 ((k : Int) + 3 * (partsL (l.take j) : Nat)) ∧ Soft lo B w wr ∧ Hid (∀ (i : Nat) (a : Ex), l[i]? = some a → ElX D wr b p q i j a (mkE a (k + 3 * partsL (l.take i))))) (fun _ i _ => l.length - (intOf i).toNat)
  case atStart => exact ⟨0, by omega, rfl, by rw [List.take_zero, partsL_nil]; simp, Soft.refl _ _ _, hstart⟩
  case round =>
    obtain ⟨j, hj, rfl, rfl, hs, HD⟩ := hrel
    by_cases hjl : j < l.length
    · obtain ⟨hA1, hlb, hbB, hfr, hel⟩ := hA (List.ne_nil_of_length_pos (by omega))
      subst hA1
      obtain ⟨x1, x2, x3, x4, x5, _⟩ := hel j l[j] (List.getElem?_eq_getElem hjl)
      have hdis : ∀ (i : Nat) (a : Ex), l[i]? = some a → i ≠ j → (q i ≤ p j ∨ q j ≤ p i) ∧ (b < p i ∨ q i ≤ b) ∧ q i ≤ B := fun i a ha hne => by
        obtain ⟨_, y2, _, y4, y5, _⟩ := hel i a ha
        refine ⟨?_, y4, y2⟩
        rcases Nat.lt_or_ge i j with h | h
        · exact Or.inl (x5 i h)
        · exact Or.inr (y5 j (by omega))
      replace hdis := Lib.hid hdis
      have h4 := HD.out j l[j] (List.getElem?_eq_getElem hjl)
      unfold ElX at h4
      rw [if_neg (Nat.lt_irrefl _)] at h4
      obtain ⟨cs, hr, hc⟩ := h4
      obtain ⟨d, rfl⟩ : ∃ d, D = d + 1 := by
        cases D with
        | zero => exact hr.elim
        | succ d => exact ⟨d, rfl⟩
      obtain ⟨c0, c1, c2, c3, rfl, h0, h1, h2, ⟨v3, e3, g3⟩⟩ := hr
      obtain ⟨n0, e0⟩ := int_any h0
      injection e0 with e0
      subst e0
      obtain ⟨n1, e1⟩ := int_any h1
      injection e1 with e1
      subst e1
      obtain ⟨s2, e2⟩ := str_any h2
      injection e2 with e2
      subst e2
      injection e3 with e3
      subst e3
      obtain ⟨A3, p3, hx3, _, _⟩ := g3.form
      subst hx3
      have d0 : wr.cell? ⟨b, j * 4, none⟩ = some (.int .i64 n0) := hc 0 _ rfl
      have d1 : wr.cell? ⟨b, j * 4 + 1, none⟩ = some (.int .i64 n1) := hc 1 _ rfl
      have d2 : wr.cell? ⟨b, j * 4 + 2, none⟩ = some (.string s2) := hc 2 _ rfl
      have hsp := partsL_split l (j + 1)
      have hp2 : partsL (l.take (j + 1)) = partsL (l.take j) + (1 + partsL l[j].kids) := by
        have h1 := partsL_split l j
        rw [drop_cons hjl rfl, partsL_cons] at h1
        have h3 : partsE l[j] = 1 + partsL l[j].kids := by
          cases l[j] with
          | mk op n name kids => rw [partsE_mk]; rfl
        omega
      have hmk : mkE l[j] (k + 3 * partsL (l.take j)) = .mk ((k + 3 * partsL (l.take j) : Nat) : Int) (((k + 3 * partsL (l.take j) : Nat) : Int) + 1) (mtx (k + 3 * partsL (l.take j) + 2)) (mkL l[j].kids (k + 3 * partsL (l.take j) + 3)) := by
        cases l[j] with
        | mk op n name kids => rw [mkE_mk]; rfl
      obtain ⟨K3, hK3⟩ : ∃ K3, K3 = l[j].kids := ⟨_, rfl⟩
      rw [← hK3] at g3 hc hp2 hmk
      have d3 : wr.cell? ⟨b, j * 4 + 3, none⟩ = some (.slice A3 K3.length p3) := hc 3 _ rfl
      obtain ⟨T, hT⟩ : ∃ T, T = partsL (l.take j) := ⟨_, rfl⟩
      rw [← hT] at hp2 hmk
      rw [← hT]
      replace hK3 := Lib.hid hK3
      replace hT := Lib.hid hT
      replace hmk := Lib.hid hmk
      have hbw : b < wr.heap.size := World.block_lt_of_cell? wr _ d0
      have hfz : ∀ o : Nat, wr.frozen? ⟨b, o, none⟩ = false := fun o => (hs.frozen ⟨b, o, none⟩ (by have := hs.size; show b < w.heap.size; omega)).trans (hfr o)
      have f0 := hfz (j * 4)
      have f1 := hfz (j * 4 + 1)
      have f2 := hfz (j * 4 + 2)
      replace hfz := Lib.hid hfz
      clear hc hA hel hfr
      have hT3 : T + 1 + partsL K3 ≤ partsL l := by omega
      replace hp2 := Lib.hid hp2
      go_wp2_with fail
      refine (mark_Texti ((k : Int) + 3 * (T : Int) + 1 + 1) _ (by omega) (by omega)).mono ?_
      rintro e w1 ⟨rfl, b1⟩
      have hsw := hs.size
      have S1 : Soft lo B wr (wr.setCell ⟨b, j * 4, none⟩ (.int .i64 ((k : Int) + 3 * (T : Int)))) := (Soft.refl _ _ _).st d0 hlb hbB _
      have d1' : (wr.setCell ⟨b, j * 4, none⟩ (.int .i64 ((k : Int) + 3 * (T : Int)))).cell? ⟨b, j * 4 + 1, none⟩ = some (.int .i64 n1) := (World.cell?_setCell_other _ _ _ _ (addr_ne (by omega))).trans d1
      have S2 := S1.st d1' hlb hbB ((k : Int) + 3 * (T : Int) + 1)
      obtain ⟨W2, hW2⟩ : ∃ W2, W2 = (wr.setCell ⟨b, j * 4, none⟩ (.int .i64 ((k : Int) + 3 * (T : Int)))).setCell ⟨b, j * 4 + 1, none⟩ (.int .i64 ((k : Int) + 3 * (T : Int) + 1)) := ⟨_, rfl⟩
      have e0 : W2.cell? ⟨b, j * 4, none⟩ = some (.int .i64 ((k : Int) + 3 * (T : Int))) := by
        rw [hW2]
        exact (World.cell?_setCell_other _ _ _ _ (addr_ne (by omega))).trans (World.cell?_setCell_same _ _ _ d0)
      have e1 : W2.cell? ⟨b, j * 4 + 1, none⟩ = some (.int .i64 ((k : Int) + 3 * (T : Int) + 1)) := by
        rw [hW2]
        exact World.cell?_setCell_same _ _ _ d1'
      have e2 : W2.cell? ⟨b, j * 4 + 2, none⟩ = some (.string s2) := by
        rw [hW2]
        exact (World.cell?_setCell_other _ _ _ _ (addr_ne (by omega))).trans ((World.cell?_setCell_other _ _ _ _ (addr_ne (by omega))).trans d2)
      have e3 : W2.cell? ⟨b, j * 4 + 3, none⟩ = some (.slice A3 K3.length p3) := by
        rw [hW2]
        exact (World.cell?_setCell_other _ _ _ _ (addr_ne (by omega))).trans ((World.cell?_setCell_other _ _ _ _ (addr_ne (by omega))).trans d3)
      have eo : ∀ x : Nat, x ≠ b → W2.heap[x]? = wr.heap[x]? := fun x hx => by
        rw [hW2]
        exact (Below.heap_setCell _ _ _ x hx).trans (Below.heap_setCell _ _ _ x hx)
      have ec : ∀ o : Nat, o ≠ j * 4 → o ≠ j * 4 + 1 → W2.cell? ⟨b, o, none⟩ = wr.cell? ⟨b, o, none⟩ := fun o h1 h2 => by
        rw [hW2]
        exact (World.cell?_setCell_other _ _ _ _ (addr_ne (Ne.symm h2))).trans (World.cell?_setCell_other _ _ _ _ (addr_ne (Ne.symm h1)))
      rw [← hW2] at b1 S2
      have hsz2 : wr.heap.size = W2.heap.size := by rw [hW2]; simp
      replace eo := Lib.hid eo
      replace ec := Lib.hid ec
      replace hsz2 := Lib.hid hsz2
      clear hW2 S1 d1'
      have hb2 : b < W2.heap.size := by have := hsz2.out; omega
      have cw : ∀ o : Nat, w1.cell? ⟨b, o, none⟩ = W2.cell? ⟨b, o, none⟩ := fun o => b1.cell (p := ⟨b, o, none⟩) hb2
      have q0 := (cw (j * 4)).trans e0
      have q1 := (cw (j * 4 + 1)).trans e1
      have q2 := (cw (j * 4 + 2)).trans e2
      have q3 := (cw (j * 4 + 3)).trans e3
      have S3 := S2.trans (Soft.of_below b1)
      have f2' : w1.frozen? ⟨b, j * 4 + 2, none⟩ = false := (S3.frozen _ hbw).trans f2
      have S4 := S3.sts q2 hlb hbB (mtx ((k : Int) + 3 * (T : Int) + 1 + 1).toNat)
      have hqB : q j ≤ wr.heap.size := by omega
      have g4 : SlT true (exT true d) (w1.setCell ⟨b, j * 4 + 2, none⟩ (.string (mtx ((k : Int) + 3 * (T : Int) + 1 + 1).toNat))) (p j) (q j) K3 (.slice A3 K3.length p3) := g3.keep (Nat.le_refl _) (Nat.le_refl _) (fun x h1 h2 => (Below.heap_setCell _ _ _ x (by show x ≠ b; omega)).trans ((b1.block x (by have := hsz2.out; omega)).trans (eo.out x (by omega))))
      have hsz4 : wr.heap.size ≤ w1.heap.size := by have := b1.size; have := hsz2.out; omega
      replace cw := Lib.hid cw
      clear d0 d1 d2 d3 f0 f1 f2 e0 e1 e2 e3 S2 g3
      go_wp2_with fail
      refine (ih.out d rfl K3 (.slice A3 K3.length p3) (k + 3 * T + 3) _ (p j) (q j) (by omega) (by simp; omega) g4).mono ?_
      rintro e w5 ⟨he, T5, S5⟩
      have hkk : ((k + 3 * T + 3 : Nat) : Int) + 3 * (partsL K3 : Int) = (k : Int) + 3 * (partsL (l.take (j + 1)) : Int) := by have := hp2.out; omega
      rw [hkk] at he
      subst he
      have H5 : Hid (∀ (i : Nat) (a : Ex), l[i]? = some a → ElX (d + 1) w5 b p q i (j + 1) a (mkE a (k + 3 * partsL (l.take i)))) := by
        intro i a ha
        have hb5 : ∀ o : Nat, w5.cell? ⟨b, o, none⟩ = (w1.setCell ⟨b, j * 4 + 2, none⟩ (.string (mtx ((k : Int) + 3 * (T : Int) + 1 + 1).toNat))).cell? ⟨b, o, none⟩ := fun o => World.cell?_of_block (S5.out b (by simp; omega) (by omega))
        by_cases hij : i = j
        · subst hij
          have ea : a = l[i] := by rw [List.getElem?_eq_getElem hjl] at ha; injection ha with ha; exact ha.symm
          subst ea
          unfold ElX
          rw [if_pos (by omega), ← hT.out, hmk.out]
          refine ⟨[.int .i64 ((k + 3 * T : Nat) : Int), .int .i64 (((k + 3 * T : Nat) : Int) + 1), .string (mtx (k + 3 * T + 2)), .slice A3 K3.length p3], exT_mk false d _ _ _ _ _ (I64_nat (by omega)) ⟨by omega, by omega⟩ (by have := mtx_size (k + 3 * T + 2); unfold maxLen; omega) T5, fun c u hu => ?_⟩
          rw [hb5]
          match c, hu with
          | 0, hu =>
            injection hu with hu
            subst hu
            refine (World.cell?_setCell_other _ _ _ _ (addr_ne (by omega))).trans (q0.trans ?_)
            congr 2
          | 1, hu =>
            injection hu with hu
            subst hu
            refine (World.cell?_setCell_other _ _ _ _ (addr_ne (by omega))).trans (q1.trans ?_)
            congr 2
          | 2, hu =>
            injection hu with hu
            subst hu
            refine (World.cell?_setCell_same _ _ _ q2).trans ?_
            congr 3
          | 3, hu =>
            injection hu with hu
            subst hu
            exact (World.cell?_setCell_other _ _ _ _ (addr_ne (by omega))).trans q3
        · obtain ⟨z1, z2, z3⟩ := hdis.out i a ha hij
          refine (HD.out i a ha).keep (by omega) (fun x h1 h2 => ?_) (fun c hc => ?_)
          · refine (S5.out x (by simp; omega) (by omega)).trans ((Below.heap_setCell _ _ _ x (by show x ≠ b; omega)).trans ((b1.block x (by have := hsz2.out; omega)).trans (eo.out x (by omega))))
          · rw [hb5]
            refine (World.cell?_setCell_other _ _ _ _ (addr_ne (by omega))).trans ((cw.out _).trans (ec.out _ (by omega) (by omega)))
      have hsl : Soft lo B w w5 := hs.trans (S4.trans (S5.more x1 x2))
      clear HD q0 q1 q2 q3 g4 T5 f2' hkk
      go_wp2_with fail
      go_roundw
      case rel => exact ⟨j + 1, by omega, by go_num, rfl, hsl, H5⟩
      case measure => simp [intOf]; omega
    · obtain rfl : j = l.length := by omega
      rw [List.take_length]
      go_wp2_with fail
      go_ret
      refine ⟨rfl, ⟨A, cap, by rw [mkL_length], by rw [mkL_length]; exact hlc, hcm, fun hne => ?_⟩, hs⟩
      have hl0 : l ≠ [] := fun e => hne (by rw [e, mkL])
      obtain ⟨hA1, hlb, hbB, hfr, hel⟩ := hA hl0
      refine ⟨b, p, q, hA1, hlb, hbB, fun o => (hs.frozen ⟨b, o, none⟩ (by show b < w.heap.size; omega)).trans (hfr o), fun i y hy => ?_⟩
      have hil : i < l.length := by have := (List.getElem?_eq_some_iff.1 hy).1; rwa [mkL_length] at this
      have ha := List.getElem?_eq_getElem hil
      have hg := mkL_get l k i _ ha
      rw [hy] at hg
      injection hg with hg
      subst hg
      obtain ⟨c1, c2, c3, c4, c5, _⟩ := hel i _ ha
      have h6 := HD.out i _ ha
      unfold ElX at h6
      rw [if_pos hil] at h6
      obtain ⟨cs, hr, hc⟩ := h6
      exact ⟨c1, c2, c3, c4, c5, cs, hr, fun c u hu => by rw [exT_size]; exact hc c u hu⟩
theorem markx_ExprS : ∀ D, MarkXAt D
  | 0 => markx_step 0 (fun d h => by omega)
  | d + 1 => markx_step (d + 1) (fun d' h => by
    obtain rfl : d = d' := by omega
    exact markx_ExprS d)
theorem markx_Expr (D : Nat) (op n : Int) (name : ByteArray) (kids : List Ex) (v3 : Value) (k : Nat) (w : World) (lo B : Nat) (hk : k + 3 * partsL kids ≤ 1073741824) (hB : B ≤ w.heap.size) (h3 : SlT true (exT true D) w lo B kids v3) :
    Calls Tryd.prog 28 #[.agg #[.int .i64 op, .int .i64 n, .string name, v3], .int .i64 (k : Int)] w (fun e w' => e = .returned (.int .i64 ((k : Int) + 3 * (partsL kids : Nat))) ∧ SlT false (exT false D) w' lo B (mkL kids k) v3 ∧ Soft lo B w w') := by
  obtain ⟨A, p, hf, hl1, hl2⟩ := h3.form
  subst hf
  have hb0 : Below w.heap.size w (w.alloc (.cells #[.int .i64 op, .int .i64 n, .string name, .slice A kids.length p] 30)) := (Below.refl _ _).alloc (Nat.le_refl _) _
  go_enter Tryd.func28, Tryd.ntmps28
  go_wp2_with fail
  refine (markx_ExprS D kids (.slice A kids.length p) k _ lo B hk (Nat.le_trans hB hb0.size) (h3.below hb0 hB)).mono ?_
  rintro e w1 ⟨rfl, T, S⟩
  go_wp2_with fail
  go_ret
  exact ⟨rfl, T, (Soft.of_below hb0).trans S⟩
theorem mark_Textj (k : Int) (n : Nat) (w : World) (h0 : k = (n : Int)) (hk : k ≤ 1073741824) : Calls Tryd.prog 54 #[.int .i64 k] w (RetV (.string (mtx n)) w) := by
  subst h0
  exact mark_Text n w (by omega)
def HeldXAt (D : Nat) : Prop := ∀ (l : List Ex) (v : Value) (k : Nat) (w : World) (lo B : Nat) (_ : k + 3 * partsL l ≤ 1073741824) (_ : B ≤ w.heap.size) (_ : Sl false (exS false D) w lo B (mkL l k) v), Calls Tryd.prog 59 #[v, .int .i64 (k : Int)] w (RetV (.int .i64 ((k : Int) + 3 * (partsL l : Nat))) w)
set_option maxRecDepth 100000 in
set_option maxHeartbeats 4000000 in
theorem heldx_step (D : Nat) (ih : ∀ d, D = d + 1 → HeldXAt d) : HeldXAt D := by
  intro l v k w lo B hk hB hv
  obtain ⟨A, cap, hf, hlc, hcm⟩ := hv.form
  rw [mkL_length] at hf hlc
  subst hf
  replace ih := Lib.hid ih
  go_enter Tryd.func59, Tryd.ntmps59
  go_wp2_with fail
  go_loopw [1, 5] (fun t i wr => ∃ j : Nat, j ≤ l.length ∧ i = .int .i64 j ∧ t = .int .i64 ((k : Int) + 3 * (partsL (l.take j) : Nat)) ∧ Below w.heap.size w wr) (fun _ i _ => l.length - (intOf i).toNat)
  case atStart => exact ⟨0, by omega, rfl, by rw [List.take_zero, partsL_nil]; simp, Below.refl _ _⟩
  case round =>
    obtain ⟨j, hj, rfl, rfl, hb⟩ := hrel
    have hsz := hb.size
    by_cases hjl : j < l.length
    · have hjm : j < (mkL l k).length := by rw [mkL_length]; exact hjl
      obtain ⟨d, rfl⟩ := exS_pos hv (by omega)
      obtain ⟨b, o, op', n', name', kids', v', rfl, _, hbB, HL, g0, g1, g2, g3, c0, c1, c2, c3⟩ := ex_get d (hv.below hb hB) hjm
      have hp2 : partsL (l.take (j + 1)) = partsL (l.take j) + (1 + partsL l[j].kids) := by
        have h1 := partsL_split l j
        have h2 := partsL_split l (j + 1)
        rw [drop_cons hjl rfl, partsL_cons] at h1
        have h3 : partsE l[j] = 1 + partsL l[j].kids := by
          cases l[j] with
          | mk op n name kids => rw [partsE_mk]; rfl
        omega
      have hsp := partsL_split l (j + 1)
      have hmk : mkE l[j] (k + 3 * partsL (l.take j)) = .mk ((k + 3 * partsL (l.take j) : Nat) : Int) (((k + 3 * partsL (l.take j) : Nat) : Int) + 1) (mtx (k + 3 * partsL (l.take j) + 2)) (mkL l[j].kids (k + 3 * partsL (l.take j) + 3)) := by
        cases l[j] with
        | mk op n name kids => rw [mkE_mk]; rfl
      have hg := mkL_get l k j _ (List.getElem?_eq_getElem hjl)
      rw [List.getElem?_eq_getElem hjm, HL.out, hmk] at hg
      injection hg with hg
      injection hg with w0 w1 w2 w3
      obtain ⟨K3, hK3⟩ : ∃ K3, K3 = l[j].kids := ⟨_, rfl⟩
      rw [← hK3] at hp2 w3
      obtain ⟨T, hT⟩ : ∃ T, T = partsL (l.take j) := ⟨_, rfl⟩
      rw [← hT] at hp2 w0 w1 w2 w3
      rw [← hT]
      subst w2 w3
      obtain ⟨A3, p3, hx3, _, _⟩ := g3.form
      rw [mkL_length] at hx3
      subst hx3
      have c0' : wr.cell? ⟨b, o + j * 4, none⟩ = some (.int .i64 ((k : Int) + 3 * (T : Int))) := by
        rw [c0, w0]
        congr 2
      have c1' : wr.cell? ⟨b, o + j * 4 + 1, none⟩ = some (.int .i64 ((k : Int) + 3 * (T : Int) + 1)) := by
        rw [c1, w1]
        congr 2
      have hT3 : T + 1 + partsL K3 ≤ partsL l := by omega
      have hjn : (j : Int) < (l.length : Int) := by omega
      have hj0 : (0 : Int) ≤ (j : Int) := by omega
      replace hp2 := Lib.hid hp2
      replace hT := Lib.hid hT
      replace hK3 := Lib.hid hK3
      clear c0 c1 w0 w1 hmk HL
      go_wp2_with fail
      have c2' : wr.cell? ⟨b, o + j * 4 + 2, none⟩ = some (.string (mtx (k + 3 * T + 2))) := c2
      have hbw := World.block_lt_of_cell? wr _ c2
      go_region_held3 (fun w' => w'.cell? ⟨b, o + j * 4 + 2, none⟩ = some (.string (mtx (k + 3 * T + 2)))) (assumption) ((go_at_call 54; refine (mark_Textj ((k : Int) + 3 * (T : Int) + 1 + 1) (k + 3 * T + 2) _ (by omega) (by omega)).mono ?_; rintro e w1 ⟨rfl, b1⟩; have hbx : Below wr.heap.size wr w1 := ((Below.refl _ wr).drew).trans b1; have d2 : w1.cell? ⟨b, o + j * 4 + 2, none⟩ = some (.string (mtx (k + 3 * T + 2))) := (hbx.cell (p := ⟨b, o + j * 4 + 2, none⟩) hbw).trans c2))
      have d3 : w1.cell? ⟨b, o + j * 4 + 3, none⟩ = some (.slice A3 K3.length p3) := (hbx.cell (p := ⟨b, o + j * 4 + 3, none⟩) hbw).trans c3
      have hbd := hb.trans (hbx.mono hsz)
      have hszx := hbx.size
      clear c0' c1' c2 c2' c3
      go_wp2_with fail
      refine (ih.out d rfl K3 (.slice A3 K3.length p3) (k + 3 * T + 3) _ lo B (by omega) (by omega) (g3.keep (Nat.le_refl _) (Nat.le_refl _) (fun x _ hx => hbx.block x (by omega)))).mono ?_
      rintro e w5 ⟨he, b5⟩
      have hkk : ((k + 3 * T + 3 : Nat) : Int) + 3 * (partsL K3 : Int) = (k : Int) + 3 * (partsL (l.take (j + 1)) : Int) := by have := hp2.out; omega
      rw [hkk] at he
      subst he
      have hb5 := hbd.trans (b5.mono hbd.size)
      have hn0 : ¬ (k : Int) + 3 * (partsL (l.take (j + 1)) : Int) < 0 := by omega
      clear hkk
      go_wp2_with fail
      go_roundw
      case rel => exact ⟨j + 1, by omega, by go_num, rfl, hb5⟩
      case measure => simp [intOf]; omega
    · obtain rfl : j = l.length := by omega
      rw [List.take_length]
      go_wp2_with fail
      go_ret
      exact ⟨rfl, hb⟩
theorem heldx_ExprS : ∀ D, HeldXAt D
  | 0 => heldx_step 0 (fun d h => by omega)
  | d + 1 => heldx_step (d + 1) (fun d' h => by
    obtain rfl : d = d' := by omega
    exact heldx_ExprS d)
theorem heldx_Expr (D : Nat) (op n : Int) (name : ByteArray) (kids : List Ex) (v3 : Value) (k : Nat) (w : World) (lo B : Nat) (hk : k + 3 * partsL kids ≤ 1073741824) (hB : B ≤ w.heap.size) (h3 : Sl false (exS false D) w lo B (mkL kids k) v3) :
    Calls Tryd.prog 35 #[.agg #[.int .i64 op, .int .i64 n, .string name, v3], .int .i64 (k : Int)] w (RetV (.int .i64 ((k : Int) + 3 * (partsL kids : Nat))) w) := by
  obtain ⟨A, p, hf, hl1, hl2⟩ := h3.form
  subst hf
  have hb0 : Below w.heap.size w (w.alloc (.cells #[.int .i64 op, .int .i64 n, .string name, .slice A (mkL kids k).length p] 30)) := (Below.refl _ _).alloc (Nat.le_refl _) _
  have hn0 : ¬ (k : Int) + 3 * (partsL kids : Int) < 0 := by omega
  go_enter Tryd.func35, Tryd.ntmps35
  go_wp2_with fail
  refine (heldx_ExprS D kids (.slice A (mkL kids k).length p) k _ lo B hk (Nat.le_trans hB hb0.size) (h3.below hb0 hB)).mono ?_
  rintro e w1 ⟨rfl, b1⟩
  go_wp2_with fail
  go_ret
  exact ⟨rfl, hb0.trans (b1.mono hb0.size)⟩
end Go.Proofs.YtnamciblapddbaaDoor
