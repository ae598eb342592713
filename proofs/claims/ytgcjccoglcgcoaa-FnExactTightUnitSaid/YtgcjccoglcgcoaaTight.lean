/-
  Registers numbered anew, in plain terms. No condition.
-/
import Derived.Test.YtgcjccoglcgcoaaUnit
namespace Go.Proofs.Ytgcjccoglcgcoaa
open Go.RowKit Go.ChangeShapes Go.WideShapes Go.Deep
set_option linter.unusedVariables false
set_option linter.unusedSimpArgs false
/-- the numbers below n -/
def upto (n : Nat) : List Int := (List.range n).map fun (i : Nat) => (i : Int)
theorem upto_len (n : Nat) : (upto n).length = n := by simp [upto]
theorem upto_succ (n : Nat) : upto (n + 1) = upto n ++ [(n : Int)] := by simp [upto, List.range_succ]
theorem upto_mem {n : Nat} {x : Int} : x ∈ upto n ↔ 0 ≤ x ∧ x < n := by
  simp only [upto, List.mem_map, List.mem_range]
  constructor
  · rintro ⟨i, hi, rfl⟩
    omega
  · rintro ⟨h0, h1⟩
    exact ⟨x.toNat, by omega, by omega⟩
/-- a register that is named takes the next place, if it has none -/
def tell (s : List Int) (r : Int) : List Int := if r ∈ s then s else s ++ [r]
def regsPhi (f : PhiD) : List Int := f.to :: f.args
def regsIns (x : InsD) : List Int := (if setsB x.op = true then [x.to] else []) ++ x.args
def regsBlk (x : BlkD) : List Int := x.phis.flatMap regsPhi ++ x.ins.flatMap regsIns ++ (if usesOnB x.jump = true then [x.on] else [])
def regsCode (c : CodeD) : List Int := c.blocks.flatMap regsBlk
/-- the registers in the order in which they are named, the parameters ahead -/
def seenC (c : CodeD) : List Int := (regsCode c).foldl tell (upto c.params.toNat)
def numS (s : List Int) (r : Int) : Int := (s.idxOf r : Int)
def renPhi (σ : Int → Int) (f : PhiD) : PhiD := ⟨σ f.to, f.args.map σ⟩
def renIns (σ : Int → Int) (x : InsD) : InsD := ⟨x.op, if setsB x.op = true then σ x.to else x.to, x.args.map σ, x.n⟩
def renBlk (σ : Int → Int) (x : BlkD) : BlkD := ⟨x.phis.map (renPhi σ), x.ins.map (renIns σ), x.jump, if usesOnB x.jump = true then σ x.on else x.on, x.next⟩
def tightC (c : CodeD) : CodeD := ⟨c.params, ((seenC c).length : Nat), c.blocks.map (renBlk (numS (seenC c)))⟩
def tightU (us : List CodeD) : List CodeD := us.map tightC
theorem tell_mem {s : List Int} {r x : Int} : x ∈ tell s r ↔ x ∈ s ∨ x = r := by
  unfold tell
  split
  · constructor
    · exact Or.inl
    · rintro (h | rfl) <;> assumption
  · simp
theorem tell_nodup {s : List Int} (h : s.Nodup) (r : Int) : (tell s r).Nodup := by
  unfold tell
  split
  · exact h
  · rw [List.nodup_append]
    refine ⟨h, by simp, fun a ha b hb => ?_⟩
    simp at hb
    subst hb
    intro e
    subst e
    contradiction
theorem tell_pre (s : List Int) (r : Int) : s <+: tell s r := by
  unfold tell
  split
  · exact List.prefix_refl _
  · exact List.prefix_append _ _
theorem tells_pre : ∀ (l s : List Int), s <+: l.foldl tell s
  | [], s => List.prefix_refl _
  | a :: r, s => (tell_pre s a).trans (tells_pre r (tell s a))
theorem tells_mem : ∀ (l s : List Int) (x : Int), x ∈ l.foldl tell s ↔ x ∈ s ∨ x ∈ l
  | [], s, x => by simp
  | a :: r, s, x => by
    rw [List.foldl_cons, tells_mem r (tell s a) x, tell_mem, List.mem_cons]
    constructor
    · rintro ((h | h) | h)
      · exact Or.inl h
      · exact Or.inr (Or.inl h)
      · exact Or.inr (Or.inr h)
    · rintro (h | h | h)
      · exact Or.inl (Or.inl h)
      · exact Or.inl (Or.inr h)
      · exact Or.inr h
theorem tells_nodup : ∀ (l s : List Int), s.Nodup → (l.foldl tell s).Nodup
  | [], s, h => h
  | a :: r, s, h => tells_nodup r (tell s a) (tell_nodup h a)
theorem upto_nodup (n : Nat) : (upto n).Nodup := by
  induction n with
  | zero => simp [upto]
  | succ n ih =>
    rw [upto_succ, List.nodup_append]
    refine ⟨ih, by simp, fun a ha b hb => ?_⟩
    simp at hb
    subst hb
    have := upto_mem.1 ha
    omega
theorem seenC_nodup (c : CodeD) : (seenC c).Nodup := tells_nodup _ _ (upto_nodup _)
theorem seenC_mem (c : CodeD) (x : Int) : x ∈ seenC c ↔ (0 ≤ x ∧ x < (c.params.toNat : Int)) ∨ x ∈ regsCode c := by
  unfold seenC
  rw [tells_mem, upto_mem]
/-- what lies ahead keeps its place -/
theorem num_pre {s t : List Int} (h : s <+: t) {r : Int} (hr : r ∈ s) : numS t r = numS s r := by
  obtain ⟨u, rfl⟩ := h
  unfold numS
  rw [List.idxOf_append, if_pos hr]
theorem num_lt {s : List Int} {r : Int} (hr : r ∈ s) : 0 ≤ numS s r ∧ numS s r < (s.length : Int) := by
  unfold numS
  have := List.idxOf_lt_length_of_mem hr
  omega
theorem num_upto {n : Nat} {r : Int} (h : r ∈ upto n) : numS (upto n) r = r := by
  induction n with
  | zero => simp [upto] at h
  | succ n ih =>
    rw [upto_succ] at h ⊢
    rcases List.mem_append.1 h with h | h
    · rw [num_pre (List.prefix_append _ _) h, ih h]
    · simp at h
      subst h
      unfold numS
      rw [List.idxOf_append, if_neg (fun hm => by have := upto_mem.1 hm; omega), upto_len]
      simp
theorem num_new {s : List Int} {r : Int} (hr : r ∉ s) : numS (s ++ [r]) r = (s.length : Int) := by
  unfold numS
  rw [List.idxOf_append, if_neg hr]
  simp
/-- few different numbers below n -/
theorem nodup_le : ∀ (n : Nat) (l : List Int), l.Nodup → (∀ x ∈ l, 0 ≤ x ∧ x < (n : Int)) → l.length ≤ n
  | 0, l, _, h => by
    cases l with
    | nil => simp
    | cons a r => have := h a (by simp); omega
  | n + 1, l, hd, h => by
    by_cases hm : (n : Int) ∈ l
    · have h1 := nodup_le n (l.erase (n : Int)) (hd.erase _) (fun x hx => by
        have h2 := (List.Nodup.mem_erase_iff hd).1 hx
        have h3 := h x h2.2
        have h4 := h2.1
        omega)
      rw [List.length_erase_of_mem hm] at h1
      omega
    · have h1 := nodup_le n l hd (fun x hx => by
        have h3 := h x hx
        have : x ≠ (n : Int) := fun e => hm (e ▸ hx)
        omega)
      omega
theorem sumBy_map {α : Type} (f g : α → Nat) (h : α → α) (hfg : ∀ a, f (h a) = g a) : ∀ l : List α, sumBy f (l.map h) = sumBy g l
  | [] => by simp [sumBy]
  | a :: r => by rw [List.map_cons, sumBy_cons, sumBy_cons, hfg, sumBy_map f g h hfg r]
theorem regB_out {regs r : Int} (h : regB regs r = true) : 0 ≤ r ∧ r < regs := by
  have := inB_out (show inB r 0 (regs - 1) = true from h)
  omega
/-- the registers of a valid block lie below the code's number of them -/
theorem regs_valid {us : List CodeD} {c : CodeD} {k b : Nat} {x : BlkD} (h : blkB us c k b x = true) : ∀ r ∈ regsBlk x, 0 ≤ r ∧ r < c.regs := by
  unfold blkB at h
  simp only [Bool.and_eq_true] at h
  obtain ⟨_, h2, _, h4, h5⟩ := h
  intro r hr
  unfold regsBlk at hr
  rcases List.mem_append.1 hr with hr | hr
  · rcases List.mem_append.1 hr with hr | hr
    · obtain ⟨f, hf, hr⟩ := List.mem_flatMap.1 hr
      have h6 := List.all_eq_true.1 h5 f hf
      unfold phiB at h6
      simp only [Bool.and_eq_true] at h6
      unfold regsPhi at hr
      rcases List.mem_cons.1 hr with rfl | hr
      · exact regB_out h6.2.1
      · exact regB_out (List.all_eq_true.1 h6.2.2.2 r hr)
    · obtain ⟨y, hy, hr⟩ := List.mem_flatMap.1 hr
      have h6 := List.all_eq_true.1 h4 y hy
      unfold insB at h6
      simp only [Bool.and_eq_true] at h6
      unfold regsIns at hr
      rcases List.mem_append.1 hr with hr | hr
      · split at hr
        · rename_i hs
          have h7 := h6.2.2.1
          rw [if_pos hs] at h7
          simp at hr
          subst hr
          exact regB_out h7
        · cases hr
      · exact regB_out (List.all_eq_true.1 h6.2.1 r hr)
  · split at hr
    · rename_i hu
      unfold onB at h2
      rw [if_pos hu] at h2
      simp at hr
      subst hr
      exact regB_out h2
    · cases hr
theorem blksB_all {us : List CodeD} {c : CodeD} {k : Nat} : ∀ {l : List BlkD} {b : Nat}, blksB us c k b l = true → ∀ (i : Nat) (x : BlkD), l[i]? = some x → blkB us c k (b + i) x = true
  | [], _, _, i, x, hx => by simp at hx
  | a :: r, b, h, i, x, hx => by
    simp only [blksB, Bool.and_eq_true] at h
    cases i with
    | zero =>
      simp at hx
      subst hx
      exact h.1
    | succ i =>
      have := blksB_all (l := r) (b := b + 1) h.2 i x (by simpa using hx)
      rw [show b + 1 + i = b + (i + 1) by omega] at this
      exact this
theorem seen_valid {us : List CodeD} {c : CodeD} {k : Nat} (h : codeB us k c = true) : (∀ r ∈ seenC c, 0 ≤ r ∧ r < c.regs) ∧ 0 ≤ c.params ∧ c.params ≤ ((seenC c).length : Int) ∧ ((seenC c).length : Int) ≤ c.regs ∧ c.regs ≤ 300 := by
  unfold codeB at h
  rw [Bool.and_eq_true] at h
  obtain ⟨hh, hb⟩ := h
  unfold headB at hh
  simp only [Bool.and_eq_true] at hh
  have g1 := inB_out hh.1
  have g2 := inB_out hh.2.1
  have g3 : c.params ≤ c.regs := Int.le_trans g2.2 (Int.min_le_right _ _)
  have hall : ∀ r ∈ seenC c, 0 ≤ r ∧ r < c.regs := fun r hr => by
    rcases (seenC_mem c r).1 hr with h1 | h1
    · omega
    · obtain ⟨x, hx, hr⟩ := List.mem_flatMap.1 h1
      obtain ⟨i, hi⟩ := List.mem_iff_getElem?.1 hx
      exact regs_valid (blksB_all hb i x hi) r hr
  refine ⟨hall, g2.1, ?_, ?_, g1.2⟩
  · have := (tells_pre (regsCode c) (upto c.params.toNat)).length_le
    rw [upto_len] at this
    show c.params ≤ ((((regsCode c).foldl tell (upto c.params.toNat)).length : Nat) : Int)
    omega
  · have := nodup_le c.regs.toNat (seenC c) (seenC_nodup c) (fun x hx => by have := hall x hx; omega)
    omega
end Go.Proofs.Ytgcjccoglcgcoaa
