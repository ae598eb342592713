/-
  Registers numbered anew, in plain terms. No condition.
-/
import Derived.Test.YtgcjccoglcgcoaaUnit
namespace Go.Proofs.Ytgcjccoglcgcoaa
open Go.RowKit Go.ChangeShapes Go.WideShapes Go.Deep
set_option linter.unusedVariables false
set_option linter.unusedSimpArgs false
/-- the numbers below n -/
def upto (n : Nat) : List Int := (List.range n).map fun (i : Nat) => (i : Int)
theorem upto_len (n : Nat) : (upto n).length = n := by simp [upto]
theorem upto_succ (n : Nat) : upto (n + 1) = upto n ++ [(n : Int)] := by simp [upto, List.range_succ]
theorem upto_mem {n : Nat} {x : Int} : x ∈ upto n ↔ 0 ≤ x ∧ x < n := by
  simp only [upto, List.mem_map, List.mem_range]
  constructor
  · rintro ⟨i, hi, rfl⟩
    omega
  · rintro ⟨h0, h1⟩
    exact ⟨x.toNat, by omega, by omega⟩
/-- a register that is named takes the next place, if it has none -/
def tell (s : List Int) (r : Int) : List Int := if r ∈ s then s else s ++ [r]
def regsPhi (f : PhiD) : List Int := f.to :: f.args
def regsIns (x : InsD) : List Int := (if setsB x.op = true then [x.to] else []) ++ x.args
def regsBlk (x : BlkD) : List Int := x.phis.flatMap regsPhi ++ x.ins.flatMap regsIns ++ (if usesOnB x.jump = true then [x.on] else [])
def regsCode (c : CodeD) : List Int := c.blocks.flatMap regsBlk
/-- the registers in the order in which they are named, the parameters ahead -/
def seenC (c : CodeD) : List Int := (regsCode c).foldl tell (upto c.params.toNat)
def numS (s : List Int) (r : Int) : Int := (s.idxOf r : Int)
def renPhi (σ : Int → Int) (f : PhiD) : PhiD := ⟨σ f.to, f.args.map σ⟩
def renIns (σ : Int → Int) (x : InsD) : InsD := ⟨x.op, if setsB x.op = true then σ x.to else x.to, x.args.map σ, x.n⟩
def renBlk (σ : Int → Int) (x : BlkD) : BlkD := ⟨x.phis.map (renPhi σ), x.ins.map (renIns σ), x.jump, if usesOnB x.jump = true then σ x.on else x.on, x.next⟩
def tightC (c : CodeD) : CodeD := ⟨c.params, ((seenC c).length : Nat), c.blocks.map (renBlk (numS (seenC c)))⟩
def tightU (us : List CodeD) : List CodeD := us.map tightC
theorem tell_mem {s : List Int} {r x : Int} : x ∈ tell s r ↔ x ∈ s ∨ x = r := by
  unfold tell
  split
  · constructor
    · exact Or.inl
    · rintro (h | rfl) <;> assumption
  · simp
theorem tell_nodup {s : List Int} (h : s.Nodup) (r : Int) : (tell s r).Nodup := by
  unfold tell
  split
  · exact h
  · rw [List.nodup_append]
    refine ⟨h, by simp, fun a ha b hb => ?_⟩
    simp at hb
    subst hb
    intro e
    subst e
    contradiction
theorem tell_pre (s : List Int) (r : Int) : s <+: tell s r := by
  unfold tell
  split
  · exact List.prefix_refl _
  · exact List.prefix_append _ _
theorem tells_pre : ∀ (l s : List Int), s <+: l.foldl tell s
  | [], s => List.prefix_refl _
  | a :: r, s => (tell_pre s a).trans (tells_pre r (tell s a))
theorem tells_mem : ∀ (l s : List Int) (x : Int), x ∈ l.foldl tell s ↔ x ∈ s ∨ x ∈ l
  | [], s, x => by simp
  | a :: r, s, x => by
    rw [List.foldl_cons, tells_mem r (tell s a) x, tell_mem, List.mem_cons]
    constructor
    · rintro ((h | h) | h)
      · exact Or.inl h
      · exact Or.inr (Or.inl h)
      · exact Or.inr (Or.inr h)
    · rintro (h | h | h)
      · exact Or.inl (Or.inl h)
      · exact Or.inl (Or.inr h)
      · exact Or.inr h
theorem tells_nodup : ∀ (l s : List Int), s.Nodup → (l.foldl tell s).Nodup
  | [], s, h => h
  | a :: r, s, h => tells_nodup r (tell s a) (tell_nodup h a)
theorem upto_nodup (n : Nat) : (upto n).Nodup := by
  induction n with
  | zero => simp [upto]
  | succ n ih =>
    rw [upto_succ, List.nodup_append]
    refine ⟨ih, by simp, fun a ha b hb => ?_⟩
    simp at hb
    subst hb
    have := upto_mem.1 ha
    omega
theorem seenC_nodup (c : CodeD) : (seenC c).Nodup := tells_nodup _ _ (upto_nodup _)
theorem seenC_mem (c : CodeD) (x : Int) : x ∈ seenC c ↔ (0 ≤ x ∧ x < (c.params.toNat : Int)) ∨ x ∈ regsCode c := by
  unfold seenC
  rw [tells_mem, upto_mem]
/-- what lies ahead keeps its place -/
theorem num_pre {s t : List Int} (h : s <+: t) {r : Int} (hr : r ∈ s) : numS t r = numS s r := by
  obtain ⟨u, rfl⟩ := h
  unfold numS
  rw [List.idxOf_append, if_pos hr]
theorem num_lt {s : List Int} {r : Int} (hr : r ∈ s) : 0 ≤ numS s r ∧ numS s r < (s.length : Int) := by
  unfold numS
  have := List.idxOf_lt_length_of_mem hr
  omega
theorem num_upto {n : Nat} {r : Int} (h : r ∈ upto n) : numS (upto n) r = r := by
  induction n with
  | zero => simp [upto] at h
  | succ n ih =>
    rw [upto_succ] at h ⊢
    rcases List.mem_append.1 h with h | h
    · rw [num_pre (List.prefix_append _ _) h, ih h]
    · simp at h
      subst h
      unfold numS
      rw [List.idxOf_append, if_neg (fun hm => by have := upto_mem.1 hm; omega), upto_len]
      simp
theorem num_new {s : List Int} {r : Int} (hr : r ∉ s) : numS (s ++ [r]) r = (s.length : Int) := by
  unfold numS
  rw [List.idxOf_append, if_neg hr]
  simp
/-- few different numbers below n -/
theorem nodup_le : ∀ (n : Nat) (l : List Int), l.Nodup → (∀ x ∈ l, 0 ≤ x ∧ x < (n : Int)) → l.length ≤ n
  | 0, l, _, h => by
    cases l with
    | nil => simp
    | cons a r => have := h a (by simp); omega
  | n + 1, l, hd, h => by
    by_cases hm : (n : Int) ∈ l
    · have h1 := nodup_le n (l.erase (n : Int)) (hd.erase _) (fun x hx => by
        have h2 := (List.Nodup.mem_erase_iff hd).1 hx
        have h3 := h x h2.2
        have h4 := h2.1
        omega)
      rw [List.length_erase_of_mem hm] at h1
      omega
    · have h1 := nodup_le n l hd (fun x hx => by
        have h3 := h x hx
        have : x ≠ (n : Int) := fun e => hm (e ▸ hx)
        omega)
      omega
/-- the registers of what is numbered anew -/
theorem regs_renBlk (σ : Int → Int) (x : BlkD) : regsBlk (renBlk σ x) = (regsBlk x).map σ := by
  unfold regsBlk renBlk
  simp only [List.map_append, List.map_flatMap, List.flatMap_map]
  congr 1
  · congr 1
    congr 1
    funext y
    unfold regsIns renIns
    simp only [List.map_append]
    split <;> simp
  · split <;> simp
theorem regs_tight (σ : Int → Int) (l : List BlkD) : (l.map (renBlk σ)).flatMap regsBlk = (l.flatMap regsBlk).map σ := by
  rw [List.flatMap_map, List.map_flatMap]
  congr 1
  funext x
  exact regs_renBlk σ x
/-- told in their new numbers the registers come in order -/
theorem tells_num (S : List Int) : ∀ (l s : List Int), l.foldl tell s <+: S → (l.map (numS S)).foldl tell (upto s.length) = upto (l.foldl tell s).length
  | [], s, _ => rfl
  | a :: r, s, h => by
    rw [List.foldl_cons] at h
    rw [List.map_cons, List.foldl_cons, List.foldl_cons]
    have hp : tell s a <+: S := (tells_pre r (tell s a)).trans h
    have ha : numS S a = numS (tell s a) a := num_pre hp (tell_mem.2 (Or.inr rfl))
    have key : tell (upto s.length) (numS S a) = upto (tell s a).length := by
      rw [ha]
      by_cases hm : a ∈ s
      · have e : tell s a = s := by unfold tell; rw [if_pos hm]
        rw [e]
        unfold tell
        rw [if_pos (upto_mem.2 (num_lt hm))]
      · have e : tell s a = s ++ [a] := by unfold tell; rw [if_neg hm]
        rw [e, num_new hm, List.length_append, List.length_singleton, upto_succ]
        unfold tell
        rw [if_neg (fun hx => by have := upto_mem.1 hx; omega)]
    rw [key]
    exact tells_num S r (tell s a) h
theorem seen_tight (c : CodeD) : seenC (tightC c) = upto (seenC c).length := by
  have h := tells_num (seenC c) (regsCode c) (upto c.params.toNat) (List.prefix_refl _)
  rw [upto_len] at h
  show ((tightC c).blocks.flatMap regsBlk).foldl tell (upto c.params.toNat) = _
  unfold tightC
  rw [regs_tight]
  exact h
theorem map_id_of {τ : Int → Int} : ∀ {l : List Int}, (∀ r ∈ l, τ r = r) → l.map τ = l
  | [], _ => rfl
  | a :: r, h => by rw [List.map_cons, h a (by simp), map_id_of (fun x hx => h x (by simp [hx]))]
theorem renPhi_id {τ : Int → Int} {f : PhiD} (h : ∀ r ∈ regsPhi f, τ r = r) : renPhi τ f = f := by
  cases f with
  | mk tg args =>
    unfold renPhi
    rw [show τ tg = tg from h _ (by simp [regsPhi]), map_id_of (fun x hx => h x (by simp [regsPhi, hx]))]
theorem renIns_id {τ : Int → Int} {x : InsD} (h : ∀ r ∈ regsIns x, τ r = r) : renIns τ x = x := by
  cases x with
  | mk op tg args n =>
    unfold renIns
    rw [map_id_of (fun x hx => h x (by simp [regsIns, hx]))]
    by_cases hs : setsB op = true
    · simp only [hs, if_true]
      rw [h tg (by simp [regsIns, hs])]
    · simp [hs]
theorem maps_id {α : Type} {f : α → α} : ∀ {l : List α}, (∀ a ∈ l, f a = a) → l.map f = l
  | [], _ => rfl
  | a :: r, h => by rw [List.map_cons, h a (by simp), maps_id (fun x hx => h x (by simp [hx]))]
theorem renBlk_id {τ : Int → Int} {x : BlkD} (h : ∀ r ∈ regsBlk x, τ r = r) : renBlk τ x = x := by
  cases x with
  | mk phis ins jump on next =>
    unfold renBlk
    rw [maps_id (fun f hf => renPhi_id fun r hr => h r (by
        unfold regsBlk
        exact List.mem_append_left _ (List.mem_append_left _ (List.mem_flatMap.2 ⟨f, hf, hr⟩)))),
      maps_id (fun y hy => renIns_id fun r hr => h r (by
        unfold regsBlk
        exact List.mem_append_left _ (List.mem_append_right _ (List.mem_flatMap.2 ⟨y, hy, hr⟩))))]
    by_cases hu : usesOnB jump = true
    · simp only [hu, if_true]
      rw [h on (by unfold regsBlk; simp [hu])]
    · simp [hu]
/-- a second time changes nothing -/
theorem tight_again (c : CodeD) : tightC (tightC c) = tightC c := by
  have hs := seen_tight c
  show (⟨(tightC c).params, ((seenC (tightC c)).length : Nat), (tightC c).blocks.map (renBlk (numS (seenC (tightC c))))⟩ : CodeD) = tightC c
  rw [hs, upto_len]
  show (⟨c.params, ((seenC c).length : Nat), (c.blocks.map (renBlk (numS (seenC c)))).map (renBlk (numS (upto (seenC c).length)))⟩ : CodeD) = ⟨c.params, ((seenC c).length : Nat), c.blocks.map (renBlk (numS (seenC c)))⟩
  congr 1
  refine maps_id fun x hx => renBlk_id fun r hr => ?_
  obtain ⟨y, hy, rfl⟩ := List.mem_map.1 hx
  rw [regs_renBlk] at hr
  obtain ⟨q, hq, rfl⟩ := List.mem_map.1 hr
  have hm : q ∈ seenC c := (seenC_mem c q).2 (Or.inr (List.mem_flatMap.2 ⟨y, hy, hq⟩))
  exact num_upto (upto_mem.2 (num_lt hm))
theorem tightU_again (us : List CodeD) : tightU (tightU us) = tightU us := by
  unfold tightU
  rw [List.map_map]
  congr 1
  funext c
  exact tight_again c
/-- as many phis and instructions -/
theorem blkC_ren (σ : Int → Int) (x : BlkD) : blkC (renBlk σ x) = blkC x := by simp [blkC, renBlk]
theorem sumBy_map {α : Type} (f g : α → Nat) (h : α → α) (hfg : ∀ a, f (h a) = g a) : ∀ l : List α, sumBy f (l.map h) = sumBy g l
  | [] => by simp [sumBy]
  | a :: r => by rw [List.map_cons, sumBy_cons, sumBy_cons, hfg, sumBy_map f g h hfg r]
theorem codeC_tight (c : CodeD) : codeC (tightC c) = codeC c := sumBy_map _ _ _ (blkC_ren _) _
theorem unitC_tight (us : List CodeD) : unitC (tightU us) = unitC us := sumBy_map _ _ _ codeC_tight _
theorem predsFrom_ren (b : Int) (σ : Int → Int) : ∀ (l : List BlkD) (k : Nat), predsFrom b k (l.map (renBlk σ)) = predsFrom b k l
  | [], _ => rfl
  | a :: r, k => by
    rw [List.map_cons]
    simp only [predsFrom]
    rw [predsFrom_ren b σ r (k + 1)]
    rfl
theorem parOf_tight (us : List CodeD) (n : Int) : parOf (tightU us) n = parOf us n := by
  unfold parOf tightU
  rw [List.getElem?_map]
  cases us[n.toNat]? <;> rfl
theorem regB_out {regs r : Int} (h : regB regs r = true) : 0 ≤ r ∧ r < regs := by
  have := inB_out (show inB r 0 (regs - 1) = true from h)
  omega
theorem regB_in {regs r : Int} (h0 : 0 ≤ r) (h1 : r < regs) : regB regs r = true := inB_yes h0 (by omega)
/-- the registers of a valid block lie below the code's number of them -/
theorem regs_valid {us : List CodeD} {c : CodeD} {k b : Nat} {x : BlkD} (h : blkB us c k b x = true) : ∀ r ∈ regsBlk x, 0 ≤ r ∧ r < c.regs := by
  unfold blkB at h
  simp only [Bool.and_eq_true] at h
  obtain ⟨_, h2, _, h4, h5⟩ := h
  intro r hr
  unfold regsBlk at hr
  rcases List.mem_append.1 hr with hr | hr
  · rcases List.mem_append.1 hr with hr | hr
    · obtain ⟨f, hf, hr⟩ := List.mem_flatMap.1 hr
      have h6 := List.all_eq_true.1 h5 f hf
      unfold phiB at h6
      simp only [Bool.and_eq_true] at h6
      unfold regsPhi at hr
      rcases List.mem_cons.1 hr with rfl | hr
      · exact regB_out h6.2.1
      · exact regB_out (List.all_eq_true.1 h6.2.2.2 r hr)
    · obtain ⟨y, hy, hr⟩ := List.mem_flatMap.1 hr
      have h6 := List.all_eq_true.1 h4 y hy
      unfold insB at h6
      simp only [Bool.and_eq_true] at h6
      unfold regsIns at hr
      rcases List.mem_append.1 hr with hr | hr
      · split at hr
        · rename_i hs
          have h7 := h6.2.2.1
          rw [if_pos hs] at h7
          simp at hr
          subst hr
          exact regB_out h7
        · cases hr
      · exact regB_out (List.all_eq_true.1 h6.2.1 r hr)
  · split at hr
    · rename_i hu
      unfold onB at h2
      rw [if_pos hu] at h2
      simp at hr
      subst hr
      exact regB_out h2
    · cases hr
theorem blksB_all {us : List CodeD} {c : CodeD} {k : Nat} : ∀ {l : List BlkD} {b : Nat}, blksB us c k b l = true → ∀ (i : Nat) (x : BlkD), l[i]? = some x → blkB us c k (b + i) x = true
  | [], _, _, i, x, hx => by simp at hx
  | a :: r, b, h, i, x, hx => by
    simp only [blksB, Bool.and_eq_true] at h
    cases i with
    | zero =>
      simp at hx
      subst hx
      exact h.1
    | succ i =>
      have := blksB_all (l := r) (b := b + 1) h.2 i x (by simpa using hx)
      rw [show b + 1 + i = b + (i + 1) by omega] at this
      exact this
theorem seen_valid {us : List CodeD} {c : CodeD} {k : Nat} (h : codeB us k c = true) : (∀ r ∈ seenC c, 0 ≤ r ∧ r < c.regs) ∧ 0 ≤ c.params ∧ c.params ≤ ((seenC c).length : Int) ∧ ((seenC c).length : Int) ≤ c.regs ∧ c.regs ≤ 300 := by
  unfold codeB at h
  rw [Bool.and_eq_true] at h
  obtain ⟨hh, hb⟩ := h
  unfold headB at hh
  simp only [Bool.and_eq_true] at hh
  have g1 := inB_out hh.1
  have g2 := inB_out hh.2.1
  have g3 : c.params ≤ c.regs := Int.le_trans g2.2 (Int.min_le_right _ _)
  have hall : ∀ r ∈ seenC c, 0 ≤ r ∧ r < c.regs := fun r hr => by
    rcases (seenC_mem c r).1 hr with h1 | h1
    · omega
    · obtain ⟨x, hx, hr⟩ := List.mem_flatMap.1 h1
      obtain ⟨i, hi⟩ := List.mem_iff_getElem?.1 hx
      exact regs_valid (blksB_all hb i x hi) r hr
  refine ⟨hall, g2.1, ?_, ?_, g1.2⟩
  · have := (tells_pre (regsCode c) (upto c.params.toNat)).length_le
    rw [upto_len] at this
    show c.params ≤ ((((regsCode c).foldl tell (upto c.params.toNat)).length : Nat) : Int)
    omega
  · have := nodup_le c.regs.toNat (seenC c) (seenC_nodup c) (fun x hx => by have := hall x hx; omega)
    omega
end Go.Proofs.Ytgcjccoglcgcoaa
