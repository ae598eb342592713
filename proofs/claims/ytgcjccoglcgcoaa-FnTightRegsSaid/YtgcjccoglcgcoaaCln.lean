/-
  Clones: a list of numbers; mapped at phis, instructions, blocks, codes. Conditions: the argument reads as data; the function answers in new memory.
-/
import Derived.Test.YtgcjccoglcgcoaaFoot
import Derived.Test.YtgcjccoglcgcoaaShelf
namespace Go.Proofs.Ytgcjccoglcgcoaa
open Go.RowKit Go.ChangeShapes Go.WideShapes Go.Deep
set_option linter.unusedVariables false
set_option linter.unusedSimpArgs false
theorem cells_row_new (w : World) (cs : List Value) (t : TypeId) : ∀ j u, cs[j]? = some u → (w.alloc (.cells cs.toArray t)).cell? ((⟨w.heap.size, 0, none⟩ : Addr).add j) = some u := by
  intro j u hj
  have h := (Row.new w t cs.toArray).cell j
  simp only [List.getElem?_toArray, hj] at h
  have e : (⟨w.heap.size, 0, none⟩ : Addr).add j = ⟨w.heap.size, j, none⟩ := by
    simp [Addr.add]
    intro h0
    exact h0.symm
  rw [e]
  exact h
/-- what a call answers that makes a value of new memory -/
def ToF {α : Type} (S : Fsh α) (b : α) (w : World) (e : Ending) (w' : World) : Prop :=
  ∃ (cs : List Value) (f : List Nat), e = .returned (.agg cs.toArray) ∧ S.rep w' f b cs ∧ f.Nodup ∧ (∀ x ∈ f, w.heap.size ≤ x) ∧ Below w.heap.size w w'
def ToL {α : Type} (S : Fsh α) (t : TypeId) (l : List α) (w : World) (e : Ending) (w' : World) : Prop :=
  ∃ (v : Value) (f : List Nat), e = .returned v ∧ SlF S t w' f l v ∧ f.Nodup ∧ (∀ x ∈ f, w.heap.size ≤ x) ∧ Below w.heap.size w w'
theorem own_uniq {w : World} {base n size : Nat} {t : TypeId} {v : Value} {xs ys : List Value} (h : w.ownsRow base t size v n xs) (k : w.ownsRow base t size v n ys) : xs = ys := by
  obtain ⟨h1, h2⟩ := h
  obtain ⟨k1, k2⟩ := k
  rcases h2 with ⟨rfl, h3⟩ | ⟨g, cap, cur, rfl, _, h3, _, _, _, h4⟩
  · subst h3
    simp at h1 k1
    rw [h1, k1]
  · rcases k2 with ⟨e, _⟩ | ⟨g', cap', cur', e, _, k3, _, _, _, k4⟩
    · cases e
    · injection e with e1 e2 e3
      injection e1 with e1
      injection e1 with e1 _ _
      subst e1
      rw [h3] at k3
      injection k3 with k3
      injection k3 with k3 _ _
      rw [← h4, ← k4, k3]
theorem own_some {w : World} {base n size : Nat} {t : TypeId} {v : Value} {xs : List Value} (h : w.ownsRow base t size v (n + 1) xs) : v.ownBlock ≠ none := by
  rcases h.2 with ⟨_, h3⟩ | ⟨g, cap, cur, rfl, _⟩
  · omega
  · simp [Value.ownBlock]
theorem OwF.below {α : Type} {S : Fsh α} {t : TypeId} {w w' : World} {base B : Nat} {fp : List Nat} {l : List α} {v : Value} (h : OwF S t w base fp l v) (hb : Below B w w') (hB : w.heap.size ≤ B) : OwF S t w' base fp l v := by
  obtain ⟨xs, fps, own, hl, hfp, hc⟩ := h
  refine ⟨xs, fps, own_below own hb hB, hl, hfp, fun i a f ha hf => ?_⟩
  obtain ⟨cs, hr, hcs⟩ := hc i a f ha hf
  exact ⟨cs, S.keep hr (fun b hx => hb.block b (by have := S.lt hr b hx; omega)), hcs⟩
/-- a round that appends what a call has made -/
theorem OwF.round {α : Type} {S : Fsh α} {t : TypeId} {wr w1 w4 : World} {base k : Nat} {fp f : List Nat} {v v4 : Value} {L : List α} {y : α} {cs xs : List Value} {o : Obj} (h : OwF S t wr base fp L v) (hk : L.length = k) (hfp : Hid (fp.Nodup ∧ ∀ x ∈ fp, base ≤ x)) (b01 : Below wr.heap.size wr w1) (hbase : base ≤ wr.heap.size)
    (hr : S.rep w1 f y cs) (hf : f.Nodup) (hfr : ∀ x ∈ f, wr.heap.size ≤ x) (own1 : w1.ownsRow base t S.size v k xs) (own4 : w4.ownsRow base t S.size v4 (k + 1) (xs ++ cs)) (hgrow : (w1.alloc o).grownBy w4 v.ownBlock) (hat : v4.ownBlock = v.ownBlock ∨ v4.ownBlock = some (w1.alloc o).heap.size) :
    ∃ fp', OwF S t w4 base fp' (L ++ [y]) v4 ∧ Hid (fp'.Nodup ∧ ∀ x ∈ fp', base ≤ x) := by
  subst hk
  have hn := hfp.out
  have hlt := h.sl.lt
  have hs1 := b01.size
  obtain ⟨fp', h1, h2, h3⟩ := OwF.snoc (o := o) (h.below b01 (Nat.le_refl _)) hr (by
    rw [List.nodup_append]
    exact ⟨hn.1, hf, fun a ha b hb e => by have := hlt a ha; have := hfr b hb; omega⟩) (fun ys hy => by rw [own_uniq hy own1]; exact own4) hgrow (by
      rcases hat with e | e
      · exact Or.inl ⟨e, by rw [← e]; exact own_some own4⟩
      · exact Or.inr e)
  exact ⟨fp', h1, Lib.hid ⟨h2, fun x hx => by
    rcases h3 x hx with h | h | h
    · exact hn.2 x h
    · have := hfr x h
      omega
    · omega⟩⟩
theorem flat_nil (n : List Int) : (n.map fun _ => ([] : List Nat)).flatten = [] := by
  induction n with
  | nil => rfl
  | cons a r ih => simp [ih]
theorem OwF.ints {w : World} {base : Nat} {l : List Int} {v : Value} (h : w.ownsRow base 3 1 v l.length (l.map (Value.int .i64))) (hi : ∀ x ∈ l, I64 x) : ∃ fp, OwF intF 3 w base fp l v ∧ fp.Nodup ∧ ∀ x ∈ fp, base ≤ x := by
  refine ⟨_, ⟨l.map (Value.int .i64), l.map (fun _ => []), h, by simp, rfl, fun i a f ha hf => ?_⟩, ?_, ?_⟩
  · rw [List.getElem?_map, ha] at hf
    injection hf with hf
    subst hf
    refine ⟨[.int .i64 a], ⟨rfl, rfl, hi a (List.mem_of_getElem? ha)⟩, fun j u hu => ?_⟩
    have hj := (List.getElem?_eq_some_iff.1 hu).1
    simp at hj
    subst hj
    simp at hu
    subst hu
    show (l.map (Value.int .i64))[i * 1 + 0]? = _
    rw [Nat.mul_one, Nat.add_zero, List.getElem?_map, ha]
    rfl
  · rw [flat_nil, List.append_nil]
    cases v.ownBlock <;> simp
  · rw [flat_nil, List.append_nil]
    intro x hx
    cases hv : v.ownBlock with
    | none => rw [hv] at hx; cases hx
    | some b =>
      rw [hv] at hx
      simp at hx
      subst hx
      exact own_ge h hv
theorem ints_cells {w : World} {lo B : Nat} {l : List Int} {b off n c : Nat} (h : Sl false (intS false) w lo B l (.slice (some ⟨b, off, none⟩) n c)) : (∀ j, j < l.length → w.cell? ⟨b, off + j, none⟩ = some (.int .i64 (l.getD j 0))) ∧ ∀ x ∈ l, I64 x := by
  constructor
  · intro j hj
    obtain ⟨b', o', a, e, _, _, HL, _, c0⟩ := int_get h hj
    injection e with e
    injection e with e1 e2 _
    subst e1
    subst e2
    rw [c0, List.getD_eq_getElem?_getD, List.getElem?_eq_getElem hj, HL.out]
    rfl
  · intro x hx
    obtain ⟨j, hj, rfl⟩ := List.getElem_of_mem hx
    obtain ⟨_, _, a, _, _, _, HL, hi, _⟩ := int_get h hj
    rw [HL.out]
    exact hi
theorem ToL.of_own {l : List Int} {w w' : World} {v : Value} (h : w'.ownsRow w.heap.size 3 1 v l.length (l.map (Value.int .i64))) (hi : ∀ x ∈ l, I64 x) (hb : Below w.heap.size w w') : ToL intF 3 l w (.returned v) w' := by
  obtain ⟨fp, h1, h2, h3⟩ := OwF.ints h hi
  exact ⟨v, fp, rfl, h1.sl, h2, h3, hb⟩
theorem clone_ints (l : List Int) (v : Value) (w : World) (lo B : Nat) (hl : l.length ≤ 1048576) (hv : Sl false (intS false) w lo B l v) : Calls Try.prog 103 #[v] w (ToL intF 3 l w) := by
  obtain ⟨A, cap, rfl, h1, h2⟩ := hv.form
  by_cases hz : l = []
  · subst hz
    cases A with
    | none =>
      refine (Try.slices_Clone_int_nil _ _ w).mono ?_
      rintro e w' ⟨rfl, rfl⟩
      exact ⟨_, [], rfl, SlF.nil_ _ _ _, by simp, by simp, Below.refl _ _⟩
    | some a =>
      refine (Try.slices_Clone_int_zero a cap w).mono ?_
      rintro e w' ⟨v', rfl, own, _, hb⟩
      exact ToL.of_own (l := []) own (by simp) hb
  · obtain ⟨b, o, _, rfl, _, _, _, _, _⟩ := hv.at_ (i := 0) (List.length_pos_iff.2 hz)
    obtain ⟨hc, hi⟩ := ints_cells hv
    refine (Try.slices_Clone_int b o l.length cap l w (Nat.le_refl _) (by omega) hc).mono ?_
    rintro e w' ⟨v', rfl, own, _, hb⟩
    rw [List.take_length] at own
    exact ToL.of_own own hi hb
/-- of the old blocks only k from lo on have changed -/
def Near (lo k : Nat) (w w' : World) : Prop := Below lo w w' ∧ ∀ x, lo + k ≤ x → w'.heap[x]? = w.heap[x]?
theorem Near.refl (lo k : Nat) (w : World) : Near lo k w w := ⟨Below.refl _ _, fun _ _ => rfl⟩
theorem Near.set {lo k : Nat} {w w' : World} {p : Addr} (h : Near lo k w w') (h0 : lo ≤ p.block) (h1 : p.block < lo + k) (u : Value) : Near lo k w (w'.setCell p u) :=
  ⟨h.1.setCell h0 u, fun x hx => (Below.heap_setCell w' p u x (by omega)).trans (h.2 x hx)⟩
theorem ToF.fin {α : Type} {S : Fsh α} {b : α} {w w1 w2 : World} {k : Nat} {cs : List Value} {f : List Nat} (hr : S.rep w1 f b cs) (hd : f.Nodup) (hf : ∀ x ∈ f, w.heap.size + k ≤ x) (hb : Below w.heap.size w w1) (hn : Near w.heap.size k w1 w2) : ToF S b w (.returned (.agg cs.toArray)) w2 :=
  ⟨cs, f, rfl, S.keep hr (fun x hx => hn.2 x (hf x hx)), hd, fun x hx => by have := hf x hx; omega, hb.trans hn.1⟩
set_option maxRecDepth 100000 in
set_option maxHeartbeats 4000000 in
theorem impl_mapped_Phi (N : FuncId) (C : Array Value) (F : PhiD → PhiD) (l : List PhiD) (v : Value) (w : World) (lo B : Nat) (hB : B ≤ w.heap.size) (hl : l.length ≤ 1048576) (hv : Sl false (phiS false) w lo B l v)
    (HN : ∀ (args : Array Value) (w : World), (callFunc N args).run Try.prog w = .ok (.enter N args) w)
    (HF : ∀ (to : Int) (args : List Int) (v1 : Value) (w' : World), Below w.heap.size w w' → I64 to → Sl false (intS false) w' lo B args v1 → (⟨to, args⟩ : PhiD) ∈ l →
      Calls Try.prog N (#[.agg #[.int .i64 to, v1]] ++ C) w' (ToF phF (F ⟨to, args⟩) w')) :
    Calls Try.prog 99 #[v, .func (.func N) #[] C] w (ToL phF 69 (l.map F) w) := by
  obtain ⟨A, cap, rfl, hlc, hcm⟩ := hv.form
  obtain ⟨i0, hi, hz0, hz1, hz2⟩ := info_parts Try.info_Phi
  replace HF := Lib.hid HF
  go_enter Try.func99, Try.ntmps99
  go_wp2_with fail
  go_loopw [5, 10] (fun vv i wr => ∃ (k : Nat) (fp : List Nat), k ≤ l.length ∧ i = .int .i64 k ∧ OwF phF 69 wr w.heap.size fp ((l.take k).map F) vv ∧ Hid (fp.Nodup ∧ ∀ x ∈ fp, w.heap.size ≤ x) ∧ Below w.heap.size w wr) (fun _ i _ => l.length - (intOf i).toNat)
  case atStart => exact ⟨0, [], by omega, rfl, OwF.nil_ _ _ _ _, Lib.hid ⟨by simp, by simp⟩, Below.refl _ _⟩
  case round =>
    obtain ⟨k, fp, hk, rfl, own, hfp, hb⟩ := hrel
    have hsz := hb.size
    by_cases hkl : k < l.length
    · obtain ⟨b, o, to, args, u1, rfl, _, hbB, HL, g0, g1, c0, c1⟩ := phi_get (hv.below hb hB) hkl
      obtain ⟨A1, p1, hf, _, _⟩ := g1.form
      change _ = Value.slice A1 args.length p1 at hf
      subst hf
      have hkn : (k : Int) < (l.length : Int) := by omega
      have hki : (0 : Int) ≤ (k : Int) := by omega
      obtain ⟨y, hy⟩ : ∃ y, F ⟨to, args⟩ = y := ⟨_, rfl⟩
      have hba : Below wr.heap.size wr (wr.alloc (.cells #[.int .i64 to, .slice A1 args.length p1] 69)) := (Below.refl _ _).alloc (Nat.le_refl _) _
      have H1 := HF.out to args (.slice A1 args.length p1) (wr.alloc (.cells #[.int .i64 to, .slice A1 args.length p1] 69)) (hb.trans (hba.mono hsz)) g0 (g1.below hba (by omega)) (HL.out ▸ List.getElem_mem hkl)
      rw [hy] at H1
      have EL : Hid ((l.take (k + 1)).map F = (l.take k).map F ++ [y]) := by
        show _ = _
        rw [List.take_succ_eq_append_getElem hkl, HL.out, List.map_append]
        simp [hy]
      replace H1 := Lib.hid H1
      clear hy
      have hlk : Hid (((l.take k).map F).length = k) := by
        show _ = _
        simp
        omega
      obtain ⟨xs, own0⟩ : ∃ xs, wr.ownsRow w.heap.size 69 2 u5 k xs := by
        obtain ⟨xs, _, h, _⟩ := own
        rw [hlk.out] at h
        exact ⟨xs, h⟩
      go_wp2_with fail
      refine H1.out.mono ?_
      rintro e w1 ⟨cs, f, rfl, hr, hnd, hfr, b1⟩
      have hr' := hr
      obtain ⟨y1, rfl, _, j1⟩ := hr'
      obtain ⟨B1, q1, hf, _, _⟩ := j1.form
      subst hf
      have b01 : Below wr.heap.size wr w1 := hba.trans (b1.mono hba.size)
      have hfr1 : Hid (∀ x ∈ f, wr.heap.size ≤ x) := Lib.hid (fun x hx => by have := hfr x hx; have := hba.size; omega)
      have hnd1 := Lib.hid hnd
      (try clear hr')
      clear hnd hfr
      have hsz1 : wr.heap.size ≤ w1.heap.size := b01.size
      have own1 := own_below own0 b01 (Nat.le_refl _)
      clear own0
      go_wp2_with (at_builtin; refine wpList_append_own_at _ rfl _ _ 61 rfl w.heap.size 69 i0 (.agg #[.int .i64 0, .slice none 0 0]) 2 32 Try.underlying61 hi hz0 hz1 hz2 rfl (by decide) _ _ _ rfl (own1.alloc _) ⟨w1.heap.size, 0, none⟩ 1 1 [.int .i64 y.to, .slice B1 y.args.length q1] rfl rfl ?c1 ?c2 ?c3 ?c4 ?c5 ?_)
      case c1 => exact cells_row_new w1 [.int .i64 y.to, .slice B1 y.args.length q1] _
      case c2 => first | rfl | (intro u hu; simp at hu; rcases hu with rfl | rfl <;> rfl)
      case c3 => unfold maxLen; omega
      case c4 => omega
      case c5 => simp; omega
      intro v4 w4 own4 hgrow _ hat
      obtain ⟨fp', own', hfp'⟩ := OwF.round own hlk.out hfp b01 hsz hr hnd1.out hfr1.out own1 own4 hgrow (by simpa using hat)
      rw [← EL.out] at own'
      have hb4 : Below w.heap.size w w4 := ((hb.trans (b01.mono hsz)).alloc (by omega) _).grown hgrow (by simp; omega) (fun r hr => own_ge own1 hr)
      clear own4 hgrow hat own1 own hr hfp
      go_wp2_with fail
      go_roundw
      case rel => exact ⟨k + 1, fp', by omega, by go_num, own', hfp', hb4⟩
      case measure => simp [intOf]; omega
    · obtain rfl : k = l.length := by omega
      rw [List.take_length] at own
      go_wp2_with fail
      go_ret
      exact ⟨_, fp, rfl, own.sl, hfp.out.1, hfp.out.2, hb⟩
set_option maxRecDepth 100000 in
set_option maxHeartbeats 4000000 in
theorem impl_mapped_Ins (N : FuncId) (C : Array Value) (F : InsD → InsD) (l : List InsD) (v : Value) (w : World) (lo B : Nat) (hB : B ≤ w.heap.size) (hl : l.length ≤ 1048576) (hv : Sl false (insS false) w lo B l v)
    (HN : ∀ (args : Array Value) (w : World), (callFunc N args).run Try.prog w = .ok (.enter N args) w)
    (HF : ∀ (op : Int) (to : Int) (args : List Int) (v2 : Value) (n : Int) (w' : World), Below w.heap.size w w' → I64 op → I64 to → Sl false (intS false) w' lo B args v2 → I64 n → (⟨op, to, args, n⟩ : InsD) ∈ l →
      Calls Try.prog N (#[.agg #[.int .i64 op, .int .i64 to, v2, .int .i64 n]] ++ C) w' (ToF isF (F ⟨op, to, args, n⟩) w')) :
    Calls Try.prog 101 #[v, .func (.func N) #[] C] w (ToL isF 72 (l.map F) w) := by
  obtain ⟨A, cap, rfl, hlc, hcm⟩ := hv.form
  obtain ⟨i0, hi, hz0, hz1, hz2⟩ := info_parts Try.info_Ins
  replace HF := Lib.hid HF
  go_enter Try.func101, Try.ntmps101
  go_wp2_with fail
  go_loopw [5, 10] (fun vv i wr => ∃ (k : Nat) (fp : List Nat), k ≤ l.length ∧ i = .int .i64 k ∧ OwF isF 72 wr w.heap.size fp ((l.take k).map F) vv ∧ Hid (fp.Nodup ∧ ∀ x ∈ fp, w.heap.size ≤ x) ∧ Below w.heap.size w wr) (fun _ i _ => l.length - (intOf i).toNat)
  case atStart => exact ⟨0, [], by omega, rfl, OwF.nil_ _ _ _ _, Lib.hid ⟨by simp, by simp⟩, Below.refl _ _⟩
  case round =>
    obtain ⟨k, fp, hk, rfl, own, hfp, hb⟩ := hrel
    have hsz := hb.size
    by_cases hkl : k < l.length
    · obtain ⟨b, o, op, to, args, u2, n, rfl, _, hbB, HL, g0, g1, g2, g3, c0, c1, c2, c3⟩ := ins_get (hv.below hb hB) hkl
      obtain ⟨A2, p2, hf, _, _⟩ := g2.form
      change _ = Value.slice A2 args.length p2 at hf
      subst hf
      have hkn : (k : Int) < (l.length : Int) := by omega
      have hki : (0 : Int) ≤ (k : Int) := by omega
      obtain ⟨y, hy⟩ : ∃ y, F ⟨op, to, args, n⟩ = y := ⟨_, rfl⟩
      have hba : Below wr.heap.size wr (wr.alloc (.cells #[.int .i64 op, .int .i64 to, .slice A2 args.length p2, .int .i64 n] 72)) := (Below.refl _ _).alloc (Nat.le_refl _) _
      have H1 := HF.out op to args (.slice A2 args.length p2) n (wr.alloc (.cells #[.int .i64 op, .int .i64 to, .slice A2 args.length p2, .int .i64 n] 72)) (hb.trans (hba.mono hsz)) g0 g1 (g2.below hba (by omega)) g3 (HL.out ▸ List.getElem_mem hkl)
      rw [hy] at H1
      have EL : Hid ((l.take (k + 1)).map F = (l.take k).map F ++ [y]) := by
        show _ = _
        rw [List.take_succ_eq_append_getElem hkl, HL.out, List.map_append]
        simp [hy]
      replace H1 := Lib.hid H1
      clear hy
      have hlk : Hid (((l.take k).map F).length = k) := by
        show _ = _
        simp
        omega
      obtain ⟨xs, own0⟩ : ∃ xs, wr.ownsRow w.heap.size 72 4 u5 k xs := by
        obtain ⟨xs, _, h, _⟩ := own
        rw [hlk.out] at h
        exact ⟨xs, h⟩
      go_wp2_with fail
      refine H1.out.mono ?_
      rintro e w1 ⟨cs, f, rfl, hr, hnd, hfr, b1⟩
      have hr' := hr
      obtain ⟨y2, rfl, _, _, _, j2⟩ := hr'
      obtain ⟨B2, q2, hf, _, _⟩ := j2.form
      subst hf
      have b01 : Below wr.heap.size wr w1 := hba.trans (b1.mono hba.size)
      have hfr1 : Hid (∀ x ∈ f, wr.heap.size ≤ x) := Lib.hid (fun x hx => by have := hfr x hx; have := hba.size; omega)
      have hnd1 := Lib.hid hnd
      (try clear hr')
      clear hnd hfr
      have hsz1 : wr.heap.size ≤ w1.heap.size := b01.size
      have own1 := own_below own0 b01 (Nat.le_refl _)
      clear own0
      go_wp2_with (at_builtin; refine wpList_append_own_at _ rfl _ _ 62 rfl w.heap.size 72 i0 (.agg #[.int .i64 0, .int .i64 0, .slice none 0 0, .int .i64 0]) 4 48 Try.underlying62 hi hz0 hz1 hz2 rfl (by decide) _ _ _ rfl (own1.alloc _) ⟨w1.heap.size, 0, none⟩ 1 1 [.int .i64 y.op, .int .i64 y.to, .slice B2 y.args.length q2, .int .i64 y.n] rfl rfl ?c1 ?c2 ?c3 ?c4 ?c5 ?_)
      case c1 => exact cells_row_new w1 [.int .i64 y.op, .int .i64 y.to, .slice B2 y.args.length q2, .int .i64 y.n] _
      case c2 => first | rfl | (intro u hu; simp at hu; rcases hu with rfl | rfl | rfl | rfl <;> rfl)
      case c3 => unfold maxLen; omega
      case c4 => omega
      case c5 => simp; omega
      intro v4 w4 own4 hgrow _ hat
      obtain ⟨fp', own', hfp'⟩ := OwF.round own hlk.out hfp b01 hsz hr hnd1.out hfr1.out own1 own4 hgrow (by simpa using hat)
      rw [← EL.out] at own'
      have hb4 : Below w.heap.size w w4 := ((hb.trans (b01.mono hsz)).alloc (by omega) _).grown hgrow (by simp; omega) (fun r hr => own_ge own1 hr)
      clear own4 hgrow hat own1 own hr hfp
      go_wp2_with fail
      go_roundw
      case rel => exact ⟨k + 1, fp', by omega, by go_num, own', hfp', hb4⟩
      case measure => simp [intOf]; omega
    · obtain rfl : k = l.length := by omega
      rw [List.take_length] at own
      go_wp2_with fail
      go_ret
      exact ⟨_, fp, rfl, own.sl, hfp.out.1, hfp.out.2, hb⟩
set_option maxRecDepth 100000 in
set_option maxHeartbeats 4000000 in
theorem impl_mapped_Block (N : FuncId) (C : Array Value) (F : BlkD → BlkD) (l : List BlkD) (v : Value) (w : World) (lo B : Nat) (hB : B ≤ w.heap.size) (hl : l.length ≤ 1048576) (hv : Sl false (blkS false) w lo B l v)
    (HN : ∀ (args : Array Value) (w : World), (callFunc N args).run Try.prog w = .ok (.enter N args) w)
    (HF : ∀ (phis : List PhiD) (v0 : Value) (ins : List InsD) (v1 : Value) (jump : Int) (on : Int) (next : List Int) (v4 : Value) (w' : World), Below w.heap.size w w' → Sl false (phiS false) w' lo B phis v0 → Sl false (insS false) w' lo B ins v1 → I64 jump → I64 on → Sl false (intS false) w' lo B next v4 → (⟨phis, ins, jump, on, next⟩ : BlkD) ∈ l →
      Calls Try.prog N (#[.agg #[v0, v1, .int .i64 jump, .int .i64 on, v4]] ++ C) w' (ToF bkF (F ⟨phis, ins, jump, on, next⟩) w')) :
    Calls Try.prog 70 #[v, .func (.func N) #[] C] w (ToL bkF 65 (l.map F) w) := by
  obtain ⟨A, cap, rfl, hlc, hcm⟩ := hv.form
  obtain ⟨i0, hi, hz0, hz1, hz2⟩ := info_parts Try.info_Block
  replace HF := Lib.hid HF
  go_enter Try.func70, Try.ntmps70
  go_wp2_with fail
  go_loopw [5, 10] (fun vv i wr => ∃ (k : Nat) (fp : List Nat), k ≤ l.length ∧ i = .int .i64 k ∧ OwF bkF 65 wr w.heap.size fp ((l.take k).map F) vv ∧ Hid (fp.Nodup ∧ ∀ x ∈ fp, w.heap.size ≤ x) ∧ Below w.heap.size w wr) (fun _ i _ => l.length - (intOf i).toNat)
  case atStart => exact ⟨0, [], by omega, rfl, OwF.nil_ _ _ _ _, Lib.hid ⟨by simp, by simp⟩, Below.refl _ _⟩
  case round =>
    obtain ⟨k, fp, hk, rfl, own, hfp, hb⟩ := hrel
    have hsz := hb.size
    by_cases hkl : k < l.length
    · obtain ⟨b, o, phis, u0, ins, u1, jump, on, next, u4, rfl, _, hbB, HL, g0, g1, g2, g3, g4, c0, c1, c2, c3, c4⟩ := blk_get (hv.below hb hB) hkl
      obtain ⟨A0, p0, hf, _, _⟩ := g0.form
      change _ = Value.slice A0 phis.length p0 at hf
      subst hf
      obtain ⟨A1, p1, hf, _, _⟩ := g1.form
      change _ = Value.slice A1 ins.length p1 at hf
      subst hf
      obtain ⟨A4, p4, hf, _, _⟩ := g4.form
      change _ = Value.slice A4 next.length p4 at hf
      subst hf
      have hkn : (k : Int) < (l.length : Int) := by omega
      have hki : (0 : Int) ≤ (k : Int) := by omega
      obtain ⟨y, hy⟩ : ∃ y, F ⟨phis, ins, jump, on, next⟩ = y := ⟨_, rfl⟩
      have hba : Below wr.heap.size wr (wr.alloc (.cells #[.slice A0 phis.length p0, .slice A1 ins.length p1, .int .i64 jump, .int .i64 on, .slice A4 next.length p4] 65)) := (Below.refl _ _).alloc (Nat.le_refl _) _
      have H1 := HF.out phis (.slice A0 phis.length p0) ins (.slice A1 ins.length p1) jump on next (.slice A4 next.length p4) (wr.alloc (.cells #[.slice A0 phis.length p0, .slice A1 ins.length p1, .int .i64 jump, .int .i64 on, .slice A4 next.length p4] 65)) (hb.trans (hba.mono hsz)) (g0.below hba (by omega)) (g1.below hba (by omega)) g2 g3 (g4.below hba (by omega)) (HL.out ▸ List.getElem_mem hkl)
      rw [hy] at H1
      have EL : Hid ((l.take (k + 1)).map F = (l.take k).map F ++ [y]) := by
        show _ = _
        rw [List.take_succ_eq_append_getElem hkl, HL.out, List.map_append]
        simp [hy]
      replace H1 := Lib.hid H1
      clear hy
      have hlk : Hid (((l.take k).map F).length = k) := by
        show _ = _
        simp
        omega
      obtain ⟨xs, own0⟩ : ∃ xs, wr.ownsRow w.heap.size 65 5 u5 k xs := by
        obtain ⟨xs, _, h, _⟩ := own
        rw [hlk.out] at h
        exact ⟨xs, h⟩
      go_wp2_with fail
      refine H1.out.mono ?_
      rintro e w1 ⟨cs, f, rfl, hr, hnd, hfr, b1⟩
      have hr' := hr
      obtain ⟨f0, f1, f2, y0, y1, y4, _, rfl, j2, j3, j0, j1, j4⟩ := hr'
      obtain ⟨B0, q0, hf, _, _⟩ := j0.form
      subst hf
      obtain ⟨B1, q1, hf, _, _⟩ := j1.form
      subst hf
      obtain ⟨B4, q4, hf, _, _⟩ := j4.form
      subst hf
      have b01 : Below wr.heap.size wr w1 := hba.trans (b1.mono hba.size)
      have hfr1 : Hid (∀ x ∈ f, wr.heap.size ≤ x) := Lib.hid (fun x hx => by have := hfr x hx; have := hba.size; omega)
      have hnd1 := Lib.hid hnd
      (try clear hr')
      clear hnd hfr
      have hsz1 : wr.heap.size ≤ w1.heap.size := b01.size
      have own1 := own_below own0 b01 (Nat.le_refl _)
      clear own0
      go_wp2_with (at_builtin; refine wpList_append_own_at _ rfl _ _ 37 rfl w.heap.size 65 i0 (.agg #[.slice none 0 0, .slice none 0 0, .int .i64 0, .int .i64 0, .slice none 0 0]) 5 88 Try.underlying37 hi hz0 hz1 hz2 rfl (by decide) _ _ _ rfl (own1.alloc _) ⟨w1.heap.size, 0, none⟩ 1 1 [.slice B0 y.phis.length q0, .slice B1 y.ins.length q1, .int .i64 y.jump, .int .i64 y.on, .slice B4 y.next.length q4] rfl rfl ?c1 ?c2 ?c3 ?c4 ?c5 ?_)
      case c1 => exact cells_row_new w1 [.slice B0 y.phis.length q0, .slice B1 y.ins.length q1, .int .i64 y.jump, .int .i64 y.on, .slice B4 y.next.length q4] _
      case c2 => first | rfl | (intro u hu; simp at hu; rcases hu with rfl | rfl | rfl | rfl | rfl <;> rfl)
      case c3 => unfold maxLen; omega
      case c4 => omega
      case c5 => simp; omega
      intro v4 w4 own4 hgrow _ hat
      obtain ⟨fp', own', hfp'⟩ := OwF.round own hlk.out hfp b01 hsz hr hnd1.out hfr1.out own1 own4 hgrow (by simpa using hat)
      rw [← EL.out] at own'
      have hb4 : Below w.heap.size w w4 := ((hb.trans (b01.mono hsz)).alloc (by omega) _).grown hgrow (by simp; omega) (fun r hr => own_ge own1 hr)
      clear own4 hgrow hat own1 own hr hfp
      go_wp2_with fail
      go_roundw
      case rel => exact ⟨k + 1, fp', by omega, by go_num, own', hfp', hb4⟩
      case measure => simp [intOf]; omega
    · obtain rfl : k = l.length := by omega
      rw [List.take_length] at own
      go_wp2_with fail
      go_ret
      exact ⟨_, fp, rfl, own.sl, hfp.out.1, hfp.out.2, hb⟩
set_option maxRecDepth 100000 in
set_option maxHeartbeats 4000000 in
theorem impl_mapped_Code (N : FuncId) (C : Array Value) (F : CodeD → CodeD) (l : List CodeD) (v : Value) (w : World) (lo B : Nat) (hB : B ≤ w.heap.size) (hl : l.length ≤ 1048576) (hv : Sl false (codeS false) w lo B l v)
    (HN : ∀ (args : Array Value) (w : World), (callFunc N args).run Try.prog w = .ok (.enter N args) w)
    (HF : ∀ (params : Int) (regs : Int) (blocks : List BlkD) (v2 : Value) (w' : World), Below w.heap.size w w' → I64 params → I64 regs → Sl false (blkS false) w' lo B blocks v2 → (⟨params, regs, blocks⟩ : CodeD) ∈ l →
      Calls Try.prog N (#[.agg #[.int .i64 params, .int .i64 regs, v2]] ++ C) w' (ToF cdF (F ⟨params, regs, blocks⟩) w')) :
    Calls Try.prog 21 #[v, .func (.func N) #[] C] w (ToL cdF 39 (l.map F) w) := by
  obtain ⟨A, cap, rfl, hlc, hcm⟩ := hv.form
  obtain ⟨i0, hi, hz0, hz1, hz2⟩ := info_parts Try.info_Code
  replace HF := Lib.hid HF
  go_enter Try.func21, Try.ntmps21
  go_wp2_with fail
  go_loopw [5, 10] (fun vv i wr => ∃ (k : Nat) (fp : List Nat), k ≤ l.length ∧ i = .int .i64 k ∧ OwF cdF 39 wr w.heap.size fp ((l.take k).map F) vv ∧ Hid (fp.Nodup ∧ ∀ x ∈ fp, w.heap.size ≤ x) ∧ Below w.heap.size w wr) (fun _ i _ => l.length - (intOf i).toNat)
  case atStart => exact ⟨0, [], by omega, rfl, OwF.nil_ _ _ _ _, Lib.hid ⟨by simp, by simp⟩, Below.refl _ _⟩
  case round =>
    obtain ⟨k, fp, hk, rfl, own, hfp, hb⟩ := hrel
    have hsz := hb.size
    by_cases hkl : k < l.length
    · obtain ⟨b, o, params, regs, blocks, u2, rfl, _, hbB, HL, g0, g1, g2, c0, c1, c2⟩ := code_get (hv.below hb hB) hkl
      obtain ⟨A2, p2, hf, _, _⟩ := g2.form
      change _ = Value.slice A2 blocks.length p2 at hf
      subst hf
      have hkn : (k : Int) < (l.length : Int) := by omega
      have hki : (0 : Int) ≤ (k : Int) := by omega
      obtain ⟨y, hy⟩ : ∃ y, F ⟨params, regs, blocks⟩ = y := ⟨_, rfl⟩
      have hba : Below wr.heap.size wr (wr.alloc (.cells #[.int .i64 params, .int .i64 regs, .slice A2 blocks.length p2] 39)) := (Below.refl _ _).alloc (Nat.le_refl _) _
      have H1 := HF.out params regs blocks (.slice A2 blocks.length p2) (wr.alloc (.cells #[.int .i64 params, .int .i64 regs, .slice A2 blocks.length p2] 39)) (hb.trans (hba.mono hsz)) g0 g1 (g2.below hba (by omega)) (HL.out ▸ List.getElem_mem hkl)
      rw [hy] at H1
      have EL : Hid ((l.take (k + 1)).map F = (l.take k).map F ++ [y]) := by
        show _ = _
        rw [List.take_succ_eq_append_getElem hkl, HL.out, List.map_append]
        simp [hy]
      replace H1 := Lib.hid H1
      clear hy
      have hlk : Hid (((l.take k).map F).length = k) := by
        show _ = _
        simp
        omega
      obtain ⟨xs, own0⟩ : ∃ xs, wr.ownsRow w.heap.size 39 3 u5 k xs := by
        obtain ⟨xs, _, h, _⟩ := own
        rw [hlk.out] at h
        exact ⟨xs, h⟩
      go_wp2_with fail
      refine H1.out.mono ?_
      rintro e w1 ⟨cs, f, rfl, hr, hnd, hfr, b1⟩
      have hr' := hr
      obtain ⟨y2, rfl, _, _, j2⟩ := hr'
      obtain ⟨B2, q2, hf, _, _⟩ := j2.form
      subst hf
      have b01 : Below wr.heap.size wr w1 := hba.trans (b1.mono hba.size)
      have hfr1 : Hid (∀ x ∈ f, wr.heap.size ≤ x) := Lib.hid (fun x hx => by have := hfr x hx; have := hba.size; omega)
      have hnd1 := Lib.hid hnd
      (try clear hr')
      clear hnd hfr
      have hsz1 : wr.heap.size ≤ w1.heap.size := b01.size
      have own1 := own_below own0 b01 (Nat.le_refl _)
      clear own0
      go_wp2_with (at_builtin; refine wpList_append_own_at _ rfl _ _ 26 rfl w.heap.size 39 i0 (.agg #[.int .i64 0, .int .i64 0, .slice none 0 0]) 3 40 Try.underlying26 hi hz0 hz1 hz2 rfl (by decide) _ _ _ rfl (own1.alloc _) ⟨w1.heap.size, 0, none⟩ 1 1 [.int .i64 y.params, .int .i64 y.regs, .slice B2 y.blocks.length q2] rfl rfl ?c1 ?c2 ?c3 ?c4 ?c5 ?_)
      case c1 => exact cells_row_new w1 [.int .i64 y.params, .int .i64 y.regs, .slice B2 y.blocks.length q2] _
      case c2 => first | rfl | (intro u hu; simp at hu; rcases hu with rfl | rfl | rfl <;> rfl)
      case c3 => unfold maxLen; omega
      case c4 => omega
      case c5 => simp; omega
      intro v4 w4 own4 hgrow _ hat
      obtain ⟨fp', own', hfp'⟩ := OwF.round own hlk.out hfp b01 hsz hr hnd1.out hfr1.out own1 own4 hgrow (by simpa using hat)
      rw [← EL.out] at own'
      have hb4 : Below w.heap.size w w4 := ((hb.trans (b01.mono hsz)).alloc (by omega) _).grown hgrow (by simp; omega) (fun r hr => own_ge own1 hr)
      clear own4 hgrow hat own1 own hr hfp
      go_wp2_with fail
      go_roundw
      case rel => exact ⟨k + 1, fp', by omega, by go_num, own', hfp', hb4⟩
      case measure => simp [intOf]; omega
    · obtain rfl : k = l.length := by omega
      rw [List.take_length] at own
      go_wp2_with fail
      go_ret
      exact ⟨_, fp, rfl, own.sl, hfp.out.1, hfp.out.2, hb⟩
end Go.Proofs.Ytgcjccoglcgcoaa
