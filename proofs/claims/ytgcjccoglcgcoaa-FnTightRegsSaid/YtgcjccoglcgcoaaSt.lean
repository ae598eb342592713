/-
  Helpers of the exact copies: the state of a call that makes blocks and appends to what it owns. No condition.
-/
import Derived.Test.YtgcjccoglcgcoaaCln
import Derived.Test.YtgcjccoglcgcoaaSet5
import Derived.Lib.SlFresh
namespace Go.Proofs.Ytgcjccoglcgcoaa
open Go.RowKit Go.ChangeShapes Go.WideShapes Go.Deep
set_option linter.unusedVariables false
set_option linter.unusedSimpArgs false
/-- a list of numbers appended to an empty slice: a new row -/
theorem append_intsF (w : World) (lo B : Nat) (a : Addr) (A : Option Addr) (l : List Int) (c : Nat) (hv : Sl false (intS false) w lo B l (.slice A l.length c)) (hl : l.length ≤ 1048576) :
    ∃ (A' : Option Addr) (c' : Nat) (f : List Nat) (w' : World), (Builtin.append_ #[63, 63] 63 #[.slice (some a) 0 0, .slice A l.length c]).run Try.prog w = .ok (.slice A' l.length c') w' ∧ SlF intF 3 w' f l (.slice A' l.length c') ∧ f.Nodup ∧ (∀ x ∈ f, w.heap.size ≤ x) ∧ Below w.heap.size w w' := by
  obtain ⟨i0, hi, hz0, hz1, hz2⟩ := info_parts Try.info_int
  by_cases hn : l = []
  · subst hn
    refine ⟨some a, 0, [], w, ?_, SlF.empty_ _ _ _ _, by simp, by simp, Below.refl _ _⟩
    cases A with
    | none => simp [Builtin.append_, run_underlying Try.underlying63, sizeOf, typeInfo, hi, Builtin.lenOf, Builtin.firstCells, loadCells, loadCellsFrom, storeCells]
    | some p => simp [Builtin.append_, run_underlying Try.underlying63, sizeOf, typeInfo, hi, Builtin.lenOf, Builtin.firstCells, loadCells, loadCellsFrom, storeCells]
  · obtain ⟨b, o, _, rfl, _, _, _, _, _⟩ := hv.at_ (i := 0) (List.length_pos_iff.2 hn)
    obtain ⟨hc, hi64⟩ := ints_cells hv
    have hpos := List.length_pos_iff.2 hn
    have hnews : ∀ j u, (l.map (Value.int .i64))[j]? = some u → w.cell? ((⟨b, o, none⟩ : Addr).add j) = some u := by
      intro j u hu
      have hj : j < l.length := by
        have := (List.getElem?_eq_some_iff.1 hu).1
        simpa using this
      have h1 := hc j hj
      rw [List.getElem?_map, List.getElem?_eq_getElem hj] at hu
      simp at hu
      subst hu
      rw [List.getD_eq_getElem?_getD, List.getElem?_eq_getElem hj] at h1
      rw [show (⟨b, o, none⟩ : Addr).add j = ⟨b, o + j, none⟩ by by_cases hj0 : j = 0 <;> simp [Addr.add, hj0]]
      exact h1
    have hr := run_append_grow (P := Try.prog) w 63 63 3 i0 (.int .i64 0) Try.underlying63 hi hz0 a 0 0 [] (by simp) (fun j v hv => by simp at hv) ⟨b, o, none⟩ l.length c (l.map (Value.int .i64)) (by rw [hz1]; simp) hnews (by omega) (by omega) (growslice_fits (by omega) (by rw [hz2]; omega))
    have hge := grownCap_ge w (0 + l.length) 0 3
    have hcm : grownCap w (0 + l.length) 0 3 ≤ maxLen := grownCap_le_maxLen w (0 + l.length) 0 3 (by unfold maxLen; omega)
    simp only [Nat.zero_add] at hr hge hcm
    obtain ⟨fp, h1, h2, h3⟩ := OwF.ints (base := w.heap.size) (w := w.drew.alloc (.cells (([] : List Value).toArray ++ (l.map (Value.int .i64)).toArray ++ Builtin.zeroCells (Value.int .i64 0).cells (grownCap w l.length 0 3 - l.length)) 3)) (l := l) (v := .slice (some ⟨w.heap.size, 0, none⟩) l.length (grownCap w l.length 0 3)) ⟨by simp, Or.inr ⟨w.heap.size, _, _, rfl, Nat.le_refl _, heap_alloc_new w.drew _, hge, hcm, by
      simp only [Array.size_append, List.size_toArray, size_zeroCells, List.length_map, List.length_nil]
      rw [show (Value.cells (.int .i64 0)).size = 1 from rfl]
      omega, by simp⟩⟩ hi64
    exact ⟨_, _, fp, _, hr, h1.sl, h2, h3, ((Below.refl _ w).drew).alloc (Nat.le_refl _) _⟩
/-- the call of a copy in its first steps: the empty rows, the box, the numbers, each made or not -/
structure S1 (w wd : World) (bb zz : Array Value) (o0 o1 og f : List Nat) (l : List Int) (v : Value) : Prop where
  hbl : Below w.heap.size w wd
  Rb : Row wd w.heap.size 65 bb
  RR : Row wd (w.heap.size + 1) 65 zz
  h0 : ∀ b ∈ o0, Row wd b 69 #[]
  h1 : ∀ b ∈ o1, Row wd b 72 #[]
  hg : ∀ b ∈ og, Row wd b 65 zz
  nd : (o0 ++ (o1 ++ (og ++ f))).Nodup
  ge : ∀ x ∈ o0 ++ (o1 ++ (og ++ f)), w.heap.size + 2 ≤ x ∧ x < wd.heap.size
  sl : SlF intF 3 wd f l v
theorem S1.below {w wd w' : World} {bb zz : Array Value} {o0 o1 og f : List Nat} {l : List Int} {v : Value} (h : S1 w wd bb zz o0 o1 og f l v) (nb : Below wd.heap.size wd w') : S1 w w' bb zz o0 o1 og f l v :=
  ⟨h.hbl.trans (nb.mono h.hbl.size), h.Rb.below nb h.Rb.lt, h.RR.below nb h.RR.lt, fun b hb => (h.h0 b hb).below nb (h.h0 b hb).lt, fun b hb => (h.h1 b hb).below nb (h.h1 b hb).lt, fun b hb => (h.hg b hb).below nb (h.hg b hb).lt, h.nd,
    fun x hx => ⟨(h.ge x hx).1, by have := (h.ge x hx).2; have := nb.size; omega⟩, h.sl.keep fun b hb => nb.block b (h.sl.lt b hb)⟩
theorem S1.drew {w wd : World} {bb zz : Array Value} {o0 o1 og f : List Nat} {l : List Int} {v : Value} (h : S1 w wd bb zz o0 o1 og f l v) : S1 w wd.drew bb zz o0 o1 og f l v := h.below (Below.refl _ _).drew
theorem S1.al {w wd : World} {bb zz : Array Value} {o0 o1 og f : List Nat} {l : List Int} {v : Value} (h : S1 w wd bb zz o0 o1 og f l v) (o : Obj) : S1 w (wd.alloc o) bb zz o0 o1 og f l v := h.below ((Below.refl _ _).alloc (Nat.le_refl _) _)
theorem nodup_mid {a b : List Nat} {n : Nat} (h : (a ++ b).Nodup) (hn : ∀ x ∈ a ++ b, x < n) : (a ++ n :: b).Nodup := by
  rw [List.nodup_append] at h ⊢
  obtain ⟨h1, h2, h3⟩ := h
  refine ⟨h1, List.nodup_cons.2 ⟨fun hm => by have := hn n (by simp [hm]); omega, h2⟩, fun x hx y hy => ?_⟩
  rcases List.mem_cons.1 hy with rfl | hy
  · have := hn x (by simp [hx])
    omega
  · exact h3 x hx y hy
theorem ge_mid {a b : List Nat} {n B : Nat} (h : ∀ x ∈ a ++ b, B ≤ x ∧ x < n) (hB : B ≤ n) : ∀ x ∈ a ++ n :: b, B ≤ x ∧ x < n + 1 := by
  intro x hx
  rcases List.mem_append.1 hx with hx | hx
  · have := h x (by simp [hx])
    omega
  · rcases List.mem_cons.1 hx with rfl | hx
    · omega
    · have := h x (by simp [hx])
      omega
theorem S1.big {w wd : World} {bb zz : Array Value} {o0 o1 og f : List Nat} {l : List Int} {v : Value} (h : S1 w wd bb zz o0 o1 og f l v) : w.heap.size + 2 ≤ wd.heap.size := by
  have := h.RR.lt
  omega
theorem S1.a0 {w wd : World} {bb zz : Array Value} {o1 og f : List Nat} {l : List Int} {v : Value} (h : S1 w wd bb zz [] o1 og f l v) : S1 w (wd.alloc (.cells #[] 69)) bb zz [wd.heap.size] o1 og f l v :=
  let k := h.al (.cells #[] 69)
  ⟨k.hbl, k.Rb, k.RR, fun b hb => by
    simp at hb
    subst hb
    exact Row.new wd _ _, k.h1, k.hg, nodup_mid (a := []) h.nd (fun x hx => (h.ge x hx).2), by simpa using ge_mid (a := []) h.ge h.big, k.sl⟩
theorem S1.a1 {w wd : World} {bb zz : Array Value} {o0 og f : List Nat} {l : List Int} {v : Value} (h : S1 w wd bb zz o0 [] og f l v) : S1 w (wd.alloc (.cells #[] 72)) bb zz o0 [wd.heap.size] og f l v :=
  let k := h.al (.cells #[] 72)
  ⟨k.hbl, k.Rb, k.RR, k.h0, fun b hb => by
    simp at hb
    subst hb
    exact Row.new wd _ _, k.hg, nodup_mid h.nd (fun x hx => (h.ge x hx).2), by simpa using ge_mid h.ge h.big, k.sl⟩
theorem S1.ag {w wd : World} {bb zz : Array Value} {o0 o1 f : List Nat} {l : List Int} {v : Value} (h : S1 w wd bb zz o0 o1 [] f l v) : S1 w (wd.alloc (.cells zz 65)) bb zz o0 o1 [wd.heap.size] f l v :=
  let k := h.al (.cells zz 65)
  ⟨k.hbl, k.Rb, k.RR, k.h0, k.h1, fun b hb => by
    simp at hb
    subst hb
    exact Row.new wd _ _, by
      have := nodup_mid (a := o0 ++ o1) (b := f) (n := wd.heap.size) (by simpa using h.nd) (fun x hx => (h.ge x (by simpa using hx)).2)
      simpa using this, by
      have := ge_mid (a := o0 ++ o1) (b := f) (fun x hx => h.ge x (by simpa using hx)) h.big
      simpa using this, k.sl⟩
theorem S1.ap {w wd : World} {bb zz : Array Value} {o0 o1 og : List Nat} {lo B c : Nat} {A : Option Addr} {l : List Int} (h : S1 w wd bb zz o0 o1 og [] [] (.slice none 0 0)) (a : Addr) (hv : Sl false (intS false) wd lo B l (.slice A l.length c)) (hl : l.length ≤ 1048576) :
    ∃ (A' : Option Addr) (c' : Nat) (f : List Nat) (w' : World), (Builtin.append_ #[63, 63] 63 #[.slice (some a) 0 0, .slice A l.length c]).run Try.prog wd = .ok (.slice A' l.length c') w' ∧ S1 w w' bb zz o0 o1 og f l (.slice A' l.length c') := by
  obtain ⟨A', c', f, w', hr, hs, hn, hf, nb⟩ := append_intsF wd lo B a A l c hv hl
  have k := h.below nb
  refine ⟨A', c', f, w', hr, k.hbl, k.Rb, k.RR, k.h0, k.h1, k.hg, ?_, fun x hx => ?_, hs⟩
  · have h1 := h.nd
    simp only [List.append_nil] at h1
    have : ((o0 ++ (o1 ++ og)) ++ f).Nodup := by
      rw [List.nodup_append]
      refine ⟨h1, hn, fun a ha b hb => ?_⟩
      have h2 := (h.ge a (by simpa using ha)).2
      have h3 := hf b hb
      omega
    simpa using this
  · by_cases hx' : x ∈ f
    · have := hf x hx'
      have := h.big
      exact ⟨by omega, hs.lt x hx'⟩
    · exact k.ge x (by
        simp only [List.append_nil]
        simp only [List.mem_append] at hx ⊢
        rcases hx with hx | hx | hx | hx
        · exact Or.inl hx
        · exact Or.inr (Or.inl hx)
        · exact Or.inr (Or.inr hx)
        · exact absurd hx hx')
/-- the call of a copy in its loops: the box; the blocks K as they were at w0; other rows -/
structure S2 (tb : TypeId) (w w0 wd : World) (bb zz : Array Value) (gb : Nat) (cs : Array Value) (K : List Nat) (X : List (Nat × TypeId × Array Value)) : Prop where
  hbl : Below w.heap.size w wd
  Rb : Row wd w.heap.size tb bb
  RR : Row wd (w.heap.size + 1) tb zz
  Rg : Row wd gb tb cs
  hgb : w.heap.size + 2 ≤ gb
  gK : gb ∉ K
  hK : ∀ x ∈ K, w.heap.size + 2 ≤ x ∧ x < wd.heap.size ∧ wd.heap[x]? = w0.heap[x]?
  hX : ∀ r ∈ X, w.heap.size + 2 ≤ r.1 ∧ r.1 ≠ gb ∧ Row wd r.1 r.2.1 r.2.2
theorem S2.below {tb : TypeId} {w w0 wd w' : World} {bb zz cs : Array Value} {gb : Nat} {K : List Nat} {X : List (Nat × TypeId × Array Value)} (h : S2 tb w w0 wd bb zz gb cs K X) (nb : Below wd.heap.size wd w') : S2 tb w w0 w' bb zz gb cs K X :=
  ⟨h.hbl.trans (nb.mono h.hbl.size), h.Rb.below nb h.Rb.lt, h.RR.below nb h.RR.lt, h.Rg.below nb h.Rg.lt, h.hgb, h.gK,
    fun x hx => ⟨(h.hK x hx).1, by have := (h.hK x hx).2.1; have := nb.size; omega, (nb.block x (h.hK x hx).2.1).trans (h.hK x hx).2.2⟩, fun r hr => ⟨(h.hX r hr).1, (h.hX r hr).2.1, (h.hX r hr).2.2.below nb (h.hX r hr).2.2.lt⟩⟩
theorem S2.drew {tb : TypeId} {w w0 wd : World} {bb zz cs : Array Value} {gb : Nat} {K : List Nat} {X : List (Nat × TypeId × Array Value)} (h : S2 tb w w0 wd bb zz gb cs K X) : S2 tb w w0 wd.drew bb zz gb cs K X := h.below (Below.refl _ _).drew
theorem S2.al {tb : TypeId} {w w0 wd : World} {bb zz cs : Array Value} {gb : Nat} {K : List Nat} {X : List (Nat × TypeId × Array Value)} (h : S2 tb w w0 wd bb zz gb cs K X) (o : Obj) : S2 tb w w0 (wd.alloc o) bb zz gb cs K X := h.below ((Below.refl _ _).alloc (Nat.le_refl _) _)
theorem S2.grown {tb : TypeId} {w w0 wd w' : World} {bb zz cs : Array Value} {gb : Nat} {K : List Nat} {X : List (Nat × TypeId × Array Value)} {r : Option Nat} (h : S2 tb w w0 wd bb zz gb cs K X) (g : wd.grownBy w' r) (hr : ∀ b, r = some b → w.heap.size + 2 ≤ b ∧ b ≠ gb ∧ b ∉ K ∧ ∀ x ∈ X, x.1 ≠ b) : S2 tb w w0 w' bb zz gb cs K X :=
  ⟨grown_below h.hbl h.hbl.size g (fun b hb => by have := (hr b hb).1; omega), (g.block _ h.Rb.lt (fun e => by have := (hr _ e.symm).1; omega)).trans h.Rb, (g.block _ h.RR.lt (fun e => by have := (hr _ e.symm).1; omega)).trans h.RR, (g.block _ h.Rg.lt (fun e => (hr _ e.symm).2.1 rfl)).trans h.Rg, h.hgb, h.gK,
    fun x hx => ⟨(h.hK x hx).1, by have := (h.hK x hx).2.1; have := g.size; omega, (g.block x (h.hK x hx).2.1 (fun e => (hr _ e.symm).2.2.1 hx)).trans (h.hK x hx).2.2⟩,
    fun x hx => ⟨(h.hX x hx).1, (h.hX x hx).2.1, (g.block _ (h.hX x hx).2.2.lt (fun e => (hr _ e.symm).2.2.2 x hx rfl)).trans (h.hX x hx).2.2⟩⟩
theorem S2.set {tb : TypeId} {w w0 wd : World} {bb zz cs : Array Value} {gb : Nat} {K : List Nat} {X : List (Nat × TypeId × Array Value)} (h : S2 tb w w0 wd bb zz gb cs K X) (j : Nat) (u : Value) : S2 tb w w0 (wd.setCell ⟨gb, j, none⟩ u) bb zz gb (cs.setIfInBounds j u) K X :=
  have hgb := h.hgb
  ⟨h.hbl.setCell (p := ⟨gb, j, none⟩) (by show w.heap.size ≤ gb; omega) u, h.Rb.far (p := ⟨gb, j, none⟩) (by show w.heap.size ≠ gb; omega) u, h.RR.far (p := ⟨gb, j, none⟩) (by show w.heap.size + 1 ≠ gb; omega) u, h.Rg.set_ j u, h.hgb, h.gK,
    fun x hx => ⟨(h.hK x hx).1, by simpa using (h.hK x hx).2.1, (Below.heap_setCell wd ⟨gb, j, none⟩ u x (fun e => h.gK (by have : x = gb := e; exact this ▸ hx))).trans (h.hK x hx).2.2⟩, fun r hr => ⟨(h.hX r hr).1, (h.hX r hr).2.1, (h.hX r hr).2.2.far (p := ⟨gb, j, none⟩) (h.hX r hr).2.1 u⟩⟩
theorem S2.old {tb : TypeId} {w w0 wd : World} {bb zz cs : Array Value} {gb : Nat} {K : List Nat} {X : List (Nat × TypeId × Array Value)} (h : S2 tb w w0 wd bb zz gb cs K X) {b o : Nat} (hb : b < w.heap.size) {x : Option Value} (hx : w.cell? ⟨b, o, none⟩ = x) : wd.cell? ⟨b, o, none⟩ = x := (h.hbl.cell (p := ⟨b, o, none⟩) hb).trans hx
theorem S2.x1 {tb : TypeId} {w w0 wd : World} {bb zz cs xs : Array Value} {gb gx : Nat} {t : TypeId} {K : List Nat} (h : S2 tb w w0 wd bb zz gb cs K [(gx, t, xs)]) : Row wd gx t xs := (h.hX _ (List.mem_singleton_self _)).2.2
theorem S2.big {tb : TypeId} {w w0 wd : World} {bb zz cs : Array Value} {gb : Nat} {K : List Nat} {X : List (Nat × TypeId × Array Value)} (h : S2 tb w w0 wd bb zz gb cs K X) : w.heap.size + 2 ≤ wd.heap.size := by
  have := h.RR.lt
  omega
/-- a row is looked after besides -/
theorem S2.row {tb : TypeId} {w w0 wd : World} {bb zz cs : Array Value} {gb : Nat} {K : List Nat} (h : S2 tb w w0 wd bb zz gb cs K []) (t : TypeId) (xs : Array Value) : S2 tb w w0 (wd.alloc (.cells xs t)) bb zz gb cs K [(wd.heap.size, t, xs)] :=
  have k := h.al (.cells xs t)
  ⟨k.hbl, k.Rb, k.RR, k.Rg, k.hgb, k.gK, k.hK, fun r hr => by
    simp at hr
    subst hr
    exact ⟨h.big, fun e => by have := h.Rg.lt; have : wd.heap.size = gb := e; omega, Row.new wd _ _⟩⟩
theorem S2.cut {tb : TypeId} {w w0 wd : World} {bb zz cs : Array Value} {gb : Nat} {K : List Nat} {X : List (Nat × TypeId × Array Value)} (h : S2 tb w w0 wd bb zz gb cs K X) : S2 tb w w0 wd bb zz gb cs K [] := ⟨h.hbl, h.Rb, h.RR, h.Rg, h.hgb, h.gK, h.hK, fun r hr => by cases hr⟩
/-- the blocks of what grows lie apart -/
def FP (w : World) (gb : Nat) (K fp : List Nat) : Prop := fp.Nodup ∧ ∀ x ∈ fp, w.heap.size + 2 ≤ x ∧ x ≠ gb ∧ x ∉ K
theorem OwF.keep {α : Type} {S : Fsh α} {t : TypeId} {w w' : World} {base : Nat} {fp : List Nat} {l : List α} {v : Value} (h : OwF S t w base fp l v) (hk : ∀ b ∈ fp, w'.heap[b]? = w.heap[b]?) : OwF S t w' base fp l v := by
  obtain ⟨xs, fps, own, hl, rfl, hc⟩ := h
  refine ⟨xs, fps, ⟨own.1, ?_⟩, hl, rfl, fun i a f ha hf => ?_⟩
  · rcases own.2 with h1 | ⟨g, cap, cur, rfl, h2, h3, h4⟩
    · exact Or.inl h1
    · exact Or.inr ⟨g, cap, cur, rfl, h2, (hk g (by simp [Value.ownBlock])).trans h3, h4⟩
  · obtain ⟨cs, hr, hcs⟩ := hc i a f ha hf
    exact ⟨cs, S.keep hr (fun b hb => hk b (List.mem_append_right _ (flat_mem hf hb))), hcs⟩
theorem OwF.row0 {α : Type} {S : Fsh α} {t : TypeId} {w : World} {base b : Nat} (R : Row w b t #[]) (hb : base ≤ b) : OwF S t w base [b] [] (.slice (some ⟨b, 0, none⟩) 0 0) :=
  ⟨[], [], ⟨by simp, Or.inr ⟨b, 0, #[], rfl, hb, R, by simp, by simp [maxLen], by simp, by simp⟩⟩, rfl, rfl, fun i a f ha => by simp at ha⟩
/-- what is owned has been appended to -/
theorem OwF.grow1 {tb : TypeId} {α : Type} {S : Fsh α} {t : TypeId} {w w0 wd w9 : World} {bb zz gcs : Array Value} {gb nr : Nat} {K fp f : List Nat} {X : List (Nat × TypeId × Array Value)} {v v9 : Value} {l : List α} {a : α} {cs xs : List Value} {o : Obj}
    (st : S2 tb w w0 wd bb zz gb gcs K X) (own : OwF S t wd (w.heap.size + 2) fp l v) (hfp : FP w gb K fp) (hr : S.rep wd f a cs) (hfn : f.Nodup) (hf : ∀ x ∈ f, nr ≤ x) (hlt : ∀ x ∈ fp, x < nr) (hgn : gb < nr) (hKn : ∀ x ∈ K, x < nr) (hnr : nr ≤ wd.heap.size) (hnw : w.heap.size + 2 ≤ nr) (hX : ∀ x ∈ X, nr ≤ x.1)
    (own1 : wd.ownsRow (w.heap.size + 2) t S.size v l.length xs) (own9 : w9.ownsRow (w.heap.size + 2) t S.size v9 (l.length + 1) (xs ++ cs)) (g : (wd.alloc o).grownBy w9 v.ownBlock) (hat : v9.ownBlock = v.ownBlock ∨ v9.ownBlock = some (wd.alloc o).heap.size) :
    ∃ fp', S2 tb w w0 w9 bb zz gb gcs K X ∧ OwF S t w9 (w.heap.size + 2) fp' (l ++ [a]) v9 ∧ FP w gb K fp' := by
  obtain ⟨fp', h1, h2, h3⟩ := OwF.snoc (o := o) own hr (by
    rw [List.nodup_append]
    exact ⟨hfp.1, hfn, fun a ha b hb e => by have := hlt a ha; have := hf b hb; omega⟩) (fun ys hy => by rw [own_uniq hy own1]; exact own9) g (by
      rcases hat with e | e
      · exact Or.inl ⟨e, by rw [← e]; exact own_some own9⟩
      · exact Or.inr e)
  have hown : ∀ b, v.ownBlock = some b → b ∈ fp := fun b hb => by
    obtain ⟨_, _, _, _, rfl, _⟩ := own
    rw [hb]
    simp
  refine ⟨fp', (st.al o).grown g (fun b hb => ?_), h1, h2, fun x hx => ?_⟩
  · have hm := hown b hb
    have h4 := hfp.2 b hm
    refine ⟨h4.1, h4.2.1, h4.2.2, fun x hx e => ?_⟩
    have := hX x hx
    have := hlt b hm
    omega
  · rcases h3 x hx with h | h | h
    · exact hfp.2 x h
    · have := hf x h
      exact ⟨by omega, by omega, fun hk => by have := hKn x hk; omega⟩
    · exact ⟨by omega, by omega, fun hk => by have := hKn x hk; omega⟩
theorem app_phi {tb : TypeId} {w w0 wd : World} {bb zz gcs : Array Value} {gb nr e : Nat} {K fp f : List Nat} {X : List (Nat × TypeId × Array Value)} {v : Value} {l : List PhiD} (to : Int) (args : List Int) (va : Value) (st : S2 tb w w0 wd bb zz gb gcs K X) (own : OwF phF 69 wd (w.heap.size + 2) fp l v) (hle : l.length = e) (hfp : FP w gb K fp) (h_to : I64 to) (hq : SlF intF 3 wd f args va)
    (hfn : f.Nodup) (hf : ∀ x ∈ f, nr ≤ x) (hlt : ∀ x ∈ fp, x < nr) (hgn : gb < nr) (hKn : ∀ x ∈ K, x < nr) (hnr : nr ≤ wd.heap.size) (hnw : w.heap.size + 2 ≤ nr) (hX : ∀ x ∈ X, nr ≤ x.1) (he : e ≤ 1048576) :
    ∃ (A' : Option Addr) (c' : Nat) (w9 : World) (fp' : List Nat), ((Builtin.append_ #[61, 61] 61 #[v, .slice (some ⟨wd.heap.size, 0, none⟩) 1 1]).run Try.prog (wd.alloc (.cells #[.int .i64 to, va] 69))) = .ok (.slice A' (e + 1) c') w9 ∧ S2 tb w w0 w9 bb zz gb gcs K X ∧ OwF phF 69 w9 (w.heap.size + 2) fp' (l ++ [⟨to, args⟩]) (.slice A' (e + 1) c') ∧ FP w gb K fp' := by
  subst hle
  obtain ⟨i0, hi, hz0, hz1, hz2⟩ := info_parts Try.info_Phi
  obtain ⟨A1, p1, rfl, _, _⟩ := hq.form
  obtain ⟨xs, own1⟩ : ∃ xs, wd.ownsRow (w.heap.size + 2) 69 2 v l.length xs := by
    obtain ⟨xs, _, h, _⟩ := own
    exact ⟨xs, h⟩
  obtain ⟨v9, w9, k1, k2, k3, _, k5⟩ := run_append_own_at (P := Try.prog) (wd.alloc (.cells #[.int .i64 to, .slice A1 args.length p1] 69)) (w.heap.size + 2) 61 61 69 i0 (.agg #[.int .i64 0, .slice none 0 0]) 2 32 Try.underlying61 hi hz0 hz1 hz2 rfl (by decide) v l.length xs (own1.alloc _) ⟨wd.heap.size, 0, none⟩ 1 1 [.int .i64 to, .slice A1 args.length p1] rfl (cells_row_new wd [.int .i64 to, .slice A1 args.length p1] _)
    (by intro u hu; simp at hu; rcases hu with rfl | rfl <;> rfl) (by unfold maxLen; omega) (by omega) (by have := st.big; simp; omega)
  obtain ⟨fp', h1, h2, h3⟩ := OwF.grow1 (S := phF) (a := (⟨to, args⟩ : PhiD)) st own hfp ⟨_, rfl, h_to, hq⟩ hfn hf hlt hgn hKn hnr hnw hX own1 k2 k3 k5
  obtain ⟨A', c', rfl, _, _⟩ := h2.sl.form
  rw [List.length_append, List.length_singleton] at k1 h2
  exact ⟨A', c', w9, fp', k1, h1, h2, h3⟩
theorem app_ins {tb : TypeId} {w w0 wd : World} {bb zz gcs : Array Value} {gb nr e : Nat} {K fp f : List Nat} {X : List (Nat × TypeId × Array Value)} {v : Value} {l : List InsD} (op to : Int) (args : List Int) (va : Value) (n : Int) (st : S2 tb w w0 wd bb zz gb gcs K X) (own : OwF isF 72 wd (w.heap.size + 2) fp l v) (hle : l.length = e) (hfp : FP w gb K fp) (h_op : I64 op) (h_to : I64 to) (h_n : I64 n) (hq : SlF intF 3 wd f args va)
    (hfn : f.Nodup) (hf : ∀ x ∈ f, nr ≤ x) (hlt : ∀ x ∈ fp, x < nr) (hgn : gb < nr) (hKn : ∀ x ∈ K, x < nr) (hnr : nr ≤ wd.heap.size) (hnw : w.heap.size + 2 ≤ nr) (hX : ∀ x ∈ X, nr ≤ x.1) (he : e ≤ 1048576) :
    ∃ (A' : Option Addr) (c' : Nat) (w9 : World) (fp' : List Nat), ((Builtin.append_ #[62, 62] 62 #[v, .slice (some ⟨wd.heap.size, 0, none⟩) 1 1]).run Try.prog (wd.alloc (.cells #[.int .i64 op, .int .i64 to, va, .int .i64 n] 72))) = .ok (.slice A' (e + 1) c') w9 ∧ S2 tb w w0 w9 bb zz gb gcs K X ∧ OwF isF 72 w9 (w.heap.size + 2) fp' (l ++ [⟨op, to, args, n⟩]) (.slice A' (e + 1) c') ∧ FP w gb K fp' := by
  subst hle
  obtain ⟨i0, hi, hz0, hz1, hz2⟩ := info_parts Try.info_Ins
  obtain ⟨A1, p1, rfl, _, _⟩ := hq.form
  obtain ⟨xs, own1⟩ : ∃ xs, wd.ownsRow (w.heap.size + 2) 72 4 v l.length xs := by
    obtain ⟨xs, _, h, _⟩ := own
    exact ⟨xs, h⟩
  obtain ⟨v9, w9, k1, k2, k3, _, k5⟩ := run_append_own_at (P := Try.prog) (wd.alloc (.cells #[.int .i64 op, .int .i64 to, .slice A1 args.length p1, .int .i64 n] 72)) (w.heap.size + 2) 62 62 72 i0 (.agg #[.int .i64 0, .int .i64 0, .slice none 0 0, .int .i64 0]) 4 48 Try.underlying62 hi hz0 hz1 hz2 rfl (by decide) v l.length xs (own1.alloc _) ⟨wd.heap.size, 0, none⟩ 1 1 [.int .i64 op, .int .i64 to, .slice A1 args.length p1, .int .i64 n] rfl (cells_row_new wd [.int .i64 op, .int .i64 to, .slice A1 args.length p1, .int .i64 n] _)
    (by intro u hu; simp at hu; rcases hu with rfl | rfl | rfl | rfl <;> rfl) (by unfold maxLen; omega) (by omega) (by have := st.big; simp; omega)
  obtain ⟨fp', h1, h2, h3⟩ := OwF.grow1 (S := isF) (a := (⟨op, to, args, n⟩ : InsD)) st own hfp ⟨_, rfl, h_op, h_to, h_n, hq⟩ hfn hf hlt hgn hKn hnr hnw hX own1 k2 k3 k5
  obtain ⟨A', c', rfl, _, _⟩ := h2.sl.form
  rw [List.length_append, List.length_singleton] at k1 h2
  exact ⟨A', c', w9, fp', k1, h1, h2, h3⟩
/-- what a round of a loop begins with -/
structure S3 {α : Type} (S : Fsh α) (t tb : TypeId) (w w0 wd : World) (bb zz : Array Value) (gb : Nat) (cs : Array Value) (K : List Nat) (X : List (Nat × TypeId × Array Value)) (fp : List Nat) (l : List α) (v : Value) (nr : Nat) : Prop where
  st : S2 tb w w0 wd bb zz gb cs K X
  own : OwF S t wd (w.heap.size + 2) fp l v
  hfp : FP w gb K fp
  hnr : nr ≤ wd.heap.size
  hlt : ∀ x ∈ fp, x < nr
  hgn : gb < nr
  hKn : ∀ x ∈ K, x < nr
  hnw : w.heap.size + 2 ≤ nr
  hXn : ∀ x ∈ X, nr ≤ x.1
section
variable {α : Type} {S : Fsh α} {t tb : TypeId} {w w0 wd w' : World} {bb zz cs : Array Value} {gb nr : Nat} {K fp : List Nat} {X : List (Nat × TypeId × Array Value)} {l : List α} {v : Value}
theorem S3.begin (st : S2 tb w w0 wd bb zz gb cs K []) (own : OwF S t wd (w.heap.size + 2) fp l v) (hfp : FP w gb K fp) : S3 S t tb w w0 wd bb zz gb cs K [] fp l v wd.heap.size :=
  ⟨st, own, hfp, Nat.le_refl _, own.sl.lt, st.Rg.lt, fun x hx => (st.hK x hx).2.1, st.big, fun x hx => by cases hx⟩
theorem S3.row (h : S3 S t tb w w0 wd bb zz gb cs K [] fp l v nr) (tx : TypeId) (xs : Array Value) : S3 S t tb w w0 (wd.alloc (.cells xs tx)) bb zz gb cs K [(wd.heap.size, tx, xs)] fp l v nr :=
  ⟨h.st.row tx xs, h.own.below ((Below.refl _ _).alloc (Nat.le_refl _) _) (Nat.le_refl _), h.hfp, by have := h.hnr; simp; omega, h.hlt, h.hgn, h.hKn, h.hnw, fun x hx => by
    simp at hx
    subst hx
    exact h.hnr⟩
theorem S3.below (h : S3 S t tb w w0 wd bb zz gb cs K X fp l v nr) (nb : Below wd.heap.size wd w') : S3 S t tb w w0 w' bb zz gb cs K X fp l v nr :=
  ⟨h.st.below nb, h.own.below nb (Nat.le_refl _), h.hfp, Nat.le_trans h.hnr nb.size, h.hlt, h.hgn, h.hKn, h.hnw, h.hXn⟩
theorem S3.drew (h : S3 S t tb w w0 wd bb zz gb cs K X fp l v nr) : S3 S t tb w w0 wd.drew bb zz gb cs K X fp l v nr := h.below (Below.refl _ _).drew
theorem S3.al (h : S3 S t tb w w0 wd bb zz gb cs K X fp l v nr) (o : Obj) : S3 S t tb w w0 (wd.alloc o) bb zz gb cs K X fp l v nr := h.below ((Below.refl _ _).alloc (Nat.le_refl _) _)
/-- and a list of numbers made for the element -/
structure S4 {α : Type} (S : Fsh α) (t tb : TypeId) (w w0 wd : World) (bb zz : Array Value) (gb : Nat) (cs : Array Value) (K : List Nat) (X : List (Nat × TypeId × Array Value)) (fp : List Nat) (l : List α) (v : Value) (nr : Nat) (f : List Nat) (args : List Int) (va : Value) : Prop where
  s : S3 S t tb w w0 wd bb zz gb cs K X fp l v nr
  hq : SlF intF 3 wd f args va
  hfn : f.Nodup
  hf : ∀ x ∈ f, nr ≤ x
theorem S3.ap {lo B c : Nat} {A : Option Addr} {args : List Int} (h : S3 S t tb w w0 wd bb zz gb cs K X fp l v nr) (a : Addr) (hv : Sl false (intS false) wd lo B args (.slice A args.length c)) (hl : args.length ≤ 1048576) :
    ∃ (A' : Option Addr) (c' : Nat) (f : List Nat) (w' : World), (Builtin.append_ #[63, 63] 63 #[.slice (some a) 0 0, .slice A args.length c]).run Try.prog wd = .ok (.slice A' args.length c') w' ∧ S4 S t tb w w0 w' bb zz gb cs K X fp l v nr f args (.slice A' args.length c') := by
  obtain ⟨A', c', f, w', hr, hs, hn, hf, nb⟩ := append_intsF wd lo B a A args c hv hl
  exact ⟨A', c', f, w', hr, h.below nb, hs, hn, fun x hx => Nat.le_trans h.hnr (hf x hx)⟩
theorem S4.al {f : List Nat} {args : List Int} {va : Value} (h : S4 S t tb w w0 wd bb zz gb cs K X fp l v nr f args va) (o : Obj) : S4 S t tb w w0 (wd.alloc o) bb zz gb cs K X fp l v nr f args va :=
  ⟨h.s.al o, h.hq.keep fun b hb => Below.heap_alloc wd o b (h.hq.lt b hb), h.hfn, h.hf⟩
end
theorem S4.app_phi {tb : TypeId} {w w0 wd : World} {bb zz gcs : Array Value} {gb nr e : Nat} {K fp f : List Nat} {X : List (Nat × TypeId × Array Value)} {v : Value} {l : List PhiD} {to : Int} {args : List Int} {va : Value} (h : S4 phF 69 tb w w0 wd bb zz gb gcs K X fp l v nr f args va) (hle : l.length = e) (h_to : I64 to) (he : e ≤ 1048576) :
    ∃ (A' : Option Addr) (c' : Nat) (w9 : World) (fp' : List Nat), ((Builtin.append_ #[61, 61] 61 #[v, .slice (some ⟨wd.heap.size, 0, none⟩) 1 1]).run Try.prog (wd.alloc (.cells #[.int .i64 to, va] 69))) = .ok (.slice A' (e + 1) c') w9 ∧ S2 tb w w0 w9 bb zz gb gcs K X ∧ OwF phF 69 w9 (w.heap.size + 2) fp' (l ++ [⟨to, args⟩]) (.slice A' (e + 1) c') ∧ FP w gb K fp' :=
  _root_.Go.Proofs.Ytgcjccoglcgcoaa.app_phi to args va h.s.st h.s.own hle h.s.hfp h_to h.hq h.hfn h.hf h.s.hlt h.s.hgn h.s.hKn h.s.hnr h.s.hnw h.s.hXn he
theorem S4.app_ins {tb : TypeId} {w w0 wd : World} {bb zz gcs : Array Value} {gb nr e : Nat} {K fp f : List Nat} {X : List (Nat × TypeId × Array Value)} {v : Value} {l : List InsD} {op to : Int} {args : List Int} {va : Value} {n : Int} (h : S4 isF 72 tb w w0 wd bb zz gb gcs K X fp l v nr f args va) (hle : l.length = e) (h_op : I64 op) (h_to : I64 to) (h_n : I64 n) (he : e ≤ 1048576) :
    ∃ (A' : Option Addr) (c' : Nat) (w9 : World) (fp' : List Nat), ((Builtin.append_ #[62, 62] 62 #[v, .slice (some ⟨wd.heap.size, 0, none⟩) 1 1]).run Try.prog (wd.alloc (.cells #[.int .i64 op, .int .i64 to, va, .int .i64 n] 72))) = .ok (.slice A' (e + 1) c') w9 ∧ S2 tb w w0 w9 bb zz gb gcs K X ∧ OwF isF 72 w9 (w.heap.size + 2) fp' (l ++ [⟨op, to, args, n⟩]) (.slice A' (e + 1) c') ∧ FP w gb K fp' :=
  _root_.Go.Proofs.Ytgcjccoglcgcoaa.app_ins op to args va n h.s.st h.s.own hle h.s.hfp h_op h_to h_n h.hq h.hfn h.hf h.s.hlt h.s.hgn h.s.hKn h.s.hnr h.s.hnw h.s.hXn he
/-- and an element made by a call -/
structure S5 {α : Type} (S : Fsh α) (t tb : TypeId) (w w0 wd : World) (bb zz : Array Value) (gb : Nat) (cs : Array Value) (K : List Nat) (X : List (Nat × TypeId × Array Value)) (fp : List Nat) (l : List α) (v : Value) (nr : Nat) (f : List Nat) (a : α) (es : List Value) : Prop where
  s : S3 S t tb w w0 wd bb zz gb cs K X fp l v nr
  hr : S.rep wd f a es
  hfn : f.Nodup
  hf : ∀ x ∈ f, nr ≤ x
theorem S3.made {α : Type} {S : Fsh α} {t tb : TypeId} {w w0 wd w' : World} {bb zz cs : Array Value} {gb nr : Nat} {K fp : List Nat} {X : List (Nat × TypeId × Array Value)} {l : List α} {v : Value} (h : S3 S t tb w w0 wd bb zz gb cs K X fp l v nr) {f : List Nat} {a : α} {es : List Value} (hr : S.rep w' f a es) (hfn : f.Nodup) (hf : ∀ x ∈ f, wd.heap.size ≤ x) (nb : Below wd.heap.size wd w') : S5 S t tb w w0 w' bb zz gb cs K X fp l v nr f a es :=
  ⟨h.below nb, hr, hfn, fun x hx => Nat.le_trans h.hnr (hf x hx)⟩
theorem S5.app_blk {tb : TypeId} {w w0 wd : World} {bb zz gcs : Array Value} {gb nr e : Nat} {K fp f : List Nat} {X : List (Nat × TypeId × Array Value)} {v : Value} {l : List BlkD} {y : BlkD} {es : List Value} (h : S5 bkF 65 tb w w0 wd bb zz gb gcs K X fp l v nr f y es) (hle : l.length = e) (he : e ≤ 1048576) (h1 : ∀ u ∈ es, u.oneCell' = true) :
    ∃ (A' : Option Addr) (c' : Nat) (w9 : World) (fp' : List Nat), ((Builtin.append_ #[37, 37] 37 #[v, .slice (some ⟨wd.heap.size, 0, none⟩) 1 1]).run Try.prog (wd.alloc (.cells es.toArray 65))) = .ok (.slice A' (e + 1) c') w9 ∧ S2 tb w w0 w9 bb zz gb gcs K X ∧ OwF bkF 65 w9 (w.heap.size + 2) fp' (l ++ [y]) (.slice A' (e + 1) c') ∧ FP w gb K fp' := by
  subst hle
  obtain ⟨i0, hi, hz0, hz1, hz2⟩ := info_parts Try.info_Block
  obtain ⟨xs, own1⟩ : ∃ xs, wd.ownsRow (w.heap.size + 2) 65 5 v l.length xs := by
    obtain ⟨xs, _, h, _⟩ := h.s.own
    exact ⟨xs, h⟩
  obtain ⟨v9, w9, k1, k2, k3, _, k5⟩ := run_append_own_at (P := Try.prog) (wd.alloc (.cells es.toArray 65)) (w.heap.size + 2) 37 37 65 i0 (.agg #[.slice none 0 0, .slice none 0 0, .int .i64 0, .int .i64 0, .slice none 0 0]) 5 88 Try.underlying37 hi hz0 hz1 hz2 rfl (by decide) v l.length xs (own1.alloc _) ⟨wd.heap.size, 0, none⟩ 1 1 es (by rw [bkF.len h.hr]; rfl) (cells_row_new wd es _)
    h1 (by unfold maxLen; omega) (by omega) (by have := h.s.st.big; simp; omega)
  obtain ⟨fp', h1, h2, h3⟩ := OwF.grow1 (S := bkF) (a := y) h.s.st h.s.own h.s.hfp h.hr h.hfn h.hf h.s.hlt h.s.hgn h.s.hKn h.s.hnr h.s.hnw h.s.hXn own1 k2 k3 k5
  obtain ⟨A', c', rfl, _, _⟩ := h2.sl.form
  rw [List.length_append, List.length_singleton] at k1 h2
  exact ⟨A', c', w9, fp', k1, h1, h2, h3⟩
theorem S5.app_cod {tb : TypeId} {w w0 wd : World} {bb zz gcs : Array Value} {gb nr e : Nat} {K fp f : List Nat} {X : List (Nat × TypeId × Array Value)} {v : Value} {l : List CodeD} {y : CodeD} {es : List Value} (h : S5 cdF 39 tb w w0 wd bb zz gb gcs K X fp l v nr f y es) (hle : l.length = e) (he : e ≤ 1048576) (h1 : ∀ u ∈ es, u.oneCell' = true) :
    ∃ (A' : Option Addr) (c' : Nat) (w9 : World) (fp' : List Nat), ((Builtin.append_ #[26, 26] 26 #[v, .slice (some ⟨wd.heap.size, 0, none⟩) 1 1]).run Try.prog (wd.alloc (.cells es.toArray 39))) = .ok (.slice A' (e + 1) c') w9 ∧ S2 tb w w0 w9 bb zz gb gcs K X ∧ OwF cdF 39 w9 (w.heap.size + 2) fp' (l ++ [y]) (.slice A' (e + 1) c') ∧ FP w gb K fp' := by
  subst hle
  obtain ⟨i0, hi, hz0, hz1, hz2⟩ := info_parts Try.info_Code
  obtain ⟨xs, own1⟩ : ∃ xs, wd.ownsRow (w.heap.size + 2) 39 3 v l.length xs := by
    obtain ⟨xs, _, h, _⟩ := h.s.own
    exact ⟨xs, h⟩
  obtain ⟨v9, w9, k1, k2, k3, _, k5⟩ := run_append_own_at (P := Try.prog) (wd.alloc (.cells es.toArray 39)) (w.heap.size + 2) 26 26 39 i0 (.agg #[.int .i64 0, .int .i64 0, .slice none 0 0]) 3 40 Try.underlying26 hi hz0 hz1 hz2 rfl (by decide) v l.length xs (own1.alloc _) ⟨wd.heap.size, 0, none⟩ 1 1 es (by rw [cdF.len h.hr]; rfl) (cells_row_new wd es _)
    h1 (by unfold maxLen; omega) (by omega) (by have := h.s.st.big; simp; omega)
  obtain ⟨fp', h1, h2, h3⟩ := OwF.grow1 (S := cdF) (a := y) h.s.st h.s.own h.s.hfp h.hr h.hfn h.hf h.s.hlt h.s.hgn h.s.hKn h.s.hnr h.s.hnw h.s.hXn own1 k2 k3 k5
  obtain ⟨A', c', rfl, _, _⟩ := h2.sl.form
  rw [List.length_append, List.length_singleton] at k1 h2
  exact ⟨A', c', w9, fp', k1, h1, h2, h3⟩
/-- the store behind an append -/
theorem S2.store {tb : TypeId} {α : Type} {S : Fsh α} {t : TypeId} {w w0 w9 : World} {bb zz cs : Array Value} {gb : Nat} {K fp : List Nat} {X : List (Nat × TypeId × Array Value)} {l : List α} {v : Value} (st : S2 tb w w0 w9 bb zz gb cs K X) (own : OwF S t w9 (w.heap.size + 2) fp l v) (hfp : FP w gb K fp) (j : Nat) (u : Value) :
    S2 tb w w0 (w9.setCell ⟨gb, j, none⟩ u) bb zz gb (cs.setIfInBounds j u) K X ∧ OwF S t (w9.setCell ⟨gb, j, none⟩ u) (w.heap.size + 2) fp l v :=
  ⟨st.set j u, own.keep fun b hb => Below.heap_setCell w9 ⟨gb, j, none⟩ u b (fun e => (hfp.2 b hb).2.1 e)⟩
/-- what stands behind the copy's first statement -/
def CutB (w : World) (bb zz : Array Value) (jp on : Int) (next : List Int) (v : Value) (wx : World) : Prop :=
  ∃ (gb b7 b8 : Nat) (A : Option Addr) (c : Nat) (f4 : List Nat), v = .pointer (some ⟨gb, 0, none⟩) ∧ S2 65 w wx wx bb zz gb #[.slice (some ⟨b7, 0, none⟩) 0 0, .slice (some ⟨b8, 0, none⟩) 0 0, .int .i64 jp, .int .i64 on, .slice A next.length c] (b8 :: f4) [] ∧ Row wx b7 69 #[] ∧ FP w gb (b8 :: f4) [b7] ∧ Row wx b8 72 #[] ∧ b8 ∉ f4 ∧ SlF intF 3 wx f4 next (.slice A next.length c) ∧ f4.Nodup
theorem S1.gne {w wd : World} {bb zz : Array Value} {o0 o1 f : List Nat} {gb : Nat} {l : List Int} {v : Value} (h : S1 w wd bb zz o0 o1 [gb] f l v) : w.heap.size ≠ gb := by
  have := (h.ge gb (by simp)).1
  omega
theorem S1.fin {w wd : World} {bb : Array Value} {b7 b8 gb c : Nat} {f : List Nat} {A : Option Addr} {next : List Int} (jp on : Int) (h : S1 w wd bb #[.slice none 0 0, .slice none 0 0, .int .i64 0, .int .i64 0, .slice none 0 0] [b7] [b8] [gb] f next (.slice A next.length c)) :
    CutB w bb #[.slice none 0 0, .slice none 0 0, .int .i64 0, .int .i64 0, .slice none 0 0] jp on next (.pointer (some ⟨gb, 0, none⟩)) (set5 wd gb (.slice (some ⟨b7, 0, none⟩) 0 0) (.slice (some ⟨b8, 0, none⟩) 0 0) (.int .i64 jp) (.int .i64 on) (.slice A next.length c)) := by
  have hn := h.nd
  simp only [List.singleton_append, List.nodup_cons, List.mem_cons] at hn
  obtain ⟨n1, n2, n3, n4⟩ := hn
  have hg := h.ge gb (by simp)
  have h7 := h.ge b7 (by simp)
  have h8 := h.ge b8 (by simp)
  have hf : ∀ x ∈ f, w.heap.size + 2 ≤ x ∧ x < wd.heap.size := fun x hx => h.ge x (by simp [hx])
  have e7 : b7 ≠ gb := fun e => n1 (Or.inr (Or.inl e))
  have e8 : b8 ≠ gb := fun e => n2 (Or.inl e)
  have hfg : ∀ x ∈ f, x ≠ gb := fun x hx e => n3 (e ▸ hx)
  refine ⟨gb, b7, b8, A, c, f, rfl, ⟨below_set5 h.hbl (by omega) _ _ _ _ _, row_far5 h.Rb (by omega) _ _ _ _ _, row_far5 h.RR (by omega) _ _ _ _ _, row_set5 (h.hg gb (by simp)) _ _ _ _ _, hg.1, fun hm => ?_, fun x hx => ?_, fun r hr => by cases hr⟩, row_far5 (h.h0 b7 (by simp)) e7 _ _ _ _ _, ⟨by simp, fun x hx => ?_⟩, row_far5 (h.h1 b8 (by simp)) e8 _ _ _ _ _, fun hm => n2 (Or.inr hm), h.sl.keep fun b hb => heap_set5 (hfg b hb) _ _ _ _ _, n4⟩
  · rcases List.mem_cons.1 hm with e | hm
    · exact e8 e.symm
    · exact n3 hm
  · have hsz : (set5 wd gb (.slice (some ⟨b7, 0, none⟩) 0 0) (.slice (some ⟨b8, 0, none⟩) 0 0) (.int .i64 jp) (.int .i64 on) (.slice A next.length c)).heap.size = wd.heap.size := by simp [set5]
    rw [hsz]
    rcases List.mem_cons.1 hx with rfl | hx
    · exact ⟨h8.1, h8.2, rfl⟩
    · exact ⟨(hf x hx).1, (hf x hx).2, rfl⟩
  · simp at hx
    subst hx
    exact ⟨h7.1, e7, fun hm => by
      rcases List.mem_cons.1 hm with e | hm
      · exact n1 (Or.inl e)
      · exact n1 (Or.inr (Or.inr hm))⟩
/-- from the first loop to the second -/
theorem S2.next {w wx wr : World} {bb zz cs : Array Value} {gb b8 : Nat} {f4 fp : List Nat} {next : List Int} {phis : List PhiD} {v4 v7 : Value} (st : S2 65 w wx wr bb zz gb cs (b8 :: f4) []) (own : OwF phF 69 wr (w.heap.size + 2) fp phis v7) (hfp : FP w gb (b8 :: f4) fp) (R8 : Row wx b8 72 #[]) (h8 : b8 ∉ f4) (t4 : SlF intF 3 wx f4 next v4) (hn4 : f4.Nodup) :
    S2 65 w wr wr bb zz gb cs (fp ++ f4) [] ∧ OwF isF 72 wr (w.heap.size + 2) [b8] [] (.slice (some ⟨b8, 0, none⟩) 0 0) ∧ FP w gb (fp ++ f4) [b8] ∧ SlF phF 69 wr fp phis v7 ∧ SlF intF 3 wr f4 next v4 ∧ (fp ++ f4).Nodup := by
  have k8 := st.hK b8 (by simp)
  refine ⟨⟨st.hbl, st.Rb, st.RR, st.Rg, st.hgb, fun hm => ?_, fun x hx => ?_, fun r hr => by cases hr⟩, OwF.row0 (k8.2.2.trans R8) k8.1, ⟨by simp, fun x hx => ?_⟩, own.sl, t4.keep fun b hb => (st.hK b (by simp [hb])).2.2, ?_⟩
  · rcases List.mem_append.1 hm with hm | hm
    · exact (hfp.2 _ hm).2.1 rfl
    · exact st.gK (by simp [hm])
  · rcases List.mem_append.1 hx with hx | hx
    · exact ⟨(hfp.2 x hx).1, own.sl.lt x hx, rfl⟩
    · have := st.hK x (by simp [hx])
      exact ⟨this.1, this.2.1, rfl⟩
  · simp at hx
    subst hx
    refine ⟨k8.1, fun e => st.gK (by simp [e]), fun hm => ?_⟩
    rcases List.mem_append.1 hm with hm | hm
    · exact (hfp.2 _ hm).2.2 (by simp)
    · exact h8 hm
  · rw [List.nodup_append]
    exact ⟨hfp.1, hn4, fun a ha b hb e => (hfp.2 a ha).2.2 (by simp [e, hb])⟩
theorem near_set5 {w wr : World} {v0 v1 v2 v3 v4 : Value} : Near w.heap.size 2 wr (set5 wr (w.heap.size + 1) v0 v1 v2 v3 v4) := by
  unfold set5
  exact (((((Near.refl _ _ _).set (p := ⟨w.heap.size + 1, 0, none⟩) (by show w.heap.size ≤ w.heap.size + 1; omega) (by show w.heap.size + 1 < w.heap.size + 2; omega) _).set (p := ⟨w.heap.size + 1, 1, none⟩) (by show w.heap.size ≤ w.heap.size + 1; omega) (by show w.heap.size + 1 < w.heap.size + 2; omega) _).set (p := ⟨w.heap.size + 1, 2, none⟩) (by show w.heap.size ≤ w.heap.size + 1; omega) (by show w.heap.size + 1 < w.heap.size + 2; omega) _).set (p := ⟨w.heap.size + 1, 3, none⟩) (by show w.heap.size ≤ w.heap.size + 1; omega) (by show w.heap.size + 1 < w.heap.size + 2; omega) _).set (p := ⟨w.heap.size + 1, 4, none⟩) (by show w.heap.size ≤ w.heap.size + 1; omega) (by show w.heap.size + 1 < w.heap.size + 2; omega) _
/-- the copy's end -/
theorem S2.fin {w wy wr : World} {bb zz cs : Array Value} {gb : Nat} {fp f4 fi : List Nat} {phis : List PhiD} {ins : List InsD} {jp on : Int} {next : List Int} {v7 v8 v4 : Value} (st : S2 65 w wy wr bb zz gb cs (fp ++ f4) []) (own : OwF isF 72 wr (w.heap.size + 2) fi ins v8) (hfi : FP w gb (fp ++ f4) fi) (tz : SlF phF 69 wy fp phis v7) (t4 : SlF intF 3 wy f4 next v4) (hn : (fp ++ f4).Nodup) (hj : I64 jp) (ho : I64 on) :
    ToF bkF (⟨phis, ins, jp, on, next⟩ : BlkD) w (.returned (.agg #[v7, v8, .int .i64 jp, .int .i64 on, v4])) (set5 wr (w.heap.size + 1) v7 v8 (.int .i64 jp) (.int .i64 on) v4) := by
  rw [List.nodup_append] at hn
  obtain ⟨n1, n2, n3⟩ := hn
  refine ToF.fin (S := bkF) (k := 2) (w1 := wr) (f := fp ++ (fi ++ f4)) (cs := [v7, v8, .int .i64 jp, .int .i64 on, v4]) ⟨fp, fi, f4, v7, v8, v4, rfl, rfl, hj, ho, tz.keep fun b hb => (st.hK b (by simp [hb])).2.2, own.sl, t4.keep fun b hb => (st.hK b (by simp [hb])).2.2⟩ ?_ (fun x hx => ?_) st.hbl near_set5
  · rw [List.nodup_append, List.nodup_append]
    refine ⟨n1, ⟨hfi.1, n2, fun a ha b hb e => (hfi.2 a ha).2.2 (by simp [e, hb])⟩, fun a ha b hb e => ?_⟩
    rcases List.mem_append.1 hb with hb | hb
    · exact (hfi.2 b hb).2.2 (by simp [← e, ha])
    · exact n3 a ha b hb e
  · rcases List.mem_append.1 hx with hx | hx
    · exact (st.hK x (by simp [hx])).1
    · rcases List.mem_append.1 hx with hx | hx
      · exact (hfi.2 x hx).1
      · exact (st.hK x (by simp [hx])).1
end Go.Proofs.Ytgcjccoglcgcoaa
