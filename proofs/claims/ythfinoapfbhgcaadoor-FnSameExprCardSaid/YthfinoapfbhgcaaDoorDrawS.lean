/-
  What the draws answer: the arguments of the law on the same expressions. Condition: few numbers have been picked.
-/
import Derived.Test.YthfinoapfbhgcaaDoorDrawA
import Derived.Test.YthfinoapfbhgcaaDoorCopyN
import Derived.Test.YthfinoapfbhgcaaDoorReg
import Derived.Test.YthfinoapfbhgcaaDoorReg2
import Derived.Deep.RegionHeld3
namespace Go.Proofs.YthfinoapfbhgcaaDoor
open Go.RowKit Go.ChangeShapes Go.WideShapes Go.Deep
set_option linter.unusedSimpArgs false
set_option linter.unusedVariables false
/-- an element is written anew -/
theorem sl_set {d lo B lo' B' L H b k cap : Nat} {w w' : World} {l : List Ex} {e : Ex} {cs : List Value} {v : Value}
    (hv : SlT false (exT false d) w lo B l v) (hvb : v = .slice (some ⟨b, 0, none⟩) l.length cap) (hk : k < l.length)
    (hblk : ∀ x, lo ≤ x → x < B → x ≠ b → w'.heap[x]? = w.heap[x]?) (hfr : ∀ j : Nat, w'.frozen? ⟨b, j, none⟩ = false)
    (hcell : ∀ i : Nat, i < k * 4 ∨ k * 4 + 4 ≤ i → w'.cell? ⟨b, i, none⟩ = w.cell? ⟨b, i, none⟩)
    (hr : (exS false d).rep w' lo' B' e cs) (hn : ∀ (j : Nat) (u : Value), cs[j]? = some u → w'.cell? ⟨b, k * 4 + j, none⟩ = some u)
    (h1 : L ≤ lo) (h2 : L ≤ lo') (h3 : B ≤ H) (h4 : B' ≤ H) : Sl false (exS false d) w' L H (l.set k e) v := by
  obtain ⟨A, cap', rfl, k1, k2, k3⟩ := hv
  injection hvb with hA _ hc
  subst hA hc
  refine ⟨_, _, by rw [List.length_set], by rw [List.length_set]; exact k1, k2, fun _ => ?_⟩
  obtain ⟨b', p, q, e', hlb, hb, hf, hcs⟩ := k3 (by intro h; rw [h] at hk; simp at hk)
  injection e' with e'
  injection e' with e' _ _
  subst e'
  refine ⟨b, 0, rfl, by omega, by omega, fun _ j => hfr j, fun i a ha => ?_⟩
  by_cases hik : i = k
  · subst hik
    rw [List.getElem?_set_self hk] at ha
    injection ha with ha
    subst ha
    exact ⟨cs, (exS false d).more hr h2 h4, fun j u hu => by rw [exS_size]; simpa using hn j u hu⟩
  · rw [List.getElem?_set_ne (Ne.symm hik)] at ha
    obtain ⟨c1, c2, c3, c4, c5, ds, hd, hds⟩ := hcs i a ha
    refine ⟨ds, (exS false d).more ((exS false d).keep (exT_S false d hd) (Nat.le_refl _) (Nat.le_refl _) (fun x h1 h2 => hblk x (by omega) (by omega) (by rcases c4 with h | h <;> omega))) (by omega) (by omega), fun j u hu => ?_⟩
    have hj : j < 4 := by
      have h5 := (exT false d).len hd
      rw [exT_size] at h5
      have h6 := (List.getElem?_eq_some_iff.1 hu).1
      omega
    have h := hds j u hu
    rw [exT_size] at h
    rw [exS_size]
    simpa using (hcell (i * 4 + j) (by omega)).trans h
/-- four cells are written -/
def setK (w : World) (b o : Nat) (u0 u1 u2 u3 : Value) : World := (((w.setCell ⟨b, o, none⟩ u0).setCell ⟨b, o + 1, none⟩ u1).setCell ⟨b, o + 2, none⟩ u2).setCell ⟨b, o + 3, none⟩ u3
theorem setK_size (w : World) (b o : Nat) (u0 u1 u2 u3 : Value) : (setK w b o u0 u1 u2 u3).heap.size = w.heap.size := by simp [setK, World.setCell]
theorem setK_block (w : World) (b o : Nat) (u0 u1 u2 u3 : Value) (x : Nat) (h : x ≠ b) : (setK w b o u0 u1 u2 u3).heap[x]? = w.heap[x]? :=
  (Below.heap_setCell _ _ _ x h).trans ((Below.heap_setCell _ _ _ x h).trans ((Below.heap_setCell _ _ _ x h).trans (Below.heap_setCell _ _ _ x h)))
theorem setK_below (w : World) (b o : Nat) (u0 u1 u2 u3 : Value) {B : Nat} (h : B ≤ b) : Below B w (setK w b o u0 u1 u2 u3) := ((((Below.refl _ _).setCell (p := ⟨b, o, none⟩) h _).setCell (p := ⟨b, o + 1, none⟩) h _).setCell (p := ⟨b, o + 2, none⟩) h _).setCell (p := ⟨b, o + 3, none⟩) h _
theorem setK_frozen (w : World) (b o : Nat) (u0 u1 u2 u3 : Value) (a : Addr) : (setK w b o u0 u1 u2 u3).frozen? a = w.frozen? a :=
  (World.frozen?_setCell _ _ _ _).trans ((World.frozen?_setCell _ _ _ _).trans ((World.frozen?_setCell _ _ _ _).trans (World.frozen?_setCell _ _ _ _)))
theorem ad_ne {b i j : Nat} (h : i ≠ j) : (⟨b, i, none⟩ : Addr) ≠ ⟨b, j, none⟩ := fun e => h (by injection e)
theorem setK_far (w : World) (b o : Nat) (u0 u1 u2 u3 : Value) (i : Nat) (h : i < o ∨ o + 4 ≤ i) : (setK w b o u0 u1 u2 u3).cell? ⟨b, i, none⟩ = w.cell? ⟨b, i, none⟩ :=
  (World.cell?_setCell_other _ _ _ _ (ad_ne (by omega))).trans ((World.cell?_setCell_other _ _ _ _ (ad_ne (by omega))).trans ((World.cell?_setCell_other _ _ _ _ (ad_ne (by omega))).trans (World.cell?_setCell_other _ _ _ _ (ad_ne (by omega)))))
theorem setK_at {w : World} {b o : Nat} {y0 y1 y2 y3 : Value} (h0 : w.cell? ⟨b, o, none⟩ = some y0) (h1 : w.cell? ⟨b, o + 1, none⟩ = some y1) (h2 : w.cell? ⟨b, o + 2, none⟩ = some y2) (h3 : w.cell? ⟨b, o + 3, none⟩ = some y3) (u0 u1 u2 u3 : Value) :
    ∀ (j : Nat) (u : Value), [u0, u1, u2, u3][j]? = some u → (setK w b o u0 u1 u2 u3).cell? ⟨b, o + j, none⟩ = some u := by
  have s : ∀ (i k : Nat) (v : World) (x : Value), i ≠ k → (v.setCell ⟨b, i, none⟩ x).cell? ⟨b, k, none⟩ = v.cell? ⟨b, k, none⟩ := fun i k v x h => World.cell?_setCell_other _ _ _ _ (ad_ne h)
  intro j u hu
  unfold setK
  match j, hu with
  | 0, hu =>
    have hu' := Option.some.inj hu
    subst hu'
    show World.cell? _ ⟨b, o, none⟩ = _
    rw [s _ _ _ _ (by omega), s _ _ _ _ (by omega), s _ _ _ _ (by omega)]
    exact World.cell?_setCell_same _ _ _ h0
  | 1, hu =>
    have hu' := Option.some.inj hu
    subst hu'
    rw [s _ _ _ _ (by omega), s _ _ _ _ (by omega)]
    exact World.cell?_setCell_same _ _ _ ((s _ _ _ _ (by omega)).trans h1)
  | 2, hu =>
    have hu' := Option.some.inj hu
    subst hu'
    rw [s _ _ _ _ (by omega)]
    exact World.cell?_setCell_same _ _ _ ((s _ _ _ _ (by omega)).trans ((s _ _ _ _ (by omega)).trans h2))
  | 3, hu =>
    have hu' := Option.some.inj hu
    subst hu'
    exact World.cell?_setCell_same _ _ _ ((s _ _ _ _ (by omega)).trans ((s _ _ _ _ (by omega)).trans ((s _ _ _ _ (by omega)).trans h3)))
/-- the cells of an element -/
theorem slT_cells {d : Nat} {w : World} {lo B : Nat} {l : List Ex} {A : Option Addr} {n c k : Nat} (h : SlT false (exT false (d + 1)) w lo B l (.slice A n c)) (hk : k < l.length) :
    ∃ b, A = some ⟨b, 0, none⟩ ∧ lo ≤ b ∧ b < B ∧ (∀ j : Nat, w.frozen? ⟨b, j, none⟩ = false) ∧ (∃ u, w.cell? ⟨b, k * 4, none⟩ = some u) ∧ (∃ u, w.cell? ⟨b, k * 4 + 1, none⟩ = some u) ∧ (∃ u, w.cell? ⟨b, k * 4 + 2, none⟩ = some u) ∧ (∃ u, w.cell? ⟨b, k * 4 + 3, none⟩ = some u) := by
  obtain ⟨A', cap, hv, h1, h2, h3⟩ := h
  injection hv with hA hn hc
  subst hA
  obtain ⟨b, p, q, rfl, hlb, hb, hf, hcs⟩ := h3 (by intro h; rw [h] at hk; simp at hk)
  obtain ⟨_, _, _, _, _, cs, hr, hd⟩ := hcs k l[k] (List.getElem?_eq_getElem hk)
  obtain ⟨v3, rfl, _⟩ := exT_open d hr
  rw [exT_size] at hd
  exact ⟨b, rfl, hlb, hb, hf, ⟨_, hd 0 _ rfl⟩, ⟨_, hd 1 _ rfl⟩, ⟨_, hd 2 _ rfl⟩, ⟨_, hd 3 _ rfl⟩⟩
/-- two expressions -/
def DrawS (w : World) (e : Ending) (w' : World) : Prop :=
  ∃ op n name kids A c d op' n' name' kids' A' c' d', e = .returned (.tuple #[.agg #[.int .i64 op, .int .i64 n, .string name, .slice A kids.length c], .agg #[.int .i64 op', .int .i64 n', .string name', .slice A' kids'.length c']]) ∧
    I64 op ∧ I64 n ∧ name.size ≤ maxLen ∧ Sl false (exS false d) w' w.heap.size w'.heap.size kids (.slice A kids.length c) ∧ I64 op' ∧ I64 n' ∧ name'.size ≤ maxLen ∧ Sl false (exS false d') w' w.heap.size w'.heap.size kids' (.slice A' kids'.length c') ∧ Below w.heap.size w w'
theorem DrawS.fin {w wX : World} {lo d d' : Nat} {op n : Int} {name : ByteArray} {kids : List Ex} {A : Option Addr} {c : Nat} {op' n' : Int} {name' : ByteArray} {kids' : List Ex} {A' : Option Addr} {c' : Nat} (hX : Below w.heap.size w wX) (hlo : w.heap.size + 1 < lo) (ho : I64 op) (hn : I64 n) (hnm : name.size ≤ maxLen) (ha : Sl false (exS false d) wX lo wX.heap.size kids (.slice A kids.length c)) (ho' : I64 op') (hn' : I64 n') (hnm' : name'.size ≤ maxLen) (hb : Sl false (exS false d') wX lo wX.heap.size kids' (.slice A' kids'.length c')) :
    DrawS w (.returned (.tuple #[.agg #[.int .i64 op, .int .i64 n, .string name, .slice A kids.length c], .agg #[.int .i64 op', .int .i64 n', .string name', .slice A' kids'.length c']])) (set4 (set4 wX w.heap.size (.int .i64 op) (.int .i64 n) (.string name) (.slice A kids.length c)) (w.heap.size + 1) (.int .i64 op') (.int .i64 n') (.string name') (.slice A' kids'.length c')) := by
  have hz : (set4 (set4 wX w.heap.size (.int .i64 op) (.int .i64 n) (.string name) (.slice A kids.length c)) (w.heap.size + 1) (.int .i64 op') (.int .i64 n') (.string name') (.slice A' kids'.length c')).heap.size = wX.heap.size := by rw [set4_size, set4_size]
  have same : ∀ b : Nat, w.heap.size + 1 < b → (set4 (set4 wX w.heap.size (.int .i64 op) (.int .i64 n) (.string name) (.slice A kids.length c)) (w.heap.size + 1) (.int .i64 op') (.int .i64 n') (.string name') (.slice A' kids'.length c')).heap[b]? = wX.heap[b]? := fun b hb => (set4_block _ (w.heap.size + 1) _ _ _ _ b (by omega)).trans (set4_block wX w.heap.size _ _ _ _ b (by omega))
  refine ⟨op, n, name, kids, A, c, d, op', n', name', kids', A', c', d', rfl, ho, hn, hnm, ha.keep (by omega) (Nat.le_of_eq hz.symm) (fun b h1 h2 => same b (by omega)), ho', hn', hnm', hb.keep (by omega) (Nat.le_of_eq hz.symm) (fun b h1 h2 => same b (by omega)), ?_⟩
  exact (hX.trans (set4_below wX w.heap.size _ _ _ _ (Nat.le_refl _))).trans (set4_below _ (w.heap.size + 1) _ _ _ _ (Nat.le_succ _))
theorem few_deep (d : Nat) : ∀ {w : World} {lo B : Nat} {e : Ex} {cs : List Value}, (exS false d).rep w lo B e cs → fewE e = true → fewB d e = true := by
  induction d with
  | zero => intro w lo B e cs h; exact h.elim
  | succ d ih =>
    intro w lo B e cs h hf
    obtain ⟨v3, -, _, _, _, hk⟩ := ex_open d h
    obtain ⟨op, n, name, kids⟩ := e
    rw [fewE, Bool.and_eq_true, fewL_all] at hf
    rw [fewB, Bool.and_eq_true]
    refine ⟨hf.1, List.all_eq_true.2 fun k hk' => ?_⟩
    obtain ⟨i, hi, rfl⟩ := List.getElem_of_mem hk'
    obtain ⟨A, cap, hv, _, _⟩ := hk.form
    change v3 = Value.slice A kids.length cap at hv
    subst hv
    obtain ⟨b, o, cs', rfl, _, _, _, hr, _⟩ := hk.at_ (i := i) hi
    exact ih hr (List.all_eq_true.1 hf.2 _ hk')
set_option maxRecDepth 100000 in
set_option maxHeartbeats 16000000 in
theorem draw_same (l : List UInt8) (v : Value) (w : World) (hv : Sl false byS w 0 w.heap.size l v) : Calls Tryd.prog 5 #[v] w (DrawS w) := by
  obtain ⟨A, cap, rfl, hlc, hcm⟩ := hv.form
  have hk4 : kA 4 = 214 := rfl
  have hb0 : Below w.heap.size w ((w.alloc (.cells #[.int .i64 0, .int .i64 0, .string ⟨#[]⟩, .slice none 0 0] 25)).alloc (.cells #[.int .i64 0, .int .i64 0, .string ⟨#[]⟩, .slice none 0 0] 25)) := ((Below.refl _ _).alloc (Nat.le_refl _) _).alloc (by simp) _
  have R0 : Row ((w.alloc (.cells #[.int .i64 0, .int .i64 0, .string ⟨#[]⟩, .slice none 0 0] 25)).alloc (.cells #[.int .i64 0, .int .i64 0, .string ⟨#[]⟩, .slice none 0 0] 25)) w.heap.size 25 #[.int .i64 0, .int .i64 0, .string ⟨#[]⟩, .slice none 0 0] := (Row.new w _ _).alloc _
  have Q0 : Row ((w.alloc (.cells #[.int .i64 0, .int .i64 0, .string ⟨#[]⟩, .slice none 0 0] 25)).alloc (.cells #[.int .i64 0, .int .i64 0, .string ⟨#[]⟩, .slice none 0 0] 25)) (w.heap.size + 1) 25 #[.int .i64 0, .int .i64 0, .string ⟨#[]⟩, .slice none 0 0] := by simpa using Row.new (w.alloc (.cells #[.int .i64 0, .int .i64 0, .string ⟨#[]⟩, .slice none 0 0] 25)) 25 #[.int .i64 0, .int .i64 0, .string ⟨#[]⟩, .slice none 0 0]
  have hv0 : Sl false byS ((w.alloc (.cells #[.int .i64 0, .int .i64 0, .string ⟨#[]⟩, .slice none 0 0] 25)).alloc (.cells #[.int .i64 0, .int .i64 0, .string ⟨#[]⟩, .slice none 0 0] 25)) 0 ((w.alloc (.cells #[.int .i64 0, .int .i64 0, .string ⟨#[]⟩, .slice none 0 0] 25)).alloc (.cells #[.int .i64 0, .int .i64 0, .string ⟨#[]⟩, .slice none 0 0] 25)).heap.size l (.slice A l.length cap) := (hv.below hb0 (Nat.le_refl _)).more (Nat.le_refl _) hb0.size
  have hsz : ((w.alloc (.cells #[.int .i64 0, .int .i64 0, .string ⟨#[]⟩, .slice none 0 0] 25)).alloc (.cells #[.int .i64 0, .int .i64 0, .string ⟨#[]⟩, .slice none 0 0] 25)).heap.size = w.heap.size + 2 := by simp
  go_enter Tryd.func5, Tryd.ntmps5
  go_wp2_with fail
  refine (open_ok l _ _ hv0).mono ?_
  rintro e w1 ⟨g, l', rfl, hg, h1, b1⟩
  have hb1 := hb0.trans (b1.mono hb0.size)
  have R1 := R0.below b1 R0.lt
  have Q1 := Q0.below b1 Q0.lt
  have hwg : w.heap.size + 1 < g := by rw [hsz] at hg; omega
  have hg1 := h1.lt
  clear R0 Q0
  go_wp2_with fail
  refine (any_ok 4 (by omega) 4 rfl l' g 0 _ h1 (by omega)).mono ?_
  rintro e w2 ⟨p2, op, n, name, kids, A3, c3, rfl, h2, hp2, hb2, hE⟩
  have hws1 : w.heap.size ≤ w1.heap.size := hb1.size
  have R2 := R1.below hb2.1 (by omega)
  have Q2 := Q1.below hb2.1 hwg
  have hB2 := hb1.trans (hb2.1.mono (by omega))
  have hg2 := h2.lt
  have hw12 := hb2.1.size
  have st3 := (Below.refl _ w2).alloc (Nat.le_refl _) (.cells #[.int .i64 op, .int .i64 n, .string name, .slice A3 kids.length c3] 25)
  have B3 : Row (w2.alloc (.cells #[.int .i64 op, .int .i64 n, .string name, .slice A3 kids.length c3] 25)) w2.heap.size 25 #[.int .i64 op, .int .i64 n, .string name, .slice A3 kids.length c3] := Row.new _ _ _
  have R3 := R2.alloc (.cells #[.int .i64 op, .int .i64 n, .string name, .slice A3 kids.length c3] 25)
  have Q3 := Q2.alloc (.cells #[.int .i64 op, .int .i64 n, .string name, .slice A3 kids.length c3] 25)
  have h3 := h2.below st3 hg2
  have hE3 := hE.keepT (fun b h1 h2 => Below.heap_alloc w2 (.cells #[.int .i64 op, .int .i64 n, .string name, .slice A3 kids.length c3] 25) b h2) st3.size
  have hB3 := hB2.trans (st3.mono hB2.size)
  clear hb2 hE R1 Q1
  go_wp2_with fail
  refine (pick_ok 3 (by omega) (by omega) l' g p2 _ h3 (by omega)).mono ?_
  rintro e w4 ⟨v, p4, rfl, h4, hp4, hb4, k, hk, rfl⟩
  have R4 := R3.below hb4.1 (by omega)
  have Q4 := Q3.below hb4.1 (by omega)
  have B4 := hb4.row B3 hg2
  have hB4 := hB3.trans (hb4.1.mono (by omega))
  have hE4 := hE3.but hb4 hg1
  have hg4 := h4.lt
  have hw24 : w2.heap.size < w4.heap.size := B4.lt
  clear R3 Q3 B3 hE3 hb4 st3 R2 Q2
  have a4 : Sl false (exS false 8) w4 w1.heap.size w4.heap.size kids (.slice A3 kids.length c3) := hE4.sl
  have hI1 := hE4.1
  have hI2 := hE4.2.1
  have hI3 : name.size ≤ maxLen := Nat.le_trans hE4.2.2.1 (by decide)
  have hkl9 : kids.length ≤ 3 := by have := hE4.2.2.2.2.2.1; omega
  by_cases k0 : k = 0
  · subst k0
    have Bd : Row w4.drew w2.heap.size 25 #[.int .i64 op, .int .i64 n, .string name, .slice A3 kids.length c3] := B4
    have hbd : Below w4.heap.size w4 w4.drew := (Below.refl _ _).drew
    have hgd : ButR g w4 w4.drew := ButR.of_below hg4 hbd
    have hd : RdAt w4.drew g l' p4 := h4.below hbd hg4
    have Rd := R4.below hbd R4.lt
    have Qd := Q4.below hbd Q4.lt
    have hEd := hE4.but hgd hg1
    have hBd := hB4.trans (hbd.mono hB4.size)
    have z0 : w4.cell? ⟨w2.heap.size, 0, none⟩ = some (.int .i64 op) := B4.cell 0
    have z1 : w4.cell? ⟨w2.heap.size, 1, none⟩ = some (.int .i64 n) := B4.cell 1
    have z2 : w4.cell? ⟨w2.heap.size, 2, none⟩ = some (.string name) := B4.cell 2
    have z3 : w4.cell? ⟨w2.heap.size, 3, none⟩ = some (.slice A3 kids.length c3) := B4.cell 3
    go_wp2_with fail
    refine wp_region_held_drew (S := fun w' => w'.cell? ⟨w2.heap.size, 0, none⟩ = some (.int .i64 op) ∧ w'.cell? ⟨w2.heap.size, 1, none⟩ = some (.int .i64 n) ∧ w'.cell? ⟨w2.heap.size, 2, none⟩ = some (.string name) ∧ w'.cell? ⟨w2.heap.size, 3, none⟩ = some (.slice A3 kids.length c3)) (by kernel_rfl) ?_ (fun hHeld => ?_)
    · exact ⟨Bd.cell 0, Bd.cell 1, Bd.cell 2, Bd.cell 3⟩
    generalize w4.drew = wd at hHeld Bd hbd hgd hd Rd Qd hEd hBd ⊢
    clear z0 z1 z2 z3
    refine reg_take (i := 0) (v := ?v1) rfl (by kernel_rfl) (by kernel_rfl) (by kernel_rfl) (fun _ _ _ h => h) (Or.inl ⟨by kernel_rfl, ?h1⟩) (by assumption) ?r1
    case h1 => (intro w hSw; (try dsimp only at hSw); go_simp; try with_reducible rfl)
    try simp only [Act.put, List.setIfInBounds_toArray, List.set_cons_zero, List.set_cons_succ]
    refine reg_take (i := 1) (v := ?v2) rfl (by kernel_rfl) (by kernel_rfl) (by kernel_rfl) (fun _ _ _ h => h) (Or.inl ⟨by kernel_rfl, ?h2⟩) (by assumption) ?r2
    case h2 => (intro w hSw; (try dsimp only at hSw); go_simp; try with_reducible rfl)
    try simp only [Act.put, List.setIfInBounds_toArray, List.set_cons_zero, List.set_cons_succ]
    refine reg_call (i := 2) (by kernel_rfl) rfl (fun K hK => ?_)
    go_simp
    refine (bent_ok l' g p4 _ hd (by omega)).mono ?_
    rintro e w5 ⟨p5, op', n', name', kids', A5, c5, rfl, h5, hp5, hb5, hF⟩
    have B5 := hb5.row Bd (by omega)
    have R5 := Rd.below hb5.1 (by omega)
    have Q5 := Qd.below hb5.1 (by omega)
    have hB5 := hBd.trans (hb5.1.mono (by omega))
    have hE5 := hEd.but hb5 hg1
    have hw45 := hbd.size
    have hw5 := hb5.1.size
    refine hK.out _ _ (⟨B5.cell 0, B5.cell 1, B5.cell 2, B5.cell 3⟩) (fun hHeld => ?_)
    clear hK K
    try simp only [Act.put, List.setIfInBounds_toArray, List.set_cons_zero, List.set_cons_succ]
    have s0 : w5.cell? ⟨w.heap.size, 0, none⟩ = some (.int .i64 0) := R5.cell 0
    have s1 : w5.cell? ⟨w.heap.size, 1, none⟩ = some (.int .i64 0) := R5.cell 1
    have s2 : w5.cell? ⟨w.heap.size, 2, none⟩ = some (.string ⟨#[]⟩) := R5.cell 2
    have s3 : w5.cell? ⟨w.heap.size, 3, none⟩ = some (.slice none 0 0) := R5.cell 3
    have sf0 : w5.frozen? ⟨w.heap.size, 0, none⟩ = false := R5.frozen 0
    have sf1 : w5.frozen? ⟨w.heap.size, 1, none⟩ = false := R5.frozen 1
    have sf2 : w5.frozen? ⟨w.heap.size, 2, none⟩ = false := R5.frozen 2
    have sf3 : w5.frozen? ⟨w.heap.size, 3, none⟩ = false := R5.frozen 3
    have t0 : w5.cell? ⟨w.heap.size + 1, 0, none⟩ = some (.int .i64 0) := Q5.cell 0
    have t1 : w5.cell? ⟨w.heap.size + 1, 1, none⟩ = some (.int .i64 0) := Q5.cell 1
    have t2 : w5.cell? ⟨w.heap.size + 1, 2, none⟩ = some (.string ⟨#[]⟩) := Q5.cell 2
    have t3 : w5.cell? ⟨w.heap.size + 1, 3, none⟩ = some (.slice none 0 0) := Q5.cell 3
    have tf0 : w5.frozen? ⟨w.heap.size + 1, 0, none⟩ = false := Q5.frozen 0
    have tf1 : w5.frozen? ⟨w.heap.size + 1, 1, none⟩ = false := Q5.frozen 1
    have tf2 : w5.frozen? ⟨w.heap.size + 1, 2, none⟩ = false := Q5.frozen 2
    have tf3 : w5.frozen? ⟨w.heap.size + 1, 3, none⟩ = false := Q5.frozen 3
    have Q6 : Row (set4 w5 w.heap.size (.int .i64 op) (.int .i64 n) (.string name) (.slice A3 kids.length c3)) (w.heap.size + 1) 25 #[.int .i64 0, .int .i64 0, .string ⟨#[]⟩, .slice none 0 0] := (set4_block w5 w.heap.size _ _ _ _ _ (by omega)).trans Q5
    have B6 : Row (set4 w5 w.heap.size (.int .i64 op) (.int .i64 n) (.string name) (.slice A3 kids.length c3)) w2.heap.size 25 #[.int .i64 op, .int .i64 n, .string name, .slice A3 kids.length c3] := (set4_block w5 w.heap.size _ _ _ _ _ (by omega)).trans B5
    have R6 : Row (set4 w5 w.heap.size (.int .i64 op) (.int .i64 n) (.string name) (.slice A3 kids.length c3)) w.heap.size 25 #[.int .i64 op, .int .i64 n, .string name, .slice A3 kids.length c3] := ((((R5.set_ 0 _).set_ 1 _).set_ 2 _).set_ 3 _)
    have R7 : Row (set4 (set4 w5 w.heap.size (.int .i64 op) (.int .i64 n) (.string name) (.slice A3 kids.length c3)) (w.heap.size + 1) (.int .i64 op') (.int .i64 n') (.string name') (.slice A5 kids'.length c5)) w.heap.size 25 #[.int .i64 op, .int .i64 n, .string name, .slice A3 kids.length c3] := (set4_block (set4 w5 w.heap.size (.int .i64 op) (.int .i64 n) (.string name) (.slice A3 kids.length c3)) (w.heap.size + 1) _ _ _ _ _ (by omega)).trans R6
    have Q7 : Row (set4 (set4 w5 w.heap.size (.int .i64 op) (.int .i64 n) (.string name) (.slice A3 kids.length c3)) (w.heap.size + 1) (.int .i64 op') (.int .i64 n') (.string name') (.slice A5 kids'.length c5)) (w.heap.size + 1) 25 #[.int .i64 op', .int .i64 n', .string name', .slice A5 kids'.length c5] := ((((Q6.set_ 0 _).set_ 1 _).set_ 2 _).set_ 3 _)
    have B7 : Row (set4 (set4 w5 w.heap.size (.int .i64 op) (.int .i64 n) (.string name) (.slice A3 kids.length c3)) (w.heap.size + 1) (.int .i64 op') (.int .i64 n') (.string name') (.slice A5 kids'.length c5)) w2.heap.size 25 #[.int .i64 op, .int .i64 n, .string name, .slice A3 kids.length c3] := (set4_block (set4 w5 w.heap.size (.int .i64 op) (.int .i64 n) (.string name) (.slice A3 kids.length c3)) (w.heap.size + 1) _ _ _ _ _ (by omega)).trans B6
    have F := Lib.hid (DrawS.fin (lo := w1.heap.size) hB5 (by omega) hE5.1 hE5.2.1 (Nat.le_trans hE5.2.2.1 (by decide)) hE5.sl hF.1 hF.2.1 (Nat.le_trans hF.2.2.1 (by decide)) (hF.sl.more (by omega) (Nat.le_refl _)))
    refine reg_call (i := 3) (by kernel_rfl) rfl (fun K hK => ?_)
    go_simp
    refine hK.out _ _ (⟨B6.cell 0, B6.cell 1, B6.cell 2, B6.cell 3⟩) (fun hHeld => ?_)
    clear hK K
    try simp only [Act.put, List.setIfInBounds_toArray, List.set_cons_zero, List.set_cons_succ]
    have y0 : (set4 w5 w.heap.size (.int .i64 op) (.int .i64 n) (.string name) (.slice A3 kids.length c3)).cell? ⟨w.heap.size + 1, 0, none⟩ = some (.int .i64 0) := Q6.cell 0
    have y1 : (set4 w5 w.heap.size (.int .i64 op) (.int .i64 n) (.string name) (.slice A3 kids.length c3)).cell? ⟨w.heap.size + 1, 1, none⟩ = some (.int .i64 0) := Q6.cell 1
    have y2 : (set4 w5 w.heap.size (.int .i64 op) (.int .i64 n) (.string name) (.slice A3 kids.length c3)).cell? ⟨w.heap.size + 1, 2, none⟩ = some (.string ⟨#[]⟩) := Q6.cell 2
    have y3 : (set4 w5 w.heap.size (.int .i64 op) (.int .i64 n) (.string name) (.slice A3 kids.length c3)).cell? ⟨w.heap.size + 1, 3, none⟩ = some (.slice none 0 0) := Q6.cell 3
    have yf0 : (set4 w5 w.heap.size (.int .i64 op) (.int .i64 n) (.string name) (.slice A3 kids.length c3)).frozen? ⟨w.heap.size + 1, 0, none⟩ = false := Q6.frozen 0
    have yf1 : (set4 w5 w.heap.size (.int .i64 op) (.int .i64 n) (.string name) (.slice A3 kids.length c3)).frozen? ⟨w.heap.size + 1, 1, none⟩ = false := Q6.frozen 1
    have yf2 : (set4 w5 w.heap.size (.int .i64 op) (.int .i64 n) (.string name) (.slice A3 kids.length c3)).frozen? ⟨w.heap.size + 1, 2, none⟩ = false := Q6.frozen 2
    have yf3 : (set4 w5 w.heap.size (.int .i64 op) (.int .i64 n) (.string name) (.slice A3 kids.length c3)).frozen? ⟨w.heap.size + 1, 3, none⟩ = false := Q6.frozen 3
    refine reg_call (i := 4) (by kernel_rfl) rfl (fun K hK => ?_)
    go_simp
    refine hK.out _ _ (⟨B7.cell 0, B7.cell 1, B7.cell 2, B7.cell 3⟩) (fun hHeld => ?_)
    clear hK K
    try simp only [Act.put, List.setIfInBounds_toArray, List.set_cons_zero, List.set_cons_succ]
    refine wpAnyH_done (by kernel_rfl) ?_ _
    have r0 : (set4 (set4 w5 w.heap.size (.int .i64 op) (.int .i64 n) (.string name) (.slice A3 kids.length c3)) (w.heap.size + 1) (.int .i64 op') (.int .i64 n') (.string name') (.slice A5 kids'.length c5)).cell? ⟨w.heap.size, 0, none⟩ = some (.int .i64 op) := R7.cell 0
    have r1 : (set4 (set4 w5 w.heap.size (.int .i64 op) (.int .i64 n) (.string name) (.slice A3 kids.length c3)) (w.heap.size + 1) (.int .i64 op') (.int .i64 n') (.string name') (.slice A5 kids'.length c5)).cell? ⟨w.heap.size, 1, none⟩ = some (.int .i64 n) := R7.cell 1
    have r2 : (set4 (set4 w5 w.heap.size (.int .i64 op) (.int .i64 n) (.string name) (.slice A3 kids.length c3)) (w.heap.size + 1) (.int .i64 op') (.int .i64 n') (.string name') (.slice A5 kids'.length c5)).cell? ⟨w.heap.size, 2, none⟩ = some (.string name) := R7.cell 2
    have r3 : (set4 (set4 w5 w.heap.size (.int .i64 op) (.int .i64 n) (.string name) (.slice A3 kids.length c3)) (w.heap.size + 1) (.int .i64 op') (.int .i64 n') (.string name') (.slice A5 kids'.length c5)).cell? ⟨w.heap.size, 3, none⟩ = some (.slice A3 kids.length c3) := R7.cell 3
    have q0 : (set4 (set4 w5 w.heap.size (.int .i64 op) (.int .i64 n) (.string name) (.slice A3 kids.length c3)) (w.heap.size + 1) (.int .i64 op') (.int .i64 n') (.string name') (.slice A5 kids'.length c5)).cell? ⟨w.heap.size + 1, 0, none⟩ = some (.int .i64 op') := Q7.cell 0
    have q1 : (set4 (set4 w5 w.heap.size (.int .i64 op) (.int .i64 n) (.string name) (.slice A3 kids.length c3)) (w.heap.size + 1) (.int .i64 op') (.int .i64 n') (.string name') (.slice A5 kids'.length c5)).cell? ⟨w.heap.size + 1, 1, none⟩ = some (.int .i64 n') := Q7.cell 1
    have q2 : (set4 (set4 w5 w.heap.size (.int .i64 op) (.int .i64 n) (.string name) (.slice A3 kids.length c3)) (w.heap.size + 1) (.int .i64 op') (.int .i64 n') (.string name') (.slice A5 kids'.length c5)).cell? ⟨w.heap.size + 1, 2, none⟩ = some (.string name') := Q7.cell 2
    have q3 : (set4 (set4 w5 w.heap.size (.int .i64 op) (.int .i64 n) (.string name) (.slice A3 kids.length c3)) (w.heap.size + 1) (.int .i64 op') (.int .i64 n') (.string name') (.slice A5 kids'.length c5)).cell? ⟨w.heap.size + 1, 3, none⟩ = some (.slice A5 kids'.length c5) := Q7.cell 3
    go_wp2_with fail
    refine bodyPost_ret (v := .tuple #[.agg #[.int .i64 op, .int .i64 n, .string name, .slice A3 kids.length c3], .agg #[.int .i64 op', .int .i64 n', .string name', .slice A5 kids'.length c5]]) ?_ rfl F.out
    show (results _ _).run Tryd.prog ((set4 (set4 w5 w.heap.size (.int .i64 op) (.int .i64 n) (.string name) (.slice A3 kids.length c3)) (w.heap.size + 1) (.int .i64 op') (.int .i64 n') (.string name') (.slice A5 kids'.length c5))) = .ok _ ((set4 (set4 w5 w.heap.size (.int .i64 op) (.int .i64 n) (.string name) (.slice A3 kids.length c3)) (w.heap.size + 1) (.int .i64 op') (.int .i64 n') (.string name') (.slice A5 kids'.length c5)))
    revert r0 r1 r2 r3 q0 q1 q2 q3
    generalize ((set4 (set4 w5 w.heap.size (.int .i64 op) (.int .i64 n) (.string name) (.slice A3 kids.length c3)) (w.heap.size + 1) (.int .i64 op') (.int .i64 n') (.string name') (.slice A5 kids'.length c5))) = W
    intro r0 r1 r2 r3 q0 q1 q2 q3
    simp [results, Tryd.results5, go_sem, r0, r1, r2, r3, q0, q1, q2, q3]
  · have k0' : ((k : Int) == 0) = false := by simp; omega
    have z0 : w4.cell? ⟨w2.heap.size, 0, none⟩ = some (.int .i64 op) := B4.cell 0
    have z1 : w4.cell? ⟨w2.heap.size, 1, none⟩ = some (.int .i64 n) := B4.cell 1
    have z2 : w4.cell? ⟨w2.heap.size, 2, none⟩ = some (.string name) := B4.cell 2
    have z3 : w4.cell? ⟨w2.heap.size, 3, none⟩ = some (.slice A3 kids.length c3) := B4.cell 3
    have hfew := Lib.hid (few_deep 9 (exT_S false 9 (hE4.rep false)) (hE4.noZ).2)
    go_wp2_with fail
    refine (spec_l2CopyN 9 8 op n name kids (.slice A3 kids.length c3) _ w1.heap.size w4.heap.size (Nat.le_refl _) hE4.1 hE4.2.1 (Nat.le_trans hE4.2.2.1 (by decide)) hE4.sl hfew.out).mono ?_
    rintro e w5 ⟨v5, rfl, hx5, b5⟩
    obtain ⟨A5, c5, hf5, _, _⟩ := (exT_kids 9 (hx5 false)).form
    change v5 = Value.slice A5 kids.length c5 at hf5
    subst hf5
    have hT5 : SlT false (exT false 9) w5 w4.heap.size w5.heap.size kids (.slice A5 kids.length c5) := exT_kids 9 (hx5 false)
    clear hx5 hfew z0 z1 z2 z3
    skip
    have R5 := R4.below b5 R4.lt
    have Q5 := Q4.below b5 Q4.lt
    have B5 := B4.below b5 B4.lt
    have h5 := h4.below b5 hg4
    have a5 := a4.below b5 (Nat.le_refl _)
    have hB5 := hB4.trans (b5.mono hB4.size)
    have hw45 := b5.size
    clear R4 Q4 B4 hE4 a4
    have st6 := (Below.refl _ w5).alloc (Nat.le_refl _) (.cells #[.int .i64 op, .int .i64 n, .string name, .slice A5 kids.length c5] 25)
    have X6 : Row (w5.alloc (.cells #[.int .i64 op, .int .i64 n, .string name, .slice A5 kids.length c5] 25)) w5.heap.size 25 #[.int .i64 op, .int .i64 n, .string name, .slice A5 kids.length c5] := Row.new _ _ _
    have R6 := R5.alloc (.cells #[.int .i64 op, .int .i64 n, .string name, .slice A5 kids.length c5] 25)
    have Q6 := Q5.alloc (.cells #[.int .i64 op, .int .i64 n, .string name, .slice A5 kids.length c5] 25)
    have B6 := B5.alloc (.cells #[.int .i64 op, .int .i64 n, .string name, .slice A5 kids.length c5] 25)
    have h6 := h5.below st6 h5.lt
    have a6 := a5.below st6 (by omega)
    have hT6 := hT5.below st6 (Nat.le_refl _)
    have hB6 := hB5.trans (st6.mono hB5.size)
    clear R5 Q5 B5 a5 hT5
    have hg5 := h5.lt
    go_wp2_with fail
    refine (pick_ok 2 (by omega) (by omega) l' g p4 _ h6 (by omega)).mono ?_
    rintro e w7 ⟨v, p7, rfl, h7, hp7, hb7, m, hm, rfl⟩
    have hs6 : (w5.alloc (.cells #[.int .i64 op, .int .i64 n, .string name, .slice A5 kids.length c5] 25)).heap.size = w5.heap.size + 1 := by simp
    have R7 := R6.below hb7.1 (by omega)
    have Q7 := Q6.below hb7.1 (by omega)
    have B7 := hb7.row B6 (by omega)
    have X7 := hb7.row X6 (by omega)
    have a7 := hb7.sl a6 (by omega) (by rw [hs6]; omega)
    have hT7 := hT6.keep (Nat.le_refl _) (Nat.le_refl _) (fun x h1 h2 => hb7.2 x (by omega) (by rw [hs6]; omega))
    have hB7 := hB6.trans (hb7.1.mono (by omega))
    have hw7 := hb7.1.size
    rw [hs6] at hw7
    clear R6 Q6 B6 X6 a6 hT6 hb7 st6
    have x0 : w7.cell? ⟨w5.heap.size, 0, none⟩ = some (.int .i64 op) := X7.cell 0
    have x1 : w7.cell? ⟨w5.heap.size, 1, none⟩ = some (.int .i64 n) := X7.cell 1
    have x2 : w7.cell? ⟨w5.heap.size, 2, none⟩ = some (.string name) := X7.cell 2
    have x3 : w7.cell? ⟨w5.heap.size, 3, none⟩ = some (.slice A5 kids.length c5) := X7.cell 3
    by_cases m0 : m = 0
    · subst m0
      by_cases hl0 : 0 < kids.length
      · have hl0' : (0 : Int) < (kids.length : Int) := by omega
        have hbd : Below w7.heap.size w7 w7.drew := (Below.refl _ _).drew
        have Rd := R7.below hbd R7.lt
        have Qd := Q7.below hbd Q7.lt
        have Bd := B7.below hbd B7.lt
        have Xd := X7.below hbd X7.lt
        have hd : RdAt w7.drew g l' p7 := h7.below hbd h7.lt
        have hBd := hB7.trans (hbd.mono hB7.size)
        have aD : Sl false (exS false 8) w7.drew w1.heap.size w4.heap.size kids (.slice A3 kids.length c3) := a7
        have tD : SlT false (exT false 9) w7.drew w4.heap.size w5.heap.size kids (.slice A5 kids.length c5) := hT7
        have hwd : w5.heap.size + 1 ≤ w7.drew.heap.size := hw7
        have hgd := hd.lt
        go_wp2_with fail
        refine wp_region_held_drew (S := fun w' => w'.cell? ⟨w5.heap.size, 0, none⟩ = some (.int .i64 op) ∧ w'.cell? ⟨w5.heap.size, 1, none⟩ = some (.int .i64 n) ∧ w'.cell? ⟨w5.heap.size, 2, none⟩ = some (.string name) ∧ w'.cell? ⟨w5.heap.size, 3, none⟩ = some (.slice A5 kids.length c5)) (by kernel_rfl) ?_ (fun hHeld => ?_)
        · exact ⟨Xd.cell 0, Xd.cell 1, Xd.cell 2, Xd.cell 3⟩
        generalize w7.drew = wd at hHeld Rd Qd Bd Xd hd hBd aD tD hwd hbd hgd ⊢
        clear x0 x1 x2 x3 R7 Q7 B7 X7 h7 a7 hT7
        refine reg_take (i := 0) (v := ?v3) rfl (by kernel_rfl) (by kernel_rfl) (by kernel_rfl) (fun _ _ _ h => h) (Or.inl ⟨by kernel_rfl, ?h3⟩) (by assumption) ?r3
        case h3 => (intro w hSw; (try dsimp only at hSw); go_simp; try with_reducible rfl)
        try simp only [Act.put, List.setIfInBounds_toArray, List.set_cons_zero, List.set_cons_succ]
        refine reg_take (i := 1) (v := ?v4) rfl (by kernel_rfl) (by kernel_rfl) (by kernel_rfl) (fun _ _ _ h => h) (Or.inl ⟨by kernel_rfl, ?h4⟩) (by assumption) ?r4
        case h4 => (intro w hSw; (try dsimp only at hSw); go_simp; try with_reducible rfl)
        try simp only [Act.put, List.setIfInBounds_toArray, List.set_cons_zero, List.set_cons_succ]
        refine reg_take (i := 2) (v := ?v5) rfl (by kernel_rfl) (by kernel_rfl) (by kernel_rfl) (fun _ _ _ h => h) (Or.inl ⟨by kernel_rfl, ?h5⟩) (by assumption) ?r5
        case h5 => (intro w hSw; (try dsimp only at hSw); go_simp; try with_reducible rfl)
        try simp only [Act.put, List.setIfInBounds_toArray, List.set_cons_zero, List.set_cons_succ]
        refine reg_take (i := 3) (v := ?v6) rfl (by kernel_rfl) (by kernel_rfl) (by kernel_rfl) (fun _ _ _ h => h) (Or.inl ⟨by kernel_rfl, ?h6⟩) (by assumption) ?r6
        case h6 => (intro w hSw; (try dsimp only at hSw); go_simp; try with_reducible rfl)
        try simp only [Act.put, List.setIfInBounds_toArray, List.set_cons_zero, List.set_cons_succ]
        refine reg_take (i := 4) (v := ?v7) rfl (by kernel_rfl) (by kernel_rfl) (by kernel_rfl) (fun _ _ _ h => h) (Or.inl ⟨by kernel_rfl, ?h7⟩) (by assumption) ?r7
        case h7 => (intro w hSw; (try dsimp only at hSw); go_simp; try with_reducible rfl)
        try simp only [Act.put, List.setIfInBounds_toArray, List.set_cons_zero, List.set_cons_succ]
        refine reg_take (i := 5) (v := ?v8) rfl (by kernel_rfl) (by kernel_rfl) (by kernel_rfl) (fun _ _ _ h => h) (Or.inl ⟨by kernel_rfl, ?h8⟩) (by assumption) ?r8
        case h8 => (intro w hSw; (try dsimp only at hSw); go_simp; try with_reducible rfl)
        try simp only [Act.put, List.setIfInBounds_toArray, List.set_cons_zero, List.set_cons_succ]
        refine reg_take (i := 7) (v := ?v9) rfl (by kernel_rfl) (by kernel_rfl) (by kernel_rfl) (fun _ _ _ h => h) (Or.inl ⟨by kernel_rfl, ?h9⟩) (by assumption) ?r9
        case h9 => (intro w hSw; (try dsimp only at hSw); go_simp; try with_reducible rfl)
        try simp only [Act.put, List.setIfInBounds_toArray, List.set_cons_zero, List.set_cons_succ]
        refine reg_call2 (i := 6) (j := 8) (by kernel_rfl) rfl rfl (fun K hK => ?_) (fun K hK => ?_)
        · go_simp
          refine (pick_ok kids.length (by omega) (by omega) l' g p7 _ hd (by omega)).mono ?_
          rintro e w8 ⟨v, p8, rfl, h8, hp8, hbp, kk, hkk, rfl⟩
          have R8 := Rd.below hbp.1 (by omega)
          have Q8 := Qd.below hbp.1 (by omega)
          have B8 := hbp.row Bd (by omega)
          have X8 := hbp.row Xd (by omega)
          have hB8 := hBd.trans (hbp.1.mono (by omega))
          have a8 := hbp.sl aD (by omega) (by omega)
          have t8 := tD.keep (Nat.le_refl _) (Nat.le_refl _) (fun x h1 h2 => hbp.2 x (by omega) (by omega))
          have hw8 := hbp.1.size
          refine hK.out _ _ (⟨X8.cell 0, X8.cell 1, X8.cell 2, X8.cell 3⟩) (fun hHeld => ?_)
          clear hK K
          try simp only [Act.put, List.setIfInBounds_toArray, List.set_cons_zero, List.set_cons_succ]
          refine reg_call (i := 8) (by kernel_rfl) rfl (fun K hK => ?_)
          go_simp
          have stl := (Below.refl _ w8).alloc (Nat.le_refl _) (.cells (([⟨#[97]⟩] : List ByteArray).map Value.string).toArray 9)
          have LL := lit_str w8 [⟨#[97]⟩] (nm_ml (nm_all (by decide +kernel))) (by decide)
          have hL := h8.below stl h8.lt
          have RL := R8.alloc (.cells (([⟨#[97]⟩] : List ByteArray).map Value.string).toArray 9)
          have QL := Q8.alloc (.cells (([⟨#[97]⟩] : List ByteArray).map Value.string).toArray 9)
          have BL := B8.alloc (.cells (([⟨#[97]⟩] : List ByteArray).map Value.string).toArray 9)
          have XL := X8.alloc (.cells (([⟨#[97]⟩] : List ByteArray).map Value.string).toArray 9)
          have hBL := hB8.trans (stl.mono hB8.size)
          have aL := a8.below stl (by omega)
          have tL := t8.below stl (by omega)
          have hwL := stl.size
          refine hK.out _ _ (⟨XL.cell 0, XL.cell 1, XL.cell 2, XL.cell 3⟩) (fun hHeld => ?_)
          clear hK K
          try simp only [Act.put, List.setIfInBounds_toArray, List.set_cons_zero, List.set_cons_succ]
          refine reg_call (i := 9) (by kernel_rfl) rfl (fun K hK => ?_)
          go_simp
          refine (leaf_ok [⟨#[97]⟩] (nm_all (by decide +kernel)) (by decide) _ _ _ l' g p8 _ hL (by omega) LL (by omega) (by first | exact Nat.le_refl _ | exact hbp.1.size) 8).mono ?_
          rintro e w9 ⟨p9, op', n', name', kids', A9, c9, rfl, h9, hp9, hb9, hF⟩
          have R9 := RL.below hb9.1 (by omega)
          have Q9 := QL.below hb9.1 (by omega)
          have B9 := hb9.row BL (by omega)
          have X9 := hb9.row XL (by omega)
          have hB9 := hBL.trans (hb9.1.mono (by omega))
          have a9 := hb9.sl aL (by omega) (by omega)
          have t9 := tL.keep (Nat.le_refl _) (Nat.le_refl _) (fun x h1 h2 => hb9.2 x (by omega) (by omega))
          have hw9 := hb9.1.size
          refine hK.out _ _ (⟨X9.cell 0, X9.cell 1, X9.cell 2, X9.cell 3⟩) (fun hHeld => ?_)
          clear hK K
          try simp only [Act.put, List.setIfInBounds_toArray, List.set_cons_zero, List.set_cons_succ]
          obtain ⟨bk, rfl, hbk1, hbk2, hfr, e0, e1, e2, e3⟩ := slT_cells t9 hkk
          have hkkn : (kk : Int) < (kids.length : Int) := by omega
          have hkki : (0 : Int) ≤ (kk : Int) := by omega
          obtain ⟨y0, v0⟩ := e0
          obtain ⟨y1, v1⟩ := e1
          obtain ⟨y2, v2⟩ := e2
          obtain ⟨y3, v3⟩ := e3
          have f0 := hfr (kk * 4)
          have f1 := hfr (kk * 4 + 1)
          have f2 := hfr (kk * 4 + 2)
          have f3 := hfr (kk * 4 + 3)
          refine reg_take (i := 10) (v := ?v10) rfl (by kernel_rfl) (by kernel_rfl) (by kernel_rfl) (fun _ _ _ h => h) (Or.inl ⟨by kernel_rfl, ?h10⟩) (by assumption) ?r10
          case h10 => (intro w hSw; (try dsimp only at hSw); go_simp; try with_reducible rfl)
          try simp only [Act.put, List.setIfInBounds_toArray, List.set_cons_zero, List.set_cons_succ]
          have XS : Row (setK w9 bk (kk * 4) (.int .i64 op') (.int .i64 n') (.string name') (.slice A9 kids'.length c9)) w5.heap.size 25 #[.int .i64 op, .int .i64 n, .string name, .slice (some ⟨bk, 0, none⟩) kids.length c5] := (setK_block _ _ _ _ _ _ _ _ (by omega)).trans X9
          refine reg_call (i := 11) (by kernel_rfl) rfl (fun K hK => ?_)
          go_simp
          refine hK.out _ _ (⟨XS.cell 0, XS.cell 1, XS.cell 2, XS.cell 3⟩) (fun hHeld => ?_)
          clear hK K
          try simp only [Act.put, List.setIfInBounds_toArray, List.set_cons_zero, List.set_cons_succ]
          refine wpAnyH_done (by kernel_rfl) ?_ _
          have RX : Row (setK w9 bk (kk * 4) (.int .i64 op') (.int .i64 n') (.string name') (.slice A9 kids'.length c9)) w.heap.size 25 #[.int .i64 0, .int .i64 0, .string ⟨#[]⟩, .slice none 0 0] := (setK_block _ _ _ _ _ _ _ _ (by omega)).trans R9
          have QX : Row (setK w9 bk (kk * 4) (.int .i64 op') (.int .i64 n') (.string name') (.slice A9 kids'.length c9)) (w.heap.size + 1) 25 #[.int .i64 0, .int .i64 0, .string ⟨#[]⟩, .slice none 0 0] := (setK_block _ _ _ _ _ _ _ _ (by omega)).trans Q9
          have BX : Row (setK w9 bk (kk * 4) (.int .i64 op') (.int .i64 n') (.string name') (.slice A9 kids'.length c9)) w2.heap.size 25 #[.int .i64 op, .int .i64 n, .string name, .slice A3 kids.length c3] := (setK_block _ _ _ _ _ _ _ _ (by omega)).trans B9
          have XX := XS
          have hBX : Below w.heap.size w (setK w9 bk (kk * 4) (.int .i64 op') (.int .i64 n') (.string name') (.slice A9 kids'.length c9)) := hB9.trans (setK_below _ _ _ _ _ _ _ (by omega))
          have hsz9 : (setK w9 bk (kk * 4) (.int .i64 op') (.int .i64 n') (.string name') (.slice A9 kids'.length c9)).heap.size = w9.heap.size := setK_size _ _ _ _ _ _ _
          have aX : Sl false (exS false 8) (setK w9 bk (kk * 4) (.int .i64 op') (.int .i64 n') (.string name') (.slice A9 kids'.length c9)) w1.heap.size (setK w9 bk (kk * 4) (.int .i64 op') (.int .i64 n') (.string name') (.slice A9 kids'.length c9)).heap.size kids (.slice A3 kids.length c3) := a9.keep (Nat.le_refl _) (by omega) (fun x h1 h2 => setK_block _ _ _ _ _ _ _ x (by omega))
          have hrep := exT_S false 9 (hF.rep false)
          have cX : Sl false (exS false 9) (setK w9 bk (kk * 4) (.int .i64 op') (.int .i64 n') (.string name') (.slice A9 kids'.length c9)) w1.heap.size (setK w9 bk (kk * 4) (.int .i64 op') (.int .i64 n') (.string name') (.slice A9 kids'.length c9)).heap.size (kids.set kk (.mk op' n' name' kids')) (.slice (some ⟨bk, 0, none⟩) kids.length c5) := sl_set t9 rfl hkk (fun x h1 h2 hne => setK_block _ _ _ _ _ _ _ x hne) (fun j => (setK_frozen _ _ _ _ _ _ _ _).trans (hfr j)) (fun i hi => setK_far _ _ _ _ _ _ _ i hi) ((exS false 9).keep hrep (Nat.le_refl _) (Nat.le_refl _) (fun x h1 h2 => setK_block _ _ _ _ _ _ _ x (by omega))) (setK_at v0 v1 v2 v3 _ _ _ _) (by omega) (by omega) (by omega) (by omega)
          have hls : (kids.set kk (.mk op' n' name' kids')).length = kids.length := List.length_set
          clear f0 f1 f2 f3 v0 v1 v2 v3 hfr h9 hb9 t9 a9 hF hrep
          show Exit.then _ _ _ _ (setK w9 bk (kk * 4) (.int .i64 op') (.int .i64 n') (.string name') (.slice A9 kids'.length c9))
          generalize (setK w9 bk (kk * 4) (.int .i64 op') (.int .i64 n') (.string name') (.slice A9 kids'.length c9)) = ws at RX QX BX XX hBX aX cX ⊢
          clear hsz9 R9 Q9 B9 X9 hB9
          have hbd : Below ws.heap.size ws ws.drew := (Below.refl _ _).drew
          have Bd : Row ws.drew w2.heap.size 25 #[.int .i64 op, .int .i64 n, .string name, .slice A3 kids.length c3] := BX
          have Xd : Row ws.drew w5.heap.size 25 #[.int .i64 op, .int .i64 n, .string name, .slice (some ⟨bk, 0, none⟩) kids.length c5] := XX
          have Rd : Row ws.drew w.heap.size 25 #[.int .i64 0, .int .i64 0, .string ⟨#[]⟩, .slice none 0 0] := RX
          have Qd : Row ws.drew (w.heap.size + 1) 25 #[.int .i64 0, .int .i64 0, .string ⟨#[]⟩, .slice none 0 0] := QX
          have hBd := hBX.trans (hbd.mono hBX.size)
          have ha : Sl false (exS false 8) ws.drew w1.heap.size ws.drew.heap.size kids (.slice A3 kids.length c3) := aX
          have hc : Sl false (exS false 9) ws.drew w1.heap.size ws.drew.heap.size (kids.set kk (.mk op' n' name' kids')) (.slice (some ⟨bk, 0, none⟩) kids.length c5) := cX
          have u0 : ws.cell? ⟨w2.heap.size, 0, none⟩ = some (.int .i64 op) := BX.cell 0
          have u1 : ws.cell? ⟨w2.heap.size, 1, none⟩ = some (.int .i64 n) := BX.cell 1
          have u2 : ws.cell? ⟨w2.heap.size, 2, none⟩ = some (.string name) := BX.cell 2
          have u3 : ws.cell? ⟨w2.heap.size, 3, none⟩ = some (.slice A3 kids.length c3) := BX.cell 3
          have x0 : ws.cell? ⟨w5.heap.size, 0, none⟩ = some (.int .i64 op) := XX.cell 0
          have x1 : ws.cell? ⟨w5.heap.size, 1, none⟩ = some (.int .i64 n) := XX.cell 1
          have x2 : ws.cell? ⟨w5.heap.size, 2, none⟩ = some (.string name) := XX.cell 2
          have x3 : ws.cell? ⟨w5.heap.size, 3, none⟩ = some (.slice (some ⟨bk, 0, none⟩) kids.length c5) := XX.cell 3
          go_wp2_with fail
          refine wp_region_held_drew (S := fun w' => w'.cell? ⟨w2.heap.size, 0, none⟩ = some (.int .i64 op) ∧ w'.cell? ⟨w2.heap.size, 1, none⟩ = some (.int .i64 n) ∧ w'.cell? ⟨w2.heap.size, 2, none⟩ = some (.string name) ∧ w'.cell? ⟨w2.heap.size, 3, none⟩ = some (.slice A3 kids.length c3) ∧ w'.cell? ⟨w5.heap.size, 0, none⟩ = some (.int .i64 op) ∧ w'.cell? ⟨w5.heap.size, 1, none⟩ = some (.int .i64 n) ∧ w'.cell? ⟨w5.heap.size, 2, none⟩ = some (.string name) ∧ w'.cell? ⟨w5.heap.size, 3, none⟩ = some (.slice (some ⟨bk, 0, none⟩) kids.length c5)) (by kernel_rfl) ?_ (fun hHeld => ?_)
          · exact ⟨Bd.cell 0, Bd.cell 1, Bd.cell 2, Bd.cell 3, Xd.cell 0, Xd.cell 1, Xd.cell 2, Xd.cell 3⟩
          generalize ws.drew = wd at hHeld Bd Xd Rd Qd hBd ha hc hbd ⊢
          clear u0 u1 u2 u3 x0 x1 x2 x3
          refine reg_take (i := 0) (v := ?v11) rfl (by kernel_rfl) (by kernel_rfl) (by kernel_rfl) (fun _ _ _ h => h) (Or.inl ⟨by kernel_rfl, ?h11⟩) (by assumption) ?r11
          case h11 => (intro w hSw; (try dsimp only at hSw); go_simp; try with_reducible rfl)
          try simp only [Act.put, List.setIfInBounds_toArray, List.set_cons_zero, List.set_cons_succ]
          refine reg_take (i := 1) (v := ?v12) rfl (by kernel_rfl) (by kernel_rfl) (by kernel_rfl) (fun _ _ _ h => h) (Or.inl ⟨by kernel_rfl, ?h12⟩) (by assumption) ?r12
          case h12 => (intro w hSw; (try dsimp only at hSw); go_simp; try with_reducible rfl)
          try simp only [Act.put, List.setIfInBounds_toArray, List.set_cons_zero, List.set_cons_succ]
          have s0 : wd.cell? ⟨w.heap.size, 0, none⟩ = some (.int .i64 0) := Rd.cell 0
          have s1 : wd.cell? ⟨w.heap.size, 1, none⟩ = some (.int .i64 0) := Rd.cell 1
          have s2 : wd.cell? ⟨w.heap.size, 2, none⟩ = some (.string ⟨#[]⟩) := Rd.cell 2
          have s3 : wd.cell? ⟨w.heap.size, 3, none⟩ = some (.slice none 0 0) := Rd.cell 3
          have sf0 : wd.frozen? ⟨w.heap.size, 0, none⟩ = false := Rd.frozen 0
          have sf1 : wd.frozen? ⟨w.heap.size, 1, none⟩ = false := Rd.frozen 1
          have sf2 : wd.frozen? ⟨w.heap.size, 2, none⟩ = false := Rd.frozen 2
          have sf3 : wd.frozen? ⟨w.heap.size, 3, none⟩ = false := Rd.frozen 3
          have t0 : wd.cell? ⟨w.heap.size + 1, 0, none⟩ = some (.int .i64 0) := Qd.cell 0
          have t1 : wd.cell? ⟨w.heap.size + 1, 1, none⟩ = some (.int .i64 0) := Qd.cell 1
          have t2 : wd.cell? ⟨w.heap.size + 1, 2, none⟩ = some (.string ⟨#[]⟩) := Qd.cell 2
          have t3 : wd.cell? ⟨w.heap.size + 1, 3, none⟩ = some (.slice none 0 0) := Qd.cell 3
          have tf0 : wd.frozen? ⟨w.heap.size + 1, 0, none⟩ = false := Qd.frozen 0
          have tf1 : wd.frozen? ⟨w.heap.size + 1, 1, none⟩ = false := Qd.frozen 1
          have tf2 : wd.frozen? ⟨w.heap.size + 1, 2, none⟩ = false := Qd.frozen 2
          have tf3 : wd.frozen? ⟨w.heap.size + 1, 3, none⟩ = false := Qd.frozen 3
          have Qe : Row (set4 wd w.heap.size (.int .i64 op) (.int .i64 n) (.string name) (.slice A3 kids.length c3)) (w.heap.size + 1) 25 #[.int .i64 0, .int .i64 0, .string ⟨#[]⟩, .slice none 0 0] := (set4_block wd w.heap.size _ _ _ _ _ (by omega)).trans Qd
          have Be : Row (set4 wd w.heap.size (.int .i64 op) (.int .i64 n) (.string name) (.slice A3 kids.length c3)) w2.heap.size 25 #[.int .i64 op, .int .i64 n, .string name, .slice A3 kids.length c3] := (set4_block wd w.heap.size _ _ _ _ _ (by omega)).trans Bd
          have Xe : Row (set4 wd w.heap.size (.int .i64 op) (.int .i64 n) (.string name) (.slice A3 kids.length c3)) w5.heap.size 25 #[.int .i64 op, .int .i64 n, .string name, .slice (some ⟨bk, 0, none⟩) kids.length c5] := (set4_block wd w.heap.size _ _ _ _ _ (by omega)).trans Xd
          have Re : Row (set4 wd w.heap.size (.int .i64 op) (.int .i64 n) (.string name) (.slice A3 kids.length c3)) w.heap.size 25 #[.int .i64 op, .int .i64 n, .string name, .slice A3 kids.length c3] := ((((Rd.set_ 0 _).set_ 1 _).set_ 2 _).set_ 3 _)
          have Rf : Row (set4 (set4 wd w.heap.size (.int .i64 op) (.int .i64 n) (.string name) (.slice A3 kids.length c3)) (w.heap.size + 1) (.int .i64 op) (.int .i64 n) (.string name) (.slice (some ⟨bk, 0, none⟩) kids.length c5)) w.heap.size 25 #[.int .i64 op, .int .i64 n, .string name, .slice A3 kids.length c3] := (set4_block (set4 wd w.heap.size (.int .i64 op) (.int .i64 n) (.string name) (.slice A3 kids.length c3)) (w.heap.size + 1) _ _ _ _ _ (by omega)).trans Re
          have Qf : Row (set4 (set4 wd w.heap.size (.int .i64 op) (.int .i64 n) (.string name) (.slice A3 kids.length c3)) (w.heap.size + 1) (.int .i64 op) (.int .i64 n) (.string name) (.slice (some ⟨bk, 0, none⟩) kids.length c5)) (w.heap.size + 1) 25 #[.int .i64 op, .int .i64 n, .string name, .slice (some ⟨bk, 0, none⟩) kids.length c5] := ((((Qe.set_ 0 _).set_ 1 _).set_ 2 _).set_ 3 _)
          have Bf : Row (set4 (set4 wd w.heap.size (.int .i64 op) (.int .i64 n) (.string name) (.slice A3 kids.length c3)) (w.heap.size + 1) (.int .i64 op) (.int .i64 n) (.string name) (.slice (some ⟨bk, 0, none⟩) kids.length c5)) w2.heap.size 25 #[.int .i64 op, .int .i64 n, .string name, .slice A3 kids.length c3] := (set4_block (set4 wd w.heap.size (.int .i64 op) (.int .i64 n) (.string name) (.slice A3 kids.length c3)) (w.heap.size + 1) _ _ _ _ _ (by omega)).trans Be
          have Xf : Row (set4 (set4 wd w.heap.size (.int .i64 op) (.int .i64 n) (.string name) (.slice A3 kids.length c3)) (w.heap.size + 1) (.int .i64 op) (.int .i64 n) (.string name) (.slice (some ⟨bk, 0, none⟩) kids.length c5)) w5.heap.size 25 #[.int .i64 op, .int .i64 n, .string name, .slice (some ⟨bk, 0, none⟩) kids.length c5] := (set4_block (set4 wd w.heap.size (.int .i64 op) (.int .i64 n) (.string name) (.slice A3 kids.length c3)) (w.heap.size + 1) _ _ _ _ _ (by omega)).trans Xe
          have F := DrawS.fin (lo := w1.heap.size) hBd (by omega) hI1 hI2 hI3 ha hI1 hI2 hI3 (show Sl false (exS false 9) wd w1.heap.size wd.heap.size (kids.set kk (.mk op' n' name' kids')) (.slice (some ⟨bk, 0, none⟩) (kids.set kk (.mk op' n' name' kids')).length c5) from hls.symm ▸ hc)
          rw [hls] at F
          replace F := Lib.hid F
          refine reg_call (i := 2) (by kernel_rfl) rfl (fun K hK => ?_)
          go_simp
          refine hK.out _ _ (⟨Be.cell 0, Be.cell 1, Be.cell 2, Be.cell 3, Xe.cell 0, Xe.cell 1, Xe.cell 2, Xe.cell 3⟩) (fun hHeld => ?_)
          clear hK K
          try simp only [Act.put, List.setIfInBounds_toArray, List.set_cons_zero, List.set_cons_succ]
          have y0 : (set4 wd w.heap.size (.int .i64 op) (.int .i64 n) (.string name) (.slice A3 kids.length c3)).cell? ⟨w.heap.size + 1, 0, none⟩ = some (.int .i64 0) := Qe.cell 0
          have y1 : (set4 wd w.heap.size (.int .i64 op) (.int .i64 n) (.string name) (.slice A3 kids.length c3)).cell? ⟨w.heap.size + 1, 1, none⟩ = some (.int .i64 0) := Qe.cell 1
          have y2 : (set4 wd w.heap.size (.int .i64 op) (.int .i64 n) (.string name) (.slice A3 kids.length c3)).cell? ⟨w.heap.size + 1, 2, none⟩ = some (.string ⟨#[]⟩) := Qe.cell 2
          have y3 : (set4 wd w.heap.size (.int .i64 op) (.int .i64 n) (.string name) (.slice A3 kids.length c3)).cell? ⟨w.heap.size + 1, 3, none⟩ = some (.slice none 0 0) := Qe.cell 3
          have yf0 : (set4 wd w.heap.size (.int .i64 op) (.int .i64 n) (.string name) (.slice A3 kids.length c3)).frozen? ⟨w.heap.size + 1, 0, none⟩ = false := Qe.frozen 0
          have yf1 : (set4 wd w.heap.size (.int .i64 op) (.int .i64 n) (.string name) (.slice A3 kids.length c3)).frozen? ⟨w.heap.size + 1, 1, none⟩ = false := Qe.frozen 1
          have yf2 : (set4 wd w.heap.size (.int .i64 op) (.int .i64 n) (.string name) (.slice A3 kids.length c3)).frozen? ⟨w.heap.size + 1, 2, none⟩ = false := Qe.frozen 2
          have yf3 : (set4 wd w.heap.size (.int .i64 op) (.int .i64 n) (.string name) (.slice A3 kids.length c3)).frozen? ⟨w.heap.size + 1, 3, none⟩ = false := Qe.frozen 3
          refine reg_call (i := 3) (by kernel_rfl) rfl (fun K hK => ?_)
          go_simp
          refine hK.out _ _ (⟨Bf.cell 0, Bf.cell 1, Bf.cell 2, Bf.cell 3, Xf.cell 0, Xf.cell 1, Xf.cell 2, Xf.cell 3⟩) (fun hHeld => ?_)
          clear hK K
          try simp only [Act.put, List.setIfInBounds_toArray, List.set_cons_zero, List.set_cons_succ]
          refine wpAnyH_done (by kernel_rfl) ?_ _
          have r0 : (set4 (set4 wd w.heap.size (.int .i64 op) (.int .i64 n) (.string name) (.slice A3 kids.length c3)) (w.heap.size + 1) (.int .i64 op) (.int .i64 n) (.string name) (.slice (some ⟨bk, 0, none⟩) kids.length c5)).cell? ⟨w.heap.size, 0, none⟩ = some (.int .i64 op) := Rf.cell 0
          have r1 : (set4 (set4 wd w.heap.size (.int .i64 op) (.int .i64 n) (.string name) (.slice A3 kids.length c3)) (w.heap.size + 1) (.int .i64 op) (.int .i64 n) (.string name) (.slice (some ⟨bk, 0, none⟩) kids.length c5)).cell? ⟨w.heap.size, 1, none⟩ = some (.int .i64 n) := Rf.cell 1
          have r2 : (set4 (set4 wd w.heap.size (.int .i64 op) (.int .i64 n) (.string name) (.slice A3 kids.length c3)) (w.heap.size + 1) (.int .i64 op) (.int .i64 n) (.string name) (.slice (some ⟨bk, 0, none⟩) kids.length c5)).cell? ⟨w.heap.size, 2, none⟩ = some (.string name) := Rf.cell 2
          have r3 : (set4 (set4 wd w.heap.size (.int .i64 op) (.int .i64 n) (.string name) (.slice A3 kids.length c3)) (w.heap.size + 1) (.int .i64 op) (.int .i64 n) (.string name) (.slice (some ⟨bk, 0, none⟩) kids.length c5)).cell? ⟨w.heap.size, 3, none⟩ = some (.slice A3 kids.length c3) := Rf.cell 3
          have q0 : (set4 (set4 wd w.heap.size (.int .i64 op) (.int .i64 n) (.string name) (.slice A3 kids.length c3)) (w.heap.size + 1) (.int .i64 op) (.int .i64 n) (.string name) (.slice (some ⟨bk, 0, none⟩) kids.length c5)).cell? ⟨w.heap.size + 1, 0, none⟩ = some (.int .i64 op) := Qf.cell 0
          have q1 : (set4 (set4 wd w.heap.size (.int .i64 op) (.int .i64 n) (.string name) (.slice A3 kids.length c3)) (w.heap.size + 1) (.int .i64 op) (.int .i64 n) (.string name) (.slice (some ⟨bk, 0, none⟩) kids.length c5)).cell? ⟨w.heap.size + 1, 1, none⟩ = some (.int .i64 n) := Qf.cell 1
          have q2 : (set4 (set4 wd w.heap.size (.int .i64 op) (.int .i64 n) (.string name) (.slice A3 kids.length c3)) (w.heap.size + 1) (.int .i64 op) (.int .i64 n) (.string name) (.slice (some ⟨bk, 0, none⟩) kids.length c5)).cell? ⟨w.heap.size + 1, 2, none⟩ = some (.string name) := Qf.cell 2
          have q3 : (set4 (set4 wd w.heap.size (.int .i64 op) (.int .i64 n) (.string name) (.slice A3 kids.length c3)) (w.heap.size + 1) (.int .i64 op) (.int .i64 n) (.string name) (.slice (some ⟨bk, 0, none⟩) kids.length c5)).cell? ⟨w.heap.size + 1, 3, none⟩ = some (.slice (some ⟨bk, 0, none⟩) kids.length c5) := Qf.cell 3
          go_wp2_with fail
          refine bodyPost_ret (v := .tuple #[.agg #[.int .i64 op, .int .i64 n, .string name, .slice A3 kids.length c3], .agg #[.int .i64 op, .int .i64 n, .string name, .slice (some ⟨bk, 0, none⟩) kids.length c5]]) ?_ rfl F.out
          show (results _ _).run Tryd.prog ((set4 (set4 wd w.heap.size (.int .i64 op) (.int .i64 n) (.string name) (.slice A3 kids.length c3)) (w.heap.size + 1) (.int .i64 op) (.int .i64 n) (.string name) (.slice (some ⟨bk, 0, none⟩) kids.length c5))) = .ok _ ((set4 (set4 wd w.heap.size (.int .i64 op) (.int .i64 n) (.string name) (.slice A3 kids.length c3)) (w.heap.size + 1) (.int .i64 op) (.int .i64 n) (.string name) (.slice (some ⟨bk, 0, none⟩) kids.length c5)))
          revert r0 r1 r2 r3 q0 q1 q2 q3
          generalize ((set4 (set4 wd w.heap.size (.int .i64 op) (.int .i64 n) (.string name) (.slice A3 kids.length c3)) (w.heap.size + 1) (.int .i64 op) (.int .i64 n) (.string name) (.slice (some ⟨bk, 0, none⟩) kids.length c5))) = W
          intro r0 r1 r2 r3 q0 q1 q2 q3
          simp [results, Tryd.results5, go_sem, r0, r1, r2, r3, q0, q1, q2, q3]
        · go_simp
          have stl := (Below.refl _ wd).alloc (Nat.le_refl _) (.cells (([⟨#[97]⟩] : List ByteArray).map Value.string).toArray 9)
          have LL := lit_str wd [⟨#[97]⟩] (nm_ml (nm_all (by decide +kernel))) (by decide)
          have hL := hd.below stl hd.lt
          have RL := Rd.alloc (.cells (([⟨#[97]⟩] : List ByteArray).map Value.string).toArray 9)
          have QL := Qd.alloc (.cells (([⟨#[97]⟩] : List ByteArray).map Value.string).toArray 9)
          have BL := Bd.alloc (.cells (([⟨#[97]⟩] : List ByteArray).map Value.string).toArray 9)
          have XL := Xd.alloc (.cells (([⟨#[97]⟩] : List ByteArray).map Value.string).toArray 9)
          have hBL := hBd.trans (stl.mono hBd.size)
          have aL := aD.below stl (by omega)
          have tL := tD.below stl (by omega)
          have hwL := stl.size
          refine hK.out _ _ (⟨XL.cell 0, XL.cell 1, XL.cell 2, XL.cell 3⟩) (fun hHeld => ?_)
          clear hK K
          try simp only [Act.put, List.setIfInBounds_toArray, List.set_cons_zero, List.set_cons_succ]
          refine reg_call (i := 6) (by kernel_rfl) rfl (fun K hK => ?_)
          go_simp
          refine (pick_ok kids.length (by omega) (by omega) l' g p7 _ hL (by omega)).mono ?_
          rintro e w8 ⟨v, p8, rfl, h8, hp8, hbp, kk, hkk, rfl⟩
          have R8 := RL.below hbp.1 (by omega)
          have Q8 := QL.below hbp.1 (by omega)
          have B8 := hbp.row BL (by omega)
          have X8 := hbp.row XL (by omega)
          have hB8 := hBL.trans (hbp.1.mono (by omega))
          have a8 := hbp.sl aL (by omega) (by omega)
          have t8 := tL.keep (Nat.le_refl _) (Nat.le_refl _) (fun x h1 h2 => hbp.2 x (by omega) (by omega))
          have hw8 := hbp.1.size
          refine hK.out _ _ (⟨X8.cell 0, X8.cell 1, X8.cell 2, X8.cell 3⟩) (fun hHeld => ?_)
          clear hK K
          try simp only [Act.put, List.setIfInBounds_toArray, List.set_cons_zero, List.set_cons_succ]
          refine reg_call (i := 9) (by kernel_rfl) rfl (fun K hK => ?_)
          go_simp
          refine (leaf_ok [⟨#[97]⟩] (nm_all (by decide +kernel)) (by decide) _ _ _ l' g p8 _ h8 (by omega) (hbp.sl LL (by omega) (Nat.le_refl _)) (by omega) (by first | exact Nat.le_refl _ | exact hbp.1.size) 8).mono ?_
          rintro e w9 ⟨p9, op', n', name', kids', A9, c9, rfl, h9, hp9, hb9, hF⟩
          have R9 := R8.below hb9.1 (by omega)
          have Q9 := Q8.below hb9.1 (by omega)
          have B9 := hb9.row B8 (by omega)
          have X9 := hb9.row X8 (by omega)
          have hB9 := hB8.trans (hb9.1.mono (by omega))
          have a9 := hb9.sl a8 (by omega) (by omega)
          have t9 := t8.keep (Nat.le_refl _) (Nat.le_refl _) (fun x h1 h2 => hb9.2 x (by omega) (by omega))
          have hw9 := hb9.1.size
          refine hK.out _ _ (⟨X9.cell 0, X9.cell 1, X9.cell 2, X9.cell 3⟩) (fun hHeld => ?_)
          clear hK K
          try simp only [Act.put, List.setIfInBounds_toArray, List.set_cons_zero, List.set_cons_succ]
          obtain ⟨bk, rfl, hbk1, hbk2, hfr, e0, e1, e2, e3⟩ := slT_cells t9 hkk
          have hkkn : (kk : Int) < (kids.length : Int) := by omega
          have hkki : (0 : Int) ≤ (kk : Int) := by omega
          obtain ⟨y0, v0⟩ := e0
          obtain ⟨y1, v1⟩ := e1
          obtain ⟨y2, v2⟩ := e2
          obtain ⟨y3, v3⟩ := e3
          have f0 := hfr (kk * 4)
          have f1 := hfr (kk * 4 + 1)
          have f2 := hfr (kk * 4 + 2)
          have f3 := hfr (kk * 4 + 3)
          refine reg_take (i := 10) (v := ?v13) rfl (by kernel_rfl) (by kernel_rfl) (by kernel_rfl) (fun _ _ _ h => h) (Or.inl ⟨by kernel_rfl, ?h13⟩) (by assumption) ?r13
          case h13 => (intro w hSw; (try dsimp only at hSw); go_simp; try with_reducible rfl)
          try simp only [Act.put, List.setIfInBounds_toArray, List.set_cons_zero, List.set_cons_succ]
          have XS : Row (setK w9 bk (kk * 4) (.int .i64 op') (.int .i64 n') (.string name') (.slice A9 kids'.length c9)) w5.heap.size 25 #[.int .i64 op, .int .i64 n, .string name, .slice (some ⟨bk, 0, none⟩) kids.length c5] := (setK_block _ _ _ _ _ _ _ _ (by omega)).trans X9
          refine reg_call (i := 11) (by kernel_rfl) rfl (fun K hK => ?_)
          go_simp
          refine hK.out _ _ (⟨XS.cell 0, XS.cell 1, XS.cell 2, XS.cell 3⟩) (fun hHeld => ?_)
          clear hK K
          try simp only [Act.put, List.setIfInBounds_toArray, List.set_cons_zero, List.set_cons_succ]
          refine wpAnyH_done (by kernel_rfl) ?_ _
          have RX : Row (setK w9 bk (kk * 4) (.int .i64 op') (.int .i64 n') (.string name') (.slice A9 kids'.length c9)) w.heap.size 25 #[.int .i64 0, .int .i64 0, .string ⟨#[]⟩, .slice none 0 0] := (setK_block _ _ _ _ _ _ _ _ (by omega)).trans R9
          have QX : Row (setK w9 bk (kk * 4) (.int .i64 op') (.int .i64 n') (.string name') (.slice A9 kids'.length c9)) (w.heap.size + 1) 25 #[.int .i64 0, .int .i64 0, .string ⟨#[]⟩, .slice none 0 0] := (setK_block _ _ _ _ _ _ _ _ (by omega)).trans Q9
          have BX : Row (setK w9 bk (kk * 4) (.int .i64 op') (.int .i64 n') (.string name') (.slice A9 kids'.length c9)) w2.heap.size 25 #[.int .i64 op, .int .i64 n, .string name, .slice A3 kids.length c3] := (setK_block _ _ _ _ _ _ _ _ (by omega)).trans B9
          have XX := XS
          have hBX : Below w.heap.size w (setK w9 bk (kk * 4) (.int .i64 op') (.int .i64 n') (.string name') (.slice A9 kids'.length c9)) := hB9.trans (setK_below _ _ _ _ _ _ _ (by omega))
          have hsz9 : (setK w9 bk (kk * 4) (.int .i64 op') (.int .i64 n') (.string name') (.slice A9 kids'.length c9)).heap.size = w9.heap.size := setK_size _ _ _ _ _ _ _
          have aX : Sl false (exS false 8) (setK w9 bk (kk * 4) (.int .i64 op') (.int .i64 n') (.string name') (.slice A9 kids'.length c9)) w1.heap.size (setK w9 bk (kk * 4) (.int .i64 op') (.int .i64 n') (.string name') (.slice A9 kids'.length c9)).heap.size kids (.slice A3 kids.length c3) := a9.keep (Nat.le_refl _) (by omega) (fun x h1 h2 => setK_block _ _ _ _ _ _ _ x (by omega))
          have hrep := exT_S false 9 (hF.rep false)
          have cX : Sl false (exS false 9) (setK w9 bk (kk * 4) (.int .i64 op') (.int .i64 n') (.string name') (.slice A9 kids'.length c9)) w1.heap.size (setK w9 bk (kk * 4) (.int .i64 op') (.int .i64 n') (.string name') (.slice A9 kids'.length c9)).heap.size (kids.set kk (.mk op' n' name' kids')) (.slice (some ⟨bk, 0, none⟩) kids.length c5) := sl_set t9 rfl hkk (fun x h1 h2 hne => setK_block _ _ _ _ _ _ _ x hne) (fun j => (setK_frozen _ _ _ _ _ _ _ _).trans (hfr j)) (fun i hi => setK_far _ _ _ _ _ _ _ i hi) ((exS false 9).keep hrep (Nat.le_refl _) (Nat.le_refl _) (fun x h1 h2 => setK_block _ _ _ _ _ _ _ x (by omega))) (setK_at v0 v1 v2 v3 _ _ _ _) (by omega) (by omega) (by omega) (by omega)
          have hls : (kids.set kk (.mk op' n' name' kids')).length = kids.length := List.length_set
          clear f0 f1 f2 f3 v0 v1 v2 v3 hfr h9 hb9 t9 a9 hF hrep
          show Exit.then _ _ _ _ (setK w9 bk (kk * 4) (.int .i64 op') (.int .i64 n') (.string name') (.slice A9 kids'.length c9))
          generalize (setK w9 bk (kk * 4) (.int .i64 op') (.int .i64 n') (.string name') (.slice A9 kids'.length c9)) = ws at RX QX BX XX hBX aX cX ⊢
          clear hsz9 R9 Q9 B9 X9 hB9
          have hbd : Below ws.heap.size ws ws.drew := (Below.refl _ _).drew
          have Bd : Row ws.drew w2.heap.size 25 #[.int .i64 op, .int .i64 n, .string name, .slice A3 kids.length c3] := BX
          have Xd : Row ws.drew w5.heap.size 25 #[.int .i64 op, .int .i64 n, .string name, .slice (some ⟨bk, 0, none⟩) kids.length c5] := XX
          have Rd : Row ws.drew w.heap.size 25 #[.int .i64 0, .int .i64 0, .string ⟨#[]⟩, .slice none 0 0] := RX
          have Qd : Row ws.drew (w.heap.size + 1) 25 #[.int .i64 0, .int .i64 0, .string ⟨#[]⟩, .slice none 0 0] := QX
          have hBd := hBX.trans (hbd.mono hBX.size)
          have ha : Sl false (exS false 8) ws.drew w1.heap.size ws.drew.heap.size kids (.slice A3 kids.length c3) := aX
          have hc : Sl false (exS false 9) ws.drew w1.heap.size ws.drew.heap.size (kids.set kk (.mk op' n' name' kids')) (.slice (some ⟨bk, 0, none⟩) kids.length c5) := cX
          have u0 : ws.cell? ⟨w2.heap.size, 0, none⟩ = some (.int .i64 op) := BX.cell 0
          have u1 : ws.cell? ⟨w2.heap.size, 1, none⟩ = some (.int .i64 n) := BX.cell 1
          have u2 : ws.cell? ⟨w2.heap.size, 2, none⟩ = some (.string name) := BX.cell 2
          have u3 : ws.cell? ⟨w2.heap.size, 3, none⟩ = some (.slice A3 kids.length c3) := BX.cell 3
          have x0 : ws.cell? ⟨w5.heap.size, 0, none⟩ = some (.int .i64 op) := XX.cell 0
          have x1 : ws.cell? ⟨w5.heap.size, 1, none⟩ = some (.int .i64 n) := XX.cell 1
          have x2 : ws.cell? ⟨w5.heap.size, 2, none⟩ = some (.string name) := XX.cell 2
          have x3 : ws.cell? ⟨w5.heap.size, 3, none⟩ = some (.slice (some ⟨bk, 0, none⟩) kids.length c5) := XX.cell 3
          go_wp2_with fail
          refine wp_region_held_drew (S := fun w' => w'.cell? ⟨w2.heap.size, 0, none⟩ = some (.int .i64 op) ∧ w'.cell? ⟨w2.heap.size, 1, none⟩ = some (.int .i64 n) ∧ w'.cell? ⟨w2.heap.size, 2, none⟩ = some (.string name) ∧ w'.cell? ⟨w2.heap.size, 3, none⟩ = some (.slice A3 kids.length c3) ∧ w'.cell? ⟨w5.heap.size, 0, none⟩ = some (.int .i64 op) ∧ w'.cell? ⟨w5.heap.size, 1, none⟩ = some (.int .i64 n) ∧ w'.cell? ⟨w5.heap.size, 2, none⟩ = some (.string name) ∧ w'.cell? ⟨w5.heap.size, 3, none⟩ = some (.slice (some ⟨bk, 0, none⟩) kids.length c5)) (by kernel_rfl) ?_ (fun hHeld => ?_)
          · exact ⟨Bd.cell 0, Bd.cell 1, Bd.cell 2, Bd.cell 3, Xd.cell 0, Xd.cell 1, Xd.cell 2, Xd.cell 3⟩
          generalize ws.drew = wd at hHeld Bd Xd Rd Qd hBd ha hc hbd ⊢
          clear u0 u1 u2 u3 x0 x1 x2 x3
          refine reg_take (i := 0) (v := ?v14) rfl (by kernel_rfl) (by kernel_rfl) (by kernel_rfl) (fun _ _ _ h => h) (Or.inl ⟨by kernel_rfl, ?h14⟩) (by assumption) ?r14
          case h14 => (intro w hSw; (try dsimp only at hSw); go_simp; try with_reducible rfl)
          try simp only [Act.put, List.setIfInBounds_toArray, List.set_cons_zero, List.set_cons_succ]
          refine reg_take (i := 1) (v := ?v15) rfl (by kernel_rfl) (by kernel_rfl) (by kernel_rfl) (fun _ _ _ h => h) (Or.inl ⟨by kernel_rfl, ?h15⟩) (by assumption) ?r15
          case h15 => (intro w hSw; (try dsimp only at hSw); go_simp; try with_reducible rfl)
          try simp only [Act.put, List.setIfInBounds_toArray, List.set_cons_zero, List.set_cons_succ]
          have s0 : wd.cell? ⟨w.heap.size, 0, none⟩ = some (.int .i64 0) := Rd.cell 0
          have s1 : wd.cell? ⟨w.heap.size, 1, none⟩ = some (.int .i64 0) := Rd.cell 1
          have s2 : wd.cell? ⟨w.heap.size, 2, none⟩ = some (.string ⟨#[]⟩) := Rd.cell 2
          have s3 : wd.cell? ⟨w.heap.size, 3, none⟩ = some (.slice none 0 0) := Rd.cell 3
          have sf0 : wd.frozen? ⟨w.heap.size, 0, none⟩ = false := Rd.frozen 0
          have sf1 : wd.frozen? ⟨w.heap.size, 1, none⟩ = false := Rd.frozen 1
          have sf2 : wd.frozen? ⟨w.heap.size, 2, none⟩ = false := Rd.frozen 2
          have sf3 : wd.frozen? ⟨w.heap.size, 3, none⟩ = false := Rd.frozen 3
          have t0 : wd.cell? ⟨w.heap.size + 1, 0, none⟩ = some (.int .i64 0) := Qd.cell 0
          have t1 : wd.cell? ⟨w.heap.size + 1, 1, none⟩ = some (.int .i64 0) := Qd.cell 1
          have t2 : wd.cell? ⟨w.heap.size + 1, 2, none⟩ = some (.string ⟨#[]⟩) := Qd.cell 2
          have t3 : wd.cell? ⟨w.heap.size + 1, 3, none⟩ = some (.slice none 0 0) := Qd.cell 3
          have tf0 : wd.frozen? ⟨w.heap.size + 1, 0, none⟩ = false := Qd.frozen 0
          have tf1 : wd.frozen? ⟨w.heap.size + 1, 1, none⟩ = false := Qd.frozen 1
          have tf2 : wd.frozen? ⟨w.heap.size + 1, 2, none⟩ = false := Qd.frozen 2
          have tf3 : wd.frozen? ⟨w.heap.size + 1, 3, none⟩ = false := Qd.frozen 3
          have Qe : Row (set4 wd w.heap.size (.int .i64 op) (.int .i64 n) (.string name) (.slice A3 kids.length c3)) (w.heap.size + 1) 25 #[.int .i64 0, .int .i64 0, .string ⟨#[]⟩, .slice none 0 0] := (set4_block wd w.heap.size _ _ _ _ _ (by omega)).trans Qd
          have Be : Row (set4 wd w.heap.size (.int .i64 op) (.int .i64 n) (.string name) (.slice A3 kids.length c3)) w2.heap.size 25 #[.int .i64 op, .int .i64 n, .string name, .slice A3 kids.length c3] := (set4_block wd w.heap.size _ _ _ _ _ (by omega)).trans Bd
          have Xe : Row (set4 wd w.heap.size (.int .i64 op) (.int .i64 n) (.string name) (.slice A3 kids.length c3)) w5.heap.size 25 #[.int .i64 op, .int .i64 n, .string name, .slice (some ⟨bk, 0, none⟩) kids.length c5] := (set4_block wd w.heap.size _ _ _ _ _ (by omega)).trans Xd
          have Re : Row (set4 wd w.heap.size (.int .i64 op) (.int .i64 n) (.string name) (.slice A3 kids.length c3)) w.heap.size 25 #[.int .i64 op, .int .i64 n, .string name, .slice A3 kids.length c3] := ((((Rd.set_ 0 _).set_ 1 _).set_ 2 _).set_ 3 _)
          have Rf : Row (set4 (set4 wd w.heap.size (.int .i64 op) (.int .i64 n) (.string name) (.slice A3 kids.length c3)) (w.heap.size + 1) (.int .i64 op) (.int .i64 n) (.string name) (.slice (some ⟨bk, 0, none⟩) kids.length c5)) w.heap.size 25 #[.int .i64 op, .int .i64 n, .string name, .slice A3 kids.length c3] := (set4_block (set4 wd w.heap.size (.int .i64 op) (.int .i64 n) (.string name) (.slice A3 kids.length c3)) (w.heap.size + 1) _ _ _ _ _ (by omega)).trans Re
          have Qf : Row (set4 (set4 wd w.heap.size (.int .i64 op) (.int .i64 n) (.string name) (.slice A3 kids.length c3)) (w.heap.size + 1) (.int .i64 op) (.int .i64 n) (.string name) (.slice (some ⟨bk, 0, none⟩) kids.length c5)) (w.heap.size + 1) 25 #[.int .i64 op, .int .i64 n, .string name, .slice (some ⟨bk, 0, none⟩) kids.length c5] := ((((Qe.set_ 0 _).set_ 1 _).set_ 2 _).set_ 3 _)
          have Bf : Row (set4 (set4 wd w.heap.size (.int .i64 op) (.int .i64 n) (.string name) (.slice A3 kids.length c3)) (w.heap.size + 1) (.int .i64 op) (.int .i64 n) (.string name) (.slice (some ⟨bk, 0, none⟩) kids.length c5)) w2.heap.size 25 #[.int .i64 op, .int .i64 n, .string name, .slice A3 kids.length c3] := (set4_block (set4 wd w.heap.size (.int .i64 op) (.int .i64 n) (.string name) (.slice A3 kids.length c3)) (w.heap.size + 1) _ _ _ _ _ (by omega)).trans Be
          have Xf : Row (set4 (set4 wd w.heap.size (.int .i64 op) (.int .i64 n) (.string name) (.slice A3 kids.length c3)) (w.heap.size + 1) (.int .i64 op) (.int .i64 n) (.string name) (.slice (some ⟨bk, 0, none⟩) kids.length c5)) w5.heap.size 25 #[.int .i64 op, .int .i64 n, .string name, .slice (some ⟨bk, 0, none⟩) kids.length c5] := (set4_block (set4 wd w.heap.size (.int .i64 op) (.int .i64 n) (.string name) (.slice A3 kids.length c3)) (w.heap.size + 1) _ _ _ _ _ (by omega)).trans Xe
          have F := DrawS.fin (lo := w1.heap.size) hBd (by omega) hI1 hI2 hI3 ha hI1 hI2 hI3 (show Sl false (exS false 9) wd w1.heap.size wd.heap.size (kids.set kk (.mk op' n' name' kids')) (.slice (some ⟨bk, 0, none⟩) (kids.set kk (.mk op' n' name' kids')).length c5) from hls.symm ▸ hc)
          rw [hls] at F
          replace F := Lib.hid F
          refine reg_call (i := 2) (by kernel_rfl) rfl (fun K hK => ?_)
          go_simp
          refine hK.out _ _ (⟨Be.cell 0, Be.cell 1, Be.cell 2, Be.cell 3, Xe.cell 0, Xe.cell 1, Xe.cell 2, Xe.cell 3⟩) (fun hHeld => ?_)
          clear hK K
          try simp only [Act.put, List.setIfInBounds_toArray, List.set_cons_zero, List.set_cons_succ]
          have y0 : (set4 wd w.heap.size (.int .i64 op) (.int .i64 n) (.string name) (.slice A3 kids.length c3)).cell? ⟨w.heap.size + 1, 0, none⟩ = some (.int .i64 0) := Qe.cell 0
          have y1 : (set4 wd w.heap.size (.int .i64 op) (.int .i64 n) (.string name) (.slice A3 kids.length c3)).cell? ⟨w.heap.size + 1, 1, none⟩ = some (.int .i64 0) := Qe.cell 1
          have y2 : (set4 wd w.heap.size (.int .i64 op) (.int .i64 n) (.string name) (.slice A3 kids.length c3)).cell? ⟨w.heap.size + 1, 2, none⟩ = some (.string ⟨#[]⟩) := Qe.cell 2
          have y3 : (set4 wd w.heap.size (.int .i64 op) (.int .i64 n) (.string name) (.slice A3 kids.length c3)).cell? ⟨w.heap.size + 1, 3, none⟩ = some (.slice none 0 0) := Qe.cell 3
          have yf0 : (set4 wd w.heap.size (.int .i64 op) (.int .i64 n) (.string name) (.slice A3 kids.length c3)).frozen? ⟨w.heap.size + 1, 0, none⟩ = false := Qe.frozen 0
          have yf1 : (set4 wd w.heap.size (.int .i64 op) (.int .i64 n) (.string name) (.slice A3 kids.length c3)).frozen? ⟨w.heap.size + 1, 1, none⟩ = false := Qe.frozen 1
          have yf2 : (set4 wd w.heap.size (.int .i64 op) (.int .i64 n) (.string name) (.slice A3 kids.length c3)).frozen? ⟨w.heap.size + 1, 2, none⟩ = false := Qe.frozen 2
          have yf3 : (set4 wd w.heap.size (.int .i64 op) (.int .i64 n) (.string name) (.slice A3 kids.length c3)).frozen? ⟨w.heap.size + 1, 3, none⟩ = false := Qe.frozen 3
          refine reg_call (i := 3) (by kernel_rfl) rfl (fun K hK => ?_)
          go_simp
          refine hK.out _ _ (⟨Bf.cell 0, Bf.cell 1, Bf.cell 2, Bf.cell 3, Xf.cell 0, Xf.cell 1, Xf.cell 2, Xf.cell 3⟩) (fun hHeld => ?_)
          clear hK K
          try simp only [Act.put, List.setIfInBounds_toArray, List.set_cons_zero, List.set_cons_succ]
          refine wpAnyH_done (by kernel_rfl) ?_ _
          have r0 : (set4 (set4 wd w.heap.size (.int .i64 op) (.int .i64 n) (.string name) (.slice A3 kids.length c3)) (w.heap.size + 1) (.int .i64 op) (.int .i64 n) (.string name) (.slice (some ⟨bk, 0, none⟩) kids.length c5)).cell? ⟨w.heap.size, 0, none⟩ = some (.int .i64 op) := Rf.cell 0
          have r1 : (set4 (set4 wd w.heap.size (.int .i64 op) (.int .i64 n) (.string name) (.slice A3 kids.length c3)) (w.heap.size + 1) (.int .i64 op) (.int .i64 n) (.string name) (.slice (some ⟨bk, 0, none⟩) kids.length c5)).cell? ⟨w.heap.size, 1, none⟩ = some (.int .i64 n) := Rf.cell 1
          have r2 : (set4 (set4 wd w.heap.size (.int .i64 op) (.int .i64 n) (.string name) (.slice A3 kids.length c3)) (w.heap.size + 1) (.int .i64 op) (.int .i64 n) (.string name) (.slice (some ⟨bk, 0, none⟩) kids.length c5)).cell? ⟨w.heap.size, 2, none⟩ = some (.string name) := Rf.cell 2
          have r3 : (set4 (set4 wd w.heap.size (.int .i64 op) (.int .i64 n) (.string name) (.slice A3 kids.length c3)) (w.heap.size + 1) (.int .i64 op) (.int .i64 n) (.string name) (.slice (some ⟨bk, 0, none⟩) kids.length c5)).cell? ⟨w.heap.size, 3, none⟩ = some (.slice A3 kids.length c3) := Rf.cell 3
          have q0 : (set4 (set4 wd w.heap.size (.int .i64 op) (.int .i64 n) (.string name) (.slice A3 kids.length c3)) (w.heap.size + 1) (.int .i64 op) (.int .i64 n) (.string name) (.slice (some ⟨bk, 0, none⟩) kids.length c5)).cell? ⟨w.heap.size + 1, 0, none⟩ = some (.int .i64 op) := Qf.cell 0
          have q1 : (set4 (set4 wd w.heap.size (.int .i64 op) (.int .i64 n) (.string name) (.slice A3 kids.length c3)) (w.heap.size + 1) (.int .i64 op) (.int .i64 n) (.string name) (.slice (some ⟨bk, 0, none⟩) kids.length c5)).cell? ⟨w.heap.size + 1, 1, none⟩ = some (.int .i64 n) := Qf.cell 1
          have q2 : (set4 (set4 wd w.heap.size (.int .i64 op) (.int .i64 n) (.string name) (.slice A3 kids.length c3)) (w.heap.size + 1) (.int .i64 op) (.int .i64 n) (.string name) (.slice (some ⟨bk, 0, none⟩) kids.length c5)).cell? ⟨w.heap.size + 1, 2, none⟩ = some (.string name) := Qf.cell 2
          have q3 : (set4 (set4 wd w.heap.size (.int .i64 op) (.int .i64 n) (.string name) (.slice A3 kids.length c3)) (w.heap.size + 1) (.int .i64 op) (.int .i64 n) (.string name) (.slice (some ⟨bk, 0, none⟩) kids.length c5)).cell? ⟨w.heap.size + 1, 3, none⟩ = some (.slice (some ⟨bk, 0, none⟩) kids.length c5) := Qf.cell 3
          go_wp2_with fail
          refine bodyPost_ret (v := .tuple #[.agg #[.int .i64 op, .int .i64 n, .string name, .slice A3 kids.length c3], .agg #[.int .i64 op, .int .i64 n, .string name, .slice (some ⟨bk, 0, none⟩) kids.length c5]]) ?_ rfl F.out
          show (results _ _).run Tryd.prog ((set4 (set4 wd w.heap.size (.int .i64 op) (.int .i64 n) (.string name) (.slice A3 kids.length c3)) (w.heap.size + 1) (.int .i64 op) (.int .i64 n) (.string name) (.slice (some ⟨bk, 0, none⟩) kids.length c5))) = .ok _ ((set4 (set4 wd w.heap.size (.int .i64 op) (.int .i64 n) (.string name) (.slice A3 kids.length c3)) (w.heap.size + 1) (.int .i64 op) (.int .i64 n) (.string name) (.slice (some ⟨bk, 0, none⟩) kids.length c5)))
          revert r0 r1 r2 r3 q0 q1 q2 q3
          generalize ((set4 (set4 wd w.heap.size (.int .i64 op) (.int .i64 n) (.string name) (.slice A3 kids.length c3)) (w.heap.size + 1) (.int .i64 op) (.int .i64 n) (.string name) (.slice (some ⟨bk, 0, none⟩) kids.length c5))) = W
          intro r0 r1 r2 r3 q0 q1 q2 q3
          simp [results, Tryd.results5, go_sem, r0, r1, r2, r3, q0, q1, q2, q3]
      · have hl0' : decide ((0 : Int) < (kids.length : Int)) = false := decide_eq_false (by omega)
        have RX := R7
        have QX := Q7
        have BX := B7
        have XX := X7
        have hBX := hB7
        have aX := a7.more (Nat.le_refl _) (show w4.heap.size ≤ w7.heap.size by omega)
        have cX := (hT7.exS).more (show w1.heap.size ≤ w4.heap.size by omega) (show w5.heap.size ≤ w7.heap.size by omega)
        clear x0 x1 x2 x3
        have hbd : Below w7.heap.size w7 w7.drew := (Below.refl _ _).drew
        have Bd : Row w7.drew w2.heap.size 25 #[.int .i64 op, .int .i64 n, .string name, .slice A3 kids.length c3] := BX
        have Xd : Row w7.drew w5.heap.size 25 #[.int .i64 op, .int .i64 n, .string name, .slice A5 kids.length c5] := XX
        have Rd : Row w7.drew w.heap.size 25 #[.int .i64 0, .int .i64 0, .string ⟨#[]⟩, .slice none 0 0] := RX
        have Qd : Row w7.drew (w.heap.size + 1) 25 #[.int .i64 0, .int .i64 0, .string ⟨#[]⟩, .slice none 0 0] := QX
        have hBd := hBX.trans (hbd.mono hBX.size)
        have ha : Sl false (exS false 8) w7.drew w1.heap.size w7.drew.heap.size kids (.slice A3 kids.length c3) := aX
        have hc : Sl false (exS false 9) w7.drew w1.heap.size w7.drew.heap.size (kids) (.slice A5 kids.length c5) := cX
        have u0 : w7.cell? ⟨w2.heap.size, 0, none⟩ = some (.int .i64 op) := BX.cell 0
        have u1 : w7.cell? ⟨w2.heap.size, 1, none⟩ = some (.int .i64 n) := BX.cell 1
        have u2 : w7.cell? ⟨w2.heap.size, 2, none⟩ = some (.string name) := BX.cell 2
        have u3 : w7.cell? ⟨w2.heap.size, 3, none⟩ = some (.slice A3 kids.length c3) := BX.cell 3
        have x0 : w7.cell? ⟨w5.heap.size, 0, none⟩ = some (.int .i64 op) := XX.cell 0
        have x1 : w7.cell? ⟨w5.heap.size, 1, none⟩ = some (.int .i64 n) := XX.cell 1
        have x2 : w7.cell? ⟨w5.heap.size, 2, none⟩ = some (.string name) := XX.cell 2
        have x3 : w7.cell? ⟨w5.heap.size, 3, none⟩ = some (.slice A5 kids.length c5) := XX.cell 3
        go_wp2_with fail
        refine wp_region_held_drew (S := fun w' => w'.cell? ⟨w2.heap.size, 0, none⟩ = some (.int .i64 op) ∧ w'.cell? ⟨w2.heap.size, 1, none⟩ = some (.int .i64 n) ∧ w'.cell? ⟨w2.heap.size, 2, none⟩ = some (.string name) ∧ w'.cell? ⟨w2.heap.size, 3, none⟩ = some (.slice A3 kids.length c3) ∧ w'.cell? ⟨w5.heap.size, 0, none⟩ = some (.int .i64 op) ∧ w'.cell? ⟨w5.heap.size, 1, none⟩ = some (.int .i64 n) ∧ w'.cell? ⟨w5.heap.size, 2, none⟩ = some (.string name) ∧ w'.cell? ⟨w5.heap.size, 3, none⟩ = some (.slice A5 kids.length c5)) (by kernel_rfl) ?_ (fun hHeld => ?_)
        · exact ⟨Bd.cell 0, Bd.cell 1, Bd.cell 2, Bd.cell 3, Xd.cell 0, Xd.cell 1, Xd.cell 2, Xd.cell 3⟩
        generalize w7.drew = wd at hHeld Bd Xd Rd Qd hBd ha hc hbd ⊢
        clear u0 u1 u2 u3 x0 x1 x2 x3
        refine reg_take (i := 0) (v := ?v16) rfl (by kernel_rfl) (by kernel_rfl) (by kernel_rfl) (fun _ _ _ h => h) (Or.inl ⟨by kernel_rfl, ?h16⟩) (by assumption) ?r16
        case h16 => (intro w hSw; (try dsimp only at hSw); go_simp; try with_reducible rfl)
        try simp only [Act.put, List.setIfInBounds_toArray, List.set_cons_zero, List.set_cons_succ]
        refine reg_take (i := 1) (v := ?v17) rfl (by kernel_rfl) (by kernel_rfl) (by kernel_rfl) (fun _ _ _ h => h) (Or.inl ⟨by kernel_rfl, ?h17⟩) (by assumption) ?r17
        case h17 => (intro w hSw; (try dsimp only at hSw); go_simp; try with_reducible rfl)
        try simp only [Act.put, List.setIfInBounds_toArray, List.set_cons_zero, List.set_cons_succ]
        have s0 : wd.cell? ⟨w.heap.size, 0, none⟩ = some (.int .i64 0) := Rd.cell 0
        have s1 : wd.cell? ⟨w.heap.size, 1, none⟩ = some (.int .i64 0) := Rd.cell 1
        have s2 : wd.cell? ⟨w.heap.size, 2, none⟩ = some (.string ⟨#[]⟩) := Rd.cell 2
        have s3 : wd.cell? ⟨w.heap.size, 3, none⟩ = some (.slice none 0 0) := Rd.cell 3
        have sf0 : wd.frozen? ⟨w.heap.size, 0, none⟩ = false := Rd.frozen 0
        have sf1 : wd.frozen? ⟨w.heap.size, 1, none⟩ = false := Rd.frozen 1
        have sf2 : wd.frozen? ⟨w.heap.size, 2, none⟩ = false := Rd.frozen 2
        have sf3 : wd.frozen? ⟨w.heap.size, 3, none⟩ = false := Rd.frozen 3
        have t0 : wd.cell? ⟨w.heap.size + 1, 0, none⟩ = some (.int .i64 0) := Qd.cell 0
        have t1 : wd.cell? ⟨w.heap.size + 1, 1, none⟩ = some (.int .i64 0) := Qd.cell 1
        have t2 : wd.cell? ⟨w.heap.size + 1, 2, none⟩ = some (.string ⟨#[]⟩) := Qd.cell 2
        have t3 : wd.cell? ⟨w.heap.size + 1, 3, none⟩ = some (.slice none 0 0) := Qd.cell 3
        have tf0 : wd.frozen? ⟨w.heap.size + 1, 0, none⟩ = false := Qd.frozen 0
        have tf1 : wd.frozen? ⟨w.heap.size + 1, 1, none⟩ = false := Qd.frozen 1
        have tf2 : wd.frozen? ⟨w.heap.size + 1, 2, none⟩ = false := Qd.frozen 2
        have tf3 : wd.frozen? ⟨w.heap.size + 1, 3, none⟩ = false := Qd.frozen 3
        have Qe : Row (set4 wd w.heap.size (.int .i64 op) (.int .i64 n) (.string name) (.slice A3 kids.length c3)) (w.heap.size + 1) 25 #[.int .i64 0, .int .i64 0, .string ⟨#[]⟩, .slice none 0 0] := (set4_block wd w.heap.size _ _ _ _ _ (by omega)).trans Qd
        have Be : Row (set4 wd w.heap.size (.int .i64 op) (.int .i64 n) (.string name) (.slice A3 kids.length c3)) w2.heap.size 25 #[.int .i64 op, .int .i64 n, .string name, .slice A3 kids.length c3] := (set4_block wd w.heap.size _ _ _ _ _ (by omega)).trans Bd
        have Xe : Row (set4 wd w.heap.size (.int .i64 op) (.int .i64 n) (.string name) (.slice A3 kids.length c3)) w5.heap.size 25 #[.int .i64 op, .int .i64 n, .string name, .slice A5 kids.length c5] := (set4_block wd w.heap.size _ _ _ _ _ (by omega)).trans Xd
        have Re : Row (set4 wd w.heap.size (.int .i64 op) (.int .i64 n) (.string name) (.slice A3 kids.length c3)) w.heap.size 25 #[.int .i64 op, .int .i64 n, .string name, .slice A3 kids.length c3] := ((((Rd.set_ 0 _).set_ 1 _).set_ 2 _).set_ 3 _)
        have Rf : Row (set4 (set4 wd w.heap.size (.int .i64 op) (.int .i64 n) (.string name) (.slice A3 kids.length c3)) (w.heap.size + 1) (.int .i64 op) (.int .i64 n) (.string name) (.slice A5 kids.length c5)) w.heap.size 25 #[.int .i64 op, .int .i64 n, .string name, .slice A3 kids.length c3] := (set4_block (set4 wd w.heap.size (.int .i64 op) (.int .i64 n) (.string name) (.slice A3 kids.length c3)) (w.heap.size + 1) _ _ _ _ _ (by omega)).trans Re
        have Qf : Row (set4 (set4 wd w.heap.size (.int .i64 op) (.int .i64 n) (.string name) (.slice A3 kids.length c3)) (w.heap.size + 1) (.int .i64 op) (.int .i64 n) (.string name) (.slice A5 kids.length c5)) (w.heap.size + 1) 25 #[.int .i64 op, .int .i64 n, .string name, .slice A5 kids.length c5] := ((((Qe.set_ 0 _).set_ 1 _).set_ 2 _).set_ 3 _)
        have Bf : Row (set4 (set4 wd w.heap.size (.int .i64 op) (.int .i64 n) (.string name) (.slice A3 kids.length c3)) (w.heap.size + 1) (.int .i64 op) (.int .i64 n) (.string name) (.slice A5 kids.length c5)) w2.heap.size 25 #[.int .i64 op, .int .i64 n, .string name, .slice A3 kids.length c3] := (set4_block (set4 wd w.heap.size (.int .i64 op) (.int .i64 n) (.string name) (.slice A3 kids.length c3)) (w.heap.size + 1) _ _ _ _ _ (by omega)).trans Be
        have Xf : Row (set4 (set4 wd w.heap.size (.int .i64 op) (.int .i64 n) (.string name) (.slice A3 kids.length c3)) (w.heap.size + 1) (.int .i64 op) (.int .i64 n) (.string name) (.slice A5 kids.length c5)) w5.heap.size 25 #[.int .i64 op, .int .i64 n, .string name, .slice A5 kids.length c5] := (set4_block (set4 wd w.heap.size (.int .i64 op) (.int .i64 n) (.string name) (.slice A3 kids.length c3)) (w.heap.size + 1) _ _ _ _ _ (by omega)).trans Xe
        have F := Lib.hid (DrawS.fin (lo := w1.heap.size) hBd (by omega) hI1 hI2 hI3 ha hI1 hI2 hI3 hc)
        refine reg_call (i := 2) (by kernel_rfl) rfl (fun K hK => ?_)
        go_simp
        refine hK.out _ _ (⟨Be.cell 0, Be.cell 1, Be.cell 2, Be.cell 3, Xe.cell 0, Xe.cell 1, Xe.cell 2, Xe.cell 3⟩) (fun hHeld => ?_)
        clear hK K
        try simp only [Act.put, List.setIfInBounds_toArray, List.set_cons_zero, List.set_cons_succ]
        have y0 : (set4 wd w.heap.size (.int .i64 op) (.int .i64 n) (.string name) (.slice A3 kids.length c3)).cell? ⟨w.heap.size + 1, 0, none⟩ = some (.int .i64 0) := Qe.cell 0
        have y1 : (set4 wd w.heap.size (.int .i64 op) (.int .i64 n) (.string name) (.slice A3 kids.length c3)).cell? ⟨w.heap.size + 1, 1, none⟩ = some (.int .i64 0) := Qe.cell 1
        have y2 : (set4 wd w.heap.size (.int .i64 op) (.int .i64 n) (.string name) (.slice A3 kids.length c3)).cell? ⟨w.heap.size + 1, 2, none⟩ = some (.string ⟨#[]⟩) := Qe.cell 2
        have y3 : (set4 wd w.heap.size (.int .i64 op) (.int .i64 n) (.string name) (.slice A3 kids.length c3)).cell? ⟨w.heap.size + 1, 3, none⟩ = some (.slice none 0 0) := Qe.cell 3
        have yf0 : (set4 wd w.heap.size (.int .i64 op) (.int .i64 n) (.string name) (.slice A3 kids.length c3)).frozen? ⟨w.heap.size + 1, 0, none⟩ = false := Qe.frozen 0
        have yf1 : (set4 wd w.heap.size (.int .i64 op) (.int .i64 n) (.string name) (.slice A3 kids.length c3)).frozen? ⟨w.heap.size + 1, 1, none⟩ = false := Qe.frozen 1
        have yf2 : (set4 wd w.heap.size (.int .i64 op) (.int .i64 n) (.string name) (.slice A3 kids.length c3)).frozen? ⟨w.heap.size + 1, 2, none⟩ = false := Qe.frozen 2
        have yf3 : (set4 wd w.heap.size (.int .i64 op) (.int .i64 n) (.string name) (.slice A3 kids.length c3)).frozen? ⟨w.heap.size + 1, 3, none⟩ = false := Qe.frozen 3
        refine reg_call (i := 3) (by kernel_rfl) rfl (fun K hK => ?_)
        go_simp
        refine hK.out _ _ (⟨Bf.cell 0, Bf.cell 1, Bf.cell 2, Bf.cell 3, Xf.cell 0, Xf.cell 1, Xf.cell 2, Xf.cell 3⟩) (fun hHeld => ?_)
        clear hK K
        try simp only [Act.put, List.setIfInBounds_toArray, List.set_cons_zero, List.set_cons_succ]
        refine wpAnyH_done (by kernel_rfl) ?_ _
        have r0 : (set4 (set4 wd w.heap.size (.int .i64 op) (.int .i64 n) (.string name) (.slice A3 kids.length c3)) (w.heap.size + 1) (.int .i64 op) (.int .i64 n) (.string name) (.slice A5 kids.length c5)).cell? ⟨w.heap.size, 0, none⟩ = some (.int .i64 op) := Rf.cell 0
        have r1 : (set4 (set4 wd w.heap.size (.int .i64 op) (.int .i64 n) (.string name) (.slice A3 kids.length c3)) (w.heap.size + 1) (.int .i64 op) (.int .i64 n) (.string name) (.slice A5 kids.length c5)).cell? ⟨w.heap.size, 1, none⟩ = some (.int .i64 n) := Rf.cell 1
        have r2 : (set4 (set4 wd w.heap.size (.int .i64 op) (.int .i64 n) (.string name) (.slice A3 kids.length c3)) (w.heap.size + 1) (.int .i64 op) (.int .i64 n) (.string name) (.slice A5 kids.length c5)).cell? ⟨w.heap.size, 2, none⟩ = some (.string name) := Rf.cell 2
        have r3 : (set4 (set4 wd w.heap.size (.int .i64 op) (.int .i64 n) (.string name) (.slice A3 kids.length c3)) (w.heap.size + 1) (.int .i64 op) (.int .i64 n) (.string name) (.slice A5 kids.length c5)).cell? ⟨w.heap.size, 3, none⟩ = some (.slice A3 kids.length c3) := Rf.cell 3
        have q0 : (set4 (set4 wd w.heap.size (.int .i64 op) (.int .i64 n) (.string name) (.slice A3 kids.length c3)) (w.heap.size + 1) (.int .i64 op) (.int .i64 n) (.string name) (.slice A5 kids.length c5)).cell? ⟨w.heap.size + 1, 0, none⟩ = some (.int .i64 op) := Qf.cell 0
        have q1 : (set4 (set4 wd w.heap.size (.int .i64 op) (.int .i64 n) (.string name) (.slice A3 kids.length c3)) (w.heap.size + 1) (.int .i64 op) (.int .i64 n) (.string name) (.slice A5 kids.length c5)).cell? ⟨w.heap.size + 1, 1, none⟩ = some (.int .i64 n) := Qf.cell 1
        have q2 : (set4 (set4 wd w.heap.size (.int .i64 op) (.int .i64 n) (.string name) (.slice A3 kids.length c3)) (w.heap.size + 1) (.int .i64 op) (.int .i64 n) (.string name) (.slice A5 kids.length c5)).cell? ⟨w.heap.size + 1, 2, none⟩ = some (.string name) := Qf.cell 2
        have q3 : (set4 (set4 wd w.heap.size (.int .i64 op) (.int .i64 n) (.string name) (.slice A3 kids.length c3)) (w.heap.size + 1) (.int .i64 op) (.int .i64 n) (.string name) (.slice A5 kids.length c5)).cell? ⟨w.heap.size + 1, 3, none⟩ = some (.slice A5 kids.length c5) := Qf.cell 3
        go_wp2_with fail
        refine bodyPost_ret (v := .tuple #[.agg #[.int .i64 op, .int .i64 n, .string name, .slice A3 kids.length c3], .agg #[.int .i64 op, .int .i64 n, .string name, .slice A5 kids.length c5]]) ?_ rfl F.out
        show (results _ _).run Tryd.prog ((set4 (set4 wd w.heap.size (.int .i64 op) (.int .i64 n) (.string name) (.slice A3 kids.length c3)) (w.heap.size + 1) (.int .i64 op) (.int .i64 n) (.string name) (.slice A5 kids.length c5))) = .ok _ ((set4 (set4 wd w.heap.size (.int .i64 op) (.int .i64 n) (.string name) (.slice A3 kids.length c3)) (w.heap.size + 1) (.int .i64 op) (.int .i64 n) (.string name) (.slice A5 kids.length c5)))
        revert r0 r1 r2 r3 q0 q1 q2 q3
        generalize ((set4 (set4 wd w.heap.size (.int .i64 op) (.int .i64 n) (.string name) (.slice A3 kids.length c3)) (w.heap.size + 1) (.int .i64 op) (.int .i64 n) (.string name) (.slice A5 kids.length c5))) = W
        intro r0 r1 r2 r3 q0 q1 q2 q3
        simp [results, Tryd.results5, go_sem, r0, r1, r2, r3, q0, q1, q2, q3]
    · have m0' : ((m : Int) == 0) = false := by simp; omega
      have RX := R7
      have QX := Q7
      have BX := B7
      have XX := X7
      have hBX := hB7
      have aX := a7.more (Nat.le_refl _) (show w4.heap.size ≤ w7.heap.size by omega)
      have cX := (hT7.exS).more (show w1.heap.size ≤ w4.heap.size by omega) (show w5.heap.size ≤ w7.heap.size by omega)
      clear x0 x1 x2 x3
      have hbd : Below w7.heap.size w7 w7.drew := (Below.refl _ _).drew
      have Bd : Row w7.drew w2.heap.size 25 #[.int .i64 op, .int .i64 n, .string name, .slice A3 kids.length c3] := BX
      have Xd : Row w7.drew w5.heap.size 25 #[.int .i64 op, .int .i64 n, .string name, .slice A5 kids.length c5] := XX
      have Rd : Row w7.drew w.heap.size 25 #[.int .i64 0, .int .i64 0, .string ⟨#[]⟩, .slice none 0 0] := RX
      have Qd : Row w7.drew (w.heap.size + 1) 25 #[.int .i64 0, .int .i64 0, .string ⟨#[]⟩, .slice none 0 0] := QX
      have hBd := hBX.trans (hbd.mono hBX.size)
      have ha : Sl false (exS false 8) w7.drew w1.heap.size w7.drew.heap.size kids (.slice A3 kids.length c3) := aX
      have hc : Sl false (exS false 9) w7.drew w1.heap.size w7.drew.heap.size (kids) (.slice A5 kids.length c5) := cX
      have u0 : w7.cell? ⟨w2.heap.size, 0, none⟩ = some (.int .i64 op) := BX.cell 0
      have u1 : w7.cell? ⟨w2.heap.size, 1, none⟩ = some (.int .i64 n) := BX.cell 1
      have u2 : w7.cell? ⟨w2.heap.size, 2, none⟩ = some (.string name) := BX.cell 2
      have u3 : w7.cell? ⟨w2.heap.size, 3, none⟩ = some (.slice A3 kids.length c3) := BX.cell 3
      have x0 : w7.cell? ⟨w5.heap.size, 0, none⟩ = some (.int .i64 op) := XX.cell 0
      have x1 : w7.cell? ⟨w5.heap.size, 1, none⟩ = some (.int .i64 n) := XX.cell 1
      have x2 : w7.cell? ⟨w5.heap.size, 2, none⟩ = some (.string name) := XX.cell 2
      have x3 : w7.cell? ⟨w5.heap.size, 3, none⟩ = some (.slice A5 kids.length c5) := XX.cell 3
      go_wp2_with fail
      refine wp_region_held_drew (S := fun w' => w'.cell? ⟨w2.heap.size, 0, none⟩ = some (.int .i64 op) ∧ w'.cell? ⟨w2.heap.size, 1, none⟩ = some (.int .i64 n) ∧ w'.cell? ⟨w2.heap.size, 2, none⟩ = some (.string name) ∧ w'.cell? ⟨w2.heap.size, 3, none⟩ = some (.slice A3 kids.length c3) ∧ w'.cell? ⟨w5.heap.size, 0, none⟩ = some (.int .i64 op) ∧ w'.cell? ⟨w5.heap.size, 1, none⟩ = some (.int .i64 n) ∧ w'.cell? ⟨w5.heap.size, 2, none⟩ = some (.string name) ∧ w'.cell? ⟨w5.heap.size, 3, none⟩ = some (.slice A5 kids.length c5)) (by kernel_rfl) ?_ (fun hHeld => ?_)
      · exact ⟨Bd.cell 0, Bd.cell 1, Bd.cell 2, Bd.cell 3, Xd.cell 0, Xd.cell 1, Xd.cell 2, Xd.cell 3⟩
      generalize w7.drew = wd at hHeld Bd Xd Rd Qd hBd ha hc hbd ⊢
      clear u0 u1 u2 u3 x0 x1 x2 x3
      refine reg_take (i := 0) (v := ?v18) rfl (by kernel_rfl) (by kernel_rfl) (by kernel_rfl) (fun _ _ _ h => h) (Or.inl ⟨by kernel_rfl, ?h18⟩) (by assumption) ?r18
      case h18 => (intro w hSw; (try dsimp only at hSw); go_simp; try with_reducible rfl)
      try simp only [Act.put, List.setIfInBounds_toArray, List.set_cons_zero, List.set_cons_succ]
      refine reg_take (i := 1) (v := ?v19) rfl (by kernel_rfl) (by kernel_rfl) (by kernel_rfl) (fun _ _ _ h => h) (Or.inl ⟨by kernel_rfl, ?h19⟩) (by assumption) ?r19
      case h19 => (intro w hSw; (try dsimp only at hSw); go_simp; try with_reducible rfl)
      try simp only [Act.put, List.setIfInBounds_toArray, List.set_cons_zero, List.set_cons_succ]
      have s0 : wd.cell? ⟨w.heap.size, 0, none⟩ = some (.int .i64 0) := Rd.cell 0
      have s1 : wd.cell? ⟨w.heap.size, 1, none⟩ = some (.int .i64 0) := Rd.cell 1
      have s2 : wd.cell? ⟨w.heap.size, 2, none⟩ = some (.string ⟨#[]⟩) := Rd.cell 2
      have s3 : wd.cell? ⟨w.heap.size, 3, none⟩ = some (.slice none 0 0) := Rd.cell 3
      have sf0 : wd.frozen? ⟨w.heap.size, 0, none⟩ = false := Rd.frozen 0
      have sf1 : wd.frozen? ⟨w.heap.size, 1, none⟩ = false := Rd.frozen 1
      have sf2 : wd.frozen? ⟨w.heap.size, 2, none⟩ = false := Rd.frozen 2
      have sf3 : wd.frozen? ⟨w.heap.size, 3, none⟩ = false := Rd.frozen 3
      have t0 : wd.cell? ⟨w.heap.size + 1, 0, none⟩ = some (.int .i64 0) := Qd.cell 0
      have t1 : wd.cell? ⟨w.heap.size + 1, 1, none⟩ = some (.int .i64 0) := Qd.cell 1
      have t2 : wd.cell? ⟨w.heap.size + 1, 2, none⟩ = some (.string ⟨#[]⟩) := Qd.cell 2
      have t3 : wd.cell? ⟨w.heap.size + 1, 3, none⟩ = some (.slice none 0 0) := Qd.cell 3
      have tf0 : wd.frozen? ⟨w.heap.size + 1, 0, none⟩ = false := Qd.frozen 0
      have tf1 : wd.frozen? ⟨w.heap.size + 1, 1, none⟩ = false := Qd.frozen 1
      have tf2 : wd.frozen? ⟨w.heap.size + 1, 2, none⟩ = false := Qd.frozen 2
      have tf3 : wd.frozen? ⟨w.heap.size + 1, 3, none⟩ = false := Qd.frozen 3
      have Qe : Row (set4 wd w.heap.size (.int .i64 op) (.int .i64 n) (.string name) (.slice A3 kids.length c3)) (w.heap.size + 1) 25 #[.int .i64 0, .int .i64 0, .string ⟨#[]⟩, .slice none 0 0] := (set4_block wd w.heap.size _ _ _ _ _ (by omega)).trans Qd
      have Be : Row (set4 wd w.heap.size (.int .i64 op) (.int .i64 n) (.string name) (.slice A3 kids.length c3)) w2.heap.size 25 #[.int .i64 op, .int .i64 n, .string name, .slice A3 kids.length c3] := (set4_block wd w.heap.size _ _ _ _ _ (by omega)).trans Bd
      have Xe : Row (set4 wd w.heap.size (.int .i64 op) (.int .i64 n) (.string name) (.slice A3 kids.length c3)) w5.heap.size 25 #[.int .i64 op, .int .i64 n, .string name, .slice A5 kids.length c5] := (set4_block wd w.heap.size _ _ _ _ _ (by omega)).trans Xd
      have Re : Row (set4 wd w.heap.size (.int .i64 op) (.int .i64 n) (.string name) (.slice A3 kids.length c3)) w.heap.size 25 #[.int .i64 op, .int .i64 n, .string name, .slice A3 kids.length c3] := ((((Rd.set_ 0 _).set_ 1 _).set_ 2 _).set_ 3 _)
      have Rf : Row (set4 (set4 wd w.heap.size (.int .i64 op) (.int .i64 n) (.string name) (.slice A3 kids.length c3)) (w.heap.size + 1) (.int .i64 op) (.int .i64 n) (.string name) (.slice A5 kids.length c5)) w.heap.size 25 #[.int .i64 op, .int .i64 n, .string name, .slice A3 kids.length c3] := (set4_block (set4 wd w.heap.size (.int .i64 op) (.int .i64 n) (.string name) (.slice A3 kids.length c3)) (w.heap.size + 1) _ _ _ _ _ (by omega)).trans Re
      have Qf : Row (set4 (set4 wd w.heap.size (.int .i64 op) (.int .i64 n) (.string name) (.slice A3 kids.length c3)) (w.heap.size + 1) (.int .i64 op) (.int .i64 n) (.string name) (.slice A5 kids.length c5)) (w.heap.size + 1) 25 #[.int .i64 op, .int .i64 n, .string name, .slice A5 kids.length c5] := ((((Qe.set_ 0 _).set_ 1 _).set_ 2 _).set_ 3 _)
      have Bf : Row (set4 (set4 wd w.heap.size (.int .i64 op) (.int .i64 n) (.string name) (.slice A3 kids.length c3)) (w.heap.size + 1) (.int .i64 op) (.int .i64 n) (.string name) (.slice A5 kids.length c5)) w2.heap.size 25 #[.int .i64 op, .int .i64 n, .string name, .slice A3 kids.length c3] := (set4_block (set4 wd w.heap.size (.int .i64 op) (.int .i64 n) (.string name) (.slice A3 kids.length c3)) (w.heap.size + 1) _ _ _ _ _ (by omega)).trans Be
      have Xf : Row (set4 (set4 wd w.heap.size (.int .i64 op) (.int .i64 n) (.string name) (.slice A3 kids.length c3)) (w.heap.size + 1) (.int .i64 op) (.int .i64 n) (.string name) (.slice A5 kids.length c5)) w5.heap.size 25 #[.int .i64 op, .int .i64 n, .string name, .slice A5 kids.length c5] := (set4_block (set4 wd w.heap.size (.int .i64 op) (.int .i64 n) (.string name) (.slice A3 kids.length c3)) (w.heap.size + 1) _ _ _ _ _ (by omega)).trans Xe
      have F := Lib.hid (DrawS.fin (lo := w1.heap.size) hBd (by omega) hI1 hI2 hI3 ha hI1 hI2 hI3 hc)
      refine reg_call (i := 2) (by kernel_rfl) rfl (fun K hK => ?_)
      go_simp
      refine hK.out _ _ (⟨Be.cell 0, Be.cell 1, Be.cell 2, Be.cell 3, Xe.cell 0, Xe.cell 1, Xe.cell 2, Xe.cell 3⟩) (fun hHeld => ?_)
      clear hK K
      try simp only [Act.put, List.setIfInBounds_toArray, List.set_cons_zero, List.set_cons_succ]
      have y0 : (set4 wd w.heap.size (.int .i64 op) (.int .i64 n) (.string name) (.slice A3 kids.length c3)).cell? ⟨w.heap.size + 1, 0, none⟩ = some (.int .i64 0) := Qe.cell 0
      have y1 : (set4 wd w.heap.size (.int .i64 op) (.int .i64 n) (.string name) (.slice A3 kids.length c3)).cell? ⟨w.heap.size + 1, 1, none⟩ = some (.int .i64 0) := Qe.cell 1
      have y2 : (set4 wd w.heap.size (.int .i64 op) (.int .i64 n) (.string name) (.slice A3 kids.length c3)).cell? ⟨w.heap.size + 1, 2, none⟩ = some (.string ⟨#[]⟩) := Qe.cell 2
      have y3 : (set4 wd w.heap.size (.int .i64 op) (.int .i64 n) (.string name) (.slice A3 kids.length c3)).cell? ⟨w.heap.size + 1, 3, none⟩ = some (.slice none 0 0) := Qe.cell 3
      have yf0 : (set4 wd w.heap.size (.int .i64 op) (.int .i64 n) (.string name) (.slice A3 kids.length c3)).frozen? ⟨w.heap.size + 1, 0, none⟩ = false := Qe.frozen 0
      have yf1 : (set4 wd w.heap.size (.int .i64 op) (.int .i64 n) (.string name) (.slice A3 kids.length c3)).frozen? ⟨w.heap.size + 1, 1, none⟩ = false := Qe.frozen 1
      have yf2 : (set4 wd w.heap.size (.int .i64 op) (.int .i64 n) (.string name) (.slice A3 kids.length c3)).frozen? ⟨w.heap.size + 1, 2, none⟩ = false := Qe.frozen 2
      have yf3 : (set4 wd w.heap.size (.int .i64 op) (.int .i64 n) (.string name) (.slice A3 kids.length c3)).frozen? ⟨w.heap.size + 1, 3, none⟩ = false := Qe.frozen 3
      refine reg_call (i := 3) (by kernel_rfl) rfl (fun K hK => ?_)
      go_simp
      refine hK.out _ _ (⟨Bf.cell 0, Bf.cell 1, Bf.cell 2, Bf.cell 3, Xf.cell 0, Xf.cell 1, Xf.cell 2, Xf.cell 3⟩) (fun hHeld => ?_)
      clear hK K
      try simp only [Act.put, List.setIfInBounds_toArray, List.set_cons_zero, List.set_cons_succ]
      refine wpAnyH_done (by kernel_rfl) ?_ _
      have r0 : (set4 (set4 wd w.heap.size (.int .i64 op) (.int .i64 n) (.string name) (.slice A3 kids.length c3)) (w.heap.size + 1) (.int .i64 op) (.int .i64 n) (.string name) (.slice A5 kids.length c5)).cell? ⟨w.heap.size, 0, none⟩ = some (.int .i64 op) := Rf.cell 0
      have r1 : (set4 (set4 wd w.heap.size (.int .i64 op) (.int .i64 n) (.string name) (.slice A3 kids.length c3)) (w.heap.size + 1) (.int .i64 op) (.int .i64 n) (.string name) (.slice A5 kids.length c5)).cell? ⟨w.heap.size, 1, none⟩ = some (.int .i64 n) := Rf.cell 1
      have r2 : (set4 (set4 wd w.heap.size (.int .i64 op) (.int .i64 n) (.string name) (.slice A3 kids.length c3)) (w.heap.size + 1) (.int .i64 op) (.int .i64 n) (.string name) (.slice A5 kids.length c5)).cell? ⟨w.heap.size, 2, none⟩ = some (.string name) := Rf.cell 2
      have r3 : (set4 (set4 wd w.heap.size (.int .i64 op) (.int .i64 n) (.string name) (.slice A3 kids.length c3)) (w.heap.size + 1) (.int .i64 op) (.int .i64 n) (.string name) (.slice A5 kids.length c5)).cell? ⟨w.heap.size, 3, none⟩ = some (.slice A3 kids.length c3) := Rf.cell 3
      have q0 : (set4 (set4 wd w.heap.size (.int .i64 op) (.int .i64 n) (.string name) (.slice A3 kids.length c3)) (w.heap.size + 1) (.int .i64 op) (.int .i64 n) (.string name) (.slice A5 kids.length c5)).cell? ⟨w.heap.size + 1, 0, none⟩ = some (.int .i64 op) := Qf.cell 0
      have q1 : (set4 (set4 wd w.heap.size (.int .i64 op) (.int .i64 n) (.string name) (.slice A3 kids.length c3)) (w.heap.size + 1) (.int .i64 op) (.int .i64 n) (.string name) (.slice A5 kids.length c5)).cell? ⟨w.heap.size + 1, 1, none⟩ = some (.int .i64 n) := Qf.cell 1
      have q2 : (set4 (set4 wd w.heap.size (.int .i64 op) (.int .i64 n) (.string name) (.slice A3 kids.length c3)) (w.heap.size + 1) (.int .i64 op) (.int .i64 n) (.string name) (.slice A5 kids.length c5)).cell? ⟨w.heap.size + 1, 2, none⟩ = some (.string name) := Qf.cell 2
      have q3 : (set4 (set4 wd w.heap.size (.int .i64 op) (.int .i64 n) (.string name) (.slice A3 kids.length c3)) (w.heap.size + 1) (.int .i64 op) (.int .i64 n) (.string name) (.slice A5 kids.length c5)).cell? ⟨w.heap.size + 1, 3, none⟩ = some (.slice A5 kids.length c5) := Qf.cell 3
      go_wp2_with fail
      refine bodyPost_ret (v := .tuple #[.agg #[.int .i64 op, .int .i64 n, .string name, .slice A3 kids.length c3], .agg #[.int .i64 op, .int .i64 n, .string name, .slice A5 kids.length c5]]) ?_ rfl F.out
      show (results _ _).run Tryd.prog ((set4 (set4 wd w.heap.size (.int .i64 op) (.int .i64 n) (.string name) (.slice A3 kids.length c3)) (w.heap.size + 1) (.int .i64 op) (.int .i64 n) (.string name) (.slice A5 kids.length c5))) = .ok _ ((set4 (set4 wd w.heap.size (.int .i64 op) (.int .i64 n) (.string name) (.slice A3 kids.length c3)) (w.heap.size + 1) (.int .i64 op) (.int .i64 n) (.string name) (.slice A5 kids.length c5)))
      revert r0 r1 r2 r3 q0 q1 q2 q3
      generalize ((set4 (set4 wd w.heap.size (.int .i64 op) (.int .i64 n) (.string name) (.slice A3 kids.length c3)) (w.heap.size + 1) (.int .i64 op) (.int .i64 n) (.string name) (.slice A5 kids.length c5))) = W
      intro r0 r1 r2 r3 q0 q1 q2 q3
      simp [results, Tryd.results5, go_sem, r0, r1, r2, r3, q0, q1, q2, q3]
end Go.Proofs.YthfinoapfbhgcaaDoor
