/-
  The names of an expression's parts: the program's closure, and the walk over the parts. Conditions: the argument reads as data; the captured boxes hold the op and the list.
-/
import Derived.Test.YtnamciblapddbaaDoorNames
namespace Go.Proofs.YtnamciblapddbaaDoor
open Go.RowKit Go.ChangeShapes Go.WideShapes Go.Deep
set_option linter.unusedSimpArgs false
set_option linter.unusedVariables false
/-- of the old blocks only g and v's own may have changed; and v' lies there or in new memory -/
structure OwnB (g : Nat) (v v' : Value) (w w' : World) : Prop where
  os : w'.os = w.os
  tape : w'.tape = w.tape
  output : w'.output = w.output
  size : w.heap.size ≤ w'.heap.size
  block : ∀ k, k < w.heap.size → k ≠ g → v.ownBlock ≠ some k → w'.heap[k]? = w.heap[k]?
  at_ : ∀ k, v'.ownBlock = some k → v.ownBlock = some k ∨ w.heap.size ≤ k
theorem OwnB.refl (g : Nat) (v : Value) (w : World) : OwnB g v v w w := ⟨rfl, rfl, rfl, Nat.le_refl _, fun _ _ _ _ => rfl, fun _ h => Or.inl h⟩
theorem OwnB.of_own {g : Nat} {v v' : Value} {w w' : World} (h : OwnG v v' w w') : OwnB g v v' w w' :=
  ⟨h.grown.os, h.grown.tape, h.grown.output, h.grown.size, fun k hk _ hne => h.grown.block k hk (fun e => hne e.symm), h.at_⟩
theorem OwnB.of_below {g : Nat} {v : Value} {w w' : World} (h : Below w.heap.size w w') : OwnB g v v w w' := OwnB.of_own (OwnG.of_below h)
theorem OwnB.trans {g : Nat} {v v1 v2 : Value} {a b c : World} (h : OwnB g v v1 a b) (k : OwnB g v1 v2 b c) : OwnB g v v2 a c := by
  refine ⟨k.os.trans h.os, k.tape.trans h.tape, k.output.trans h.output, Nat.le_trans h.size k.size, fun i hi hg hv => ?_, fun j hj => ?_⟩
  · refine (k.block i (Nat.lt_of_lt_of_le hi h.size) hg (fun e => ?_)).trans (h.block i hi hg hv)
    rcases h.at_ i e with h1 | h1
    · exact hv h1
    · omega
  · rcases k.at_ j hj with h1 | h1
    · exact h.at_ j h1
    · exact Or.inr (Nat.le_trans h.size h1)
theorem OwnB.set_ {g : Nat} {v v1 : Value} {a b : World} (h : OwnB g v v1 a b) (u : Value) : OwnB g v v1 a (b.setCell ⟨g, 0, none⟩ u) :=
  ⟨h.os, h.tape, h.output, by simpa using h.size, fun i hi hg hv => (Below.heap_setCell _ _ _ i hg).trans (h.block i hi hg hv), h.at_⟩
theorem OwnB.row {g : Nat} {v v' : Value} {w w' : World} (h : OwnB g v v' w w') {b : Nat} {t : TypeId} {cs : Array Value} (R : Row w b t cs) (hg : b ≠ g) (hne : v.ownBlock ≠ some b) : Row w' b t cs := (h.block b R.lt hg hne).trans R
theorem OwnB.below {g : Nat} {v v' : Value} {w w' : World} (h : OwnB g v v' w w') {B : Nat} (hg : B ≤ g) (hB : B ≤ w.heap.size) (ho : ∀ k, v.ownBlock = some k → B ≤ k) : Below B w w' :=
  ⟨h.os, h.tape, h.output, h.size, fun k hk => h.block k (by omega) (by omega) (fun e => by have := ho k e; omega)⟩
theorem own_form {w : World} {base size n : Nat} {e : TypeId} {v : Value} {xs : List Value} (h : w.ownsRow base e size v n xs) (hn : 0 < n) : ∃ g cap, v = .slice (some ⟨g, 0, none⟩) n cap := by
  rcases h.2 with ⟨_, h0⟩ | ⟨g, cap, _, hv, _⟩
  · omega
  · exact ⟨g, cap, hv⟩
def NClosP (tag op : Int) (name : ByteArray) (acc : List ByteArray) (g base : Nat) (v : Value) (w : World) (e : Ending) (w' : World) : Prop :=
  e = .returned (.tuple #[]) ∧ ∃ v', Row w' g 36 #[v'] ∧ w'.ownsRow base 9 1 v' (addK tag op acc name).length ((addK tag op acc name).map Value.string) ∧ (∀ s ∈ addK tag op acc name, s.size ≤ maxLen) ∧ OwnB g v v' w w'
set_option maxRecDepth 100000 in
set_option maxHeartbeats 8000000 in
theorem impl_namesOf_1 (d : Nat) (op n : Int) (name : ByteArray) (kids : List Ex) (v3 : Value) (w : World) (lo B go g base : Nat) (tag : Int) (v : Value) (acc : List ByteArray) (hnm : name.size ≤ maxLen) (h3 : Sl false (exS false d) w lo B kids v3)
    (hgb : g < base) (hob : go < base) (hbs : base ≤ w.heap.size) (G : Row w g 36 #[v]) (O : Row w go 3 #[.int .i64 tag]) (hlen : acc.length + 1 ≤ 100000) (hacc : ∀ s ∈ acc, s.size ≤ maxLen) (hown : w.ownsRow base 9 1 v acc.length (acc.map Value.string)) :
    Calls Tryd.prog 78 #[.agg #[.int .i64 op, .int .i64 n, .string name, v3], .pointer (some ⟨go, 0, none⟩), .pointer (some ⟨g, 0, none⟩)] w (NClosP tag op name acc g base v w) := by
  obtain ⟨A, p, hf, hl1, hl2⟩ := h3.form
  subst hf
  obtain ⟨i0, hi, hz0, hz1, hz2⟩ := info_parts Tryd.info_string
  have hgw := G.lt
  have how := O.lt
  have hb0 : Below w.heap.size w (w.alloc (.cells #[.int .i64 op, .int .i64 n, .string name, .slice A kids.length p] 30)) := (Below.refl _ _).alloc (Nat.le_refl _) _
  have R0 : Row (w.alloc (.cells #[.int .i64 op, .int .i64 n, .string name, .slice A kids.length p] 30)) w.heap.size 30 #[.int .i64 op, .int .i64 n, .string name, .slice A kids.length p] := Row.new w _ _
  have G0 : Row (w.alloc (.cells #[.int .i64 op, .int .i64 n, .string name, .slice A kids.length p] 30)) g 36 #[v] := G.alloc _
  have O0 : Row (w.alloc (.cells #[.int .i64 op, .int .i64 n, .string name, .slice A kids.length p] 30)) go 3 #[.int .i64 tag] := O.alloc _
  have own0 := hown.alloc (.cells #[.int .i64 op, .int .i64 n, .string name, .slice A kids.length p] 30)
  have B0 : OwnB g v v w (w.alloc (.cells #[.int .i64 op, .int .i64 n, .string name, .slice A kids.length p] 30)) := OwnB.of_below hb0
  have x0 : (w.alloc (.cells #[.int .i64 op, .int .i64 n, .string name, .slice A kids.length p] 30)).cell? ⟨go, 0, none⟩ = some (.int .i64 tag) := O0.cell 0
  have x1 : (w.alloc (.cells #[.int .i64 op, .int .i64 n, .string name, .slice A kids.length p] 30)).cell? ⟨g, 0, none⟩ = some v := G0.cell 0
  go_enter Tryd.func78, Tryd.ntmps78
  by_cases ho2 : op = tag
  case neg =>
    have q : (op == tag) = false := by simpa using ho2
    have E : Hid (addK tag op acc name = acc) := by show _ = _; unfold addK; rw [if_neg ho2]
    replace hacc := Lib.hid hacc
    clear ho2
    go_wp2_with fail
    go_end0
    exact ⟨rfl, v, G0, by rw [E.out]; exact own0, by rw [E.out]; exact hacc.out, B0⟩
  subst ho2
  have hv := Sl.of_ownS own0 hacc (Nat.le_refl _) false
  obtain ⟨Av, pv, hf, _, _⟩ := hv.form
  subst hf
  replace hacc := Lib.hid hacc
  go_wp2_with fail
  refine (strs_Contains acc name _ _ base _ (Nat.le_refl _) hv).mono ?_
  rintro e w1 ⟨rfl, b1⟩
  have R1 := R0.below b1 R0.lt
  have G1 := G0.below b1 G0.lt
  have ow1 := own_below own0 b1 (Nat.le_refl _)
  have B1 : OwnB g (.slice Av acc.length pv) (.slice Av acc.length pv) w w1 := B0.trans (OwnB.of_below b1)
  have z2 : w1.cell? ⟨w.heap.size, 2, none⟩ = some (.string name) := R1.cell 2
  have z3 : w1.cell? ⟨g, 0, none⟩ = some (.slice Av acc.length pv) := G1.cell 0
  have hs1 : w.heap.size < w1.heap.size := R1.lt
  clear x0 x1
  cases hh : (acc.any fun x => name.toList == x.toList)
  case true =>
    have E : Hid (addK op op acc name = acc) := by show _ = _; unfold addK addN; rw [if_pos rfl, if_pos hh]
    clear hh hv
    go_wp2_with fail
    go_end0
    exact ⟨rfl, _, G1, by rw [E.out]; exact ow1, by rw [E.out]; exact hacc.out, B1⟩
  have E : Hid (addK op op acc name = acc ++ [name]) := by show _ = _; unfold addK addN; rw [if_pos rfl, if_neg (by rw [hh]; decide)]
  have HA0 : Hid (∀ s ∈ acc ++ [name], s.size ≤ maxLen) := fun s hs => by
    rcases List.mem_append.1 hs with h | h
    · exact hacc.out s h
    · simp at h
      subst h
      exact hnm
  clear hacc own0 hh hv
  go_wp2_with (at_builtin; refine wpList_append_own_at _ rfl _ _ 36 rfl base 9 i0 (.string ⟨#[]⟩) 1 16 Tryd.underlying36 hi hz0 hz1 hz2 rfl (by decide) _ _ _ rfl (ow1.alloc _) ⟨w1.heap.size, 0, none⟩ 1 1 [.string name] rfl rfl ?c1 ?c2 ?c3 ?c4 ?c5 ?_)
  case c1 => exact cell_one_new _ _ _
  case c2 => first | rfl | (intro u hu; simp at hu; subst hu; rfl)
  case c3 => unfold maxLen; omega
  case c4 => omega
  case c5 => simp; omega
  intro v4 w4 own4 hgrow _ hat
  obtain ⟨g4, cap4, hv4⟩ := own_form own4 (by omega)
  subst hv4
  have B2 : OwnB g (.slice Av acc.length pv) (.slice (some ⟨g4, 0, none⟩) (acc.length + 1) cap4) w w4 := B1.trans (OwnB.of_own ((OwnG.of_below ((Below.refl _ _).alloc (Nat.le_refl _) (.cells #[.string name] 9))).trans (OwnG.of_at hgrow (by simpa using hat))))
  have hne : Value.ownBlock (.slice Av acc.length pv) ≠ some g := own_ne ow1 hgb
  have G4 : Row w4 g 36 #[.slice Av acc.length pv] := ((OwnG.of_below ((Below.refl _ _).alloc (Nat.le_refl _) (.cells #[.string name] 9))).trans (OwnG.of_at hgrow (by simpa using hat))).row G1 hne
  have ow4 := own_snocS own4
  have q4 : w4.cell? ⟨g, 0, none⟩ = some (.slice Av acc.length pv) := G4.cell 0
  have q5 : w4.frozen? ⟨g, 0, none⟩ = false := G4.frozen 0
  have ow5 := ownsRow_setCell_below ow4 (a := ⟨g, 0, none⟩) hgb (.slice (some ⟨g4, 0, none⟩) (acc.length + 1) cap4)
  clear own4 hgrow hat z2 z3 ow1 G0 O0 R0 R1 G1
  go_wp2_with fail
  go_end0
  exact ⟨rfl, _, G4.set_ 0 _, by rw [E.out]; exact ow5, by rw [E.out]; exact HA0.out, B2.set_ _⟩
def NPartsP (m : Nat) (tag : Int) (acc : List ByteArray) (e : Ex) (g base : Nat) (v : Value) (w : World) (en : Ending) (w' : World) : Prop :=
  en = .returned (.tuple #[]) ∧ ∃ v', Row w' g 36 #[v'] ∧ w'.ownsRow base 9 1 v' (nmE m tag acc e).length ((nmE m tag acc e).map Value.string) ∧ (∀ s ∈ nmE m tag acc e, s.size ≤ maxLen) ∧ OwnB g v v' w w'
def NPartsAt (m : Nat) : Prop := ∀ (d : Nat) (op n : Int) (name : ByteArray) (kids : List Ex) (v3 : Value) (w : World) (lo B go g base : Nat) (tag : Int) (v : Value) (acc : List ByteArray) (_ : B ≤ g) (_ : I64 op) (_ : I64 n) (_ : name.size ≤ maxLen) (_ : Sl false (exS false d) w lo B kids v3) (_ : formB m (.mk op n name kids) = true)
    (_ : g < base) (_ : go < base) (_ : go ≠ g) (_ : base ≤ w.heap.size) (_ : Row w g 36 #[v]) (_ : Row w go 3 #[.int .i64 tag]) (_ : acc.length + partsE (.mk op n name kids) ≤ 100000) (_ : ∀ s ∈ acc, s.size ≤ maxLen) (_ : w.ownsRow base 9 1 v acc.length (acc.map Value.string)),
  Calls Tryd.prog 49 #[.agg #[.int .i64 op, .int .i64 n, .string name, v3], .func (.func 78) #[] #[.pointer (some ⟨go, 0, none⟩), .pointer (some ⟨g, 0, none⟩)]] w (NPartsP m tag acc (.mk op n name kids) g base v w)
set_option maxRecDepth 100000 in
set_option maxHeartbeats 8000000 in
theorem nparts_step (m : Nat) (ih : NPartsAt m) : NPartsAt (m + 1) := by
  intro d op n name kids v3 w lo B go g base tag v acc hBg ho hn64 hnm h3 hform hgb hob hne hbs G O hlen hacc hown
  rw [formB, Bool.and_eq_true] at hform
  obtain ⟨hfm, hall⟩ := hform
  replace hall := Lib.hid hall
  clear hfm
  rw [partsE_mk] at hlen
  have hK := addK_len tag op acc name
  obtain ⟨A, p, hf, hl1, hl2⟩ := h3.form
  subst hf
  have hgw := G.lt
  have how := O.lt
  have hb0 : Below w.heap.size w (w.alloc (.cells #[.int .i64 op, .int .i64 n, .string name, .slice A kids.length p] 30)) := (Below.refl _ _).alloc (Nat.le_refl _) _
  have R0 : Row (w.alloc (.cells #[.int .i64 op, .int .i64 n, .string name, .slice A kids.length p] 30)) w.heap.size 30 #[.int .i64 op, .int .i64 n, .string name, .slice A kids.length p] := Row.new w _ _
  have G0 : Row (w.alloc (.cells #[.int .i64 op, .int .i64 n, .string name, .slice A kids.length p] 30)) g 36 #[v] := G.alloc _
  have O0 : Row (w.alloc (.cells #[.int .i64 op, .int .i64 n, .string name, .slice A kids.length p] 30)) go 3 #[.int .i64 tag] := O.alloc _
  have own0 := hown.alloc (.cells #[.int .i64 op, .int .i64 n, .string name, .slice A kids.length p] 30)
  have B0 : OwnB g v v w (w.alloc (.cells #[.int .i64 op, .int .i64 n, .string name, .slice A kids.length p] 30)) := OwnB.of_below hb0
  have hown0 := hown
  have hne2 := own_ne' hown (Nat.le_refl _)
  have hne3 := own_ne hown hob
  replace hacc := Lib.hid hacc
  go_enter Tryd.func49, Tryd.ntmps49
  go_wp2_with fail
  refine (impl_namesOf_1 d op n name kids _ _ lo B go g base tag v acc hnm (h3.below hb0 (by omega)) hgb hob (Nat.le_trans hbs hb0.size) G0 O0 (by omega) hacc.out own0).mono ?_
  rintro e w1 ⟨rfl, v1, G1, own1, hs1, B1⟩
  have R1 := B1.row R0 (by omega) hne2
  have B01 := B0.trans B1
  have y3 : w1.cell? ⟨w.heap.size, 3, none⟩ = some (.slice A kids.length p) := R1.cell 3
  replace hs1 := Lib.hid hs1
  go_wp2_with fail
  go_loopw [12] (fun i wr => ∃ (k : Nat) (acc1 : List ByteArray) (vv : Value), k ≤ kids.length ∧ i = .int .i64 k ∧ Hid (kids.foldl (nmE m tag) (addK tag op acc name) = (kids.drop k).foldl (nmE m tag) acc1) ∧ acc1.length + partsL (kids.drop k) ≤ 100000 ∧ Hid (∀ s ∈ acc1, s.size ≤ maxLen) ∧ Row wr g 36 #[vv] ∧ wr.ownsRow base 9 1 vv acc1.length (acc1.map Value.string) ∧ OwnB g v vv w wr) (fun i _ => kids.length - (intOf i).toNat)
  case atStart => exact ⟨0, _, v1, by omega, rfl, (by show _ = _; rw [List.drop_zero]), by rw [List.drop_zero]; omega, hs1.out, G1, own1, B01⟩
  case round =>
    clear y3 R1
    obtain ⟨k, acc1, vv, hk, rfl, HT, hlk, HA, G2, own2, B2⟩ := hrel
    have Bw : Below B w wr := B2.below hBg (by omega) (fun k hk => by have := own_ge hown0 hk; omega)
    have hsz := B2.size
    by_cases hkl : k < kids.length
    · obtain ⟨d', rfl⟩ := exS_pos h3 (by omega)
      obtain ⟨b, o, op', n', name', kids', v', rfl, _, hbB, HL, g0, g1, g2, g3, c0, c1, c2, c3⟩ := ex_get d' (h3.below Bw (Nat.le_refl _)) hkl
      obtain ⟨A', p', hf, _, _⟩ := g3.form
      change _ = Value.slice A' kids'.length p' at hf
      subst hf
      have hkn : (k : Int) < (kids.length : Int) := by omega
      have hki : (0 : Int) ≤ (k : Int) := by omega
      have hfk := Lib.hid (List.all_eq_true.1 hall.out _ (HL.out ▸ List.getElem_mem hkl : Ex.mk op' n' name' kids' ∈ kids))
      have hp2 : partsL (kids.drop k) = partsE (.mk op' n' name' kids') + partsL (kids.drop (k + 1)) := by rw [drop_cons hkl HL.out, partsL_cons]
      have hle := nmE_len tag m (.mk op' n' name' kids') acc1
      rw [hp2] at hlk
      clear hp2
      have O2 : Row wr go 3 #[.int .i64 tag] := B2.row O hne hne3
      have hb3 : Below wr.heap.size wr (wr.alloc (.cells #[.int .i64 op', .int .i64 n', .string name', .slice A' kids'.length p'] 30)) := (Below.refl _ _).alloc (Nat.le_refl _) _
      have B3a : OwnB g vv vv wr (wr.alloc (.cells #[.int .i64 op', .int .i64 n', .string name', .slice A' kids'.length p'] 30)) := OwnB.of_below hb3
      go_wp2_with fail
      refine (ih d' op' n' name' kids' (.slice A' kids'.length p') _ lo B go g base tag vv acc1 hBg g0 g1 g2 (g3.below hb3 (by omega)) hfk.out hgb hob hne (by simp; omega) (G2.alloc _) (O2.alloc _) (by omega) HA.out (own2.alloc _)).mono ?_
      rintro e w3 ⟨rfl, v3', G3, own3, hs3, B3⟩
      have E3 : Hid (kids.foldl (nmE m tag) (addK tag op acc name) = (kids.drop (k + 1)).foldl (nmE m tag) (nmE m tag acc1 (.mk op' n' name' kids'))) := by
        have h1 := HT.out
        rw [drop_cons hkl HL.out, List.foldl_cons] at h1
        exact h1
      replace hs3 := Lib.hid hs3
      clear HT HA own2
      go_wp2_with fail
      go_roundw
      case rel => exact ⟨k + 1, _, v3', by omega, by go_num, E3, by omega, hs3, G3, own3, B2.trans (B3a.trans B3)⟩
      case measure => simp [intOf]; omega
    · have E4 : Hid (nmE (m + 1) tag acc (.mk op n name kids) = acc1) := by
        have h1 := HT.out
        rw [List.drop_eq_nil_of_le (by omega), List.foldl_nil] at h1
        show _ = _
        rw [nmE]
        exact h1
      clear HT
      go_wp2_with fail
      go_end0
      exact ⟨rfl, vv, G2, by rw [E4.out]; exact own2, by rw [E4.out]; exact HA.out, B2⟩
theorem impl_partsN : ∀ m : Nat, NPartsAt m
  | 0 => fun d op n name kids v3 w lo B go g base tag v acc _ _ _ _ _ h => by simp [formB] at h
  | m + 1 => nparts_step m (impl_partsN m)
end Go.Proofs.YtnamciblapddbaaDoor
