/-
  An expression with another one in place of a variable, by the reference. Conditions: the arguments read as data and have the form of expressions.
-/
import Derived.Test.YtnamciblapddbaaDoorCopy
import Derived.Deep.RegionHeld3
import Derived.Deep.AppendLies
import Derived.Laws.Pointers
namespace Go.Proofs.YtnamciblapddbaaDoor
open Go.RowKit Go.ChangeShapes Go.WideShapes Go.Deep

set_option linter.unusedVariables false
set_option linter.unusedSimpArgs false
/-- is it the variable? -/
def isV (op : Int) (name nm : ByteArray) : Bool := (op == 2) && (name.toList == nm.toList)
def putE : Nat → ByteArray → Ex → Ex → Ex
  | 0, _, _, e => e
  | m + 1, nm, y, .mk op n name kids => if isV op name nm = true then y else .mk op n name (kids.map (putE m nm y))
def PutAt (m : Nat) : Prop := ∀ (d : Nat) (op n : Int) (name : ByteArray) (kids : List Ex) (v3 : Value) (nm : ByteArray) (db : Nat) (bop bn : Int) (bname : ByteArray) (bkids : List Ex) (bv3 : Value) (w : World) (lo B lo' B' : Nat) (_ : B ≤ w.heap.size) (_ : B' ≤ w.heap.size) (_ : I64 op) (_ : I64 n) (_ : name.size ≤ maxLen) (_ : Sl false (exS false d) w lo B kids v3) (_ : formB m (.mk op n name kids) = true) (_ : I64 bop) (_ : I64 bn) (_ : bname.size ≤ maxLen) (_ : Sl false (exS false db) w lo' B' bkids bv3) (_ : formB 6 (.mk bop bn bname bkids) = true),
  Calls Tryd.prog 55 #[.agg #[.int .i64 op, .int .i64 n, .string name, v3], .string nm, .agg #[.int .i64 bop, .int .i64 bn, .string bname, bv3]] w (ToTE (m + 6) (putE m nm (.mk bop bn bname bkids) (.mk op n name kids)) w)
theorem ToTE.more {D D' : Nat} (h : D ≤ D') {a : Ex} {w : World} {e : Ending} {w' : World} : ToTE D a w e w' → ToTE D' a w e w'
  | ⟨v3, he, hx, hb⟩ => ⟨v3, he, fun m => exT_le m (by omega) (hx m), hb⟩
set_option maxRecDepth 100000 in
set_option maxHeartbeats 8000000 in
theorem put_step (m : Nat) (ih : PutAt m) : PutAt (m + 1) := by
  intro d op n name kids v3 nm db bop bn bname bkids bv3 w lo B lo' B' hB hB' ho hn64 hnm h3 hform bo bn64 bnm bh3 bform
  rw [formB, Bool.and_eq_true] at hform
  obtain ⟨hfm, hall⟩ := hform
  replace hall := Lib.hid hall
  replace bform := Lib.hid bform
  have hk3 := fmK_len hfm
  clear hfm
  obtain ⟨i0, hi, hz0, hz1, hz2⟩ := info_parts Tryd.info_Expr
  obtain ⟨A, p, hf, hl1, hl2⟩ := h3.form
  subst hf
  obtain ⟨bA, bp, hf, _, _⟩ := bh3.form
  subst hf
  have hb3 : Below w.heap.size w (((w.alloc (.cells #[.int .i64 op, .int .i64 n, .string name, .slice A kids.length p] 30)).alloc (.cells #[.int .i64 bop, .int .i64 bn, .string bname, .slice bA bkids.length bp] 30)).alloc (.cells #[.int .i64 0, .int .i64 0, .string ⟨#[]⟩, .slice none 0 0] 30)) := (((Below.refl _ _).alloc (Nat.le_refl _) _).alloc (by simp) _).alloc (by simp; omega) _
  have hbL : Below w.heap.size w ((((w.alloc (.cells #[.int .i64 op, .int .i64 n, .string name, .slice A kids.length p] 30)).alloc (.cells #[.int .i64 bop, .int .i64 bn, .string bname, .slice bA bkids.length bp] 30)).alloc (.cells #[.int .i64 0, .int .i64 0, .string ⟨#[]⟩, .slice none 0 0] 30)).alloc (.cells #[] 30)) := hb3.alloc (by simp; omega) _
  have R3 : Row (((w.alloc (.cells #[.int .i64 op, .int .i64 n, .string name, .slice A kids.length p] 30)).alloc (.cells #[.int .i64 bop, .int .i64 bn, .string bname, .slice bA bkids.length bp] 30)).alloc (.cells #[.int .i64 0, .int .i64 0, .string ⟨#[]⟩, .slice none 0 0] 30)) (w.heap.size) 30 #[.int .i64 op, .int .i64 n, .string name, .slice A kids.length p] := ((Row.new w _ _).alloc _).alloc _
  have Q3 : Row (((w.alloc (.cells #[.int .i64 op, .int .i64 n, .string name, .slice A kids.length p] 30)).alloc (.cells #[.int .i64 bop, .int .i64 bn, .string bname, .slice bA bkids.length bp] 30)).alloc (.cells #[.int .i64 0, .int .i64 0, .string ⟨#[]⟩, .slice none 0 0] 30)) (w.heap.size + 1) 30 #[.int .i64 bop, .int .i64 bn, .string bname, .slice bA bkids.length bp] := by simpa using (Row.new (w.alloc (.cells #[.int .i64 op, .int .i64 n, .string name, .slice A kids.length p] 30)) 30 #[.int .i64 bop, .int .i64 bn, .string bname, .slice bA bkids.length bp]).alloc (.cells #[.int .i64 0, .int .i64 0, .string ⟨#[]⟩, .slice none 0 0] 30)
  have S3 : Row (((w.alloc (.cells #[.int .i64 op, .int .i64 n, .string name, .slice A kids.length p] 30)).alloc (.cells #[.int .i64 bop, .int .i64 bn, .string bname, .slice bA bkids.length bp] 30)).alloc (.cells #[.int .i64 0, .int .i64 0, .string ⟨#[]⟩, .slice none 0 0] 30)) (w.heap.size + 1 + 1) 30 #[.int .i64 0, .int .i64 0, .string ⟨#[]⟩, .slice none 0 0] := by simpa using Row.new ((w.alloc (.cells #[.int .i64 op, .int .i64 n, .string name, .slice A kids.length p] 30)).alloc (.cells #[.int .i64 bop, .int .i64 bn, .string bname, .slice bA bkids.length bp] 30)) 30 #[.int .i64 0, .int .i64 0, .string ⟨#[]⟩, .slice none 0 0]
  have R4 := R3.alloc (.cells #[] 30)
  have Q4 := Q3.alloc (.cells #[] 30)
  have S4 := S3.alloc (.cells #[] 30)
  have z3 : w.heap.size + 1 + 1 + 1 = (((w.alloc (.cells #[.int .i64 op, .int .i64 n, .string name, .slice A kids.length p] 30)).alloc (.cells #[.int .i64 bop, .int .i64 bn, .string bname, .slice bA bkids.length bp] 30)).alloc (.cells #[.int .i64 0, .int .i64 0, .string ⟨#[]⟩, .slice none 0 0] 30)).heap.size := by simp
  have own0 : OwnT (fun mm => exT mm (m + 7)) 30 ((((w.alloc (.cells #[.int .i64 op, .int .i64 n, .string name, .slice A kids.length p] 30)).alloc (.cells #[.int .i64 bop, .int .i64 bn, .string bname, .slice bA bkids.length bp] 30)).alloc (.cells #[.int .i64 0, .int .i64 0, .string ⟨#[]⟩, .slice none 0 0] 30)).alloc (.cells #[] 30)) (w.heap.size + 1 + 1 + 1) (.slice (some ⟨w.heap.size + 1 + 1 + 1, 0, none⟩) 0 0) ((kids.take 0).map (putE m nm (.mk bop bn bname bkids))) := by
    have h := OwnT.empty (fun mm => exT mm (m + 7)) 30 (((w.alloc (.cells #[.int .i64 op, .int .i64 n, .string name, .slice A kids.length p] 30)).alloc (.cells #[.int .i64 bop, .int .i64 bn, .string bname, .slice bA bkids.length bp] 30)).alloc (.cells #[.int .i64 0, .int .i64 0, .string ⟨#[]⟩, .slice none 0 0] 30)) (w.heap.size + 1 + 1 + 1) (by simp)
    simpa using h
  have fin1 : isV op name nm = true → Calls Tryd.prog 80 #[.agg #[.int .i64 bop, .int .i64 bn, .string bname, .slice bA bkids.length bp]] (((w.alloc (.cells #[.int .i64 op, .int .i64 n, .string name, .slice A kids.length p] 30)).alloc (.cells #[.int .i64 bop, .int .i64 bn, .string bname, .slice bA bkids.length bp] 30)).alloc (.cells #[.int .i64 0, .int .i64 0, .string ⟨#[]⟩, .slice none 0 0] 30)) (ToTE (m + 1 + 6) (putE (m + 1) nm (.mk bop bn bname bkids) (.mk op n name kids)) (((w.alloc (.cells #[.int .i64 op, .int .i64 n, .string name, .slice A kids.length p] 30)).alloc (.cells #[.int .i64 bop, .int .i64 bn, .string bname, .slice bA bkids.length bp] 30)).alloc (.cells #[.int .i64 0, .int .i64 0, .string ⟨#[]⟩, .slice none 0 0] 30))) := fun hv => by
    rw [putE, if_pos hv]
    exact (spec_l2Copy 6 db bop bn bname bkids _ _ lo' B' (Nat.le_trans hB' hb3.size) bo bn64 bnm (bh3.below hb3 hB') bform.out).mono fun e w' h => h.more (by omega)
  have fin2 : isV op name nm = false → Hid (putE (m + 1) nm (.mk bop bn bname bkids) (.mk op n name kids) = .mk op n name (kids.map (putE m nm (.mk bop bn bname bkids)))) := fun hv => by
    show _ = _
    rw [putE, if_neg (by rw [hv]; decide)]
  go_enter Tryd.func55, Tryd.ntmps55
  by_cases ho2 : op = 2
  case neg =>
    have q : (op == 2) = false := by simpa using ho2
    have E := fin2 (by unfold isV; rw [q]; rfl)
    clear fin1 fin2 ho2 z3 R3 Q3 S3
    go_wp2_with fail
    go_loopw [7, 8] (fun vv i wr => ∃ k : Nat, k ≤ kids.length ∧ i = .int .i64 k ∧ OwnT (fun mm => exT mm (m + 7)) 30 wr (w.heap.size + 1 + 1 + 1) vv ((kids.take k).map (putE m nm (Ex.mk bop bn bname bkids))) ∧ Row wr (w.heap.size) 30 #[.int .i64 op, .int .i64 n, .string name, .slice A kids.length p] ∧ Row wr (w.heap.size + 1) 30 #[.int .i64 bop, .int .i64 bn, .string bname, .slice bA bkids.length bp] ∧ Row wr (w.heap.size + 1 + 1) 30 #[.int .i64 0, .int .i64 0, .string ⟨#[]⟩, .slice none 0 0] ∧ Below w.heap.size w wr) (fun _ i _ => kids.length - (intOf i).toNat)
    case atStart => exact ⟨0, by omega, rfl, own0, R4, Q4, S4, hbL⟩
    case round =>
      obtain ⟨k, hk, rfl, own, L0, L1, L2, hb⟩ := hrel
      have hsz := hb.size
      have ll0 := L0.lt
      have y0_0 : wr.cell? ⟨w.heap.size, 0, none⟩ = some (.int .i64 op) := L0.cell 0
      have y0_1 : wr.cell? ⟨w.heap.size, 1, none⟩ = some (.int .i64 n) := L0.cell 1
      have y0_2 : wr.cell? ⟨w.heap.size, 2, none⟩ = some (.string name) := L0.cell 2
      have y0_3 : wr.cell? ⟨w.heap.size, 3, none⟩ = some (.slice A kids.length p) := L0.cell 3
      have ll1 := L1.lt
      have y1_0 : wr.cell? ⟨w.heap.size + 1, 0, none⟩ = some (.int .i64 bop) := L1.cell 0
      have y1_1 : wr.cell? ⟨w.heap.size + 1, 1, none⟩ = some (.int .i64 bn) := L1.cell 1
      have y1_2 : wr.cell? ⟨w.heap.size + 1, 2, none⟩ = some (.string bname) := L1.cell 2
      have y1_3 : wr.cell? ⟨w.heap.size + 1, 3, none⟩ = some (.slice bA bkids.length bp) := L1.cell 3
      have ll2 := L2.lt
      have y2_0 : wr.cell? ⟨w.heap.size + 1 + 1, 0, none⟩ = some (.int .i64 0) := L2.cell 0
      have y2_1 : wr.cell? ⟨w.heap.size + 1 + 1, 1, none⟩ = some (.int .i64 0) := L2.cell 1
      have y2_2 : wr.cell? ⟨w.heap.size + 1 + 1, 2, none⟩ = some (.string ⟨#[]⟩) := L2.cell 2
      have y2_3 : wr.cell? ⟨w.heap.size + 1 + 1, 3, none⟩ = some (.slice none 0 0) := L2.cell 3
      by_cases hkl : k < kids.length
      · obtain ⟨d', rfl⟩ := exS_pos h3 (by omega)
        obtain ⟨b, o, op', n', name', kids', v', rfl, _, hbB, HL, g0, g1, g2, g3, c0, c1, c2, c3⟩ := ex_get d' (h3.below hb hB) hkl
        obtain ⟨A', p', hf, _, _⟩ := g3.form
        change _ = Value.slice A' kids'.length p' at hf
        subst hf
        have hkn : (k : Int) < (kids.length : Int) := by omega
        have hki : (0 : Int) ≤ (k : Int) := by omega
        have hmem : Ex.mk op' n' name' kids' ∈ kids := HL.out ▸ List.getElem_mem hkl
        obtain ⟨y, hy⟩ : ∃ y, (putE m nm (Ex.mk bop bn bname bkids)) (Ex.mk op' n' name' kids') = y := ⟨_, rfl⟩
        have EL : Hid ((kids.take (k + 1)).map (putE m nm (Ex.mk bop bn bname bkids)) = (kids.take k).map (putE m nm (Ex.mk bop bn bname bkids)) ++ [y]) := by
          show _ = _
          rw [List.take_succ_eq_append_getElem hkl, HL.out, List.map_append, List.map_cons, List.map_nil, hy]
        obtain ⟨xs, p0, q0, own0_, hp⟩ := own
        have own0' : wr.ownsRow (w.heap.size + 1 + 1 + 1) 30 4 u7 k xs := by
          have h := own0_
          rw [List.length_map, List.length_take, Nat.min_eq_left hk] at h
          exact h
        have g3d : Sl false (exS false d') wr.drew lo B kids' (.slice A' kids'.length p') := g3.keep (Nat.le_refl _) (Nat.le_refl _) (fun _ _ _ => rfl)
        have bh3d : Sl false (exS false db) wr.drew lo' B' bkids (.slice bA bkids.length bp) := (bh3.below hb hB').keep (Nat.le_refl _) (Nat.le_refl _) (fun _ _ _ => rfl)
        replace hy := Lib.hid hy
        go_wp2_with fail
        refine wp_region_held_drew (S := fun w' => (w'.cell? ⟨w.heap.size, 3, none⟩ = some (.slice (some ⟨b, o, none⟩) kids.length p) ∧ w'.cell? ⟨w.heap.size + 1, 0, none⟩ = some (.int .i64 bop) ∧ w'.cell? ⟨w.heap.size + 1, 1, none⟩ = some (.int .i64 bn) ∧ w'.cell? ⟨w.heap.size + 1, 2, none⟩ = some (.string bname) ∧ w'.cell? ⟨w.heap.size + 1, 3, none⟩ = some (.slice bA bkids.length bp) ∧ w'.cell? ⟨b, o + k * 4, none⟩ = some (.int .i64 op') ∧ w'.cell? ⟨b, o + k * 4 + 1, none⟩ = some (.int .i64 n') ∧ w'.cell? ⟨b, o + k * 4 + 2, none⟩ = some (.string name') ∧ w'.cell? ⟨b, o + k * 4 + 3, none⟩ = some (.slice A' kids'.length p'))) (by kernel_rfl) ?_ (fun hHeld => ?_)
        · ((try dsimp only); refine ⟨?_, ?_, ?_, ?_, ?_, ?_, ?_, ?_, ?_⟩ <;> assumption)
        refine reg_take (i := 0) (v := ?v1) rfl (by kernel_rfl) (by kernel_rfl) (by kernel_rfl) (fun _ _ _ h => h) (Or.inl ⟨by kernel_rfl, ?h1⟩) (by assumption) ?r1
        case h1 => (intro w hSw; (try dsimp only at hSw); go_simp; try with_reducible rfl)
        try simp only [Act.put, List.setIfInBounds_toArray, List.set_cons_zero, List.set_cons_succ]
        refine reg_take (i := 1) (v := ?v2) rfl (by kernel_rfl) (by kernel_rfl) (by kernel_rfl) (fun _ _ _ h => h) (Or.inl ⟨by kernel_rfl, ?h2⟩) (by assumption) ?r2
        case h2 => (intro w hSw; (try dsimp only at hSw); go_simp; try with_reducible rfl)
        try simp only [Act.put, List.setIfInBounds_toArray, List.set_cons_zero, List.set_cons_succ]
        refine reg_take (i := 2) (v := ?v3) rfl (by kernel_rfl) (by kernel_rfl) (by kernel_rfl) (fun _ _ _ h => h) (Or.inl ⟨by kernel_rfl, ?h3⟩) (by assumption) ?r3
        case h3 => (intro w hSw; (try dsimp only at hSw); go_simp; try with_reducible rfl)
        try simp only [Act.put, List.setIfInBounds_toArray, List.set_cons_zero, List.set_cons_succ]
        refine reg_take (i := 3) (v := ?v4) rfl (by kernel_rfl) (by kernel_rfl) (by kernel_rfl) (fun _ _ _ h => h) (Or.inl ⟨by kernel_rfl, ?h4⟩) (by assumption) ?r4
        case h4 => (intro w hSw; (try dsimp only at hSw); go_simp; try with_reducible rfl)
        try simp only [Act.put, List.setIfInBounds_toArray, List.set_cons_zero, List.set_cons_succ]
        refine reg_take (i := 4) (v := ?v5) rfl (by kernel_rfl) (by kernel_rfl) (by kernel_rfl) (fun _ _ _ h => h) (Or.inl ⟨by kernel_rfl, ?h5⟩) (by assumption) ?r5
        case h5 => (intro w hSw; (try dsimp only at hSw); go_simp; try with_reducible rfl)
        try simp only [Act.put, List.setIfInBounds_toArray, List.set_cons_zero, List.set_cons_succ]
        refine reg_take (i := 5) (v := ?v6) rfl (by kernel_rfl) (by kernel_rfl) (by kernel_rfl) (fun _ _ _ h => h) (Or.inl ⟨by kernel_rfl, ?h6⟩) (by assumption) ?r6
        case h6 => (intro w hSw; (try dsimp only at hSw); go_simp; try with_reducible rfl)
        try simp only [Act.put, List.setIfInBounds_toArray, List.set_cons_zero, List.set_cons_succ]
        refine reg_take (i := 6) (v := ?v7) rfl (by kernel_rfl) (by kernel_rfl) (by kernel_rfl) (fun _ _ _ h => h) (Or.inl ⟨by kernel_rfl, ?h7⟩) (by assumption) ?r7
        case h7 => (intro w hSw; (try dsimp only at hSw); go_simp; try with_reducible rfl)
        try simp only [Act.put, List.setIfInBounds_toArray, List.set_cons_zero, List.set_cons_succ]
        refine reg_take (i := 7) (v := ?v8) rfl (by kernel_rfl) (by kernel_rfl) (by kernel_rfl) (fun _ _ _ h => h) (Or.inl ⟨by kernel_rfl, ?h8⟩) (by assumption) ?r8
        case h8 => (intro w hSw; (try dsimp only at hSw); go_simp; try with_reducible rfl)
        try simp only [Act.put, List.setIfInBounds_toArray, List.set_cons_zero, List.set_cons_succ]
        refine reg_call (i := 8) (by kernel_rfl) rfl (fun K hK => ?_)
        go_simp
        refine (ih d' op' n' name' kids' (.slice A' kids'.length p') nm db bop bn bname bkids (.slice bA bkids.length bp) wr.drew lo B lo' B' (Nat.le_trans hB hsz) (Nat.le_trans hB' hsz) g0 g1 g2 g3d (List.all_eq_true.1 hall.out _ hmem) bo bn64 bnm bh3d bform.out).mono ?_; rintro e w1 ⟨v3', he, hx, b1d⟩; rw [hy.out] at hx he; obtain ⟨Ay, py, hf, _, _⟩ := (exT_kids (m + 6) (hx false)).form; subst hf; subst he; have b1 : Below wr.heap.size wr w1 := ((Below.refl _ wr).drew).trans b1d; have hsz1 := b1.size; have own1 := own_below own0' b1 (Nat.le_refl _); have U0 : Row w1 (w.heap.size) 30 #[.int .i64 op, .int .i64 n, .string name, .slice (some ⟨b, o, none⟩) kids.length p] := L0.below b1 ll0; have U1 : Row w1 (w.heap.size + 1) 30 #[.int .i64 bop, .int .i64 bn, .string bname, .slice bA bkids.length bp] := L1.below b1 ll1; have U2 : Row w1 (w.heap.size + 1 + 1) 30 #[.int .i64 0, .int .i64 0, .string ⟨#[]⟩, .slice none 0 0] := L2.below b1 ll2; have Uc0 : w1.cell? ⟨w.heap.size, 3, none⟩ = some (.slice (some ⟨b, o, none⟩) kids.length p) := U0.cell 3; have Uc1 : w1.cell? ⟨w.heap.size + 1, 0, none⟩ = some (.int .i64 bop) := U1.cell 0; have Uc2 : w1.cell? ⟨w.heap.size + 1, 1, none⟩ = some (.int .i64 bn) := U1.cell 1; have Uc3 : w1.cell? ⟨w.heap.size + 1, 2, none⟩ = some (.string bname) := U1.cell 2; have Uc4 : w1.cell? ⟨w.heap.size + 1, 3, none⟩ = some (.slice bA bkids.length bp) := U1.cell 3; have Ue0 : w1.cell? ⟨b, o + k * 4, none⟩ = some (.int .i64 op') := (b1.cell (p := ⟨b, o + k * 4, none⟩) (show b < wr.heap.size by omega)).trans c0; have Ue1 : w1.cell? ⟨b, o + k * 4 + 1, none⟩ = some (.int .i64 n') := (b1.cell (p := ⟨b, o + k * 4 + 1, none⟩) (show b < wr.heap.size by omega)).trans c1; have Ue2 : w1.cell? ⟨b, o + k * 4 + 2, none⟩ = some (.string name') := (b1.cell (p := ⟨b, o + k * 4 + 2, none⟩) (show b < wr.heap.size by omega)).trans c2; have Ue3 : w1.cell? ⟨b, o + k * 4 + 3, none⟩ = some (.slice A' kids'.length p') := (b1.cell (p := ⟨b, o + k * 4 + 3, none⟩) (show b < wr.heap.size by omega)).trans c3
        refine hK.out _ _ ?_ (fun hHeld => ?_)
        · ((try dsimp only); refine ⟨?_, ?_, ?_, ?_, ?_, ?_, ?_, ?_, ?_⟩ <;> assumption)
        clear hK K
        try simp only [Act.put, List.setIfInBounds_toArray, List.set_cons_zero, List.set_cons_succ]
        refine reg_call (i := 9) (by kernel_rfl) rfl (fun K hK => ?_)
        go_simp
        have V0 : Row (w1.alloc (.cells #[.int .i64 y.op, .int .i64 y.n, .string y.name, .slice Ay y.kids.length py] 30)) (w.heap.size) 30 #[.int .i64 op, .int .i64 n, .string name, .slice (some ⟨b, o, none⟩) kids.length p] := U0.alloc _; have V1 : Row (w1.alloc (.cells #[.int .i64 y.op, .int .i64 y.n, .string y.name, .slice Ay y.kids.length py] 30)) (w.heap.size + 1) 30 #[.int .i64 bop, .int .i64 bn, .string bname, .slice bA bkids.length bp] := U1.alloc _; have V2 : Row (w1.alloc (.cells #[.int .i64 y.op, .int .i64 y.n, .string y.name, .slice Ay y.kids.length py] 30)) (w.heap.size + 1 + 1) 30 #[.int .i64 0, .int .i64 0, .string ⟨#[]⟩, .slice none 0 0] := U2.alloc _; have Vc0 : (w1.alloc (.cells #[.int .i64 y.op, .int .i64 y.n, .string y.name, .slice Ay y.kids.length py] 30)).cell? ⟨w.heap.size, 3, none⟩ = some (.slice (some ⟨b, o, none⟩) kids.length p) := V0.cell 3; have Vc1 : (w1.alloc (.cells #[.int .i64 y.op, .int .i64 y.n, .string y.name, .slice Ay y.kids.length py] 30)).cell? ⟨w.heap.size + 1, 0, none⟩ = some (.int .i64 bop) := V1.cell 0; have Vc2 : (w1.alloc (.cells #[.int .i64 y.op, .int .i64 y.n, .string y.name, .slice Ay y.kids.length py] 30)).cell? ⟨w.heap.size + 1, 1, none⟩ = some (.int .i64 bn) := V1.cell 1; have Vc3 : (w1.alloc (.cells #[.int .i64 y.op, .int .i64 y.n, .string y.name, .slice Ay y.kids.length py] 30)).cell? ⟨w.heap.size + 1, 2, none⟩ = some (.string bname) := V1.cell 2; have Vc4 : (w1.alloc (.cells #[.int .i64 y.op, .int .i64 y.n, .string y.name, .slice Ay y.kids.length py] 30)).cell? ⟨w.heap.size + 1, 3, none⟩ = some (.slice bA bkids.length bp) := V1.cell 3; have Ve0 : (w1.alloc (.cells #[.int .i64 y.op, .int .i64 y.n, .string y.name, .slice Ay y.kids.length py] 30)).cell? ⟨b, o + k * 4, none⟩ = some (.int .i64 op') := (World.cell?_of_block (w := w1) (a := ⟨b, o + k * 4, none⟩) (Below.heap_alloc _ _ b (by omega))).trans Ue0; have Ve1 : (w1.alloc (.cells #[.int .i64 y.op, .int .i64 y.n, .string y.name, .slice Ay y.kids.length py] 30)).cell? ⟨b, o + k * 4 + 1, none⟩ = some (.int .i64 n') := (World.cell?_of_block (w := w1) (a := ⟨b, o + k * 4 + 1, none⟩) (Below.heap_alloc _ _ b (by omega))).trans Ue1; have Ve2 : (w1.alloc (.cells #[.int .i64 y.op, .int .i64 y.n, .string y.name, .slice Ay y.kids.length py] 30)).cell? ⟨b, o + k * 4 + 2, none⟩ = some (.string name') := (World.cell?_of_block (w := w1) (a := ⟨b, o + k * 4 + 2, none⟩) (Below.heap_alloc _ _ b (by omega))).trans Ue2; have Ve3 : (w1.alloc (.cells #[.int .i64 y.op, .int .i64 y.n, .string y.name, .slice Ay y.kids.length py] 30)).cell? ⟨b, o + k * 4 + 3, none⟩ = some (.slice A' kids'.length p') := (World.cell?_of_block (w := w1) (a := ⟨b, o + k * 4 + 3, none⟩) (Below.heap_alloc _ _ b (by omega))).trans Ue3
        refine hK.out _ _ ?_ (fun hHeld => ?_)
        · ((try dsimp only); refine ⟨?_, ?_, ?_, ?_, ?_, ?_, ?_, ?_, ?_⟩ <;> assumption)
        clear hK K
        try simp only [Act.put, List.setIfInBounds_toArray, List.set_cons_zero, List.set_cons_succ]
        refine reg_call (i := 10) (by kernel_rfl) rfl (fun K hK => ?_)
        refine step_append_lies _ (by rfl) _ _ _ (by rfl) (w.heap.size + 1 + 1 + 1) 30 i0 (.agg #[.int .i64 0, .int .i64 0, .string ⟨#[]⟩, .slice none 0 0]) 4 56 Tryd.underlying28 hi hz0 hz1 hz2 rfl (by omega) u7 k xs (by rfl) (own1.alloc _) ⟨w1.heap.size, 0, none⟩ 1 1 [.int .i64 y.op, .int .i64 y.n, .string y.name, .slice Ay y.kids.length py] (by rfl) (by rfl) (World.news_of_block (cs := #[.int .i64 y.op, .int .i64 y.n, .string y.name, .slice Ay y.kids.length py]) (t := 30) (fr := (0, 0)) (heap_alloc_new w1 _)) (by simp [Value.oneCell']) (by omega) (by unfold maxLen; omega) (by omega) (by simp; omega) (w1.heap.size + 1) (by simp) ?_; intro g4 cap4 w4 own4 hgrow hat hlt; have M0 : Row w4 (w.heap.size) 30 #[.int .i64 op, .int .i64 n, .string name, .slice (some ⟨b, o, none⟩) kids.length p] := (hgrow.block _ (by simp; omega) (fun e => own_ne own1 (show w.heap.size < w.heap.size + 1 + 1 + 1 by omega) e.symm)).trans (U0.alloc _); have M1 : Row w4 (w.heap.size + 1) 30 #[.int .i64 bop, .int .i64 bn, .string bname, .slice bA bkids.length bp] := (hgrow.block _ (by simp; omega) (fun e => own_ne own1 (show w.heap.size + 1 < w.heap.size + 1 + 1 + 1 by omega) e.symm)).trans (U1.alloc _); have M2 : Row w4 (w.heap.size + 1 + 1) 30 #[.int .i64 0, .int .i64 0, .string ⟨#[]⟩, .slice none 0 0] := (hgrow.block _ (by simp; omega) (fun e => own_ne own1 (show w.heap.size + 1 + 1 < w.heap.size + 1 + 1 + 1 by omega) e.symm)).trans (U2.alloc _); have Mc0 : w4.cell? ⟨w.heap.size, 3, none⟩ = some (.slice (some ⟨b, o, none⟩) kids.length p) := M0.cell 3; have Mc1 : w4.cell? ⟨w.heap.size + 1, 0, none⟩ = some (.int .i64 bop) := M1.cell 0; have Mc2 : w4.cell? ⟨w.heap.size + 1, 1, none⟩ = some (.int .i64 bn) := M1.cell 1; have Mc3 : w4.cell? ⟨w.heap.size + 1, 2, none⟩ = some (.string bname) := M1.cell 2; have Mc4 : w4.cell? ⟨w.heap.size + 1, 3, none⟩ = some (.slice bA bkids.length bp) := M1.cell 3; have Me0 : w4.cell? ⟨b, o + k * 4, none⟩ = some (.int .i64 op') := (World.cell?_of_block (w := w1) (a := ⟨b, o + k * 4, none⟩) ((hgrow.block b (by simp; omega) (fun e => own_ne own1 (show b < w.heap.size + 1 + 1 + 1 by omega) e.symm)).trans (Below.heap_alloc _ _ b (by omega)))).trans Ue0; have Me1 : w4.cell? ⟨b, o + k * 4 + 1, none⟩ = some (.int .i64 n') := (World.cell?_of_block (w := w1) (a := ⟨b, o + k * 4 + 1, none⟩) ((hgrow.block b (by simp; omega) (fun e => own_ne own1 (show b < w.heap.size + 1 + 1 + 1 by omega) e.symm)).trans (Below.heap_alloc _ _ b (by omega)))).trans Ue1; have Me2 : w4.cell? ⟨b, o + k * 4 + 2, none⟩ = some (.string name') := (World.cell?_of_block (w := w1) (a := ⟨b, o + k * 4 + 2, none⟩) ((hgrow.block b (by simp; omega) (fun e => own_ne own1 (show b < w.heap.size + 1 + 1 + 1 by omega) e.symm)).trans (Below.heap_alloc _ _ b (by omega)))).trans Ue2; have Me3 : w4.cell? ⟨b, o + k * 4 + 3, none⟩ = some (.slice A' kids'.length p') := (World.cell?_of_block (w := w1) (a := ⟨b, o + k * 4 + 3, none⟩) ((hgrow.block b (by simp; omega) (fun e => own_ne own1 (show b < w.heap.size + 1 + 1 + 1 by omega) e.symm)).trans (Below.heap_alloc _ _ b (by omega)))).trans Ue3
        refine hK.out _ _ ?_ (fun hHeld => ?_)
        · ((try dsimp only); refine ⟨?_, ?_, ?_, ?_, ?_, ?_, ?_, ?_, ?_⟩ <;> assumption)
        clear hK K
        try simp only [Act.put, List.setIfInBounds_toArray, List.set_cons_zero, List.set_cons_succ]
        refine reg_take (i := 11) (v := ?v12) rfl (by kernel_rfl) (by kernel_rfl) (by kernel_rfl) (fun _ _ _ h => h) (Or.inl ⟨by kernel_rfl, ?h12⟩) (by assumption) ?r12
        case h12 => (intro w hSw; (try dsimp only at hSw); go_simp; try with_reducible rfl)
        try simp only [Act.put, List.setIfInBounds_toArray, List.set_cons_zero, List.set_cons_succ]
        refine wpAnyH_done (by kernel_rfl) ?_ _
        have ho1 : w1.ownsRow (w.heap.size + 1 + 1 + 1) 30 (exT true (m + 7)).size u7 ((kids.take k).map (putE m nm (Ex.mk bop bn bname bkids))).length xs := own_below own0_ b1 (Nat.le_refl _)
        have hp4 := PartsT.snoc (s := wr.heap.size) (v' := .slice (some ⟨g4, 0, none⟩) (k + 1) cap4) (hp.below b1) ho1 (by omega) hsz1 (fun i a ha => by have := (hp i a ha).2.1; omega) (fun b hb' => (own0_.lt b hb').2) hx hgrow (hat.elim (fun h => Or.inl h.symm) (fun h => Or.inr (by rw [h]; simp [Value.ownBlock])))
        have own4' : w4.ownsRow (w.heap.size + 1 + 1 + 1) 30 (exT true (m + 7)).size (.slice (some ⟨g4, 0, none⟩) (k + 1) cap4) (((kids.take k).map (putE m nm (Ex.mk bop bn bname bkids))) ++ [y]).length (xs ++ [.int .i64 y.op, .int .i64 y.n, .string y.name, .slice Ay y.kids.length py]) := by
          rw [List.length_append, List.length_map, List.length_take, Nat.min_eq_left hk]
          exact own4
        have ownT : OwnT (fun mm => exT mm (m + 7)) 30 w4 (w.heap.size + 1 + 1 + 1) (.slice (some ⟨g4, 0, none⟩) (k + 1) cap4) ((kids.take (k + 1)).map (putE m nm (Ex.mk bop bn bname bkids))) := by
          rw [EL.out]
          exact ⟨_, _, _, own4', hp4⟩
        have hb4 : Below w.heap.size w w4 := ((hb.trans (b1.mono hsz)).alloc (by omega) _).grown hgrow (by simp; omega) (fun r hr => by have := own_ge own1 hr; omega)
        clear own4 own4' hgrow hat hp4 ho1 own1 own0_ hp hx
        go_wp2_with fail
        go_roundw
        case rel => exact ⟨k + 1, by omega, by go_num, ownT, M0, M1, M2, hb4⟩
        case measure => simp [intOf]; omega
      · obtain rfl : k = kids.length := by omega
        rw [List.take_length] at own
        have fin := fun m' => own.slT (fun m => by rw [exT_size, exT_size]) (Nat.le_refl _) m'
        obtain ⟨A', p', hf, _, _⟩ := (fin false).form
        rw [List.length_map] at hf
        subst hf
        clear own
        have rf0 : (wr).frozen? ⟨w.heap.size, 0, none⟩ = false := L0.frozen 0
        have rf1 : (wr).frozen? ⟨w.heap.size, 1, none⟩ = false := L0.frozen 1
        have rf2 : (wr).frozen? ⟨w.heap.size, 2, none⟩ = false := L0.frozen 2
        have rf3 : (wr).frozen? ⟨w.heap.size, 3, none⟩ = false := L0.frozen 3
        have sf0 : (wr).frozen? ⟨w.heap.size + 1 + 1, 0, none⟩ = false := L2.frozen 0
        have sf1 : (wr).frozen? ⟨w.heap.size + 1 + 1, 1, none⟩ = false := L2.frozen 1
        have sf2 : (wr).frozen? ⟨w.heap.size + 1 + 1, 2, none⟩ = false := L2.frozen 2
        have sf3 : (wr).frozen? ⟨w.heap.size + 1 + 1, 3, none⟩ = false := L2.frozen 3
        go_wp2_with fail
        refine bodyPost_ret (v := .agg #[.int .i64 op, .int .i64 n, .string name, .slice A' kids.length p']) (by simp [results, Tryd.results55, go_sem, y2_0, y2_1, y2_2, y2_3]) rfl ?_
        unfold ToTE
        rw [E.out]
        refine ⟨_, rfl, fun m' => ?_, ?_⟩
        · exact exT_mk m' (m + 7) op n name _ _ ho hn64 hnm ((fin m').keep (by omega) (by simp [World.setCell]) ((((((Same.refl _ _ _).setCell (p := ⟨w.heap.size, 3, none⟩) (.inl (by first | omega | (simp; omega) | simp)) (.slice A' kids.length p')).setCell (p := ⟨w.heap.size + 1 + 1, 0, none⟩) (.inl (by first | omega | (simp; omega) | simp)) (.int .i64 op)).setCell (p := ⟨w.heap.size + 1 + 1, 1, none⟩) (.inl (by first | omega | (simp; omega) | simp)) (.int .i64 n)).setCell (p := ⟨w.heap.size + 1 + 1, 2, none⟩) (.inl (by first | omega | (simp; omega) | simp)) (.string name)).setCell (p := ⟨w.heap.size + 1 + 1, 3, none⟩) (.inl (by first | omega | (simp; omega) | simp)) (.slice A' kids.length p')))
        · exact (((((hb.setCell (p := ⟨w.heap.size, 3, none⟩) (by first | omega | (simp; omega) | simp) (.slice A' kids.length p')).setCell (p := ⟨w.heap.size + 1 + 1, 0, none⟩) (by first | omega | (simp; omega) | simp) (.int .i64 op)).setCell (p := ⟨w.heap.size + 1 + 1, 1, none⟩) (by first | omega | (simp; omega) | simp) (.int .i64 n)).setCell (p := ⟨w.heap.size + 1 + 1, 2, none⟩) (by first | omega | (simp; omega) | simp) (.string name)).setCell (p := ⟨w.heap.size + 1 + 1, 3, none⟩) (by first | omega | (simp; omega) | simp) (.slice A' kids.length p'))
  subst ho2
  by_cases hnn : (name.toList == nm.toList) = true
  case neg =>
    have q : (name.toList == nm.toList) = false := by simpa using hnn
    have E := fin2 (by unfold isV; rw [q]; rfl)
    clear fin1 fin2 hnn z3 R3 Q3 S3
    go_wp2_with fail
    go_loopw [7, 8] (fun vv i wr => ∃ k : Nat, k ≤ kids.length ∧ i = .int .i64 k ∧ OwnT (fun mm => exT mm (m + 7)) 30 wr (w.heap.size + 1 + 1 + 1) vv ((kids.take k).map (putE m nm (Ex.mk bop bn bname bkids))) ∧ Row wr (w.heap.size) 30 #[.int .i64 2, .int .i64 n, .string name, .slice A kids.length p] ∧ Row wr (w.heap.size + 1) 30 #[.int .i64 bop, .int .i64 bn, .string bname, .slice bA bkids.length bp] ∧ Row wr (w.heap.size + 1 + 1) 30 #[.int .i64 0, .int .i64 0, .string ⟨#[]⟩, .slice none 0 0] ∧ Below w.heap.size w wr) (fun _ i _ => kids.length - (intOf i).toNat)
    case atStart => exact ⟨0, by omega, rfl, own0, R4, Q4, S4, hbL⟩
    case round =>
      obtain ⟨k, hk, rfl, own, L0, L1, L2, hb⟩ := hrel
      have hsz := hb.size
      have ll0 := L0.lt
      have y0_0 : wr.cell? ⟨w.heap.size, 0, none⟩ = some (.int .i64 2) := L0.cell 0
      have y0_1 : wr.cell? ⟨w.heap.size, 1, none⟩ = some (.int .i64 n) := L0.cell 1
      have y0_2 : wr.cell? ⟨w.heap.size, 2, none⟩ = some (.string name) := L0.cell 2
      have y0_3 : wr.cell? ⟨w.heap.size, 3, none⟩ = some (.slice A kids.length p) := L0.cell 3
      have ll1 := L1.lt
      have y1_0 : wr.cell? ⟨w.heap.size + 1, 0, none⟩ = some (.int .i64 bop) := L1.cell 0
      have y1_1 : wr.cell? ⟨w.heap.size + 1, 1, none⟩ = some (.int .i64 bn) := L1.cell 1
      have y1_2 : wr.cell? ⟨w.heap.size + 1, 2, none⟩ = some (.string bname) := L1.cell 2
      have y1_3 : wr.cell? ⟨w.heap.size + 1, 3, none⟩ = some (.slice bA bkids.length bp) := L1.cell 3
      have ll2 := L2.lt
      have y2_0 : wr.cell? ⟨w.heap.size + 1 + 1, 0, none⟩ = some (.int .i64 0) := L2.cell 0
      have y2_1 : wr.cell? ⟨w.heap.size + 1 + 1, 1, none⟩ = some (.int .i64 0) := L2.cell 1
      have y2_2 : wr.cell? ⟨w.heap.size + 1 + 1, 2, none⟩ = some (.string ⟨#[]⟩) := L2.cell 2
      have y2_3 : wr.cell? ⟨w.heap.size + 1 + 1, 3, none⟩ = some (.slice none 0 0) := L2.cell 3
      by_cases hkl : k < kids.length
      · obtain ⟨d', rfl⟩ := exS_pos h3 (by omega)
        obtain ⟨b, o, op', n', name', kids', v', rfl, _, hbB, HL, g0, g1, g2, g3, c0, c1, c2, c3⟩ := ex_get d' (h3.below hb hB) hkl
        obtain ⟨A', p', hf, _, _⟩ := g3.form
        change _ = Value.slice A' kids'.length p' at hf
        subst hf
        have hkn : (k : Int) < (kids.length : Int) := by omega
        have hki : (0 : Int) ≤ (k : Int) := by omega
        have hmem : Ex.mk op' n' name' kids' ∈ kids := HL.out ▸ List.getElem_mem hkl
        obtain ⟨y, hy⟩ : ∃ y, (putE m nm (Ex.mk bop bn bname bkids)) (Ex.mk op' n' name' kids') = y := ⟨_, rfl⟩
        have EL : Hid ((kids.take (k + 1)).map (putE m nm (Ex.mk bop bn bname bkids)) = (kids.take k).map (putE m nm (Ex.mk bop bn bname bkids)) ++ [y]) := by
          show _ = _
          rw [List.take_succ_eq_append_getElem hkl, HL.out, List.map_append, List.map_cons, List.map_nil, hy]
        obtain ⟨xs, p0, q0, own0_, hp⟩ := own
        have own0' : wr.ownsRow (w.heap.size + 1 + 1 + 1) 30 4 u7 k xs := by
          have h := own0_
          rw [List.length_map, List.length_take, Nat.min_eq_left hk] at h
          exact h
        have g3d : Sl false (exS false d') wr.drew lo B kids' (.slice A' kids'.length p') := g3.keep (Nat.le_refl _) (Nat.le_refl _) (fun _ _ _ => rfl)
        have bh3d : Sl false (exS false db) wr.drew lo' B' bkids (.slice bA bkids.length bp) := (bh3.below hb hB').keep (Nat.le_refl _) (Nat.le_refl _) (fun _ _ _ => rfl)
        replace hy := Lib.hid hy
        go_wp2_with fail
        refine wp_region_held_drew (S := fun w' => (w'.cell? ⟨w.heap.size, 3, none⟩ = some (.slice (some ⟨b, o, none⟩) kids.length p) ∧ w'.cell? ⟨w.heap.size + 1, 0, none⟩ = some (.int .i64 bop) ∧ w'.cell? ⟨w.heap.size + 1, 1, none⟩ = some (.int .i64 bn) ∧ w'.cell? ⟨w.heap.size + 1, 2, none⟩ = some (.string bname) ∧ w'.cell? ⟨w.heap.size + 1, 3, none⟩ = some (.slice bA bkids.length bp) ∧ w'.cell? ⟨b, o + k * 4, none⟩ = some (.int .i64 op') ∧ w'.cell? ⟨b, o + k * 4 + 1, none⟩ = some (.int .i64 n') ∧ w'.cell? ⟨b, o + k * 4 + 2, none⟩ = some (.string name') ∧ w'.cell? ⟨b, o + k * 4 + 3, none⟩ = some (.slice A' kids'.length p'))) (by kernel_rfl) ?_ (fun hHeld => ?_)
        · ((try dsimp only); refine ⟨?_, ?_, ?_, ?_, ?_, ?_, ?_, ?_, ?_⟩ <;> assumption)
        refine reg_take (i := 0) (v := ?v13) rfl (by kernel_rfl) (by kernel_rfl) (by kernel_rfl) (fun _ _ _ h => h) (Or.inl ⟨by kernel_rfl, ?h13⟩) (by assumption) ?r13
        case h13 => (intro w hSw; (try dsimp only at hSw); go_simp; try with_reducible rfl)
        try simp only [Act.put, List.setIfInBounds_toArray, List.set_cons_zero, List.set_cons_succ]
        refine reg_take (i := 1) (v := ?v14) rfl (by kernel_rfl) (by kernel_rfl) (by kernel_rfl) (fun _ _ _ h => h) (Or.inl ⟨by kernel_rfl, ?h14⟩) (by assumption) ?r14
        case h14 => (intro w hSw; (try dsimp only at hSw); go_simp; try with_reducible rfl)
        try simp only [Act.put, List.setIfInBounds_toArray, List.set_cons_zero, List.set_cons_succ]
        refine reg_take (i := 2) (v := ?v15) rfl (by kernel_rfl) (by kernel_rfl) (by kernel_rfl) (fun _ _ _ h => h) (Or.inl ⟨by kernel_rfl, ?h15⟩) (by assumption) ?r15
        case h15 => (intro w hSw; (try dsimp only at hSw); go_simp; try with_reducible rfl)
        try simp only [Act.put, List.setIfInBounds_toArray, List.set_cons_zero, List.set_cons_succ]
        refine reg_take (i := 3) (v := ?v16) rfl (by kernel_rfl) (by kernel_rfl) (by kernel_rfl) (fun _ _ _ h => h) (Or.inl ⟨by kernel_rfl, ?h16⟩) (by assumption) ?r16
        case h16 => (intro w hSw; (try dsimp only at hSw); go_simp; try with_reducible rfl)
        try simp only [Act.put, List.setIfInBounds_toArray, List.set_cons_zero, List.set_cons_succ]
        refine reg_take (i := 4) (v := ?v17) rfl (by kernel_rfl) (by kernel_rfl) (by kernel_rfl) (fun _ _ _ h => h) (Or.inl ⟨by kernel_rfl, ?h17⟩) (by assumption) ?r17
        case h17 => (intro w hSw; (try dsimp only at hSw); go_simp; try with_reducible rfl)
        try simp only [Act.put, List.setIfInBounds_toArray, List.set_cons_zero, List.set_cons_succ]
        refine reg_take (i := 5) (v := ?v18) rfl (by kernel_rfl) (by kernel_rfl) (by kernel_rfl) (fun _ _ _ h => h) (Or.inl ⟨by kernel_rfl, ?h18⟩) (by assumption) ?r18
        case h18 => (intro w hSw; (try dsimp only at hSw); go_simp; try with_reducible rfl)
        try simp only [Act.put, List.setIfInBounds_toArray, List.set_cons_zero, List.set_cons_succ]
        refine reg_take (i := 6) (v := ?v19) rfl (by kernel_rfl) (by kernel_rfl) (by kernel_rfl) (fun _ _ _ h => h) (Or.inl ⟨by kernel_rfl, ?h19⟩) (by assumption) ?r19
        case h19 => (intro w hSw; (try dsimp only at hSw); go_simp; try with_reducible rfl)
        try simp only [Act.put, List.setIfInBounds_toArray, List.set_cons_zero, List.set_cons_succ]
        refine reg_take (i := 7) (v := ?v20) rfl (by kernel_rfl) (by kernel_rfl) (by kernel_rfl) (fun _ _ _ h => h) (Or.inl ⟨by kernel_rfl, ?h20⟩) (by assumption) ?r20
        case h20 => (intro w hSw; (try dsimp only at hSw); go_simp; try with_reducible rfl)
        try simp only [Act.put, List.setIfInBounds_toArray, List.set_cons_zero, List.set_cons_succ]
        refine reg_call (i := 8) (by kernel_rfl) rfl (fun K hK => ?_)
        go_simp
        refine (ih d' op' n' name' kids' (.slice A' kids'.length p') nm db bop bn bname bkids (.slice bA bkids.length bp) wr.drew lo B lo' B' (Nat.le_trans hB hsz) (Nat.le_trans hB' hsz) g0 g1 g2 g3d (List.all_eq_true.1 hall.out _ hmem) bo bn64 bnm bh3d bform.out).mono ?_; rintro e w1 ⟨v3', he, hx, b1d⟩; rw [hy.out] at hx he; obtain ⟨Ay, py, hf, _, _⟩ := (exT_kids (m + 6) (hx false)).form; subst hf; subst he; have b1 : Below wr.heap.size wr w1 := ((Below.refl _ wr).drew).trans b1d; have hsz1 := b1.size; have own1 := own_below own0' b1 (Nat.le_refl _); have U0 : Row w1 (w.heap.size) 30 #[.int .i64 2, .int .i64 n, .string name, .slice (some ⟨b, o, none⟩) kids.length p] := L0.below b1 ll0; have U1 : Row w1 (w.heap.size + 1) 30 #[.int .i64 bop, .int .i64 bn, .string bname, .slice bA bkids.length bp] := L1.below b1 ll1; have U2 : Row w1 (w.heap.size + 1 + 1) 30 #[.int .i64 0, .int .i64 0, .string ⟨#[]⟩, .slice none 0 0] := L2.below b1 ll2; have Uc0 : w1.cell? ⟨w.heap.size, 3, none⟩ = some (.slice (some ⟨b, o, none⟩) kids.length p) := U0.cell 3; have Uc1 : w1.cell? ⟨w.heap.size + 1, 0, none⟩ = some (.int .i64 bop) := U1.cell 0; have Uc2 : w1.cell? ⟨w.heap.size + 1, 1, none⟩ = some (.int .i64 bn) := U1.cell 1; have Uc3 : w1.cell? ⟨w.heap.size + 1, 2, none⟩ = some (.string bname) := U1.cell 2; have Uc4 : w1.cell? ⟨w.heap.size + 1, 3, none⟩ = some (.slice bA bkids.length bp) := U1.cell 3; have Ue0 : w1.cell? ⟨b, o + k * 4, none⟩ = some (.int .i64 op') := (b1.cell (p := ⟨b, o + k * 4, none⟩) (show b < wr.heap.size by omega)).trans c0; have Ue1 : w1.cell? ⟨b, o + k * 4 + 1, none⟩ = some (.int .i64 n') := (b1.cell (p := ⟨b, o + k * 4 + 1, none⟩) (show b < wr.heap.size by omega)).trans c1; have Ue2 : w1.cell? ⟨b, o + k * 4 + 2, none⟩ = some (.string name') := (b1.cell (p := ⟨b, o + k * 4 + 2, none⟩) (show b < wr.heap.size by omega)).trans c2; have Ue3 : w1.cell? ⟨b, o + k * 4 + 3, none⟩ = some (.slice A' kids'.length p') := (b1.cell (p := ⟨b, o + k * 4 + 3, none⟩) (show b < wr.heap.size by omega)).trans c3
        refine hK.out _ _ ?_ (fun hHeld => ?_)
        · ((try dsimp only); refine ⟨?_, ?_, ?_, ?_, ?_, ?_, ?_, ?_, ?_⟩ <;> assumption)
        clear hK K
        try simp only [Act.put, List.setIfInBounds_toArray, List.set_cons_zero, List.set_cons_succ]
        refine reg_call (i := 9) (by kernel_rfl) rfl (fun K hK => ?_)
        go_simp
        have V0 : Row (w1.alloc (.cells #[.int .i64 y.op, .int .i64 y.n, .string y.name, .slice Ay y.kids.length py] 30)) (w.heap.size) 30 #[.int .i64 2, .int .i64 n, .string name, .slice (some ⟨b, o, none⟩) kids.length p] := U0.alloc _; have V1 : Row (w1.alloc (.cells #[.int .i64 y.op, .int .i64 y.n, .string y.name, .slice Ay y.kids.length py] 30)) (w.heap.size + 1) 30 #[.int .i64 bop, .int .i64 bn, .string bname, .slice bA bkids.length bp] := U1.alloc _; have V2 : Row (w1.alloc (.cells #[.int .i64 y.op, .int .i64 y.n, .string y.name, .slice Ay y.kids.length py] 30)) (w.heap.size + 1 + 1) 30 #[.int .i64 0, .int .i64 0, .string ⟨#[]⟩, .slice none 0 0] := U2.alloc _; have Vc0 : (w1.alloc (.cells #[.int .i64 y.op, .int .i64 y.n, .string y.name, .slice Ay y.kids.length py] 30)).cell? ⟨w.heap.size, 3, none⟩ = some (.slice (some ⟨b, o, none⟩) kids.length p) := V0.cell 3; have Vc1 : (w1.alloc (.cells #[.int .i64 y.op, .int .i64 y.n, .string y.name, .slice Ay y.kids.length py] 30)).cell? ⟨w.heap.size + 1, 0, none⟩ = some (.int .i64 bop) := V1.cell 0; have Vc2 : (w1.alloc (.cells #[.int .i64 y.op, .int .i64 y.n, .string y.name, .slice Ay y.kids.length py] 30)).cell? ⟨w.heap.size + 1, 1, none⟩ = some (.int .i64 bn) := V1.cell 1; have Vc3 : (w1.alloc (.cells #[.int .i64 y.op, .int .i64 y.n, .string y.name, .slice Ay y.kids.length py] 30)).cell? ⟨w.heap.size + 1, 2, none⟩ = some (.string bname) := V1.cell 2; have Vc4 : (w1.alloc (.cells #[.int .i64 y.op, .int .i64 y.n, .string y.name, .slice Ay y.kids.length py] 30)).cell? ⟨w.heap.size + 1, 3, none⟩ = some (.slice bA bkids.length bp) := V1.cell 3; have Ve0 : (w1.alloc (.cells #[.int .i64 y.op, .int .i64 y.n, .string y.name, .slice Ay y.kids.length py] 30)).cell? ⟨b, o + k * 4, none⟩ = some (.int .i64 op') := (World.cell?_of_block (w := w1) (a := ⟨b, o + k * 4, none⟩) (Below.heap_alloc _ _ b (by omega))).trans Ue0; have Ve1 : (w1.alloc (.cells #[.int .i64 y.op, .int .i64 y.n, .string y.name, .slice Ay y.kids.length py] 30)).cell? ⟨b, o + k * 4 + 1, none⟩ = some (.int .i64 n') := (World.cell?_of_block (w := w1) (a := ⟨b, o + k * 4 + 1, none⟩) (Below.heap_alloc _ _ b (by omega))).trans Ue1; have Ve2 : (w1.alloc (.cells #[.int .i64 y.op, .int .i64 y.n, .string y.name, .slice Ay y.kids.length py] 30)).cell? ⟨b, o + k * 4 + 2, none⟩ = some (.string name') := (World.cell?_of_block (w := w1) (a := ⟨b, o + k * 4 + 2, none⟩) (Below.heap_alloc _ _ b (by omega))).trans Ue2; have Ve3 : (w1.alloc (.cells #[.int .i64 y.op, .int .i64 y.n, .string y.name, .slice Ay y.kids.length py] 30)).cell? ⟨b, o + k * 4 + 3, none⟩ = some (.slice A' kids'.length p') := (World.cell?_of_block (w := w1) (a := ⟨b, o + k * 4 + 3, none⟩) (Below.heap_alloc _ _ b (by omega))).trans Ue3
        refine hK.out _ _ ?_ (fun hHeld => ?_)
        · ((try dsimp only); refine ⟨?_, ?_, ?_, ?_, ?_, ?_, ?_, ?_, ?_⟩ <;> assumption)
        clear hK K
        try simp only [Act.put, List.setIfInBounds_toArray, List.set_cons_zero, List.set_cons_succ]
        refine reg_call (i := 10) (by kernel_rfl) rfl (fun K hK => ?_)
        refine step_append_lies _ (by rfl) _ _ _ (by rfl) (w.heap.size + 1 + 1 + 1) 30 i0 (.agg #[.int .i64 0, .int .i64 0, .string ⟨#[]⟩, .slice none 0 0]) 4 56 Tryd.underlying28 hi hz0 hz1 hz2 rfl (by omega) u7 k xs (by rfl) (own1.alloc _) ⟨w1.heap.size, 0, none⟩ 1 1 [.int .i64 y.op, .int .i64 y.n, .string y.name, .slice Ay y.kids.length py] (by rfl) (by rfl) (World.news_of_block (cs := #[.int .i64 y.op, .int .i64 y.n, .string y.name, .slice Ay y.kids.length py]) (t := 30) (fr := (0, 0)) (heap_alloc_new w1 _)) (by simp [Value.oneCell']) (by omega) (by unfold maxLen; omega) (by omega) (by simp; omega) (w1.heap.size + 1) (by simp) ?_; intro g4 cap4 w4 own4 hgrow hat hlt; have M0 : Row w4 (w.heap.size) 30 #[.int .i64 2, .int .i64 n, .string name, .slice (some ⟨b, o, none⟩) kids.length p] := (hgrow.block _ (by simp; omega) (fun e => own_ne own1 (show w.heap.size < w.heap.size + 1 + 1 + 1 by omega) e.symm)).trans (U0.alloc _); have M1 : Row w4 (w.heap.size + 1) 30 #[.int .i64 bop, .int .i64 bn, .string bname, .slice bA bkids.length bp] := (hgrow.block _ (by simp; omega) (fun e => own_ne own1 (show w.heap.size + 1 < w.heap.size + 1 + 1 + 1 by omega) e.symm)).trans (U1.alloc _); have M2 : Row w4 (w.heap.size + 1 + 1) 30 #[.int .i64 0, .int .i64 0, .string ⟨#[]⟩, .slice none 0 0] := (hgrow.block _ (by simp; omega) (fun e => own_ne own1 (show w.heap.size + 1 + 1 < w.heap.size + 1 + 1 + 1 by omega) e.symm)).trans (U2.alloc _); have Mc0 : w4.cell? ⟨w.heap.size, 3, none⟩ = some (.slice (some ⟨b, o, none⟩) kids.length p) := M0.cell 3; have Mc1 : w4.cell? ⟨w.heap.size + 1, 0, none⟩ = some (.int .i64 bop) := M1.cell 0; have Mc2 : w4.cell? ⟨w.heap.size + 1, 1, none⟩ = some (.int .i64 bn) := M1.cell 1; have Mc3 : w4.cell? ⟨w.heap.size + 1, 2, none⟩ = some (.string bname) := M1.cell 2; have Mc4 : w4.cell? ⟨w.heap.size + 1, 3, none⟩ = some (.slice bA bkids.length bp) := M1.cell 3; have Me0 : w4.cell? ⟨b, o + k * 4, none⟩ = some (.int .i64 op') := (World.cell?_of_block (w := w1) (a := ⟨b, o + k * 4, none⟩) ((hgrow.block b (by simp; omega) (fun e => own_ne own1 (show b < w.heap.size + 1 + 1 + 1 by omega) e.symm)).trans (Below.heap_alloc _ _ b (by omega)))).trans Ue0; have Me1 : w4.cell? ⟨b, o + k * 4 + 1, none⟩ = some (.int .i64 n') := (World.cell?_of_block (w := w1) (a := ⟨b, o + k * 4 + 1, none⟩) ((hgrow.block b (by simp; omega) (fun e => own_ne own1 (show b < w.heap.size + 1 + 1 + 1 by omega) e.symm)).trans (Below.heap_alloc _ _ b (by omega)))).trans Ue1; have Me2 : w4.cell? ⟨b, o + k * 4 + 2, none⟩ = some (.string name') := (World.cell?_of_block (w := w1) (a := ⟨b, o + k * 4 + 2, none⟩) ((hgrow.block b (by simp; omega) (fun e => own_ne own1 (show b < w.heap.size + 1 + 1 + 1 by omega) e.symm)).trans (Below.heap_alloc _ _ b (by omega)))).trans Ue2; have Me3 : w4.cell? ⟨b, o + k * 4 + 3, none⟩ = some (.slice A' kids'.length p') := (World.cell?_of_block (w := w1) (a := ⟨b, o + k * 4 + 3, none⟩) ((hgrow.block b (by simp; omega) (fun e => own_ne own1 (show b < w.heap.size + 1 + 1 + 1 by omega) e.symm)).trans (Below.heap_alloc _ _ b (by omega)))).trans Ue3
        refine hK.out _ _ ?_ (fun hHeld => ?_)
        · ((try dsimp only); refine ⟨?_, ?_, ?_, ?_, ?_, ?_, ?_, ?_, ?_⟩ <;> assumption)
        clear hK K
        try simp only [Act.put, List.setIfInBounds_toArray, List.set_cons_zero, List.set_cons_succ]
        refine reg_take (i := 11) (v := ?v24) rfl (by kernel_rfl) (by kernel_rfl) (by kernel_rfl) (fun _ _ _ h => h) (Or.inl ⟨by kernel_rfl, ?h24⟩) (by assumption) ?r24
        case h24 => (intro w hSw; (try dsimp only at hSw); go_simp; try with_reducible rfl)
        try simp only [Act.put, List.setIfInBounds_toArray, List.set_cons_zero, List.set_cons_succ]
        refine wpAnyH_done (by kernel_rfl) ?_ _
        have ho1 : w1.ownsRow (w.heap.size + 1 + 1 + 1) 30 (exT true (m + 7)).size u7 ((kids.take k).map (putE m nm (Ex.mk bop bn bname bkids))).length xs := own_below own0_ b1 (Nat.le_refl _)
        have hp4 := PartsT.snoc (s := wr.heap.size) (v' := .slice (some ⟨g4, 0, none⟩) (k + 1) cap4) (hp.below b1) ho1 (by omega) hsz1 (fun i a ha => by have := (hp i a ha).2.1; omega) (fun b hb' => (own0_.lt b hb').2) hx hgrow (hat.elim (fun h => Or.inl h.symm) (fun h => Or.inr (by rw [h]; simp [Value.ownBlock])))
        have own4' : w4.ownsRow (w.heap.size + 1 + 1 + 1) 30 (exT true (m + 7)).size (.slice (some ⟨g4, 0, none⟩) (k + 1) cap4) (((kids.take k).map (putE m nm (Ex.mk bop bn bname bkids))) ++ [y]).length (xs ++ [.int .i64 y.op, .int .i64 y.n, .string y.name, .slice Ay y.kids.length py]) := by
          rw [List.length_append, List.length_map, List.length_take, Nat.min_eq_left hk]
          exact own4
        have ownT : OwnT (fun mm => exT mm (m + 7)) 30 w4 (w.heap.size + 1 + 1 + 1) (.slice (some ⟨g4, 0, none⟩) (k + 1) cap4) ((kids.take (k + 1)).map (putE m nm (Ex.mk bop bn bname bkids))) := by
          rw [EL.out]
          exact ⟨_, _, _, own4', hp4⟩
        have hb4 : Below w.heap.size w w4 := ((hb.trans (b1.mono hsz)).alloc (by omega) _).grown hgrow (by simp; omega) (fun r hr => by have := own_ge own1 hr; omega)
        clear own4 own4' hgrow hat hp4 ho1 own1 own0_ hp hx
        go_wp2_with fail
        go_roundw
        case rel => exact ⟨k + 1, by omega, by go_num, ownT, M0, M1, M2, hb4⟩
        case measure => simp [intOf]; omega
      · obtain rfl : k = kids.length := by omega
        rw [List.take_length] at own
        have fin := fun m' => own.slT (fun m => by rw [exT_size, exT_size]) (Nat.le_refl _) m'
        obtain ⟨A', p', hf, _, _⟩ := (fin false).form
        rw [List.length_map] at hf
        subst hf
        clear own
        have rf0 : (wr).frozen? ⟨w.heap.size, 0, none⟩ = false := L0.frozen 0
        have rf1 : (wr).frozen? ⟨w.heap.size, 1, none⟩ = false := L0.frozen 1
        have rf2 : (wr).frozen? ⟨w.heap.size, 2, none⟩ = false := L0.frozen 2
        have rf3 : (wr).frozen? ⟨w.heap.size, 3, none⟩ = false := L0.frozen 3
        have sf0 : (wr).frozen? ⟨w.heap.size + 1 + 1, 0, none⟩ = false := L2.frozen 0
        have sf1 : (wr).frozen? ⟨w.heap.size + 1 + 1, 1, none⟩ = false := L2.frozen 1
        have sf2 : (wr).frozen? ⟨w.heap.size + 1 + 1, 2, none⟩ = false := L2.frozen 2
        have sf3 : (wr).frozen? ⟨w.heap.size + 1 + 1, 3, none⟩ = false := L2.frozen 3
        go_wp2_with fail
        refine bodyPost_ret (v := .agg #[.int .i64 2, .int .i64 n, .string name, .slice A' kids.length p']) (by simp [results, Tryd.results55, go_sem, y2_0, y2_1, y2_2, y2_3]) rfl ?_
        unfold ToTE
        rw [E.out]
        refine ⟨_, rfl, fun m' => ?_, ?_⟩
        · exact exT_mk m' (m + 7) 2 n name _ _ ho hn64 hnm ((fin m').keep (by omega) (by simp [World.setCell]) ((((((Same.refl _ _ _).setCell (p := ⟨w.heap.size, 3, none⟩) (.inl (by first | omega | (simp; omega) | simp)) (.slice A' kids.length p')).setCell (p := ⟨w.heap.size + 1 + 1, 0, none⟩) (.inl (by first | omega | (simp; omega) | simp)) (.int .i64 2)).setCell (p := ⟨w.heap.size + 1 + 1, 1, none⟩) (.inl (by first | omega | (simp; omega) | simp)) (.int .i64 n)).setCell (p := ⟨w.heap.size + 1 + 1, 2, none⟩) (.inl (by first | omega | (simp; omega) | simp)) (.string name)).setCell (p := ⟨w.heap.size + 1 + 1, 3, none⟩) (.inl (by first | omega | (simp; omega) | simp)) (.slice A' kids.length p')))
        · exact (((((hb.setCell (p := ⟨w.heap.size, 3, none⟩) (by first | omega | (simp; omega) | simp) (.slice A' kids.length p')).setCell (p := ⟨w.heap.size + 1 + 1, 0, none⟩) (by first | omega | (simp; omega) | simp) (.int .i64 2)).setCell (p := ⟨w.heap.size + 1 + 1, 1, none⟩) (by first | omega | (simp; omega) | simp) (.int .i64 n)).setCell (p := ⟨w.heap.size + 1 + 1, 2, none⟩) (by first | omega | (simp; omega) | simp) (.string name)).setCell (p := ⟨w.heap.size + 1 + 1, 3, none⟩) (by first | omega | (simp; omega) | simp) (.slice A' kids.length p'))
  have IV : isV 2 name nm = true := by unfold isV; rw [hnn]; rfl
  have q := hnn
  replace IV := Lib.hid IV
  replace fin1 := Lib.hid fin1
  clear fin2 hnn R4 Q4 S4 own0 hbL
  go_wp2_with fail
  refine (fin1.out IV.out).mono ?_
  rintro e w1 ⟨v3', he, hx, b1⟩
  obtain ⟨y, hyy⟩ : ∃ y, putE (m + 1) nm (Ex.mk bop bn bname bkids) (Ex.mk 2 n name kids) = y := ⟨_, rfl⟩
  rw [hyy] at he hx
  replace hyy := Lib.hid hyy
  obtain ⟨Ay, py, hf, _, _⟩ := (exT_kids (m + 1 + 6) (hx false)).form
  subst hf
  subst he
  have hb1 : Below w.heap.size w w1 := hb3.trans (b1.mono hb3.size)
  have S1 := S3.below b1 S3.lt
  have z1 : w.heap.size + 1 + 1 + 1 ≤ w1.heap.size := z3 ▸ b1.size
  have hy : ∀ m', (exT m' (m + 1 + 6 + 1)).rep w1 (w.heap.size + 1 + 1 + 1) w1.heap.size y [.int .i64 y.op, .int .i64 y.n, .string y.name, .slice Ay y.kids.length py] := fun m' => (exT m' (m + 1 + 6 + 1)).more (hx m') (Nat.le_of_eq z3) (Nat.le_refl _)
  clear z3 hx
  have s0 : (w1).cell? ⟨w.heap.size + 1 + 1, 0, none⟩ = some (.int .i64 0) := S1.cell 0
  have sf0 : (w1).frozen? ⟨w.heap.size + 1 + 1, 0, none⟩ = false := S1.frozen 0
  have s1 : (w1).cell? ⟨w.heap.size + 1 + 1, 1, none⟩ = some (.int .i64 0) := S1.cell 1
  have sf1 : (w1).frozen? ⟨w.heap.size + 1 + 1, 1, none⟩ = false := S1.frozen 1
  have s2 : (w1).cell? ⟨w.heap.size + 1 + 1, 2, none⟩ = some (.string ⟨#[]⟩) := S1.cell 2
  have sf2 : (w1).frozen? ⟨w.heap.size + 1 + 1, 2, none⟩ = false := S1.frozen 2
  have s3 : (w1).cell? ⟨w.heap.size + 1 + 1, 3, none⟩ = some (.slice none 0 0) := S1.cell 3
  have sf3 : (w1).frozen? ⟨w.heap.size + 1 + 1, 3, none⟩ = false := S1.frozen 3
  go_wp2_with fail
  refine bodyPost_ret (v := .agg #[.int .i64 y.op, .int .i64 y.n, .string y.name, .slice Ay y.kids.length py]) (by simp [results, Tryd.results55, go_sem, s0, s1, s2, s3]) rfl ?_
  unfold ToTE
  rw [hyy.out]
  refine ⟨_, rfl, fun m' => ?_, ?_⟩
  · exact (exT m' (m + 1 + 6 + 1)).keep (hy m') (by omega) (by simp [World.setCell]) (((((Same.refl _ _ _).setCell (p := ⟨w.heap.size + 1 + 1, 0, none⟩) (.inl (by first | omega | (simp; omega) | simp)) (.int .i64 y.op)).setCell (p := ⟨w.heap.size + 1 + 1, 1, none⟩) (.inl (by first | omega | (simp; omega) | simp)) (.int .i64 y.n)).setCell (p := ⟨w.heap.size + 1 + 1, 2, none⟩) (.inl (by first | omega | (simp; omega) | simp)) (.string y.name)).setCell (p := ⟨w.heap.size + 1 + 1, 3, none⟩) (.inl (by first | omega | (simp; omega) | simp)) (.slice Ay y.kids.length py))
  · exact ((((hb1.setCell (p := ⟨w.heap.size + 1 + 1, 0, none⟩) (by first | omega | (simp; omega) | simp) (.int .i64 y.op)).setCell (p := ⟨w.heap.size + 1 + 1, 1, none⟩) (by first | omega | (simp; omega) | simp) (.int .i64 y.n)).setCell (p := ⟨w.heap.size + 1 + 1, 2, none⟩) (by first | omega | (simp; omega) | simp) (.string y.name)).setCell (p := ⟨w.heap.size + 1 + 1, 3, none⟩) (by first | omega | (simp; omega) | simp) (.slice Ay y.kids.length py))
theorem spec_l2Put : ∀ m : Nat, PutAt m
  | 0 => fun d op n name kids v3 nm db bop bn bname bkids bv3 w lo B lo' B' _ _ _ _ _ _ h => by simp [formB] at h
  | m + 1 => put_step m (spec_l2Put m)
end Go.Proofs.YtnamciblapddbaaDoor

