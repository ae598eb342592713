/-
  The text of an expression, by the reference: the walk. Conditions: the argument reads as data; it is of the form and has few parts.
-/
import Derived.Test.YthfinoapfbhgcaaDoorText2
namespace Go.Proofs.YthfinoapfbhgcaaDoor
open Go.RowKit Go.ChangeShapes Go.WideShapes Go.Deep
set_option linter.unusedVariables false
set_option linter.unusedSimpArgs false
def TextAt (m : Nat) : Prop := ∀ (need : Int) (d : Nat) (op n : Int) (name : ByteArray) (kids : List Ex) (v3 : Value) (w : World) (lo B : Nat) (_ : B ≤ w.heap.size) (_ : I64 op) (_ : I64 n) (_ : name.size ≤ maxLen) (_ : Sl false (exS false d) w lo B kids v3) (_ : formB m (.mk op n name kids) = true) (_ : partsE (.mk op n name kids) ≤ 30) (_ : 1 ≤ need ∧ need ≤ 6),
  Calls Tryd.prog 26 #[.agg #[.int .i64 op, .int .i64 n, .string name, v3], .int .i64 need] w (RetV (.string (txE m need (.mk op n name kids))) w)
theorem cm_snoc {f : Ex → ByteArray} {l : List Ex} {k : Nat} (hk : k < l.length) {s0 o u t : ByteArray} (ho : ((l.take k).foldl (cmS f) (0, s0)).2 = o) (ht : f l[k] = t) (hu : (if 0 < k then o ++ ⟨#[32, 44]⟩ else o) = u) : ((l.take (k + 1)).foldl (cmS f) (0, s0)).2 = (u ++ ⟨#[32]⟩) ++ t := by
  have h1 : ((l.take k).foldl (cmS f) (0, s0)).1 = k := by rw [cm_fst, List.length_take, Nat.min_eq_left (by omega), Nat.zero_add]
  rw [List.take_succ_eq_append_getElem hk, List.foldl_append]
  generalize (l.take k).foldl (cmS f) (0, s0) = q at ho h1 ⊢
  obtain ⟨q1, q2⟩ := q
  change q1 = k at h1
  change q2 = o at ho
  subst h1 ho
  show ((if 0 < q1 then q2 ++ ⟨#[32, 44]⟩ else q2) ++ ⟨#[32]⟩) ++ f l[q1] = _
  rw [hu, ht]
theorem wrapT {x : Int} (h1 : -9223372036854775808 ≤ x) (h2 : x ≤ 9223372036854775807) : IntKind.i64.wrap x = x := by rw [IntKind.wrap_i64]; omega
theorem two_listT {l : List Ex} (h : l.length = 2) : ∃ a b, l = [a, b] := by
  match l, h with
  | [a, b], _ => exact ⟨a, b, rfl⟩
theorem one_listT {l : List Ex} (h : l.length = 1) : ∃ a, l = [a] := by
  match l, h with
  | [a], _ => exact ⟨a, rfl⟩
theorem tx_plain {m : Nat} {need op n : Int} {name : ByteArray} {kids : List Ex} {o : ByteArray} (h : inE (txE m) op n name kids = o) (hl : ¬ levOf op < need) : txE (m + 1) need (.mk op n name kids) = o := by rw [txE, if_neg hl, h]
theorem tx_round {m : Nat} {need op n : Int} {name : ByteArray} {kids : List Ex} {o : ByteArray} (h : inE (txE m) op n name kids = o) (hl : levOf op < need) : txE (m + 1) need (.mk op n name kids) = (⟨#[40, 32]⟩ ++ o) ++ ⟨#[32, 41]⟩ := by rw [txE, if_pos hl, h]
set_option maxRecDepth 100000 in
set_option maxHeartbeats 16000000 in
theorem textE_step (m : Nat) (ih : TextAt m) : TextAt (m + 1) := by
  intro need d op n name kids v3 w lo B hB ho hn64 hnm h3 hform hp hneed
  obtain ⟨nd1, nd6⟩ := hneed
  obtain ⟨A, p, hf, hl1, hl2⟩ := h3.form
  subst hf
  rw [formB, Bool.and_eq_true] at hform
  obtain ⟨hfm, hall⟩ := hform
  have HA := Lib.hid hall
  have HP : Hid (∀ e ∈ kids, partsE e ≤ 30) := fun e he => by
    have := partsL_mem he
    rw [partsE_mk] at hp
    omega
  have HSZ : Hid (∀ (nd : Int) (k : Ex), k ∈ kids → (txE m nd k).size ≤ 600) := fun nd k hk => by
    have h1 := tx_size m nd k (List.all_eq_true.1 hall k hk)
    have h2 := HP.out k hk
    omega
  clear hall
  rcases fm_len hfm with ⟨rfl, hl, n0, n1⟩ | ⟨rfl, hl, hn4⟩ | ⟨rfl, hl, hn4⟩ | ⟨h3l, h10, hl⟩ | ⟨ho12, hl⟩
  · obtain ⟨k, rfl⟩ : ∃ k : Nat, n = (k : Int) := ⟨n.toNat, by omega⟩
    have E : Hid (txE (m + 1) need (.mk 1 (k : Int) name kids) = decT k) := tx_plain (by unfold inE; rw [if_pos rfl]; rfl) (by show ¬ (6 : Int) < need; omega)
    have q6 : decide ((6 : Int) < need) = false := by simp; omega
    clear HA HP HSZ hfm hl hp
    have hb0 : Below w.heap.size w (w.alloc (.cells #[.int .i64 1, .int .i64 (k : Int), .string name, .slice A kids.length p] 25)) := (Below.refl _ _).alloc (Nat.le_refl _) _
    have R0 : Row (w.alloc (.cells #[.int .i64 1, .int .i64 (k : Int), .string name, .slice A kids.length p] 25)) w.heap.size 25 #[.int .i64 1, .int .i64 (k : Int), .string name, .slice A kids.length p] := Row.new w _ _
    go_enter Tryd.func26, Tryd.ntmps26
    go_wp2_with fail
    refine (spec_l2Level 1 _ (by omega) (by omega)).mono ?_
    rw [show levOf 1 = 6 from rfl]
    rintro e w' ⟨rfl, rfl⟩
    go_wp2_with fail
    refine (spec_decT k (by omega) _).mono ?_
    rintro e w2 ⟨rfl, b2⟩
    have hb2 := hb0.trans (b2.mono hb0.size)
    go_wp2_with fail
    go_ret
    exact RetV.mk (by rw [E.out] <;> rfl) rfl hb2
  · have E : Hid (txE (m + 1) need (.mk 2 n name kids) = name) := tx_plain (by unfold inE; rw [if_neg (by omega), if_pos rfl]) (by show ¬ (6 : Int) < need; omega)
    have q6 : decide ((6 : Int) < need) = false := by simp; omega
    clear HA HP HSZ hfm hl hp
    have hb0 : Below w.heap.size w (w.alloc (.cells #[.int .i64 2, .int .i64 n, .string name, .slice A kids.length p] 25)) := (Below.refl _ _).alloc (Nat.le_refl _) _
    have R0 : Row (w.alloc (.cells #[.int .i64 2, .int .i64 n, .string name, .slice A kids.length p] 25)) w.heap.size 25 #[.int .i64 2, .int .i64 n, .string name, .slice A kids.length p] := Row.new w _ _
    go_enter Tryd.func26, Tryd.ntmps26
    go_wp2_with fail
    refine (spec_l2Level 2 _ (by omega) (by omega)).mono ?_
    rw [show levOf 2 = 6 from rfl]
    rintro e w' ⟨rfl, rfl⟩
    go_wp2_with fail
    go_ret
    exact RetV.mk (by rw [E.out] <;> rfl) rfl hb0
  · have HE : Hid (∀ o, (kids.foldl (cmS (txE m 1)) (0, name ++ ⟨#[32, 40]⟩)).2 = o → txE (m + 1) need (.mk 13 n name kids) = o ++ ⟨#[32, 41]⟩) := fun o he => tx_plain (by unfold inE; rw [if_neg (by omega), if_neg (by omega), if_pos rfl, he]) (by show ¬ (6 : Int) < need; omega)
    have q6 : decide ((6 : Int) < need) = false := by simp; omega
    have hs2 : (⟨#[32, 40]⟩ : ByteArray).size = 2 := rfl
    have hs1 : (⟨#[32]⟩ : ByteArray).size = 1 := rfl
    have hs2' : (⟨#[32, 44]⟩ : ByteArray).size = 2 := rfl
    have hs2'' : (⟨#[32, 41]⟩ : ByteArray).size = 2 := rfl
    clear hfm hp
    have hb0 : Below w.heap.size w (w.alloc (.cells #[.int .i64 13, .int .i64 n, .string name, .slice A kids.length p] 25)) := (Below.refl _ _).alloc (Nat.le_refl _) _
    have R0 : Row (w.alloc (.cells #[.int .i64 13, .int .i64 n, .string name, .slice A kids.length p] 25)) w.heap.size 25 #[.int .i64 13, .int .i64 n, .string name, .slice A kids.length p] := Row.new w _ _
    go_enter Tryd.func26, Tryd.ntmps26
    go_wp2_with fail
    refine (spec_l2Level 13 _ (by omega) (by omega)).mono ?_
    rw [show levOf 13 = 6 from rfl]
    rintro e w' ⟨rfl, hw'⟩
    have hb1 : Below w.heap.size w w' := hw' ▸ hb0
    have R1 : Row w' w.heap.size 25 #[.int .i64 13, .int .i64 n, .string name, .slice A kids.length p] := hw' ▸ R0
    clear hw' hb0 R0
    have y0 : w'.cell? ⟨w.heap.size, 0, none⟩ = some (.int .i64 13) := R1.cell 0
    have y1 : w'.cell? ⟨w.heap.size, 1, none⟩ = some (.int .i64 n) := R1.cell 1
    have y2 : w'.cell? ⟨w.heap.size, 2, none⟩ = some (.string name) := R1.cell 2
    have y3 : w'.cell? ⟨w.heap.size, 3, none⟩ = some (.slice A kids.length p) := R1.cell 3
    go_wp2_with fail
    go_loopw [6, 7] (fun s i wr => ∃ (k : Nat) (o : ByteArray), k ≤ kids.length ∧ s = .string o ∧ i = .int .i64 (k : Int) ∧ Hid (((kids.take k).foldl (cmS (txE m 1)) (0, name ++ ⟨#[32, 40]⟩)).2 = o) ∧ o.size ≤ 6 + k * 603 ∧ Row wr w.heap.size 25 #[.int .i64 13, .int .i64 n, .string name, .slice A kids.length p] ∧ Below w.heap.size w wr) (fun _ i _ => kids.length - (intOf i).toNat)
    case atStart => exact ⟨0, _, by omega, rfl, rfl, rfl, by rw [ByteArray.size_append]; omega, R1, hb1⟩
    case round =>
      obtain ⟨k, o, hk, rfl, rfl, HO, hos, R, hb⟩ := hrel
      have hsz := hb.size
      have z0 : wr.cell? ⟨w.heap.size, 0, none⟩ = some (.int .i64 13) := R.cell 0
      have z1 : wr.cell? ⟨w.heap.size, 1, none⟩ = some (.int .i64 n) := R.cell 1
      have z2 : wr.cell? ⟨w.heap.size, 2, none⟩ = some (.string name) := R.cell 2
      have z3 : wr.cell? ⟨w.heap.size, 3, none⟩ = some (.slice A kids.length p) := R.cell 3
      by_cases hkl : k < kids.length
      · obtain ⟨d', rfl⟩ := exS_pos h3 (by omega)
        obtain ⟨b, oo, op', n', name', kids', v', rfl, _, hbB, HL, g0, g1, g2, g3, c0, c1, c2, c3⟩ := ex_get d' (h3.below hb hB) hkl
        obtain ⟨A', p', hf', _, _⟩ := g3.form
        change _ = Value.slice A' kids'.length p' at hf'
        subst hf'
        have hkn : (k : Int) < (kids.length : Int) := by omega
        have hki : (0 : Int) ≤ (k : Int) := by omega
        have hmem : Ex.mk op' n' name' kids' ∈ kids := HL.out ▸ List.getElem_mem hkl
        have hts := HSZ.out 1 _ hmem
        obtain ⟨t, ht⟩ : ∃ t, txE m 1 (.mk op' n' name' kids') = t := ⟨_, rfl⟩
        rw [ht] at hts
        have HT := Lib.hid ht
        have HN : Hid (∀ u, (if 0 < k then o ++ ⟨#[32, 44]⟩ else o) = u → ((kids.take (k + 1)).foldl (cmS (txE m 1)) (0, name ++ ⟨#[32, 40]⟩)).2 = (u ++ ⟨#[32]⟩) ++ t) := fun u hu => by
          exact cm_snoc hkl HO.out (by rw [HL.out, ht]) hu
        clear ht HO
        by_cases hk0 : 0 < k
        · have hk1 : (0 : Int) < (k : Int) := by omega
          have hN := Lib.hid (HN.out (o ++ ⟨#[32, 44]⟩) (if_pos hk0))
          have hs3 : (o ++ ⟨#[32, 44]⟩).size = o.size + 2 := by rw [ByteArray.size_append, hs2']
          have hs4 : ((o ++ ⟨#[32, 44]⟩) ++ ⟨#[32]⟩).size = o.size + 3 := by rw [ByteArray.size_append, hs3, hs1]
          clear HN
          go_wp2_with fail
          refine (ih 1 d' op' n' name' kids' (.slice A' kids'.length p') _ lo B (Nat.le_trans hB hsz) g0 g1 g2 g3 (List.all_eq_true.1 HA.out _ hmem) (HP.out _ hmem) ⟨by omega, by omega⟩).mono ?_
          rw [HT.out]
          rintro e w4 ⟨rfl, b4⟩
          have R4 := R.below b4 R.lt
          have hb4 := hb.trans (b4.mono hb.size)
          clear z0 z1 z2 z3 c0 c1 c2 c3
          go_wp2_with fail
          go_roundw
          case rel => exact ⟨k + 1, _, by omega, rfl, by go_num, hN, by rw [ByteArray.size_append, hs4]; omega, R4, hb4⟩
          case measure => simp [intOf]; omega
        · have hk1 : decide ((0 : Int) < (k : Int)) = false := by simp; omega
          have hN := Lib.hid (HN.out o (if_neg hk0))
          have hs4 : (o ++ ⟨#[32]⟩).size = o.size + 1 := by rw [ByteArray.size_append, hs1]
          clear HN
          go_wp2_with fail
          refine (ih 1 d' op' n' name' kids' (.slice A' kids'.length p') _ lo B (Nat.le_trans hB hsz) g0 g1 g2 g3 (List.all_eq_true.1 HA.out _ hmem) (HP.out _ hmem) ⟨by omega, by omega⟩).mono ?_
          rw [HT.out]
          rintro e w4 ⟨rfl, b4⟩
          have R4 := R.below b4 R.lt
          have hb4 := hb.trans (b4.mono hb.size)
          clear z0 z1 z2 z3 c0 c1 c2 c3
          go_wp2_with fail
          go_roundw
          case rel => exact ⟨k + 1, _, by omega, rfl, by go_num, hN, by rw [ByteArray.size_append, hs4]; omega, R4, hb4⟩
          case measure => simp [intOf]; omega
      · obtain rfl : k = kids.length := by omega
        have E : Hid (txE (m + 1) need (.mk 13 n name kids) = o ++ ⟨#[32, 41]⟩) := HE.out o (by have := HO.out; rw [List.take_length] at this; exact this)
        clear HO HE
        go_wp2_with fail
        go_ret
        exact RetV.mk (by rw [E.out] <;> rfl) rfl hb
  · have hkp0 : 0 < kids.length := by omega
    have hkp1 : 1 < kids.length := by omega
    have hkp0' : (0 : Int) < (kids.length : Int) := by omega
    have hkp1' : (1 : Int) < (kids.length : Int) := by omega
    have HLN := Lib.hid hl
    clear hl
    have hb0 : Below w.heap.size w (w.alloc (.cells #[.int .i64 op, .int .i64 n, .string name, .slice A kids.length p] 25)) := (Below.refl _ _).alloc (Nat.le_refl _) _
    have R0 : Row (w.alloc (.cells #[.int .i64 op, .int .i64 n, .string name, .slice A kids.length p] 25)) w.heap.size 25 #[.int .i64 op, .int .i64 n, .string name, .slice A kids.length p] := Row.new w _ _
    obtain ⟨L, hL⟩ : ∃ L, levOf op = L := ⟨_, rfl⟩
    have hLr := lev_two h3l h10
    rw [hL] at hLr
    have HLV := Lib.hid hL
    have o1 : (op == 1) = false := by simp; omega
    have o2 : (op == 2) = false := by simp; omega
    have o13 : (op == 13) = false := by simp; omega
    have o5 : (L == 5) = false := by simp; omega
    obtain ⟨sg, hsg⟩ : ∃ sg, sgS op = sg := ⟨_, rfl⟩
    have hsg1 : sg.size ≤ 1 := hsg ▸ sgS_size op
    have HSG := Lib.hid hsg
    obtain ⟨d', rfl⟩ := exS_pos h3 (by omega)
    go_enter Tryd.func26, Tryd.ntmps26
    go_wp2_with fail
    refine (spec_l2Level op _ (by omega) (by omega)).mono ?_
    rw [HLV.out]
    rintro e w' ⟨rfl, hw'⟩
    have hb1 : Below w.heap.size w w' := hw' ▸ hb0
    have R1 : Row w' w.heap.size 25 #[.int .i64 op, .int .i64 n, .string name, .slice A kids.length p] := hw' ▸ R0
    clear hw' hb0 R0
    have hBw : B ≤ w'.heap.size := Nat.le_trans hB hb1.size
    have hRl := R1.lt
    obtain ⟨b, oo, xop, xn, xname, xkids, xv, hAx, _, hbB, HLx, g0x, g1x, g2x, g3x, c0x, c1x, c2x, c3x⟩ := ex_get d' (h3.below hb1 hB) hkp0
    obtain ⟨Ax, px, hfx, _, _⟩ := g3x.form
    change _ = Value.slice Ax xkids.length px at hfx
    subst hfx
    obtain ⟨b', oo', yop, yn, yname, ykids, yv, hAy, _, hbBy, HLy, g0y, g1y, g2y, g3y, c0y, c1y, c2y, c3y⟩ := ex_get d' (h3.below hb1 hB) hkp1
    obtain ⟨Ay, py, hfy, _, _⟩ := g3y.form
    change _ = Value.slice Ay ykids.length py at hfy
    subst hfy
    subst hAx
    injection hAy with hAy
    injection hAy with e1 e2
    subst e1 e2
    have hmx : Ex.mk xop xn xname xkids ∈ kids := HLx.out ▸ List.getElem_mem _
    have hmy : Ex.mk yop yn yname ykids ∈ kids := HLy.out ▸ List.getElem_mem _
    obtain ⟨tx, htx⟩ : ∃ t, txE m L (.mk xop xn xname xkids) = t := ⟨_, rfl⟩
    have hsx : tx.size ≤ 600 := htx ▸ HSZ.out L _ hmx
    have HTx := Lib.hid htx
    obtain ⟨ty, hty⟩ : ∃ t, txE m (L + 1) (.mk yop yn yname ykids) = t := ⟨_, rfl⟩
    have hsy : ty.size ≤ 600 := hty ▸ HSZ.out (L + 1) _ hmy
    have HTy := Lib.hid hty
    have hkk : kids = [.mk xop xn xname xkids, .mk yop yn yname ykids] := by
      obtain ⟨a, b, hab⟩ := two_listT HLN.out
      have h1 := HLx.out
      have h2 := HLy.out
      simp only [hab, List.getElem_cons_zero, List.getElem_cons_succ] at h1 h2
      rw [hab, h1, h2]
    have HI : Hid (inE (txE m) op n name kids = ((((tx ++ ⟨#[32]⟩) ++ sg) ++ ⟨#[32]⟩) ++ ty)) := by
      show _ = _
      unfold inE
      rw [if_neg (by omega), if_neg (by omega), if_neg (by omega), if_neg (by omega), hL, hsg, hkk]
      show ((((txE m L (Ex.mk xop xn xname xkids) ++ _) ++ _) ++ _) ++ txE m (L + 1) (Ex.mk yop yn yname ykids)) = _
      rw [htx, hty]
    have hp1 : (⟨#[32]⟩ : ByteArray).size = 1 := rfl
    have hp2 : (⟨#[40, 32]⟩ : ByteArray).size = 2 := rfl
    have hp3 : (⟨#[32, 41]⟩ : ByteArray).size = 2 := rfl
    have hz0 : (tx ++ ⟨#[32]⟩).size ≤ 601 := by simp only [ByteArray.size_append]; omega
    have hz1 : ((tx ++ ⟨#[32]⟩) ++ sg).size ≤ 602 := by simp only [ByteArray.size_append]; omega
    have hz2 : (((tx ++ ⟨#[32]⟩) ++ sg) ++ ⟨#[32]⟩).size ≤ 603 := by simp only [ByteArray.size_append]; omega
    have hz3 : ((((tx ++ ⟨#[32]⟩) ++ sg) ++ ⟨#[32]⟩) ++ ty).size ≤ 1203 := by simp only [ByteArray.size_append]; omega
    have hz9 : (⟨#[40, 32]⟩ ++ ((((tx ++ ⟨#[32]⟩) ++ sg) ++ ⟨#[32]⟩) ++ ty)).size ≤ 1210 := by rw [ByteArray.size_append]; omega
    clear hkk htx hty hsg hL
    have f0 : w'.cell? ⟨w.heap.size, 0, none⟩ = some (.int .i64 op) := R1.cell 0
    have f1 : w'.cell? ⟨w.heap.size, 3, none⟩ = some (.slice (some ⟨b, oo, none⟩) kids.length p) := R1.cell 3
    have f2 : w'.cell? ⟨b, oo, none⟩ = some (.int .i64 xop) := by simpa [Nat.add_assoc] using c0x
    have f3 : w'.cell? ⟨b, oo + 1, none⟩ = some (.int .i64 xn) := by simpa [Nat.add_assoc] using c1x
    have f4 : w'.cell? ⟨b, oo + 2, none⟩ = some (.string xname) := by simpa [Nat.add_assoc] using c2x
    have f5 : w'.cell? ⟨b, oo + 3, none⟩ = some (.slice Ax xkids.length px) := by simpa [Nat.add_assoc] using c3x
    have f6 : w'.cell? ⟨b, oo + 4, none⟩ = some (.int .i64 yop) := by simpa [Nat.add_assoc] using c0y
    have f7 : w'.cell? ⟨b, oo + 5, none⟩ = some (.int .i64 yn) := by simpa [Nat.add_assoc] using c1y
    have f8 : w'.cell? ⟨b, oo + 6, none⟩ = some (.string yname) := by simpa [Nat.add_assoc] using c2y
    have f9 : w'.cell? ⟨b, oo + 7, none⟩ = some (.slice Ay ykids.length py) := by simpa [Nat.add_assoc] using c3y
    go_wp2_with fail
    have d0 : w'.drew.cell? ⟨w.heap.size, 0, none⟩ = some (.int .i64 op) := f0
    have d1 : w'.drew.cell? ⟨w.heap.size, 3, none⟩ = some (.slice (some ⟨b, oo, none⟩) kids.length p) := f1
    have d2 : w'.drew.cell? ⟨b, oo, none⟩ = some (.int .i64 xop) := f2
    have d3 : w'.drew.cell? ⟨b, oo + 1, none⟩ = some (.int .i64 xn) := f3
    have d4 : w'.drew.cell? ⟨b, oo + 2, none⟩ = some (.string xname) := f4
    have d5 : w'.drew.cell? ⟨b, oo + 3, none⟩ = some (.slice Ax xkids.length px) := f5
    have d6 : w'.drew.cell? ⟨b, oo + 4, none⟩ = some (.int .i64 yop) := f6
    have d7 : w'.drew.cell? ⟨b, oo + 5, none⟩ = some (.int .i64 yn) := f7
    have d8 : w'.drew.cell? ⟨b, oo + 6, none⟩ = some (.string yname) := f8
    have d9 : w'.drew.cell? ⟨b, oo + 7, none⟩ = some (.slice Ay ykids.length py) := f9
    have bdd : Below w'.heap.size w' w'.drew := (Below.refl _ _).drew
    refine wp_region_held_drew (S := fun w' => (w'.cell? ⟨w.heap.size, 0, none⟩ = some (.int .i64 op) ∧ w'.cell? ⟨w.heap.size, 3, none⟩ = some (.slice (some ⟨b, oo, none⟩) kids.length p) ∧ w'.cell? ⟨b, oo, none⟩ = some (.int .i64 xop) ∧ w'.cell? ⟨b, oo + 1, none⟩ = some (.int .i64 xn) ∧ w'.cell? ⟨b, oo + 2, none⟩ = some (.string xname) ∧ w'.cell? ⟨b, oo + 3, none⟩ = some (.slice Ax xkids.length px) ∧ w'.cell? ⟨b, oo + 4, none⟩ = some (.int .i64 yop) ∧ w'.cell? ⟨b, oo + 5, none⟩ = some (.int .i64 yn) ∧ w'.cell? ⟨b, oo + 6, none⟩ = some (.string yname) ∧ w'.cell? ⟨b, oo + 7, none⟩ = some (.slice Ay ykids.length py))) (by kernel_rfl) ?_ (fun hHeld => ?_)
    · exact ⟨d0, d1, d2, d3, d4, d5, d6, d7, d8, d9⟩
    generalize w'.drew = wd at hHeld bdd d0 d1 d2 d3 d4 d5 d6 d7 d8 d9 ⊢
    have e0 : Below w.heap.size w wd := hb1.trans (bdd.mono hb1.size)
    have e0_ := bdd
    clear f0 f1 f2 f3 f4 f5 f6 f7 f8 f9
    refine reg_take (i := 0) (v := ?v1) rfl (by kernel_rfl) (by kernel_rfl) (by kernel_rfl) (fun _ _ _ h => h) (Or.inl ⟨by kernel_rfl, ?h1⟩) (by assumption) ?r1
    case h1 => (intro w hSw; (try dsimp only at hSw); go_simp; (try rw [if_neg (by omega)]); try with_reducible rfl)
    try simp only [Act.put, List.setIfInBounds_toArray, List.set_cons_zero, List.set_cons_succ]
    refine reg_take (i := 1) (v := ?v2) rfl (by kernel_rfl) (by kernel_rfl) (by kernel_rfl) (fun _ _ _ h => h) (Or.inl ⟨by kernel_rfl, ?h2⟩) (by assumption) ?r2
    case h2 => (intro w hSw; (try dsimp only at hSw); go_simp; (try rw [if_neg (by omega)]); try with_reducible rfl)
    try simp only [Act.put, List.setIfInBounds_toArray, List.set_cons_zero, List.set_cons_succ]
    refine reg_take (i := 2) (v := ?v3) rfl (by kernel_rfl) (by kernel_rfl) (by kernel_rfl) (fun _ _ _ h => h) (Or.inl ⟨by kernel_rfl, ?h3⟩) (by assumption) ?r3
    case h3 => (intro w hSw; (try dsimp only at hSw); go_simp; (try rw [if_neg (by omega)]); try with_reducible rfl)
    try simp only [Act.put, List.setIfInBounds_toArray, List.set_cons_zero, List.set_cons_succ]
    refine reg_take (i := 3) (v := ?v4) rfl (by kernel_rfl) (by kernel_rfl) (by kernel_rfl) (fun _ _ _ h => h) (Or.inl ⟨by kernel_rfl, ?h4⟩) (by assumption) ?r4
    case h4 => (intro w hSw; (try dsimp only at hSw); go_simp; (try rw [if_neg (by omega)]); try with_reducible rfl)
    try simp only [Act.put, List.setIfInBounds_toArray, List.set_cons_zero, List.set_cons_succ]
    refine reg_take (i := 4) (v := ?v5) rfl (by kernel_rfl) (by kernel_rfl) (by kernel_rfl) (fun _ _ _ h => h) (Or.inl ⟨by kernel_rfl, ?h5⟩) (by assumption) ?r5
    case h5 => (intro w hSw; (try dsimp only at hSw); go_simp; (try rw [if_neg (by omega)]); try with_reducible rfl)
    try simp only [Act.put, List.setIfInBounds_toArray, List.set_cons_zero, List.set_cons_succ]
    refine reg_take (i := 7) (v := ?v6) rfl (by kernel_rfl) (by kernel_rfl) (by kernel_rfl) (fun _ _ _ h => h) (Or.inl ⟨by kernel_rfl, ?h6⟩) (by assumption) ?r6
    case h6 => (intro w hSw; (try dsimp only at hSw); go_simp; (try rw [if_neg (by omega)]); try with_reducible rfl)
    try simp only [Act.put, List.setIfInBounds_toArray, List.set_cons_zero, List.set_cons_succ]
    refine reg_take (i := 8) (v := ?v7) rfl (by kernel_rfl) (by kernel_rfl) (by kernel_rfl) (fun _ _ _ h => h) (Or.inl ⟨by kernel_rfl, ?h7⟩) (by assumption) ?r7
    case h7 => (intro w hSw; (try dsimp only at hSw); go_simp; (try rw [if_neg (by omega)]); try with_reducible rfl)
    try simp only [Act.put, List.setIfInBounds_toArray, List.set_cons_zero, List.set_cons_succ]
    refine reg_take (i := 12) (v := ?v8) rfl (by kernel_rfl) (by kernel_rfl) (by kernel_rfl) (fun _ _ _ h => h) (Or.inl ⟨by kernel_rfl, ?h8⟩) (by assumption) ?r8
    case h8 => (intro w hSw; (try dsimp only at hSw); go_simp; (try rw [if_neg (by omega)]); try with_reducible rfl)
    try simp only [Act.put, List.setIfInBounds_toArray, List.set_cons_zero, List.set_cons_succ]
    refine reg_take (i := 13) (v := ?v9) rfl (by kernel_rfl) (by kernel_rfl) (by kernel_rfl) (fun _ _ _ h => h) (Or.inl ⟨by kernel_rfl, ?h9⟩) (by assumption) ?r9
    case h9 => (intro w hSw; (try dsimp only at hSw); go_simp; (try rw [if_neg (by omega)]); try with_reducible rfl)
    try simp only [Act.put, List.setIfInBounds_toArray, List.set_cons_zero, List.set_cons_succ]
    refine reg_take (i := 14) (v := ?v10) rfl (by kernel_rfl) (by kernel_rfl) (by kernel_rfl) (fun _ _ _ h => h) (Or.inl ⟨by kernel_rfl, ?h10⟩) (by assumption) ?r10
    case h10 => (intro w hSw; (try dsimp only at hSw); go_simp; (try rw [if_neg (by omega)]); try with_reducible rfl)
    try simp only [Act.put, List.setIfInBounds_toArray, List.set_cons_zero, List.set_cons_succ]
    refine reg_take (i := 15) (v := ?v11) rfl (by kernel_rfl) (by kernel_rfl) (by kernel_rfl) (fun _ _ _ h => h) (Or.inl ⟨by kernel_rfl, ?h11⟩) (by assumption) ?r11
    case h11 => (intro w hSw; (try dsimp only at hSw); go_simp; (try rw [if_neg (by omega)]); try with_reducible rfl)
    try simp only [Act.put, List.setIfInBounds_toArray, List.set_cons_zero, List.set_cons_succ]
    refine reg_take (i := 16) (v := ?v12) rfl (by kernel_rfl) (by kernel_rfl) (by kernel_rfl) (fun _ _ _ h => h) (Or.inl ⟨by kernel_rfl, ?h12⟩) (by assumption) ?r12
    case h12 => (intro w hSw; (try dsimp only at hSw); go_simp; (try rw [if_neg (by omega)]); try with_reducible rfl)
    try simp only [Act.put, List.setIfInBounds_toArray, List.set_cons_zero, List.set_cons_succ]
    refine reg_take (i := 17) (v := ?v13) rfl (by kernel_rfl) (by kernel_rfl) (by kernel_rfl) (fun _ _ _ h => h) (Or.inl ⟨by kernel_rfl, ?h13⟩) (by assumption) ?r13
    case h13 => (intro w hSw; (try dsimp only at hSw); go_simp; (try rw [if_neg (by omega)]); try with_reducible rfl)
    try simp only [Act.put, List.setIfInBounds_toArray, List.set_cons_zero, List.set_cons_succ]
    refine reg_call (i := 5) (by kernel_rfl) rfl (fun K hK => ?_)
    go_simp
    refine (ih L d' xop xn xname xkids (.slice Ax xkids.length px) _ lo B (Nat.le_trans hB (Below.size e0)) g0x g1x g2x (g3x.below e0_ hBw) (List.all_eq_true.1 HA.out _ hmx) (HP.out _ hmx) ⟨by omega, by omega⟩).mono ?_
    rw [HTx.out]
    rintro e v1 ⟨rfl, x1⟩
    have e1 : Below w.heap.size w v1 := e0.trans (x1.mono (Below.size e0))
    have e1_ : Below w'.heap.size w' v1 := e0_.trans (x1.mono (Below.size e0_))
    have q1_0 : v1.cell? ⟨w.heap.size, 0, none⟩ = some (.int .i64 op) := (x1.cell (p := ⟨w.heap.size, 0, none⟩) (show w.heap.size < wd.heap.size from Nat.lt_of_lt_of_le (show w.heap.size < w'.heap.size by omega) (Below.size e0_))).trans d0
    have q1_1 : v1.cell? ⟨w.heap.size, 3, none⟩ = some (.slice (some ⟨b, oo, none⟩) kids.length p) := (x1.cell (p := ⟨w.heap.size, 3, none⟩) (show w.heap.size < wd.heap.size from Nat.lt_of_lt_of_le (show w.heap.size < w'.heap.size by omega) (Below.size e0_))).trans d1
    have q1_2 : v1.cell? ⟨b, oo, none⟩ = some (.int .i64 xop) := (x1.cell (p := ⟨b, oo, none⟩) (show b < wd.heap.size from Nat.lt_of_lt_of_le (show b < w'.heap.size by omega) (Below.size e0_))).trans d2
    have q1_3 : v1.cell? ⟨b, oo + 1, none⟩ = some (.int .i64 xn) := (x1.cell (p := ⟨b, oo + 1, none⟩) (show b < wd.heap.size from Nat.lt_of_lt_of_le (show b < w'.heap.size by omega) (Below.size e0_))).trans d3
    have q1_4 : v1.cell? ⟨b, oo + 2, none⟩ = some (.string xname) := (x1.cell (p := ⟨b, oo + 2, none⟩) (show b < wd.heap.size from Nat.lt_of_lt_of_le (show b < w'.heap.size by omega) (Below.size e0_))).trans d4
    have q1_5 : v1.cell? ⟨b, oo + 3, none⟩ = some (.slice Ax xkids.length px) := (x1.cell (p := ⟨b, oo + 3, none⟩) (show b < wd.heap.size from Nat.lt_of_lt_of_le (show b < w'.heap.size by omega) (Below.size e0_))).trans d5
    have q1_6 : v1.cell? ⟨b, oo + 4, none⟩ = some (.int .i64 yop) := (x1.cell (p := ⟨b, oo + 4, none⟩) (show b < wd.heap.size from Nat.lt_of_lt_of_le (show b < w'.heap.size by omega) (Below.size e0_))).trans d6
    have q1_7 : v1.cell? ⟨b, oo + 5, none⟩ = some (.int .i64 yn) := (x1.cell (p := ⟨b, oo + 5, none⟩) (show b < wd.heap.size from Nat.lt_of_lt_of_le (show b < w'.heap.size by omega) (Below.size e0_))).trans d7
    have q1_8 : v1.cell? ⟨b, oo + 6, none⟩ = some (.string yname) := (x1.cell (p := ⟨b, oo + 6, none⟩) (show b < wd.heap.size from Nat.lt_of_lt_of_le (show b < w'.heap.size by omega) (Below.size e0_))).trans d8
    have q1_9 : v1.cell? ⟨b, oo + 7, none⟩ = some (.slice Ay ykids.length py) := (x1.cell (p := ⟨b, oo + 7, none⟩) (show b < wd.heap.size from Nat.lt_of_lt_of_le (show b < w'.heap.size by omega) (Below.size e0_))).trans d9
    refine hK.out _ _ ?_ (fun hHeld => ?_)
    · exact ⟨q1_0, q1_1, q1_2, q1_3, q1_4, q1_5, q1_6, q1_7, q1_8, q1_9⟩
    clear hK K
    try simp only [Act.put, List.setIfInBounds_toArray, List.set_cons_zero, List.set_cons_succ]
    refine reg_take (i := 6) (v := ?v15) rfl (by kernel_rfl) (by kernel_rfl) (by kernel_rfl) (fun _ _ _ h => h) (Or.inl ⟨by kernel_rfl, ?h15⟩) (by assumption) ?r15
    case h15 => (intro w hSw; (try dsimp only at hSw); go_simp; (try rw [if_neg (by omega)]); try with_reducible rfl)
    try simp only [Act.put, List.setIfInBounds_toArray, List.set_cons_zero, List.set_cons_succ]
    refine reg_call (i := 9) (by kernel_rfl) rfl (fun K hK => ?_)
    go_simp
    refine (spec_l2Sign op _ (by omega) (by omega)).mono ?_
    rw [HSG.out]
    rintro e v_ ⟨rfl, hv_⟩
    subst hv_
    refine hK.out _ _ ?_ (fun hHeld => ?_)
    · exact ⟨q1_0, q1_1, q1_2, q1_3, q1_4, q1_5, q1_6, q1_7, q1_8, q1_9⟩
    clear hK K
    try simp only [Act.put, List.setIfInBounds_toArray, List.set_cons_zero, List.set_cons_succ]
    refine reg_take (i := 10) (v := ?v17) rfl (by kernel_rfl) (by kernel_rfl) (by kernel_rfl) (fun _ _ _ h => h) (Or.inl ⟨by kernel_rfl, ?h17⟩) (by assumption) ?r17
    case h17 => (intro w hSw; (try dsimp only at hSw); go_simp; (try rw [if_neg (by omega)]); try with_reducible rfl)
    try simp only [Act.put, List.setIfInBounds_toArray, List.set_cons_zero, List.set_cons_succ]
    refine reg_take (i := 11) (v := ?v18) rfl (by kernel_rfl) (by kernel_rfl) (by kernel_rfl) (fun _ _ _ h => h) (Or.inl ⟨by kernel_rfl, ?h18⟩) (by assumption) ?r18
    case h18 => (intro w hSw; (try dsimp only at hSw); go_simp; (try rw [if_neg (by omega)]); try with_reducible rfl)
    try simp only [Act.put, List.setIfInBounds_toArray, List.set_cons_zero, List.set_cons_succ]
    refine reg_call (i := 18) (by kernel_rfl) rfl (fun K hK => ?_)
    go_simp
    rw [show IntKind.i64.wrap (L + 1) = L + 1 from wrapT (by omega) (by omega)]
    refine (ih (L + 1) d' yop yn yname ykids (.slice Ay ykids.length py) _ lo B (Nat.le_trans hB (Below.size e1)) g0y g1y g2y (g3y.below e1_ hBw) (List.all_eq_true.1 HA.out _ hmy) (HP.out _ hmy) ⟨by omega, by omega⟩).mono ?_
    rw [HTy.out]
    rintro e v2 ⟨rfl, x2⟩
    have e2 : Below w.heap.size w v2 := e1.trans (x2.mono (Below.size e1))
    have e2_ : Below w'.heap.size w' v2 := e1_.trans (x2.mono (Below.size e1_))
    have q2_0 : v2.cell? ⟨w.heap.size, 0, none⟩ = some (.int .i64 op) := (x2.cell (p := ⟨w.heap.size, 0, none⟩) (show w.heap.size < v1.heap.size from Nat.lt_of_lt_of_le (show w.heap.size < w'.heap.size by omega) (Below.size e1_))).trans q1_0
    have q2_1 : v2.cell? ⟨w.heap.size, 3, none⟩ = some (.slice (some ⟨b, oo, none⟩) kids.length p) := (x2.cell (p := ⟨w.heap.size, 3, none⟩) (show w.heap.size < v1.heap.size from Nat.lt_of_lt_of_le (show w.heap.size < w'.heap.size by omega) (Below.size e1_))).trans q1_1
    have q2_2 : v2.cell? ⟨b, oo, none⟩ = some (.int .i64 xop) := (x2.cell (p := ⟨b, oo, none⟩) (show b < v1.heap.size from Nat.lt_of_lt_of_le (show b < w'.heap.size by omega) (Below.size e1_))).trans q1_2
    have q2_3 : v2.cell? ⟨b, oo + 1, none⟩ = some (.int .i64 xn) := (x2.cell (p := ⟨b, oo + 1, none⟩) (show b < v1.heap.size from Nat.lt_of_lt_of_le (show b < w'.heap.size by omega) (Below.size e1_))).trans q1_3
    have q2_4 : v2.cell? ⟨b, oo + 2, none⟩ = some (.string xname) := (x2.cell (p := ⟨b, oo + 2, none⟩) (show b < v1.heap.size from Nat.lt_of_lt_of_le (show b < w'.heap.size by omega) (Below.size e1_))).trans q1_4
    have q2_5 : v2.cell? ⟨b, oo + 3, none⟩ = some (.slice Ax xkids.length px) := (x2.cell (p := ⟨b, oo + 3, none⟩) (show b < v1.heap.size from Nat.lt_of_lt_of_le (show b < w'.heap.size by omega) (Below.size e1_))).trans q1_5
    have q2_6 : v2.cell? ⟨b, oo + 4, none⟩ = some (.int .i64 yop) := (x2.cell (p := ⟨b, oo + 4, none⟩) (show b < v1.heap.size from Nat.lt_of_lt_of_le (show b < w'.heap.size by omega) (Below.size e1_))).trans q1_6
    have q2_7 : v2.cell? ⟨b, oo + 5, none⟩ = some (.int .i64 yn) := (x2.cell (p := ⟨b, oo + 5, none⟩) (show b < v1.heap.size from Nat.lt_of_lt_of_le (show b < w'.heap.size by omega) (Below.size e1_))).trans q1_7
    have q2_8 : v2.cell? ⟨b, oo + 6, none⟩ = some (.string yname) := (x2.cell (p := ⟨b, oo + 6, none⟩) (show b < v1.heap.size from Nat.lt_of_lt_of_le (show b < w'.heap.size by omega) (Below.size e1_))).trans q1_8
    have q2_9 : v2.cell? ⟨b, oo + 7, none⟩ = some (.slice Ay ykids.length py) := (x2.cell (p := ⟨b, oo + 7, none⟩) (show b < v1.heap.size from Nat.lt_of_lt_of_le (show b < w'.heap.size by omega) (Below.size e1_))).trans q1_9
    refine hK.out _ _ ?_ (fun hHeld => ?_)
    · exact ⟨q2_0, q2_1, q2_2, q2_3, q2_4, q2_5, q2_6, q2_7, q2_8, q2_9⟩
    clear hK K
    try simp only [Act.put, List.setIfInBounds_toArray, List.set_cons_zero, List.set_cons_succ]
    refine reg_take (i := 19) (v := ?v20) rfl (by kernel_rfl) (by kernel_rfl) (by kernel_rfl) (fun _ _ _ h => h) (Or.inl ⟨by kernel_rfl, ?h20⟩) (by assumption) ?r20
    case h20 => (intro w hSw; (try dsimp only at hSw); go_simp; (try rw [if_neg (by omega)]); try with_reducible rfl)
    try simp only [Act.put, List.setIfInBounds_toArray, List.set_cons_zero, List.set_cons_succ]
    refine reg_take (i := 20) (v := ?v21) rfl (by kernel_rfl) (by kernel_rfl) (by kernel_rfl) (fun _ _ _ h => h) (Or.inl ⟨by kernel_rfl, ?h21⟩) (by assumption) ?r21
    case h21 => (intro w hSw; (try dsimp only at hSw); go_simp; (try rw [if_neg (by omega)]); try with_reducible rfl)
    try simp only [Act.put, List.setIfInBounds_toArray, List.set_cons_zero, List.set_cons_succ]
    refine wpAnyH_done (by kernel_rfl) ?_ _
    by_cases hlt : L < need
    · have E : Hid (txE (m + 1) need (.mk op n name kids) = (⟨#[40, 32]⟩ ++ ((((tx ++ ⟨#[32]⟩) ++ sg) ++ ⟨#[32]⟩) ++ ty)) ++ ⟨#[32, 41]⟩) := tx_round HI.out (by rw [HLV.out]; exact hlt)
      clear HI
      go_wp2_with fail
      go_ret
      exact RetV.mk (by rw [E.out] <;> rfl) rfl e2
    · have E : Hid (txE (m + 1) need (.mk op n name kids) = ((((tx ++ ⟨#[32]⟩) ++ sg) ++ ⟨#[32]⟩) ++ ty)) := tx_plain HI.out (by rw [HLV.out]; exact hlt)
      have hlt' : decide (L < need) = false := decide_eq_false hlt
      clear HI
      go_wp2_with fail
      go_ret
      exact RetV.mk (by rw [E.out] <;> rfl) rfl e2
  · rcases ho12 with rfl | rfl
    · have hkp0 : 0 < kids.length := by omega
      have hkp0' : (0 : Int) < (kids.length : Int) := by omega
      have HLN := Lib.hid hl
      clear hl
      have hb0 : Below w.heap.size w (w.alloc (.cells #[.int .i64 11, .int .i64 n, .string name, .slice A kids.length p] 25)) := (Below.refl _ _).alloc (Nat.le_refl _) _
      have R0 : Row (w.alloc (.cells #[.int .i64 11, .int .i64 n, .string name, .slice A kids.length p] 25)) w.heap.size 25 #[.int .i64 11, .int .i64 n, .string name, .slice A kids.length p] := Row.new w _ _
      obtain ⟨sg, hsg⟩ : ∃ sg, sgS 11 = sg := ⟨_, rfl⟩
      have hsg1 : sg.size ≤ 1 := hsg ▸ sgS_size 11
      have HSG := Lib.hid hsg
      obtain ⟨d', rfl⟩ := exS_pos h3 (by omega)
      go_enter Tryd.func26, Tryd.ntmps26
      go_wp2_with fail
      refine (spec_l2Level 11 _ (by omega) (by omega)).mono ?_
      rw [show levOf 11 = 5 from rfl]
      rintro e w' ⟨rfl, hw'⟩
      have hb1 : Below w.heap.size w w' := hw' ▸ hb0
      have R1 : Row w' w.heap.size 25 #[.int .i64 11, .int .i64 n, .string name, .slice A kids.length p] := hw' ▸ R0
      clear hw' hb0 R0
      have hBw : B ≤ w'.heap.size := Nat.le_trans hB hb1.size
      have hRl := R1.lt
      obtain ⟨b, oo, xop, xn, xname, xkids, xv, hAx, _, hbB, HLx, g0x, g1x, g2x, g3x, c0x, c1x, c2x, c3x⟩ := ex_get d' (h3.below hb1 hB) hkp0
      obtain ⟨Ax, px, hfx, _, _⟩ := g3x.form
      change _ = Value.slice Ax xkids.length px at hfx
      subst hfx
      subst hAx
      have hmx : Ex.mk xop xn xname xkids ∈ kids := HLx.out ▸ List.getElem_mem _
      obtain ⟨tx, htx⟩ : ∃ t, txE m 5 (.mk xop xn xname xkids) = t := ⟨_, rfl⟩
      have hsx : tx.size ≤ 600 := htx ▸ HSZ.out 5 _ hmx
      have HTx := Lib.hid htx
      have hkk : kids = [.mk xop xn xname xkids] := by
        obtain ⟨a, hab⟩ := one_listT HLN.out
        have h1 := HLx.out
        simp only [hab, List.getElem_cons_zero] at h1
        rw [hab, h1]
      have HI : Hid (inE (txE m) 11 n name kids = ((sg ++ ⟨#[32]⟩) ++ tx)) := by
        show _ = _
        unfold inE
        rw [if_neg (by omega), if_neg (by omega), if_neg (by omega), if_pos (show levOf 11 = 5 from rfl), hsg, hkk]
        show ((_ ++ _) ++ txE m 5 (Ex.mk xop xn xname xkids)) = _
        rw [htx]
      have hp1 : (⟨#[32]⟩ : ByteArray).size = 1 := rfl
      have hp2 : (⟨#[40, 32]⟩ : ByteArray).size = 2 := rfl
      have hp3 : (⟨#[32, 41]⟩ : ByteArray).size = 2 := rfl
      have hz0 : (sg ++ ⟨#[32]⟩).size ≤ 2 := by simp only [ByteArray.size_append]; omega
      have hz1 : ((sg ++ ⟨#[32]⟩) ++ tx).size ≤ 602 := by simp only [ByteArray.size_append]; omega
      have hz9 : (⟨#[40, 32]⟩ ++ ((sg ++ ⟨#[32]⟩) ++ tx)).size ≤ 1210 := by rw [ByteArray.size_append]; omega
      clear hkk htx hsg
      have f0 : w'.cell? ⟨w.heap.size, 0, none⟩ = some (.int .i64 11) := R1.cell 0
      have f1 : w'.cell? ⟨w.heap.size, 3, none⟩ = some (.slice (some ⟨b, oo, none⟩) kids.length p) := R1.cell 3
      have f2 : w'.cell? ⟨b, oo, none⟩ = some (.int .i64 xop) := by simpa [Nat.add_assoc] using c0x
      have f3 : w'.cell? ⟨b, oo + 1, none⟩ = some (.int .i64 xn) := by simpa [Nat.add_assoc] using c1x
      have f4 : w'.cell? ⟨b, oo + 2, none⟩ = some (.string xname) := by simpa [Nat.add_assoc] using c2x
      have f5 : w'.cell? ⟨b, oo + 3, none⟩ = some (.slice Ax xkids.length px) := by simpa [Nat.add_assoc] using c3x
      go_wp2_with fail
      have d0 : w'.drew.cell? ⟨w.heap.size, 0, none⟩ = some (.int .i64 11) := f0
      have d1 : w'.drew.cell? ⟨w.heap.size, 3, none⟩ = some (.slice (some ⟨b, oo, none⟩) kids.length p) := f1
      have d2 : w'.drew.cell? ⟨b, oo, none⟩ = some (.int .i64 xop) := f2
      have d3 : w'.drew.cell? ⟨b, oo + 1, none⟩ = some (.int .i64 xn) := f3
      have d4 : w'.drew.cell? ⟨b, oo + 2, none⟩ = some (.string xname) := f4
      have d5 : w'.drew.cell? ⟨b, oo + 3, none⟩ = some (.slice Ax xkids.length px) := f5
      have bdd : Below w'.heap.size w' w'.drew := (Below.refl _ _).drew
      refine wp_region_held_drew (S := fun w' => (w'.cell? ⟨w.heap.size, 0, none⟩ = some (.int .i64 11) ∧ w'.cell? ⟨w.heap.size, 3, none⟩ = some (.slice (some ⟨b, oo, none⟩) kids.length p) ∧ w'.cell? ⟨b, oo, none⟩ = some (.int .i64 xop) ∧ w'.cell? ⟨b, oo + 1, none⟩ = some (.int .i64 xn) ∧ w'.cell? ⟨b, oo + 2, none⟩ = some (.string xname) ∧ w'.cell? ⟨b, oo + 3, none⟩ = some (.slice Ax xkids.length px))) (by kernel_rfl) ?_ (fun hHeld => ?_)
      · exact ⟨d0, d1, d2, d3, d4, d5⟩
      generalize w'.drew = wd at hHeld bdd d0 d1 d2 d3 d4 d5 ⊢
      have e0 : Below w.heap.size w wd := hb1.trans (bdd.mono hb1.size)
      have e0_ := bdd
      clear f0 f1 f2 f3 f4 f5
      refine reg_take (i := 0) (v := ?v22) rfl (by kernel_rfl) (by kernel_rfl) (by kernel_rfl) (fun _ _ _ h => h) (Or.inl ⟨by kernel_rfl, ?h22⟩) (by assumption) ?r22
      case h22 => (intro w hSw; (try dsimp only at hSw); go_simp; (try rw [if_neg (by omega)]); try with_reducible rfl)
      try simp only [Act.put, List.setIfInBounds_toArray, List.set_cons_zero, List.set_cons_succ]
      refine reg_take (i := 1) (v := ?v23) rfl (by kernel_rfl) (by kernel_rfl) (by kernel_rfl) (fun _ _ _ h => h) (Or.inl ⟨by kernel_rfl, ?h23⟩) (by assumption) ?r23
      case h23 => (intro w hSw; (try dsimp only at hSw); go_simp; (try rw [if_neg (by omega)]); try with_reducible rfl)
      try simp only [Act.put, List.setIfInBounds_toArray, List.set_cons_zero, List.set_cons_succ]
      refine reg_take (i := 4) (v := ?v24) rfl (by kernel_rfl) (by kernel_rfl) (by kernel_rfl) (fun _ _ _ h => h) (Or.inl ⟨by kernel_rfl, ?h24⟩) (by assumption) ?r24
      case h24 => (intro w hSw; (try dsimp only at hSw); go_simp; (try rw [if_neg (by omega)]); try with_reducible rfl)
      try simp only [Act.put, List.setIfInBounds_toArray, List.set_cons_zero, List.set_cons_succ]
      refine reg_take (i := 5) (v := ?v25) rfl (by kernel_rfl) (by kernel_rfl) (by kernel_rfl) (fun _ _ _ h => h) (Or.inl ⟨by kernel_rfl, ?h25⟩) (by assumption) ?r25
      case h25 => (intro w hSw; (try dsimp only at hSw); go_simp; (try rw [if_neg (by omega)]); try with_reducible rfl)
      try simp only [Act.put, List.setIfInBounds_toArray, List.set_cons_zero, List.set_cons_succ]
      refine reg_take (i := 6) (v := ?v26) rfl (by kernel_rfl) (by kernel_rfl) (by kernel_rfl) (fun _ _ _ h => h) (Or.inl ⟨by kernel_rfl, ?h26⟩) (by assumption) ?r26
      case h26 => (intro w hSw; (try dsimp only at hSw); go_simp; (try rw [if_neg (by omega)]); try with_reducible rfl)
      try simp only [Act.put, List.setIfInBounds_toArray, List.set_cons_zero, List.set_cons_succ]
      refine reg_take (i := 7) (v := ?v27) rfl (by kernel_rfl) (by kernel_rfl) (by kernel_rfl) (fun _ _ _ h => h) (Or.inl ⟨by kernel_rfl, ?h27⟩) (by assumption) ?r27
      case h27 => (intro w hSw; (try dsimp only at hSw); go_simp; (try rw [if_neg (by omega)]); try with_reducible rfl)
      try simp only [Act.put, List.setIfInBounds_toArray, List.set_cons_zero, List.set_cons_succ]
      refine reg_call (i := 2) (by kernel_rfl) rfl (fun K hK => ?_)
      go_simp
      refine (spec_l2Sign 11 _ (by omega) (by omega)).mono ?_
      rw [HSG.out]
      rintro e v_ ⟨rfl, hv_⟩
      subst hv_
      refine hK.out _ _ ?_ (fun hHeld => ?_)
      · exact ⟨d0, d1, d2, d3, d4, d5⟩
      clear hK K
      try simp only [Act.put, List.setIfInBounds_toArray, List.set_cons_zero, List.set_cons_succ]
      refine reg_take (i := 3) (v := ?v29) rfl (by kernel_rfl) (by kernel_rfl) (by kernel_rfl) (fun _ _ _ h => h) (Or.inl ⟨by kernel_rfl, ?h29⟩) (by assumption) ?r29
      case h29 => (intro w hSw; (try dsimp only at hSw); go_simp; (try rw [if_neg (by omega)]); try with_reducible rfl)
      try simp only [Act.put, List.setIfInBounds_toArray, List.set_cons_zero, List.set_cons_succ]
      refine reg_call (i := 8) (by kernel_rfl) rfl (fun K hK => ?_)
      go_simp
      refine (ih 5 d' xop xn xname xkids (.slice Ax xkids.length px) _ lo B (Nat.le_trans hB (Below.size e0)) g0x g1x g2x (g3x.below e0_ hBw) (List.all_eq_true.1 HA.out _ hmx) (HP.out _ hmx) ⟨by omega, by omega⟩).mono ?_
      rw [HTx.out]
      rintro e v1 ⟨rfl, x1⟩
      have e1 : Below w.heap.size w v1 := e0.trans (x1.mono (Below.size e0))
      have e1_ : Below w'.heap.size w' v1 := e0_.trans (x1.mono (Below.size e0_))
      have q1_0 : v1.cell? ⟨w.heap.size, 0, none⟩ = some (.int .i64 11) := (x1.cell (p := ⟨w.heap.size, 0, none⟩) (show w.heap.size < wd.heap.size from Nat.lt_of_lt_of_le (show w.heap.size < w'.heap.size by omega) (Below.size e0_))).trans d0
      have q1_1 : v1.cell? ⟨w.heap.size, 3, none⟩ = some (.slice (some ⟨b, oo, none⟩) kids.length p) := (x1.cell (p := ⟨w.heap.size, 3, none⟩) (show w.heap.size < wd.heap.size from Nat.lt_of_lt_of_le (show w.heap.size < w'.heap.size by omega) (Below.size e0_))).trans d1
      have q1_2 : v1.cell? ⟨b, oo, none⟩ = some (.int .i64 xop) := (x1.cell (p := ⟨b, oo, none⟩) (show b < wd.heap.size from Nat.lt_of_lt_of_le (show b < w'.heap.size by omega) (Below.size e0_))).trans d2
      have q1_3 : v1.cell? ⟨b, oo + 1, none⟩ = some (.int .i64 xn) := (x1.cell (p := ⟨b, oo + 1, none⟩) (show b < wd.heap.size from Nat.lt_of_lt_of_le (show b < w'.heap.size by omega) (Below.size e0_))).trans d3
      have q1_4 : v1.cell? ⟨b, oo + 2, none⟩ = some (.string xname) := (x1.cell (p := ⟨b, oo + 2, none⟩) (show b < wd.heap.size from Nat.lt_of_lt_of_le (show b < w'.heap.size by omega) (Below.size e0_))).trans d4
      have q1_5 : v1.cell? ⟨b, oo + 3, none⟩ = some (.slice Ax xkids.length px) := (x1.cell (p := ⟨b, oo + 3, none⟩) (show b < wd.heap.size from Nat.lt_of_lt_of_le (show b < w'.heap.size by omega) (Below.size e0_))).trans d5
      refine hK.out _ _ ?_ (fun hHeld => ?_)
      · exact ⟨q1_0, q1_1, q1_2, q1_3, q1_4, q1_5⟩
      clear hK K
      try simp only [Act.put, List.setIfInBounds_toArray, List.set_cons_zero, List.set_cons_succ]
      refine reg_take (i := 9) (v := ?v31) rfl (by kernel_rfl) (by kernel_rfl) (by kernel_rfl) (fun _ _ _ h => h) (Or.inl ⟨by kernel_rfl, ?h31⟩) (by assumption) ?r31
      case h31 => (intro w hSw; (try dsimp only at hSw); go_simp; (try rw [if_neg (by omega)]); try with_reducible rfl)
      try simp only [Act.put, List.setIfInBounds_toArray, List.set_cons_zero, List.set_cons_succ]
      refine reg_take (i := 10) (v := ?v32) rfl (by kernel_rfl) (by kernel_rfl) (by kernel_rfl) (fun _ _ _ h => h) (Or.inl ⟨by kernel_rfl, ?h32⟩) (by assumption) ?r32
      case h32 => (intro w hSw; (try dsimp only at hSw); go_simp; (try rw [if_neg (by omega)]); try with_reducible rfl)
      try simp only [Act.put, List.setIfInBounds_toArray, List.set_cons_zero, List.set_cons_succ]
      refine wpAnyH_done (by kernel_rfl) ?_ _
      by_cases hlt : 5 < need
      · have E : Hid (txE (m + 1) need (.mk 11 n name kids) = (⟨#[40, 32]⟩ ++ ((sg ++ ⟨#[32]⟩) ++ tx)) ++ ⟨#[32, 41]⟩) := tx_round HI.out (hlt)
        clear HI
        go_wp2_with fail
        go_ret
        exact RetV.mk (by rw [E.out] <;> rfl) rfl e1
      · have E : Hid (txE (m + 1) need (.mk 11 n name kids) = ((sg ++ ⟨#[32]⟩) ++ tx)) := tx_plain HI.out (hlt)
        have hlt' : decide (5 < need) = false := decide_eq_false hlt
        clear HI
        go_wp2_with fail
        go_ret
        exact RetV.mk (by rw [E.out] <;> rfl) rfl e1
    · have hkp0 : 0 < kids.length := by omega
      have hkp0' : (0 : Int) < (kids.length : Int) := by omega
      have HLN := Lib.hid hl
      clear hl
      have hb0 : Below w.heap.size w (w.alloc (.cells #[.int .i64 12, .int .i64 n, .string name, .slice A kids.length p] 25)) := (Below.refl _ _).alloc (Nat.le_refl _) _
      have R0 : Row (w.alloc (.cells #[.int .i64 12, .int .i64 n, .string name, .slice A kids.length p] 25)) w.heap.size 25 #[.int .i64 12, .int .i64 n, .string name, .slice A kids.length p] := Row.new w _ _
      obtain ⟨sg, hsg⟩ : ∃ sg, sgS 12 = sg := ⟨_, rfl⟩
      have hsg1 : sg.size ≤ 1 := hsg ▸ sgS_size 12
      have HSG := Lib.hid hsg
      obtain ⟨d', rfl⟩ := exS_pos h3 (by omega)
      go_enter Tryd.func26, Tryd.ntmps26
      go_wp2_with fail
      refine (spec_l2Level 12 _ (by omega) (by omega)).mono ?_
      rw [show levOf 12 = 5 from rfl]
      rintro e w' ⟨rfl, hw'⟩
      have hb1 : Below w.heap.size w w' := hw' ▸ hb0
      have R1 : Row w' w.heap.size 25 #[.int .i64 12, .int .i64 n, .string name, .slice A kids.length p] := hw' ▸ R0
      clear hw' hb0 R0
      have hBw : B ≤ w'.heap.size := Nat.le_trans hB hb1.size
      have hRl := R1.lt
      obtain ⟨b, oo, xop, xn, xname, xkids, xv, hAx, _, hbB, HLx, g0x, g1x, g2x, g3x, c0x, c1x, c2x, c3x⟩ := ex_get d' (h3.below hb1 hB) hkp0
      obtain ⟨Ax, px, hfx, _, _⟩ := g3x.form
      change _ = Value.slice Ax xkids.length px at hfx
      subst hfx
      subst hAx
      have hmx : Ex.mk xop xn xname xkids ∈ kids := HLx.out ▸ List.getElem_mem _
      obtain ⟨tx, htx⟩ : ∃ t, txE m 5 (.mk xop xn xname xkids) = t := ⟨_, rfl⟩
      have hsx : tx.size ≤ 600 := htx ▸ HSZ.out 5 _ hmx
      have HTx := Lib.hid htx
      have hkk : kids = [.mk xop xn xname xkids] := by
        obtain ⟨a, hab⟩ := one_listT HLN.out
        have h1 := HLx.out
        simp only [hab, List.getElem_cons_zero] at h1
        rw [hab, h1]
      have HI : Hid (inE (txE m) 12 n name kids = ((sg ++ ⟨#[32]⟩) ++ tx)) := by
        show _ = _
        unfold inE
        rw [if_neg (by omega), if_neg (by omega), if_neg (by omega), if_pos (show levOf 12 = 5 from rfl), hsg, hkk]
        show ((_ ++ _) ++ txE m 5 (Ex.mk xop xn xname xkids)) = _
        rw [htx]
      have hp1 : (⟨#[32]⟩ : ByteArray).size = 1 := rfl
      have hp2 : (⟨#[40, 32]⟩ : ByteArray).size = 2 := rfl
      have hp3 : (⟨#[32, 41]⟩ : ByteArray).size = 2 := rfl
      have hz0 : (sg ++ ⟨#[32]⟩).size ≤ 2 := by simp only [ByteArray.size_append]; omega
      have hz1 : ((sg ++ ⟨#[32]⟩) ++ tx).size ≤ 602 := by simp only [ByteArray.size_append]; omega
      have hz9 : (⟨#[40, 32]⟩ ++ ((sg ++ ⟨#[32]⟩) ++ tx)).size ≤ 1210 := by rw [ByteArray.size_append]; omega
      clear hkk htx hsg
      have f0 : w'.cell? ⟨w.heap.size, 0, none⟩ = some (.int .i64 12) := R1.cell 0
      have f1 : w'.cell? ⟨w.heap.size, 3, none⟩ = some (.slice (some ⟨b, oo, none⟩) kids.length p) := R1.cell 3
      have f2 : w'.cell? ⟨b, oo, none⟩ = some (.int .i64 xop) := by simpa [Nat.add_assoc] using c0x
      have f3 : w'.cell? ⟨b, oo + 1, none⟩ = some (.int .i64 xn) := by simpa [Nat.add_assoc] using c1x
      have f4 : w'.cell? ⟨b, oo + 2, none⟩ = some (.string xname) := by simpa [Nat.add_assoc] using c2x
      have f5 : w'.cell? ⟨b, oo + 3, none⟩ = some (.slice Ax xkids.length px) := by simpa [Nat.add_assoc] using c3x
      go_wp2_with fail
      have d0 : w'.drew.cell? ⟨w.heap.size, 0, none⟩ = some (.int .i64 12) := f0
      have d1 : w'.drew.cell? ⟨w.heap.size, 3, none⟩ = some (.slice (some ⟨b, oo, none⟩) kids.length p) := f1
      have d2 : w'.drew.cell? ⟨b, oo, none⟩ = some (.int .i64 xop) := f2
      have d3 : w'.drew.cell? ⟨b, oo + 1, none⟩ = some (.int .i64 xn) := f3
      have d4 : w'.drew.cell? ⟨b, oo + 2, none⟩ = some (.string xname) := f4
      have d5 : w'.drew.cell? ⟨b, oo + 3, none⟩ = some (.slice Ax xkids.length px) := f5
      have bdd : Below w'.heap.size w' w'.drew := (Below.refl _ _).drew
      refine wp_region_held_drew (S := fun w' => (w'.cell? ⟨w.heap.size, 0, none⟩ = some (.int .i64 12) ∧ w'.cell? ⟨w.heap.size, 3, none⟩ = some (.slice (some ⟨b, oo, none⟩) kids.length p) ∧ w'.cell? ⟨b, oo, none⟩ = some (.int .i64 xop) ∧ w'.cell? ⟨b, oo + 1, none⟩ = some (.int .i64 xn) ∧ w'.cell? ⟨b, oo + 2, none⟩ = some (.string xname) ∧ w'.cell? ⟨b, oo + 3, none⟩ = some (.slice Ax xkids.length px))) (by kernel_rfl) ?_ (fun hHeld => ?_)
      · exact ⟨d0, d1, d2, d3, d4, d5⟩
      generalize w'.drew = wd at hHeld bdd d0 d1 d2 d3 d4 d5 ⊢
      have e0 : Below w.heap.size w wd := hb1.trans (bdd.mono hb1.size)
      have e0_ := bdd
      clear f0 f1 f2 f3 f4 f5
      refine reg_take (i := 0) (v := ?v33) rfl (by kernel_rfl) (by kernel_rfl) (by kernel_rfl) (fun _ _ _ h => h) (Or.inl ⟨by kernel_rfl, ?h33⟩) (by assumption) ?r33
      case h33 => (intro w hSw; (try dsimp only at hSw); go_simp; (try rw [if_neg (by omega)]); try with_reducible rfl)
      try simp only [Act.put, List.setIfInBounds_toArray, List.set_cons_zero, List.set_cons_succ]
      refine reg_take (i := 1) (v := ?v34) rfl (by kernel_rfl) (by kernel_rfl) (by kernel_rfl) (fun _ _ _ h => h) (Or.inl ⟨by kernel_rfl, ?h34⟩) (by assumption) ?r34
      case h34 => (intro w hSw; (try dsimp only at hSw); go_simp; (try rw [if_neg (by omega)]); try with_reducible rfl)
      try simp only [Act.put, List.setIfInBounds_toArray, List.set_cons_zero, List.set_cons_succ]
      refine reg_take (i := 4) (v := ?v35) rfl (by kernel_rfl) (by kernel_rfl) (by kernel_rfl) (fun _ _ _ h => h) (Or.inl ⟨by kernel_rfl, ?h35⟩) (by assumption) ?r35
      case h35 => (intro w hSw; (try dsimp only at hSw); go_simp; (try rw [if_neg (by omega)]); try with_reducible rfl)
      try simp only [Act.put, List.setIfInBounds_toArray, List.set_cons_zero, List.set_cons_succ]
      refine reg_take (i := 5) (v := ?v36) rfl (by kernel_rfl) (by kernel_rfl) (by kernel_rfl) (fun _ _ _ h => h) (Or.inl ⟨by kernel_rfl, ?h36⟩) (by assumption) ?r36
      case h36 => (intro w hSw; (try dsimp only at hSw); go_simp; (try rw [if_neg (by omega)]); try with_reducible rfl)
      try simp only [Act.put, List.setIfInBounds_toArray, List.set_cons_zero, List.set_cons_succ]
      refine reg_take (i := 6) (v := ?v37) rfl (by kernel_rfl) (by kernel_rfl) (by kernel_rfl) (fun _ _ _ h => h) (Or.inl ⟨by kernel_rfl, ?h37⟩) (by assumption) ?r37
      case h37 => (intro w hSw; (try dsimp only at hSw); go_simp; (try rw [if_neg (by omega)]); try with_reducible rfl)
      try simp only [Act.put, List.setIfInBounds_toArray, List.set_cons_zero, List.set_cons_succ]
      refine reg_take (i := 7) (v := ?v38) rfl (by kernel_rfl) (by kernel_rfl) (by kernel_rfl) (fun _ _ _ h => h) (Or.inl ⟨by kernel_rfl, ?h38⟩) (by assumption) ?r38
      case h38 => (intro w hSw; (try dsimp only at hSw); go_simp; (try rw [if_neg (by omega)]); try with_reducible rfl)
      try simp only [Act.put, List.setIfInBounds_toArray, List.set_cons_zero, List.set_cons_succ]
      refine reg_call (i := 2) (by kernel_rfl) rfl (fun K hK => ?_)
      go_simp
      refine (spec_l2Sign 12 _ (by omega) (by omega)).mono ?_
      rw [HSG.out]
      rintro e v_ ⟨rfl, hv_⟩
      subst hv_
      refine hK.out _ _ ?_ (fun hHeld => ?_)
      · exact ⟨d0, d1, d2, d3, d4, d5⟩
      clear hK K
      try simp only [Act.put, List.setIfInBounds_toArray, List.set_cons_zero, List.set_cons_succ]
      refine reg_take (i := 3) (v := ?v40) rfl (by kernel_rfl) (by kernel_rfl) (by kernel_rfl) (fun _ _ _ h => h) (Or.inl ⟨by kernel_rfl, ?h40⟩) (by assumption) ?r40
      case h40 => (intro w hSw; (try dsimp only at hSw); go_simp; (try rw [if_neg (by omega)]); try with_reducible rfl)
      try simp only [Act.put, List.setIfInBounds_toArray, List.set_cons_zero, List.set_cons_succ]
      refine reg_call (i := 8) (by kernel_rfl) rfl (fun K hK => ?_)
      go_simp
      refine (ih 5 d' xop xn xname xkids (.slice Ax xkids.length px) _ lo B (Nat.le_trans hB (Below.size e0)) g0x g1x g2x (g3x.below e0_ hBw) (List.all_eq_true.1 HA.out _ hmx) (HP.out _ hmx) ⟨by omega, by omega⟩).mono ?_
      rw [HTx.out]
      rintro e v1 ⟨rfl, x1⟩
      have e1 : Below w.heap.size w v1 := e0.trans (x1.mono (Below.size e0))
      have e1_ : Below w'.heap.size w' v1 := e0_.trans (x1.mono (Below.size e0_))
      have q1_0 : v1.cell? ⟨w.heap.size, 0, none⟩ = some (.int .i64 12) := (x1.cell (p := ⟨w.heap.size, 0, none⟩) (show w.heap.size < wd.heap.size from Nat.lt_of_lt_of_le (show w.heap.size < w'.heap.size by omega) (Below.size e0_))).trans d0
      have q1_1 : v1.cell? ⟨w.heap.size, 3, none⟩ = some (.slice (some ⟨b, oo, none⟩) kids.length p) := (x1.cell (p := ⟨w.heap.size, 3, none⟩) (show w.heap.size < wd.heap.size from Nat.lt_of_lt_of_le (show w.heap.size < w'.heap.size by omega) (Below.size e0_))).trans d1
      have q1_2 : v1.cell? ⟨b, oo, none⟩ = some (.int .i64 xop) := (x1.cell (p := ⟨b, oo, none⟩) (show b < wd.heap.size from Nat.lt_of_lt_of_le (show b < w'.heap.size by omega) (Below.size e0_))).trans d2
      have q1_3 : v1.cell? ⟨b, oo + 1, none⟩ = some (.int .i64 xn) := (x1.cell (p := ⟨b, oo + 1, none⟩) (show b < wd.heap.size from Nat.lt_of_lt_of_le (show b < w'.heap.size by omega) (Below.size e0_))).trans d3
      have q1_4 : v1.cell? ⟨b, oo + 2, none⟩ = some (.string xname) := (x1.cell (p := ⟨b, oo + 2, none⟩) (show b < wd.heap.size from Nat.lt_of_lt_of_le (show b < w'.heap.size by omega) (Below.size e0_))).trans d4
      have q1_5 : v1.cell? ⟨b, oo + 3, none⟩ = some (.slice Ax xkids.length px) := (x1.cell (p := ⟨b, oo + 3, none⟩) (show b < wd.heap.size from Nat.lt_of_lt_of_le (show b < w'.heap.size by omega) (Below.size e0_))).trans d5
      refine hK.out _ _ ?_ (fun hHeld => ?_)
      · exact ⟨q1_0, q1_1, q1_2, q1_3, q1_4, q1_5⟩
      clear hK K
      try simp only [Act.put, List.setIfInBounds_toArray, List.set_cons_zero, List.set_cons_succ]
      refine reg_take (i := 9) (v := ?v42) rfl (by kernel_rfl) (by kernel_rfl) (by kernel_rfl) (fun _ _ _ h => h) (Or.inl ⟨by kernel_rfl, ?h42⟩) (by assumption) ?r42
      case h42 => (intro w hSw; (try dsimp only at hSw); go_simp; (try rw [if_neg (by omega)]); try with_reducible rfl)
      try simp only [Act.put, List.setIfInBounds_toArray, List.set_cons_zero, List.set_cons_succ]
      refine reg_take (i := 10) (v := ?v43) rfl (by kernel_rfl) (by kernel_rfl) (by kernel_rfl) (fun _ _ _ h => h) (Or.inl ⟨by kernel_rfl, ?h43⟩) (by assumption) ?r43
      case h43 => (intro w hSw; (try dsimp only at hSw); go_simp; (try rw [if_neg (by omega)]); try with_reducible rfl)
      try simp only [Act.put, List.setIfInBounds_toArray, List.set_cons_zero, List.set_cons_succ]
      refine wpAnyH_done (by kernel_rfl) ?_ _
      by_cases hlt : 5 < need
      · have E : Hid (txE (m + 1) need (.mk 12 n name kids) = (⟨#[40, 32]⟩ ++ ((sg ++ ⟨#[32]⟩) ++ tx)) ++ ⟨#[32, 41]⟩) := tx_round HI.out (hlt)
        clear HI
        go_wp2_with fail
        go_ret
        exact RetV.mk (by rw [E.out] <;> rfl) rfl e1
      · have E : Hid (txE (m + 1) need (.mk 12 n name kids) = ((sg ++ ⟨#[32]⟩) ++ tx)) := tx_plain HI.out (hlt)
        have hlt' : decide (5 < need) = false := decide_eq_false hlt
        clear HI
        go_wp2_with fail
        go_ret
        exact RetV.mk (by rw [E.out] <;> rfl) rfl e1
theorem spec_l2Text : ∀ m : Nat, TextAt m
  | 0 => fun need d op n name kids v3 w lo B _ _ _ _ _ h => by simp [formB] at h
  | m + 1 => textE_step m (spec_l2Text m)
end Go.Proofs.YthfinoapfbhgcaaDoor
