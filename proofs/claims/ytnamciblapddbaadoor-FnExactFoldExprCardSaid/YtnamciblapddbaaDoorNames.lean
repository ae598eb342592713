/-
  The names of an expression's parts, by the reference. Conditions: the argument reads as data.
-/
import Derived.Test.YtnamciblapddbaaDoorOwnG
namespace Go.Proofs.YtnamciblapddbaaDoor
open Go.RowKit Go.ChangeShapes Go.WideShapes Go.Deep
set_option linter.unusedSimpArgs false
set_option linter.unusedVariables false
set_option maxRecDepth 100000 in
theorem spec_l2Has (l : List ByteArray) (s : ByteArray) (v : Value) (w : World) (lo B : Nat) (hB : B ≤ w.heap.size) (hv : Sl false (strS false) w lo B l v) : Calls Tryd.prog 77 #[v, .string s] w (RetV (.bool (l.any fun x => s.toList == x.toList)) w) := by
  obtain ⟨A, cap, rfl, hlc, hcm⟩ := hv.form
  go_enter Tryd.func77, Tryd.ntmps77
  go_wp2_with fail
  go_loopw [5] (fun i wr => ∃ k : Nat, k ≤ l.length ∧ i = .int .i64 k ∧ Hid ((l.any fun x => s.toList == x.toList) = (l.drop k).any fun x => s.toList == x.toList) ∧ Below w.heap.size w wr) (fun i _ => l.length - (intOf i).toNat)
  case atStart => exact ⟨0, by omega, rfl, (show _ = _ from rfl), Below.refl _ _⟩
  case round =>
    obtain ⟨k, hk, rfl, HT, hb⟩ := hrel
    by_cases hkl : k < l.length
    · obtain ⟨b, o, a, rfl, _, _, HL, _, c0⟩ := str_get (hv.below hb hB) hkl
      have hkn : (k : Int) < (l.length : Int) := by omega
      have hki : (0 : Int) ≤ (k : Int) := by omega
      by_cases he : (a.toList == s.toList) = true
      · have E : Hid ((l.any fun x => s.toList == x.toList) = true) := by
          have h1 := HT.out
          rw [drop_cons hkl HL.out, List.any_cons, BEq.comm (a := s.toList), he] at h1
          exact h1
        clear HT
        go_wp2_with fail
        go_ret
        exact RetV.mk (by rw [E.out] <;> rfl) rfl hb
      · have he : (a.toList == s.toList) = false := by simpa using he
        have E : Hid ((l.any fun x => s.toList == x.toList) = (l.drop (k + 1)).any fun x => s.toList == x.toList) := by
          have h1 := HT.out
          rw [drop_cons hkl HL.out, List.any_cons, BEq.comm (a := s.toList), he, Bool.false_or] at h1
          exact h1
        clear HT
        go_wp2_with fail
        go_roundw
        case rel => exact ⟨k + 1, by omega, by go_num, E, hb⟩
        case measure => simp [intOf]; omega
    · have E : Hid ((l.any fun x => s.toList == x.toList) = false) := by
        have h1 := HT.out
        rw [List.drop_eq_nil_of_le (by omega)] at h1
        exact h1
      clear HT
      go_wp2_with fail
      go_ret
      exact RetV.mk (by rw [E.out] <;> rfl) rfl hb
def NamesP (m : Nat) (tag : Int) (acc : List ByteArray) (e : Ex) (v : Value) (base : Nat) (w : World) (en : Ending) (w' : World) : Prop :=
  ∃ v', en = .returned v' ∧ w'.ownsRow base 9 1 v' (nmE m tag acc e).length ((nmE m tag acc e).map Value.string) ∧ (∀ s ∈ nmE m tag acc e, s.size ≤ maxLen) ∧ OwnG v v' w w'
def NamesAt (m : Nat) : Prop := ∀ (d : Nat) (op n : Int) (name : ByteArray) (kids : List Ex) (v3 : Value) (w : World) (lo B : Nat) (tag : Int) (v : Value) (acc : List ByteArray) (base : Nat) (_ : B ≤ base) (_ : base ≤ w.heap.size) (_ : I64 op) (_ : I64 n) (_ : name.size ≤ maxLen) (_ : Sl false (exS false d) w lo B kids v3) (_ : formB m (.mk op n name kids) = true) (_ : acc.length + partsE (.mk op n name kids) ≤ 100000) (_ : ∀ s ∈ acc, s.size ≤ maxLen) (_ : w.ownsRow base 9 1 v acc.length (acc.map Value.string)),
  Calls Tryd.prog 51 #[.agg #[.int .i64 op, .int .i64 n, .string name, v3], .int .i64 tag, v] w (NamesP m tag acc (.mk op n name kids) v base w)
set_option maxRecDepth 100000 in
set_option maxHeartbeats 8000000 in
/-- the Kids' loop -/
theorem names_step (m : Nat) (ih : NamesAt m) : NamesAt (m + 1) := by
  intro d op n name kids v3 w lo B tag v acc base hBb hbs ho hn64 hnm h3 hform hlen hacc hown
  rw [formB, Bool.and_eq_true] at hform
  obtain ⟨hfm, hall⟩ := hform
  replace hall := Lib.hid hall
  clear hfm
  rw [partsE_mk] at hlen
  obtain ⟨i0, hi, hz0, hz1, hz2⟩ := info_parts Tryd.info_string
  obtain ⟨A, p, hf, hl1, hl2⟩ := h3.form
  subst hf
  have hb0 : Below w.heap.size w (w.alloc (.cells #[.int .i64 op, .int .i64 n, .string name, .slice A kids.length p] 30)) := (Below.refl _ _).alloc (Nat.le_refl _) _
  have R0 : Row (w.alloc (.cells #[.int .i64 op, .int .i64 n, .string name, .slice A kids.length p] 30)) w.heap.size 30 #[.int .i64 op, .int .i64 n, .string name, .slice A kids.length p] := Row.new w _ _
  have own0 := hown.alloc (.cells #[.int .i64 op, .int .i64 n, .string name, .slice A kids.length p] 30)
  have g0 : OwnG v v w (w.alloc (.cells #[.int .i64 op, .int .i64 n, .string name, .slice A kids.length p] 30)) := OwnG.of_below hb0
  have hne := own_ne' hown (Nat.le_refl _)
  go_enter Tryd.func51, Tryd.ntmps51
  by_cases ho2 : op = tag
  case neg =>
    have q : (op == tag) = false := by simpa using ho2
    have E : Hid (addK tag op acc name = acc) := by show _ = _; unfold addK; rw [if_neg ho2]
    have HA0 := Lib.hid hacc
    have ow1 := own0
    have G1 := OwnG.refl v (w.alloc (.cells #[.int .i64 op, .int .i64 n, .string name, .slice A kids.length p] 30))
    clear hacc ho2 own0
    go_wp2_with fail
    go_loopw [2, 7] (fun vv i wr => ∃ (k : Nat) (acc1 : List ByteArray), k ≤ kids.length ∧ i = .int .i64 k ∧ Hid (kids.foldl (nmE m tag) (addK tag op acc name) = (kids.drop k).foldl (nmE m tag) acc1) ∧ acc1.length + partsL (kids.drop k) ≤ 100000 ∧ Hid (∀ s ∈ acc1, s.size ≤ maxLen) ∧ wr.ownsRow base 9 1 vv acc1.length (acc1.map Value.string) ∧ OwnG v vv (w.alloc (.cells #[.int .i64 op, .int .i64 n, .string name, .slice A kids.length p] 30)) wr) (fun _ i _ => kids.length - (intOf i).toNat)
    case atStart => exact ⟨0, _, by omega, rfl, (by show _ = _; rw [E.out, List.drop_zero]), by rw [List.drop_zero]; (first | omega | (simp only [List.length_append, List.length_cons, List.length_nil]; omega)), HA0.out, ow1, G1⟩
    case round =>
      obtain ⟨k, acc1, hk, rfl, HT, hlk, HA, own, G⟩ := hrel
      have R : Row wr w.heap.size 30 #[.int .i64 op, .int .i64 n, .string name, .slice A kids.length p] := G.row R0 hne
      have Gw := g0.trans G
      have Bw : Below base w wr := Gw.below hbs (fun k hk => own_ge hown hk)
      have hsz := Bw.size
      have y3 : wr.cell? ⟨w.heap.size, 3, none⟩ = some (.slice A kids.length p) := R.cell 3
      by_cases hkl : k < kids.length
      · obtain ⟨d', rfl⟩ := exS_pos h3 (by omega)
        obtain ⟨b, o, op', n', name', kids', v', rfl, _, hbB, HL, g0', g1, g2, g3, c0, c1, c2, c3⟩ := ex_get d' (h3.below Bw hBb) hkl
        obtain ⟨A', p', hf, _, _⟩ := g3.form
        change _ = Value.slice A' kids'.length p' at hf
        subst hf
        have hkn : (k : Int) < (kids.length : Int) := by omega
        have hki : (0 : Int) ≤ (k : Int) := by omega
        have hfk := Lib.hid (List.all_eq_true.1 hall.out _ (HL.out ▸ List.getElem_mem hkl : Ex.mk op' n' name' kids' ∈ kids))
        have hp2 : partsL (kids.drop k) = partsE (.mk op' n' name' kids') + partsL (kids.drop (k + 1)) := by rw [drop_cons hkl HL.out, partsL_cons]
        have hle := nmE_len tag m (.mk op' n' name' kids') acc1
        rw [hp2] at hlk
        clear hp2
        go_wp2_with fail
        refine (ih d' op' n' name' kids' (.slice A' kids'.length p') _ lo B tag u2 acc1 base hBb (Nat.le_trans hbs hsz) g0' g1 g2 g3 hfk.out (by omega) HA.out own).mono ?_
        rintro e w3 ⟨v3', rfl, own3, hs3, G3⟩
        have E3 : Hid (kids.foldl (nmE m tag) (addK tag op acc name) = (kids.drop (k + 1)).foldl (nmE m tag) (nmE m tag acc1 (.mk op' n' name' kids'))) := by
          have h1 := HT.out
          rw [drop_cons hkl HL.out, List.foldl_cons] at h1
          exact h1
        replace hs3 := Lib.hid hs3
        clear HT HA own
        go_wp2_with fail
        go_roundw
        case rel => exact ⟨k + 1, _, by omega, by go_num, E3, by omega, hs3, own3, G.trans G3⟩
        case measure => simp [intOf]; omega
      · have E4 : Hid (nmE (m + 1) tag acc (.mk op n name kids) = acc1) := by
          have h1 := HT.out
          rw [List.drop_eq_nil_of_le (by omega), List.foldl_nil] at h1
          show _ = _
          rw [nmE]
          exact h1
        clear HT
        go_wp2_with fail
        go_ret
        exact ⟨_, rfl, by rw [E4.out]; exact own, by rw [E4.out]; exact HA.out, Gw⟩
  subst ho2
  have hv := Sl.of_ownS own0 hacc (Nat.le_refl _) false
  obtain ⟨Av, pv, hf, _, _⟩ := hv.form
  subst hf
  go_wp2_with fail
  refine (spec_l2Has acc name _ _ base _ (Nat.le_refl _) hv).mono ?_
  rintro e w1 ⟨rfl, b1⟩
  have R1 := R0.below b1 R0.lt
  have ow1 := own_below own0 b1 (Nat.le_refl _)
  have G1 : OwnG (.slice Av acc.length pv) (.slice Av acc.length pv) (w.alloc (.cells #[.int .i64 op, .int .i64 n, .string name, .slice A kids.length p] 30)) w1 := OwnG.of_below b1
  have z2 : w1.cell? ⟨w.heap.size, 2, none⟩ = some (.string name) := R1.cell 2
  have hs1 : w.heap.size < w1.heap.size := R1.lt
  cases hh : (acc.any fun x => name.toList == x.toList)
  case true =>
    have E : Hid (addK op op acc name = acc) := by show _ = _; unfold addK addN; rw [if_pos rfl, if_pos hh]
    have HA0 := Lib.hid hacc
    clear hacc own0 hh hv z2
    go_wp2_with fail
    go_loopw [2, 7] (fun vv i wr => ∃ (k : Nat) (acc1 : List ByteArray), k ≤ kids.length ∧ i = .int .i64 k ∧ Hid (kids.foldl (nmE m op) (addK op op acc name) = (kids.drop k).foldl (nmE m op) acc1) ∧ acc1.length + partsL (kids.drop k) ≤ 100000 ∧ Hid (∀ s ∈ acc1, s.size ≤ maxLen) ∧ wr.ownsRow base 9 1 vv acc1.length (acc1.map Value.string) ∧ OwnG (.slice Av acc.length pv) vv (w.alloc (.cells #[.int .i64 op, .int .i64 n, .string name, .slice A kids.length p] 30)) wr) (fun _ i _ => kids.length - (intOf i).toNat)
    case atStart => exact ⟨0, _, by omega, rfl, (by show _ = _; rw [E.out, List.drop_zero]), by rw [List.drop_zero]; (first | omega | (simp only [List.length_append, List.length_cons, List.length_nil]; omega)), HA0.out, ow1, G1⟩
    case round =>
      obtain ⟨k, acc1, hk, rfl, HT, hlk, HA, own, G⟩ := hrel
      have R : Row wr w.heap.size 30 #[.int .i64 op, .int .i64 n, .string name, .slice A kids.length p] := G.row R0 hne
      have Gw := g0.trans G
      have Bw : Below base w wr := Gw.below hbs (fun k hk => own_ge hown hk)
      have hsz := Bw.size
      have y3 : wr.cell? ⟨w.heap.size, 3, none⟩ = some (.slice A kids.length p) := R.cell 3
      by_cases hkl : k < kids.length
      · obtain ⟨d', rfl⟩ := exS_pos h3 (by omega)
        obtain ⟨b, o, op', n', name', kids', v', rfl, _, hbB, HL, g0', g1, g2, g3, c0, c1, c2, c3⟩ := ex_get d' (h3.below Bw hBb) hkl
        obtain ⟨A', p', hf, _, _⟩ := g3.form
        change _ = Value.slice A' kids'.length p' at hf
        subst hf
        have hkn : (k : Int) < (kids.length : Int) := by omega
        have hki : (0 : Int) ≤ (k : Int) := by omega
        have hfk := Lib.hid (List.all_eq_true.1 hall.out _ (HL.out ▸ List.getElem_mem hkl : Ex.mk op' n' name' kids' ∈ kids))
        have hp2 : partsL (kids.drop k) = partsE (.mk op' n' name' kids') + partsL (kids.drop (k + 1)) := by rw [drop_cons hkl HL.out, partsL_cons]
        have hle := nmE_len op m (.mk op' n' name' kids') acc1
        rw [hp2] at hlk
        clear hp2
        go_wp2_with fail
        refine (ih d' op' n' name' kids' (.slice A' kids'.length p') _ lo B op u2 acc1 base hBb (Nat.le_trans hbs hsz) g0' g1 g2 g3 hfk.out (by omega) HA.out own).mono ?_
        rintro e w3 ⟨v3', rfl, own3, hs3, G3⟩
        have E3 : Hid (kids.foldl (nmE m op) (addK op op acc name) = (kids.drop (k + 1)).foldl (nmE m op) (nmE m op acc1 (.mk op' n' name' kids'))) := by
          have h1 := HT.out
          rw [drop_cons hkl HL.out, List.foldl_cons] at h1
          exact h1
        replace hs3 := Lib.hid hs3
        clear HT HA own
        go_wp2_with fail
        go_roundw
        case rel => exact ⟨k + 1, _, by omega, by go_num, E3, by omega, hs3, own3, G.trans G3⟩
        case measure => simp [intOf]; omega
      · have E4 : Hid (nmE (m + 1) op acc (.mk op n name kids) = acc1) := by
          have h1 := HT.out
          rw [List.drop_eq_nil_of_le (by omega), List.foldl_nil] at h1
          show _ = _
          rw [nmE]
          exact h1
        clear HT
        go_wp2_with fail
        go_ret
        exact ⟨_, rfl, by rw [E4.out]; exact own, by rw [E4.out]; exact HA.out, Gw⟩
  have E : Hid (addK op op acc name = acc ++ [name]) := by show _ = _; unfold addK addN; rw [if_pos rfl, if_neg (by rw [hh]; decide)]
  have HA0 : Hid (∀ s ∈ acc ++ [name], s.size ≤ maxLen) := fun s hs => by
    rcases List.mem_append.1 hs with h | h
    · exact hacc s h
    · simp at h
      subst h
      exact hnm
  clear hacc own0 hh hv
  go_wp2_with (at_builtin; refine wpList_append_own_at _ rfl _ _ 36 rfl base 9 i0 (.string ⟨#[]⟩) 1 16 Tryd.underlying36 hi hz0 hz1 hz2 rfl (by decide) _ _ _ rfl (ow1.alloc _) ⟨w1.heap.size, 0, none⟩ 1 1 [.string name] rfl rfl ?c1 ?c2 ?c3 ?c4 ?c5 ?_)
  case c1 => exact cell_one_new _ _ _
  case c2 => first | rfl | (intro u hu; simp at hu; subst hu; rfl)
  case c3 => unfold maxLen; omega
  case c4 => omega
  case c5 => simp; omega
  intro v4 w4 own4 hgrow _ hat
  replace ow1 := own_snocS own4
  replace G1 := G1.trans ((OwnG.of_below ((Below.refl _ _).alloc (Nat.le_refl _) (.cells #[.string name] 9))).trans (OwnG.of_at hgrow (by simpa using hat)))
  clear own4 hgrow hat z2
  go_wp2_with fail
  go_loopw [2, 7] (fun vv i wr => ∃ (k : Nat) (acc1 : List ByteArray), k ≤ kids.length ∧ i = .int .i64 k ∧ Hid (kids.foldl (nmE m op) (addK op op acc name) = (kids.drop k).foldl (nmE m op) acc1) ∧ acc1.length + partsL (kids.drop k) ≤ 100000 ∧ Hid (∀ s ∈ acc1, s.size ≤ maxLen) ∧ wr.ownsRow base 9 1 vv acc1.length (acc1.map Value.string) ∧ OwnG (.slice Av acc.length pv) vv (w.alloc (.cells #[.int .i64 op, .int .i64 n, .string name, .slice A kids.length p] 30)) wr) (fun _ i _ => kids.length - (intOf i).toNat)
  case atStart => exact ⟨0, _, by omega, rfl, (by show _ = _; rw [E.out, List.drop_zero]), by rw [List.drop_zero]; (first | omega | (simp only [List.length_append, List.length_cons, List.length_nil]; omega)), HA0.out, ow1, G1⟩
  case round =>
    obtain ⟨k, acc1, hk, rfl, HT, hlk, HA, own, G⟩ := hrel
    have R : Row wr w.heap.size 30 #[.int .i64 op, .int .i64 n, .string name, .slice A kids.length p] := G.row R0 hne
    have Gw := g0.trans G
    have Bw : Below base w wr := Gw.below hbs (fun k hk => own_ge hown hk)
    have hsz := Bw.size
    have y3 : wr.cell? ⟨w.heap.size, 3, none⟩ = some (.slice A kids.length p) := R.cell 3
    by_cases hkl : k < kids.length
    · obtain ⟨d', rfl⟩ := exS_pos h3 (by omega)
      obtain ⟨b, o, op', n', name', kids', v', rfl, _, hbB, HL, g0', g1, g2, g3, c0, c1, c2, c3⟩ := ex_get d' (h3.below Bw hBb) hkl
      obtain ⟨A', p', hf, _, _⟩ := g3.form
      change _ = Value.slice A' kids'.length p' at hf
      subst hf
      have hkn : (k : Int) < (kids.length : Int) := by omega
      have hki : (0 : Int) ≤ (k : Int) := by omega
      have hfk := Lib.hid (List.all_eq_true.1 hall.out _ (HL.out ▸ List.getElem_mem hkl : Ex.mk op' n' name' kids' ∈ kids))
      have hp2 : partsL (kids.drop k) = partsE (.mk op' n' name' kids') + partsL (kids.drop (k + 1)) := by rw [drop_cons hkl HL.out, partsL_cons]
      have hle := nmE_len op m (.mk op' n' name' kids') acc1
      rw [hp2] at hlk
      clear hp2
      go_wp2_with fail
      refine (ih d' op' n' name' kids' (.slice A' kids'.length p') _ lo B op u2 acc1 base hBb (Nat.le_trans hbs hsz) g0' g1 g2 g3 hfk.out (by omega) HA.out own).mono ?_
      rintro e w3 ⟨v3', rfl, own3, hs3, G3⟩
      have E3 : Hid (kids.foldl (nmE m op) (addK op op acc name) = (kids.drop (k + 1)).foldl (nmE m op) (nmE m op acc1 (.mk op' n' name' kids'))) := by
        have h1 := HT.out
        rw [drop_cons hkl HL.out, List.foldl_cons] at h1
        exact h1
      replace hs3 := Lib.hid hs3
      clear HT HA own
      go_wp2_with fail
      go_roundw
      case rel => exact ⟨k + 1, _, by omega, by go_num, E3, by omega, hs3, own3, G.trans G3⟩
      case measure => simp [intOf]; omega
    · have E4 : Hid (nmE (m + 1) op acc (.mk op n name kids) = acc1) := by
        have h1 := HT.out
        rw [List.drop_eq_nil_of_le (by omega), List.foldl_nil] at h1
        show _ = _
        rw [nmE]
        exact h1
      clear HT
      go_wp2_with fail
      go_ret
      exact ⟨_, rfl, by rw [E4.out]; exact own, by rw [E4.out]; exact HA.out, Gw⟩
theorem spec_l2Names : ∀ m : Nat, NamesAt m
  | 0 => fun d op n name kids v3 w lo B tag v acc base _ _ _ _ _ _ h => by simp [formB] at h
  | m + 1 => names_step m (spec_l2Names m)
end Go.Proofs.YtnamciblapddbaaDoor
