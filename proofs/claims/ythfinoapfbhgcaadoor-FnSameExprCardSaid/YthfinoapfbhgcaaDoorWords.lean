/-
  The words of an expression, by the program. Conditions: the argument reads as data; it is of the form and has few parts; the tables lie.
-/
import Derived.Test.YthfinoapfbhgcaaDoorWords0
namespace Go.Proofs.YthfinoapfbhgcaaDoor
open Go.RowKit Go.ChangeShapes Go.WideShapes Go.Deep
set_option linter.unusedVariables false
set_option linter.unusedSimpArgs false
def WordsAt (m : Nat) (ar : Bool) : Prop := ∀ (d : Nat) (op n : Int) (name : ByteArray) (kids : List Ex) (v3 : Value) (w : World) (lo B base : Nat) (v : Value) (l : List WordD) (_ : B ≤ base) (_ : base ≤ w.heap.size) (_ : I64 op) (_ : I64 n) (_ : name.size ≤ maxLen) (_ : Sl false (exS false d) w lo B kids v3) (_ : formB m (.mk op n name kids) = true) (_ : partsE (.mk op n name kids) ≤ 30) (_ : ∀ w9, Below base w w9 → TabX w9) (_ : OwnW w base v l) (_ : l.length + (wdE m ar (.mk op n name kids)).length ≤ 95000),
  Calls Tryd.prog 24 #[v, .agg #[.int .i64 op, .int .i64 n, .string name, v3], .bool ar] w (WordsP (wdE m ar (.mk op n name kids)) l v base w)
theorem wd_no {m : Nat} {op n : Int} {name : ByteArray} {kids : List Ex} : wdE (m + 1) false (.mk op n name kids) = inW (wdE m) op n name kids := by rw [wdE, if_neg (by decide)]
theorem wd_yes {m : Nat} {op n : Int} {name : ByteArray} {kids : List Ex} : wdE (m + 1) true (.mk op n name kids) = ([⟨3, ⟨#[40]⟩⟩] ++ inW (wdE m) op n name kids) ++ [⟨3, ⟨#[41]⟩⟩] := by rw [wdE, if_pos rfl]
theorem cmW_grow {f : Ex → List WordD} : ∀ (l : List Ex) (p : Nat × List WordD), p.2.length ≤ (l.foldl (cmW f) p).2.length
  | [], p => Nat.le_refl _
  | k :: r, p => by
    rw [List.foldl_cons]
    refine Nat.le_trans ?_ (cmW_grow r _)
    unfold cmW
    simp only [List.length_append]
    split
    · rw [List.length_append]; omega
    · omega
set_option maxRecDepth 100000 in
set_option maxHeartbeats 16000000 in
theorem words_round (m : Nat) (h0 : WordsAt (m + 1) false) : WordsAt (m + 1) true := by
  intro d op n name kids v3 w lo B base v l hBb hbs ho hn64 hnm h3 hform hp HTX hown hlen
  obtain ⟨A, p, hf, hl1, hl2⟩ := h3.form
  subst hf
  obtain ⟨Av, cv, hfv⟩ := hown.form
  subst hfv
  replace HTX := Lib.hid HTX
  rw [wd_yes] at hlen
  simp only [List.length_append, List.length_cons, List.length_nil] at hlen
  have E : Hid (∀ ws, wdE (m + 1) false (.mk op n name kids) = ws → wdE (m + 1) true (.mk op n name kids) = ([⟨3, ⟨#[40]⟩⟩] ++ ws) ++ [⟨3, ⟨#[41]⟩⟩]) := fun ws h => by rw [wd_yes, ← h, wd_no]
  have hl0 : (wdE (m + 1) false (.mk op n name kids)).length + l.length + 2 ≤ 95000 := by rw [wd_no]; omega
  obtain ⟨ws, hws⟩ : ∃ ws, wdE (m + 1) false (.mk op n name kids) = ws := ⟨_, rfl⟩
  rw [hws] at hl0
  have HE := Lib.hid (E.out ws hws)
  have HW := Lib.hid hws
  clear E hlen hws
  have hb0 : Below w.heap.size w (w.alloc (.cells #[.int .i64 op, .int .i64 n, .string name, .slice A kids.length p] 25)) := (Below.refl _ _).alloc (Nat.le_refl _) _
  have R0 : Row (w.alloc (.cells #[.int .i64 op, .int .i64 n, .string name, .slice A kids.length p] 25)) w.heap.size 25 #[.int .i64 op, .int .i64 n, .string name, .slice A kids.length p] := Row.new w _ _
  have ow0 : OwnW (w.alloc (.cells #[.int .i64 op, .int .i64 n, .string name, .slice A kids.length p] 25)) base (.slice Av l.length cv) l := OwnW.below hown hb0 (Nat.le_refl _)
  have G0 : OwnG (.slice Av l.length cv) (.slice Av l.length cv) w (w.alloc (.cells #[.int .i64 op, .int .i64 n, .string name, .slice A kids.length p] 25)) := OwnG.of_below hb0
  have hne := own_ne' hown (Nat.le_refl _)
  have t0 := HTX.out _ (hb0.mono hbs)
  go_enter Tryd.func24, Tryd.ntmps24
  go_wp2_with fail
  refine (impl_signWord ⟨#[40]⟩ _).mono ?_
  rintro e w1 ⟨rfl, b1⟩
  have hb1 := hb0.trans (b1.mono hb0.size)
  have R1 := R0.below b1 R0.lt
  have ow1 := OwnW.below ow0 b1 (Nat.le_refl _)
  have G1 := G0.trans (OwnG.of_below b1)
  go_wp2_with (at_builtin; refine app_words rfl _ _ rfl w1 base _ (l) [⟨3, ⟨#[40]⟩⟩] _ rfl 1 rfl ow1 (by (try simp only [List.length_append, List.length_cons, List.length_nil]); omega) (Nat.le_trans hbs hb1.size) rfl rfl ?_)
  intro v2 w2 ow2 g2
  have G2a := (OwnG.of_below (v := .slice Av l.length cv) b1).trans g2
  have G2 := G0.trans G2a
  have Bw2 : Below base w w2 := G2.below hbs (fun k hk => own_ge hown hk)
  have R2 : Row w2 w.heap.size 25 #[.int .i64 op, .int .i64 n, .string name, .slice A kids.length p] := G2a.row R0 hne
  have y0 : w2.cell? ⟨w.heap.size, 0, none⟩ = some (.int .i64 op) := R2.cell 0
  have y1 : w2.cell? ⟨w.heap.size, 1, none⟩ = some (.int .i64 n) := R2.cell 1
  have y2 : w2.cell? ⟨w.heap.size, 2, none⟩ = some (.string name) := R2.cell 2
  have y3 : w2.cell? ⟨w.heap.size, 3, none⟩ = some (.slice A kids.length p) := R2.cell 3
  obtain ⟨A2, n2_, c2, hf2⟩ := OwnW.formN ow2
  subst hf2
  go_wp2_with fail
  refine (h0 d op n name kids (.slice A kids.length p) _ lo B base _ _ hBb (Nat.le_trans hbs Bw2.size) ho hn64 hnm (h3.below Bw2 hBb) hform hp (fun w9 b9 => HTX.out w9 (Bw2.trans b9)) ow2 (by rw [HW.out]; (try simp only [List.length_append, List.length_cons, List.length_nil]); omega)).mono ?_
  rw [HW.out]
  rintro e w3 ⟨v3', rfl, ow3, g3⟩
  have G3 := G2.trans g3
  obtain ⟨A3, n3_, c3, hf3⟩ := OwnW.formN ow3
  subst hf3
  go_wp2_with fail
  refine (impl_signWord ⟨#[41]⟩ _).mono ?_
  rintro e w4 ⟨rfl, b4⟩
  have ow4 := OwnW.below ow3 b4 (Nat.le_refl _)
  have G4 := G3.trans (OwnG.of_below b4)
  have hs4 := G4.size
  go_wp2_with (at_builtin; refine app_words rfl _ _ rfl w4 base _ ((l ++ [⟨3, ⟨#[40]⟩⟩]) ++ ws) [⟨3, ⟨#[41]⟩⟩] _ rfl 1 rfl ow4 (by (try simp only [List.length_append, List.length_cons, List.length_nil]); omega) (Nat.le_trans hbs hs4) rfl rfl ?_)
  intro v5 w5 ow5 g5
  go_wp2_with fail
  go_ret
  exact ⟨v5, rfl, by rw [HE.out]; simpa using ow5, G4.trans g5⟩
set_option maxRecDepth 100000 in
set_option maxHeartbeats 16000000 in
theorem words_step (m : Nat) (ih : ∀ ar, WordsAt m ar) : WordsAt (m + 1) false := by
  intro d op n name kids v3 w lo B base v l hBb hbs ho hn64 hnm h3 hform hp HTX hown hlen
  obtain ⟨A, p, hf, hl1, hl2⟩ := h3.form
  subst hf
  obtain ⟨Av, cv, hfv⟩ := hown.form
  subst hfv
  replace HTX := Lib.hid HTX
  rw [formB, Bool.and_eq_true] at hform
  obtain ⟨hfm, hall⟩ := hform
  have HA := Lib.hid hall
  have HP : Hid (∀ e ∈ kids, partsE e ≤ 30) := fun e he => by
    have := partsL_mem he
    rw [partsE_mk] at hp
    omega
  clear hall
  rcases fm_len hfm with ⟨rfl, hl, n0, n1⟩ | ⟨rfl, hl, hn4⟩ | ⟨rfl, hl, hn4⟩ | ⟨h3l, h10, hl⟩ | ⟨ho12, hl⟩
  · obtain ⟨k, rfl⟩ : ∃ k : Nat, n = (k : Int) := ⟨n.toNat, by omega⟩
    have E : Hid (wdE (m + 1) false (.mk 1 (k : Int) name kids) = [⟨2, decT k⟩]) := by show _ = _; rw [wd_no]; unfold inW; rw [if_pos rfl]; rfl
    rw [E.out] at hlen
    simp only [List.length_cons, List.length_nil] at hlen
    clear hfm hl hp
    have hb0 : Below w.heap.size w (w.alloc (.cells #[.int .i64 1, .int .i64 (k : Int), .string name, .slice A kids.length p] 25)) := (Below.refl _ _).alloc (Nat.le_refl _) _
    have R0 : Row (w.alloc (.cells #[.int .i64 1, .int .i64 (k : Int), .string name, .slice A kids.length p] 25)) w.heap.size 25 #[.int .i64 1, .int .i64 (k : Int), .string name, .slice A kids.length p] := Row.new w _ _
    have ow0 : OwnW (w.alloc (.cells #[.int .i64 1, .int .i64 (k : Int), .string name, .slice A kids.length p] 25)) base (.slice Av l.length cv) l := OwnW.below hown hb0 (Nat.le_refl _)
    have G0 : OwnG (.slice Av l.length cv) (.slice Av l.length cv) w (w.alloc (.cells #[.int .i64 1, .int .i64 (k : Int), .string name, .slice A kids.length p] 25)) := OwnG.of_below hb0
    have hne := own_ne' hown (Nat.le_refl _)
    have t0 := HTX.out _ (hb0.mono hbs)
    go_enter Tryd.func24, Tryd.ntmps24
    go_wp2_with fail
    refine (impl_levelOf 1 _ ho t0.1.2).mono ?_
    rw [show levOf 1 = 6 from rfl]
    rintro e w' ⟨rfl, rfl⟩
    go_wp2_with fail
    refine (impl_itoa k (by omega) _ t0).mono ?_
    rintro e w1 ⟨rfl, b1⟩
    have hb1 := hb0.trans (b1.mono hb0.size)
    have ow1 := OwnW.below ow0 b1 (Nat.le_refl _)
    have G1 := G0.trans (OwnG.of_below b1)
    go_wp2_with (at_builtin; refine app_words rfl _ _ rfl w1 base _ (l) [⟨2, decT k⟩] _ rfl 1 rfl ow1 (by (try simp only [List.length_append, List.length_cons, List.length_nil]); omega) (Nat.le_trans hbs hb1.size) rfl rfl ?_)
    intro v2 w2 ow2 g2
    go_wp2_with fail
    go_ret
    exact ⟨_, rfl, by rw [E.out]; exact ow2, G1.trans g2⟩
  · have E : Hid (wdE (m + 1) false (.mk 2 n name kids) = [⟨1, name⟩]) := by show _ = _; rw [wd_no]; unfold inW; rw [if_neg (by omega), if_pos rfl]
    rw [E.out] at hlen
    simp only [List.length_cons, List.length_nil] at hlen
    clear hfm hl hp
    have hb0 : Below w.heap.size w (w.alloc (.cells #[.int .i64 2, .int .i64 n, .string name, .slice A kids.length p] 25)) := (Below.refl _ _).alloc (Nat.le_refl _) _
    have R0 : Row (w.alloc (.cells #[.int .i64 2, .int .i64 n, .string name, .slice A kids.length p] 25)) w.heap.size 25 #[.int .i64 2, .int .i64 n, .string name, .slice A kids.length p] := Row.new w _ _
    have ow0 : OwnW (w.alloc (.cells #[.int .i64 2, .int .i64 n, .string name, .slice A kids.length p] 25)) base (.slice Av l.length cv) l := OwnW.below hown hb0 (Nat.le_refl _)
    have G0 : OwnG (.slice Av l.length cv) (.slice Av l.length cv) w (w.alloc (.cells #[.int .i64 2, .int .i64 n, .string name, .slice A kids.length p] 25)) := OwnG.of_below hb0
    have hne := own_ne' hown (Nat.le_refl _)
    have t0 := HTX.out _ (hb0.mono hbs)
    go_enter Tryd.func24, Tryd.ntmps24
    go_wp2_with fail
    refine (impl_levelOf 2 _ ho t0.1.2).mono ?_
    rw [show levOf 2 = 6 from rfl]
    rintro e w' ⟨rfl, rfl⟩
    go_wp2_with fail
    refine (impl_nameWord name _).mono ?_
    rintro e w1 ⟨rfl, b1⟩
    have hb1 := hb0.trans (b1.mono hb0.size)
    have ow1 := OwnW.below ow0 b1 (Nat.le_refl _)
    have G1 := G0.trans (OwnG.of_below b1)
    go_wp2_with (at_builtin; refine app_words rfl _ _ rfl w1 base _ (l) [⟨1, name⟩] _ rfl 1 rfl ow1 (by (try simp only [List.length_append, List.length_cons, List.length_nil]); omega) (Nat.le_trans hbs hb1.size) rfl rfl ?_)
    intro v2 w2 ow2 g2
    go_wp2_with fail
    go_ret
    exact ⟨_, rfl, by rw [E.out]; exact ow2, G1.trans g2⟩
  · obtain ⟨T, hT⟩ : ∃ T, (kids.foldl (cmW (wdE m false)) (0, [⟨1, name⟩, ⟨3, ⟨#[40]⟩⟩])).2 = T := ⟨_, rfl⟩
    have E : Hid (wdE (m + 1) false (.mk 13 n name kids) = T ++ [⟨3, ⟨#[41]⟩⟩]) := by show _ = _; rw [wd_no]; unfold inW; rw [if_neg (by omega), if_neg (by omega), if_pos rfl, hT]
    rw [E.out] at hlen
    simp only [List.length_append, List.length_cons, List.length_nil] at hlen
    have hT2 : 2 ≤ T.length := by have := cmW_grow (f := wdE m false) kids (0, [⟨1, name⟩, ⟨3, ⟨#[40]⟩⟩]); rw [hT] at this; exact this
    have HT0 := Lib.hid hT
    clear hfm hp hT
    have hb0 : Below w.heap.size w (w.alloc (.cells #[.int .i64 13, .int .i64 n, .string name, .slice A kids.length p] 25)) := (Below.refl _ _).alloc (Nat.le_refl _) _
    have R0 : Row (w.alloc (.cells #[.int .i64 13, .int .i64 n, .string name, .slice A kids.length p] 25)) w.heap.size 25 #[.int .i64 13, .int .i64 n, .string name, .slice A kids.length p] := Row.new w _ _
    have ow0 : OwnW (w.alloc (.cells #[.int .i64 13, .int .i64 n, .string name, .slice A kids.length p] 25)) base (.slice Av l.length cv) l := OwnW.below hown hb0 (Nat.le_refl _)
    have G0 : OwnG (.slice Av l.length cv) (.slice Av l.length cv) w (w.alloc (.cells #[.int .i64 13, .int .i64 n, .string name, .slice A kids.length p] 25)) := OwnG.of_below hb0
    have hne := own_ne' hown (Nat.le_refl _)
    have t0 := HTX.out _ (hb0.mono hbs)
    go_enter Tryd.func24, Tryd.ntmps24
    go_wp2_with fail
    refine (impl_levelOf 13 _ ho t0.1.2).mono ?_
    rw [show levOf 13 = 6 from rfl]
    rintro e w' ⟨rfl, rfl⟩
    go_wp2_with fail
    refine (impl_nameWord name _).mono ?_
    rintro e w1 ⟨rfl, b1⟩
    have hb1 := hb0.trans (b1.mono hb0.size)
    have ow1 := OwnW.below ow0 b1 (Nat.le_refl _)
    go_wp2_with fail
    refine (impl_signWord ⟨#[40]⟩ _).mono ?_
    rintro e w2 ⟨rfl, b2⟩
    have hb2 := hb1.trans (b2.mono hb1.size)
    have ow2 := OwnW.below ow1 b2 (Nat.le_refl _)
    have G2 : OwnG (.slice Av l.length cv) (.slice Av l.length cv) (w.alloc (.cells #[.int .i64 13, .int .i64 n, .string name, .slice A kids.length p] 25)) w2 := (OwnG.of_below b1).trans (OwnG.of_below b2)
    go_wp2_with (at_builtin; refine app_words rfl _ _ rfl w2 base _ (l) [⟨1, name⟩, ⟨3, ⟨#[40]⟩⟩] _ rfl 2 rfl ow2 (by (try simp only [List.length_append, List.length_cons, List.length_nil]); omega) (Nat.le_trans hbs hb2.size) rfl rfl ?_)
    intro v3' w3 ow3 g3
    have G3 := G2.trans g3
    have R3 : Row w3 w.heap.size 25 #[.int .i64 13, .int .i64 n, .string name, .slice A kids.length p] := G3.row R0 hne
    have y3 : w3.cell? ⟨w.heap.size, 3, none⟩ = some (.slice A kids.length p) := R3.cell 3
    clear ow0 ow1 ow2 b1 b2 G2 g3 t0
    go_wp2_with fail
    go_loopw [0, 61] (fun vv i wr => ∃ (k : Nat) (acc : List WordD), k ≤ kids.length ∧ i = .int .i64 k ∧ Hid (((kids.drop k).foldl (cmW (wdE m false)) (k, acc)).2 = T) ∧ OwnW wr base vv (l ++ acc) ∧ OwnG (.slice Av l.length cv) vv (w.alloc (.cells #[.int .i64 13, .int .i64 n, .string name, .slice A kids.length p] 25)) wr) (fun _ i _ => kids.length - (intOf i).toNat)
    case atStart => exact ⟨0, _, by omega, rfl, HT0.out, ow3, G3⟩
    case round =>
      obtain ⟨k, acc, hk, rfl, HT, own, G⟩ := hrel
      have R : Row wr w.heap.size 25 #[.int .i64 13, .int .i64 n, .string name, .slice A kids.length p] := G.row R0 hne
      have Gw := G0.trans G
      have Bw : Below base w wr := Gw.below hbs (fun k hk => own_ge hown hk)
      have hsz := Bw.size
      have y3' : wr.cell? ⟨w.heap.size, 3, none⟩ = some (.slice A kids.length p) := R.cell 3
      have hacc : acc.length ≤ T.length := by have h1 := cmW_grow (f := wdE m false) (kids.drop k) (k, acc); rw [HT.out] at h1; exact h1
      obtain ⟨Au, nu_, cu, hu⟩ := OwnW.formN own
      subst hu
      by_cases hkl : k < kids.length
      · obtain ⟨d', rfl⟩ := exS_pos h3 (by omega)
        obtain ⟨b, o, op', n', name', kids', v', rfl, _, hbB, HL, g0', g1, g2, g3, c0, c1, c2, c3⟩ := ex_get d' (h3.below Bw hBb) hkl
        obtain ⟨A', p', hf, _, _⟩ := g3.form
        change _ = Value.slice A' kids'.length p' at hf
        subst hf
        have hkn : (k : Int) < (kids.length : Int) := by omega
        have hki : (0 : Int) ≤ (k : Int) := by omega
        have hmem : Ex.mk op' n' name' kids' ∈ kids := HL.out ▸ List.getElem_mem hkl
        have hfk := Lib.hid (List.all_eq_true.1 HA.out _ hmem)
        have hpk := Lib.hid (HP.out _ hmem)
        clear hmem
        obtain ⟨ws, hws⟩ : ∃ ws, wdE m false (.mk op' n' name' kids') = ws := ⟨_, rfl⟩
        have HW := Lib.hid hws
        have HS : Hid (((kids.drop (k + 1)).foldl (cmW (wdE m false)) (k + 1, (if 0 < k then acc ++ [⟨3, ⟨#[44]⟩⟩] else acc) ++ ws)).2 = T) := by
          have h1 := HT.out
          rw [drop_cons hkl HL.out, List.foldl_cons] at h1
          rw [← hws]
          exact h1
        have hgr := cmW_grow (f := wdE m false) (kids.drop (k + 1)) (k + 1, (if 0 < k then acc ++ [⟨3, ⟨#[44]⟩⟩] else acc) ++ ws)
        rw [HS.out] at hgr
        clear HT hws
        have hbk : Below wr.heap.size wr (wr.alloc (.cells #[.int .i64 op', .int .i64 n', .string name', .slice A' kids'.length p'] 25)) := (Below.refl _ _).alloc (Nat.le_refl _) _
        have RK : Row (wr.alloc (.cells #[.int .i64 op', .int .i64 n', .string name', .slice A' kids'.length p'] 25)) wr.heap.size 25 #[.int .i64 op', .int .i64 n', .string name', .slice A' kids'.length p'] := Row.new wr _ _
        have owk := OwnW.below own hbk (Nat.le_refl _)
        have hnk := own_ne' own (Nat.le_refl _)
        have Gk := G.trans (OwnG.of_below hbk)
        by_cases hk0 : 0 < k
        · have hk0' : (0 : Int) < (k : Int) := by omega
          rw [if_pos hk0] at HS hgr
          simp only [List.length_append, List.length_cons, List.length_nil] at hgr
          go_wp2_with fail
          refine (impl_signWord ⟨#[44]⟩ _).mono ?_
          rintro e w4 ⟨rfl, b4⟩
          have ow4 := OwnW.below owk b4 (Nat.le_refl _)
          have R4 := RK.below b4 RK.lt
          have hs4 := Nat.le_trans hsz (Nat.le_trans hbk.size b4.size)
          go_wp2_with (at_builtin; refine app_words rfl _ _ rfl w4 base _ (l ++ acc) [⟨3, ⟨#[44]⟩⟩] _ rfl 1 rfl ow4 (by (try simp only [List.length_append, List.length_cons, List.length_nil]); omega) (Nat.le_trans hbs hs4) rfl rfl ?_)
          intro v5 w5 ow5 g5
          have g45 := (OwnG.of_below (v := .slice Au nu_ cu) b4).trans g5
          have G5 := Gk.trans g45
          have R5 : Row w5 wr.heap.size 25 #[.int .i64 op', .int .i64 n', .string name', .slice A' kids'.length p'] := g45.row RK hnk
          obtain ⟨A5, n5_, c5, hf5⟩ := OwnW.formN ow5
          subst hf5
          have q0 : w5.cell? ⟨wr.heap.size, 0, none⟩ = some (.int .i64 op') := R5.cell 0
          have q1 : w5.cell? ⟨wr.heap.size, 1, none⟩ = some (.int .i64 n') := R5.cell 1
          have q2 : w5.cell? ⟨wr.heap.size, 2, none⟩ = some (.string name') := R5.cell 2
          have q3 : w5.cell? ⟨wr.heap.size, 3, none⟩ = some (.slice A' kids'.length p') := R5.cell 3
          have Bq : Below base wr w5 := ((OwnG.of_below hbk).trans g45).below (Nat.le_trans hbs hsz) (fun k hk => own_ge own hk)
          have Bx : Below base w w5 := Bw.trans Bq
          go_wp2_with fail
          refine (ih false d' op' n' name' kids' (.slice A' kids'.length p') _ lo B base _ _ hBb (Nat.le_trans hbs Bx.size) g0' g1 g2 (g3.below Bq hBb) hfk.out hpk.out (fun w9 b9 => HTX.out w9 (Bx.trans b9)) ow5 (by rw [HW.out]; (try simp only [List.length_append, List.length_cons, List.length_nil]); omega)).mono ?_
          rw [HW.out]
          rintro e wz ⟨vz, rfl, owz, gz⟩
          go_wp2_with fail
          go_roundw
          case rel => exact ⟨k + 1, _, by omega, by go_num, HS, by simpa only [List.append_assoc] using owz, G5.trans gz⟩
          case measure => simp [intOf]; omega
        · have hk0' : decide ((0 : Int) < (k : Int)) = false := by simp; omega
          rw [if_neg hk0] at HS hgr
          simp only [List.length_append, List.length_cons, List.length_nil] at hgr
          have q0 : (wr.alloc (.cells #[.int .i64 op', .int .i64 n', .string name', .slice A' kids'.length p'] 25)).cell? ⟨wr.heap.size, 0, none⟩ = some (.int .i64 op') := RK.cell 0
          have q1 : (wr.alloc (.cells #[.int .i64 op', .int .i64 n', .string name', .slice A' kids'.length p'] 25)).cell? ⟨wr.heap.size, 1, none⟩ = some (.int .i64 n') := RK.cell 1
          have q2 : (wr.alloc (.cells #[.int .i64 op', .int .i64 n', .string name', .slice A' kids'.length p'] 25)).cell? ⟨wr.heap.size, 2, none⟩ = some (.string name') := RK.cell 2
          have q3 : (wr.alloc (.cells #[.int .i64 op', .int .i64 n', .string name', .slice A' kids'.length p'] 25)).cell? ⟨wr.heap.size, 3, none⟩ = some (.slice A' kids'.length p') := RK.cell 3
          have Bq : Below base wr (wr.alloc (.cells #[.int .i64 op', .int .i64 n', .string name', .slice A' kids'.length p'] 25)) := (OwnG.of_below hbk).below (Nat.le_trans hbs hsz) (fun k hk => own_ge own hk)
          have Bx : Below base w (wr.alloc (.cells #[.int .i64 op', .int .i64 n', .string name', .slice A' kids'.length p'] 25)) := Bw.trans Bq
          go_wp2_with fail
          refine (ih false d' op' n' name' kids' (.slice A' kids'.length p') _ lo B base _ _ hBb (Nat.le_trans hbs Bx.size) g0' g1 g2 (g3.below Bq hBb) hfk.out hpk.out (fun w9 b9 => HTX.out w9 (Bx.trans b9)) owk (by rw [HW.out]; (try simp only [List.length_append, List.length_cons, List.length_nil]); omega)).mono ?_
          rw [HW.out]
          rintro e wz ⟨vz, rfl, owz, gz⟩
          go_wp2_with fail
          go_roundw
          case rel => exact ⟨k + 1, _, by omega, by go_num, HS, by simpa only [List.append_assoc] using owz, Gk.trans gz⟩
          case measure => simp [intOf]; omega
      · have hT3 : acc = T := by have h1 := HT.out; rw [List.drop_eq_nil_of_le (by omega), List.foldl_nil] at h1; exact h1
        subst hT3
        clear HT
        go_wp2_with fail
        refine (impl_signWord ⟨#[41]⟩ _).mono ?_
        rintro e w4 ⟨rfl, b4⟩
        have ow4 := OwnW.below own b4 (Nat.le_refl _)
        have G4 := Gw.trans (OwnG.of_below b4)
        have hs4 := G4.size
        go_wp2_with (at_builtin; refine app_words rfl _ _ rfl w4 base _ (l ++ acc) [⟨3, ⟨#[41]⟩⟩] _ rfl 1 rfl ow4 (by (try simp only [List.length_append, List.length_cons, List.length_nil]); omega) (Nat.le_trans hbs hs4) rfl rfl ?_)
        intro v5 w5 ow5 g5
        go_wp2_with fail
        go_ret
        exact ⟨v5, rfl, by rw [E.out]; simpa only [List.append_assoc] using ow5, G4.trans g5⟩
  · have hkp0 : 0 < kids.length := by omega
    have hkp1 : 1 < kids.length := by omega
    have hkp0' : (0 : Int) < (kids.length : Int) := by omega
    have hkp1' : (1 : Int) < (kids.length : Int) := by omega
    have HLN := Lib.hid hl
    clear hl hfm
    have hb0 : Below w.heap.size w (w.alloc (.cells #[.int .i64 op, .int .i64 n, .string name, .slice A kids.length p] 25)) := (Below.refl _ _).alloc (Nat.le_refl _) _
    have R0 : Row (w.alloc (.cells #[.int .i64 op, .int .i64 n, .string name, .slice A kids.length p] 25)) w.heap.size 25 #[.int .i64 op, .int .i64 n, .string name, .slice A kids.length p] := Row.new w _ _
    have ow0 : OwnW (w.alloc (.cells #[.int .i64 op, .int .i64 n, .string name, .slice A kids.length p] 25)) base (.slice Av l.length cv) l := OwnW.below hown hb0 (Nat.le_refl _)
    have G0 : OwnG (.slice Av l.length cv) (.slice Av l.length cv) w (w.alloc (.cells #[.int .i64 op, .int .i64 n, .string name, .slice A kids.length p] 25)) := OwnG.of_below hb0
    have hne := own_ne' hown (Nat.le_refl _)
    have t0 := HTX.out _ (hb0.mono hbs)
    obtain ⟨L, hL⟩ : ∃ L, levOf op = L := ⟨_, rfl⟩
    have hLr := lev_two h3l h10
    rw [hL] at hLr
    have HLV := Lib.hid hL
    have o1 : (op == 1) = false := by simp; omega
    have o2 : (op == 2) = false := by simp; omega
    have o13 : (op == 13) = false := by simp; omega
    have o5 : (L == 5) = false := by simp; omega
    obtain ⟨d', rfl⟩ := exS_pos h3 (by omega)
    go_enter Tryd.func24, Tryd.ntmps24
    go_wp2_with fail
    refine (impl_levelOf op _ ho t0.1.2).mono ?_
    rw [HLV.out]
    rintro e w' ⟨rfl, hw'⟩
    have hb1 : Below w.heap.size w w' := hw' ▸ hb0
    have R1 : Row w' w.heap.size 25 #[.int .i64 op, .int .i64 n, .string name, .slice A kids.length p] := hw' ▸ R0
    have hBw : w.heap.size < w'.heap.size := hw' ▸ R0.lt
    clear hw' hb0 R0 ow0 G0 t0
    have ow1 : OwnW w' base (.slice Av l.length cv) l := OwnW.below hown hb1 (Nat.le_refl _)
    have G1 : OwnG (.slice Av l.length cv) (.slice Av l.length cv) w w' := OwnG.of_below hb1
    obtain ⟨kx, ox, xop, xn, xname, xkids, xv, hAx, _, hbBx, HLx, g0x, g1x, g2x, g3x, c0x, c1x, c2x, c3x⟩ := ex_get d' (h3.below (hb1.mono hbs) hBb) hkp0
    obtain ⟨Ax, px, hfx, _, _⟩ := g3x.form
    change _ = Value.slice Ax xkids.length px at hfx
    subst hfx
    obtain ⟨ky, oy, yop, yn, yname, ykids, yv, hAy, _, hbBy, HLy, g0y, g1y, g2y, g3y, c0y, c1y, c2y, c3y⟩ := ex_get d' (h3.below (hb1.mono hbs) hBb) hkp1
    obtain ⟨Ay, py, hfy, _, _⟩ := g3y.form
    change _ = Value.slice Ay ykids.length py at hfy
    subst hfy
    subst hAx
    injection hAy with hAy
    injection hAy with e1 e2
    subst e1 e2
    have hmx : Ex.mk xop xn xname xkids ∈ kids := HLx.out ▸ List.getElem_mem _
    have hfx := Lib.hid (List.all_eq_true.1 HA.out _ hmx)
    have hpx := Lib.hid (HP.out _ hmx)
    clear hmx
    have hmy : Ex.mk yop yn yname ykids ∈ kids := HLy.out ▸ List.getElem_mem _
    have hfy := Lib.hid (List.all_eq_true.1 HA.out _ hmy)
    have hpy := Lib.hid (HP.out _ hmy)
    clear hmy
    obtain ⟨wsx, hwsx⟩ : ∃ ws, wdE m (decide (levOf xop < L)) (.mk xop xn xname xkids) = ws := ⟨_, rfl⟩
    obtain ⟨wsy, hwsy⟩ : ∃ ws, wdE m (decide (levOf yop ≤ L)) (.mk yop yn yname ykids) = ws := ⟨_, rfl⟩
    have hkk : kids = [.mk xop xn xname xkids, .mk yop yn yname ykids] := by
      obtain ⟨a, b, hab⟩ := two_listT HLN.out
      have h1 := HLx.out
      have h2 := HLy.out
      simp only [hab, List.getElem_cons_zero, List.getElem_cons_succ] at h1 h2
      rw [hab, h1, h2]
    have E : Hid (wdE (m + 1) false (.mk op n name kids) = (wsx ++ [⟨3, sgn op⟩]) ++ wsy) := by
      show _ = _
      rw [wd_no]
      unfold inW
      rw [if_neg (by omega), if_neg (by omega), if_neg (by omega), hL, if_neg (by omega), hkk, ← sgS_mid h3l h10]
      show (wdE m (decide (levOf xop < L)) (Ex.mk xop xn xname xkids) ++ _) ++ wdE m (decide (levOf yop ≤ L)) (Ex.mk yop yn yname ykids) = _
      rw [hwsx, hwsy]
    rw [E.out] at hlen
    simp only [List.length_append, List.length_cons, List.length_nil] at hlen
    have HWx := Lib.hid hwsx
    have HWy := Lib.hid hwsy
    clear hkk hwsx hp hwsy hL
    obtain ⟨LX, hLX⟩ : ∃ L : List (Addr × Value), L = [(⟨w.heap.size, 0, none⟩, .int .i64 op), (⟨w.heap.size, 3, none⟩, .slice (some ⟨kx, ox, none⟩) kids.length p), (⟨kx, ox, none⟩, .int .i64 xop), (⟨kx, ox + 1, none⟩, .int .i64 xn), (⟨kx, ox + 2, none⟩, .string xname), (⟨kx, ox + 3, none⟩, .slice Ax xkids.length px)] := ⟨_, rfl⟩
    have hSX : HasC w' LX := hLX ▸ (hasC_cons (R1.cell 0) (hasC_cons (R1.cell 3) (hasC_cons (by simpa [Nat.add_assoc] using c0x) (hasC_cons (by simpa [Nat.add_assoc] using c1x) (hasC_cons (by simpa [Nat.add_assoc] using c2x) (hasC_cons (by simpa [Nat.add_assoc] using c3x) hasC_nil))))))
    have hOX : ∀ x ∈ LX, x.1.block < w'.heap.size ∧ (Value.slice Av l.length cv).ownBlock ≠ some x.1.block := hLX ▸ (olt_cons (show w.heap.size < w'.heap.size by omega) hne (olt_cons (show w.heap.size < w'.heap.size by omega) hne (olt_cons (show kx < w'.heap.size by omega) (own_ne hown (show kx < base by omega)) (olt_cons (show kx < w'.heap.size by omega) (own_ne hown (show kx < base by omega)) (olt_cons (show kx < w'.heap.size by omega) (own_ne hown (show kx < base by omega)) (olt_cons (show kx < w'.heap.size by omega) (own_ne hown (show kx < base by omega)) olt_nil))))))
    have HLX_ := Lib.hid hLX
    clear hLX
    obtain ⟨LY, hLY⟩ : ∃ L : List (Addr × Value), L = [(⟨w.heap.size, 0, none⟩, .int .i64 op), (⟨w.heap.size, 3, none⟩, .slice (some ⟨kx, ox, none⟩) kids.length p), (⟨kx, ox + 4, none⟩, .int .i64 yop), (⟨kx, ox + 5, none⟩, .int .i64 yn), (⟨kx, ox + 6, none⟩, .string yname), (⟨kx, ox + 7, none⟩, .slice Ay ykids.length py)] := ⟨_, rfl⟩
    have hSY : HasC w' LY := hLY ▸ (hasC_cons (R1.cell 0) (hasC_cons (R1.cell 3) (hasC_cons (by simpa [Nat.add_assoc] using c0y) (hasC_cons (by simpa [Nat.add_assoc] using c1y) (hasC_cons (by simpa [Nat.add_assoc] using c2y) (hasC_cons (by simpa [Nat.add_assoc] using c3y) hasC_nil))))))
    have hOY : ∀ x ∈ LY, x.1.block < w'.heap.size ∧ (Value.slice Av l.length cv).ownBlock ≠ some x.1.block := hLY ▸ (olt_cons (show w.heap.size < w'.heap.size by omega) hne (olt_cons (show w.heap.size < w'.heap.size by omega) hne (olt_cons (show kx < w'.heap.size by omega) (own_ne hown (show kx < base by omega)) (olt_cons (show kx < w'.heap.size by omega) (own_ne hown (show kx < base by omega)) (olt_cons (show kx < w'.heap.size by omega) (own_ne hown (show kx < base by omega)) (olt_cons (show kx < w'.heap.size by omega) (own_ne hown (show kx < base by omega)) olt_nil))))))
    have HLY_ := Lib.hid hLY
    clear hLY
    have bdd : Below w'.heap.size w' w'.drew := (Below.refl _ _).drew
    have hSX0 : HasC w'.drew LX := hSX
    have hOX0 := olt_up hOX (OwnG.of_below bdd)
    have hSY0 : HasC w'.drew LY := hSY
    have hOY0 := olt_up hOY (OwnG.of_below bdd)
    have ow2 : OwnW w'.drew base (.slice Av l.length cv) l := OwnW.below ow1 bdd (Nat.le_refl _)
    have G2 := G1.trans (OwnG.of_below bdd)
    have K2 : OwnG (.slice Av l.length cv) (.slice Av l.length cv) w' w'.drew := OwnG.of_below bdd
    have f0 : w'.cell? ⟨w.heap.size, 0, none⟩ = some (.int .i64 op) := R1.cell 0
    have f1 : w'.cell? ⟨w.heap.size, 3, none⟩ = some (.slice (some ⟨kx, ox, none⟩) kids.length p) := R1.cell 3
    have f2 : w'.cell? ⟨kx, ox, none⟩ = some (.int .i64 xop) := by simpa [Nat.add_assoc] using c0x
    have f3 : w'.cell? ⟨kx, ox + 1, none⟩ = some (.int .i64 xn) := by simpa [Nat.add_assoc] using c1x
    have f4 : w'.cell? ⟨kx, ox + 2, none⟩ = some (.string xname) := by simpa [Nat.add_assoc] using c2x
    have f5 : w'.cell? ⟨kx, ox + 3, none⟩ = some (.slice Ax xkids.length px) := by simpa [Nat.add_assoc] using c3x
    go_wp2_with fail
    refine wp_region_held_drew (S := fun w' => HasC w' LX) (by kernel_rfl) ?_ (fun hHeld => ?_)
    · exact hSX0
    generalize w'.drew = wd at hHeld bdd hSX0 hSY0 hOX0 hOY0 ow2 G2 K2 ⊢
    clear bdd hSX hOX hSY hOY f0 f1 f2 f3 f4 f5
    refine reg_take (i := 0) (v := ?v1) rfl (by kernel_rfl) (by kernel_rfl) (by kernel_rfl) (fun _ _ _ h => h) (Or.inl ⟨by kernel_rfl, ?h1⟩) (by assumption) ?r1
    case h1 => (intro w hSw; have hSw := HasC.six hSw HLX_.out; dsimp only at hSw; go_simp; (try rw [if_neg (by omega)]); try with_reducible rfl)
    try simp only [Act.put, List.setIfInBounds_toArray, List.set_cons_zero, List.set_cons_succ]
    refine reg_take (i := 1) (v := ?v2) rfl (by kernel_rfl) (by kernel_rfl) (by kernel_rfl) (fun _ _ _ h => h) (Or.inl ⟨by kernel_rfl, ?h2⟩) (by assumption) ?r2
    case h2 => (intro w hSw; have hSw := HasC.six hSw HLX_.out; dsimp only at hSw; go_simp; (try rw [if_neg (by omega)]); try with_reducible rfl)
    try simp only [Act.put, List.setIfInBounds_toArray, List.set_cons_zero, List.set_cons_succ]
    refine reg_take (i := 2) (v := ?v3) rfl (by kernel_rfl) (by kernel_rfl) (by kernel_rfl) (fun _ _ _ h => h) (Or.inl ⟨by kernel_rfl, ?h3⟩) (by assumption) ?r3
    case h3 => (intro w hSw; have hSw := HasC.six hSw HLX_.out; dsimp only at hSw; go_simp; (try rw [if_neg (by omega)]); try with_reducible rfl)
    try simp only [Act.put, List.setIfInBounds_toArray, List.set_cons_zero, List.set_cons_succ]
    refine reg_take (i := 3) (v := ?v4) rfl (by kernel_rfl) (by kernel_rfl) (by kernel_rfl) (fun _ _ _ h => h) (Or.inl ⟨by kernel_rfl, ?h4⟩) (by assumption) ?r4
    case h4 => (intro w hSw; have hSw := HasC.six hSw HLX_.out; dsimp only at hSw; go_simp; (try rw [if_neg (by omega)]); try with_reducible rfl)
    try simp only [Act.put, List.setIfInBounds_toArray, List.set_cons_zero, List.set_cons_succ]
    refine reg_take (i := 4) (v := ?v5) rfl (by kernel_rfl) (by kernel_rfl) (by kernel_rfl) (fun _ _ _ h => h) (Or.inl ⟨by kernel_rfl, ?h5⟩) (by assumption) ?r5
    case h5 => (intro w hSw; have hSw := HasC.six hSw HLX_.out; dsimp only at hSw; go_simp; (try rw [if_neg (by omega)]); try with_reducible rfl)
    try simp only [Act.put, List.setIfInBounds_toArray, List.set_cons_zero, List.set_cons_succ]
    refine reg_take (i := 5) (v := ?v6) rfl (by kernel_rfl) (by kernel_rfl) (by kernel_rfl) (fun _ _ _ h => h) (Or.inl ⟨by kernel_rfl, ?h6⟩) (by assumption) ?r6
    case h6 => (intro w hSw; have hSw := HasC.six hSw HLX_.out; dsimp only at hSw; go_simp; (try rw [if_neg (by omega)]); try with_reducible rfl)
    try simp only [Act.put, List.setIfInBounds_toArray, List.set_cons_zero, List.set_cons_succ]
    refine reg_take (i := 6) (v := ?v7) rfl (by kernel_rfl) (by kernel_rfl) (by kernel_rfl) (fun _ _ _ h => h) (Or.inl ⟨by kernel_rfl, ?h7⟩) (by assumption) ?r7
    case h7 => (intro w hSw; have hSw := HasC.six hSw HLX_.out; dsimp only at hSw; go_simp; (try rw [if_neg (by omega)]); try with_reducible rfl)
    try simp only [Act.put, List.setIfInBounds_toArray, List.set_cons_zero, List.set_cons_succ]
    refine reg_take (i := 7) (v := ?v8) rfl (by kernel_rfl) (by kernel_rfl) (by kernel_rfl) (fun _ _ _ h => h) (Or.inl ⟨by kernel_rfl, ?h8⟩) (by assumption) ?r8
    case h8 => (intro w hSw; have hSw := HasC.six hSw HLX_.out; dsimp only at hSw; go_simp; (try rw [if_neg (by omega)]); try with_reducible rfl)
    try simp only [Act.put, List.setIfInBounds_toArray, List.set_cons_zero, List.set_cons_succ]
    refine reg_take (i := 8) (v := ?v9) rfl (by kernel_rfl) (by kernel_rfl) (by kernel_rfl) (fun _ _ _ h => h) (Or.inl ⟨by kernel_rfl, ?h9⟩) (by assumption) ?r9
    case h9 => (intro w hSw; have hSw := HasC.six hSw HLX_.out; dsimp only at hSw; go_simp; (try rw [if_neg (by omega)]); try with_reducible rfl)
    try simp only [Act.put, List.setIfInBounds_toArray, List.set_cons_zero, List.set_cons_succ]
    refine reg_take (i := 9) (v := ?v10) rfl (by kernel_rfl) (by kernel_rfl) (by kernel_rfl) (fun _ _ _ h => h) (Or.inl ⟨by kernel_rfl, ?h10⟩) (by assumption) ?r10
    case h10 => (intro w hSw; have hSw := HasC.six hSw HLX_.out; dsimp only at hSw; go_simp; (try rw [if_neg (by omega)]); try with_reducible rfl)
    try simp only [Act.put, List.setIfInBounds_toArray, List.set_cons_zero, List.set_cons_succ]
    refine reg_take (i := 11) (v := ?v11) rfl (by kernel_rfl) (by kernel_rfl) (by kernel_rfl) (fun _ _ _ h => h) (Or.inl ⟨by kernel_rfl, ?h11⟩) (by assumption) ?r11
    case h11 => (intro w hSw; have hSw := HasC.six hSw HLX_.out; dsimp only at hSw; go_simp; (try rw [if_neg (by omega)]); try with_reducible rfl)
    try simp only [Act.put, List.setIfInBounds_toArray, List.set_cons_zero, List.set_cons_succ]
    refine reg_call (i := 10) (by kernel_rfl) rfl (fun K hK => ?_)
    go_simp
    refine (impl_levelOf xop _ g0x (HTX.out _ (G2.below hbs (fun k hk => own_ge hown hk))).1.2).mono ?_
    rintro e w_ ⟨rfl, hw_⟩
    subst hw_
    refine hK.out _ _ ?_ (fun hHeld => ?_)
    · exact hSX0
    clear hK K
    try simp only [Act.put, List.setIfInBounds_toArray, List.set_cons_zero, List.set_cons_succ]
    refine reg_take (i := 12) (v := ?v13) rfl (by kernel_rfl) (by kernel_rfl) (by kernel_rfl) (fun _ _ _ h => h) (Or.inl ⟨by kernel_rfl, ?h13⟩) (by assumption) ?r13
    case h13 => (intro w hSw; have hSw := HasC.six hSw HLX_.out; dsimp only at hSw; go_simp; (try rw [if_neg (by omega)]); try with_reducible rfl)
    try simp only [Act.put, List.setIfInBounds_toArray, List.set_cons_zero, List.set_cons_succ]
    refine reg_call (i := 13) (by kernel_rfl) rfl (fun K hK => ?_)
    go_simp
    have Bc := G2.below hbs (fun k hk => own_ge hown hk)
    have Bk := K2.below (Nat.le_trans hbs (Nat.le_of_lt hBw)) (fun k hk => own_ge ow1 hk)
    refine (ih (decide (levOf xop < L)) d' xop xn xname xkids (.slice Ax xkids.length px) _ lo B base _ _ hBb (Nat.le_trans hbs Bc.size) g0x g1x g2x (g3x.below Bk hBb) hfx.out hpx.out (fun w9 b9 => HTX.out w9 (Bc.trans b9)) ow2 (by rw [HWx.out]; (try simp only [List.length_append, List.length_cons, List.length_nil]); omega)).mono ?_
    rw [HWx.out]
    rintro e w3 ⟨v3', rfl, ow3, g3⟩
    have hSX3 := hSX0.own g3 hOX0
    have hOX3 := olt_up hOX0 g3
    have hSY3 := hSY0.own g3 hOY0
    have hOY3 := olt_up hOY0 g3
    have G3 := G2.trans g3
    have K3 := K2.trans g3
    obtain ⟨A3, n3_, c3, hf3⟩ := OwnW.formN ow3
    subst hf3
    clear Bc Bk
    refine hK.out _ _ ?_ (fun hHeld => ?_)
    · exact hSX3
    clear hK K
    try simp only [Act.put, List.setIfInBounds_toArray, List.set_cons_zero, List.set_cons_succ]
    refine reg_take (i := 14) (v := ?v15) rfl (by kernel_rfl) (by kernel_rfl) (by kernel_rfl) (fun _ _ _ h => h) (Or.inl ⟨by kernel_rfl, ?h15⟩) (by assumption) ?r15
    case h15 => (intro w hSw; have hSw := HasC.six hSw HLX_.out; dsimp only at hSw; go_simp; (try rw [if_neg (by omega)]); try with_reducible rfl)
    try simp only [Act.put, List.setIfInBounds_toArray, List.set_cons_zero, List.set_cons_succ]
    refine wpAnyH_done (by kernel_rfl) ?_ _
    obtain ⟨y0, y3, -⟩ := HasC.six hSX3 HLX_.out
    dsimp only at y0 y3
    have t3 := HTX.out _ (G3.below hbs (fun k hk => own_ge hown hk))
    obtain ⟨bm, s1, s0, s2, s3⟩ := t3.1.2
    have hlk := s3 w3 op ho rfl
    have hfl := field_sgn w3 (sgn op) (lev op)
    clear s3 t3
    go_wp2_with fail
    refine (impl_signWord (sgn op) _).mono ?_
    rintro e w4 ⟨rfl, b4⟩
    clear y0 y3 s2 hlk hfl
    have ow4 := OwnW.below ow3 b4 (Nat.le_refl _)
    go_wp2_with (at_builtin; refine app_words rfl _ _ rfl w4 base _ (l ++ wsx) [⟨3, sgn op⟩] _ rfl 1 rfl ow4 (by (try simp only [List.length_append, List.length_cons, List.length_nil]); omega) (Nat.le_trans hbs (Nat.le_trans G3.size b4.size)) rfl rfl ?_)
    intro v5 w5 ow5 g5
    obtain ⟨A5, n5_, c5, hf5⟩ := OwnW.formN ow5
    subst hf5
    have g45 := (OwnG.of_below (v := .slice A3 n3_ c3) b4).trans g5
    have G5 := G3.trans g45
    have K5 := K3.trans g45
    have hSY5 := hSY3.own g45 hOY3
    have hOY5 := olt_up hOY3 g45
    clear hSX3 hOX3 hSY3 hOY3 hSX0 hSY0 hOX0 hOY0
    have bdd : Below w5.heap.size w5 w5.drew := (Below.refl _ _).drew
    have hSY6 : HasC w5.drew LY := hSY5
    have hOY6 := olt_up hOY5 (OwnG.of_below (v := .slice A5 n5_ c5) bdd)
    have ow6 := OwnW.below ow5 bdd (Nat.le_refl _)
    have G6 := G5.trans (OwnG.of_below bdd)
    have K6 := K5.trans (OwnG.of_below bdd)
    go_wp2_with fail
    refine wp_region_held_drew (S := fun w' => HasC w' LY) (by kernel_rfl) ?_ (fun hHeld => ?_)
    · exact hSY6
    generalize w5.drew = we at hHeld bdd hSY6 hOY6 ow6 G6 K6 ⊢
    clear bdd hSY5 hOY5
    refine reg_take (i := 0) (v := ?v16) rfl (by kernel_rfl) (by kernel_rfl) (by kernel_rfl) (fun _ _ _ h => h) (Or.inl ⟨by kernel_rfl, ?h16⟩) (by assumption) ?r16
    case h16 => (intro w hSw; have hSw := HasC.six hSw HLY_.out; dsimp only at hSw; go_simp; (try rw [if_neg (by omega)]); try with_reducible rfl)
    try simp only [Act.put, List.setIfInBounds_toArray, List.set_cons_zero, List.set_cons_succ]
    refine reg_take (i := 1) (v := ?v17) rfl (by kernel_rfl) (by kernel_rfl) (by kernel_rfl) (fun _ _ _ h => h) (Or.inl ⟨by kernel_rfl, ?h17⟩) (by assumption) ?r17
    case h17 => (intro w hSw; have hSw := HasC.six hSw HLY_.out; dsimp only at hSw; go_simp; (try rw [if_neg (by omega)]); try with_reducible rfl)
    try simp only [Act.put, List.setIfInBounds_toArray, List.set_cons_zero, List.set_cons_succ]
    refine reg_take (i := 2) (v := ?v18) rfl (by kernel_rfl) (by kernel_rfl) (by kernel_rfl) (fun _ _ _ h => h) (Or.inl ⟨by kernel_rfl, ?h18⟩) (by assumption) ?r18
    case h18 => (intro w hSw; have hSw := HasC.six hSw HLY_.out; dsimp only at hSw; go_simp; (try rw [if_neg (by omega)]); try with_reducible rfl)
    try simp only [Act.put, List.setIfInBounds_toArray, List.set_cons_zero, List.set_cons_succ]
    refine reg_take (i := 3) (v := ?v19) rfl (by kernel_rfl) (by kernel_rfl) (by kernel_rfl) (fun _ _ _ h => h) (Or.inl ⟨by kernel_rfl, ?h19⟩) (by assumption) ?r19
    case h19 => (intro w hSw; have hSw := HasC.six hSw HLY_.out; dsimp only at hSw; go_simp; (try rw [if_neg (by omega)]); try with_reducible rfl)
    try simp only [Act.put, List.setIfInBounds_toArray, List.set_cons_zero, List.set_cons_succ]
    refine reg_take (i := 4) (v := ?v20) rfl (by kernel_rfl) (by kernel_rfl) (by kernel_rfl) (fun _ _ _ h => h) (Or.inl ⟨by kernel_rfl, ?h20⟩) (by assumption) ?r20
    case h20 => (intro w hSw; have hSw := HasC.six hSw HLY_.out; dsimp only at hSw; go_simp; (try rw [if_neg (by omega)]); try with_reducible rfl)
    try simp only [Act.put, List.setIfInBounds_toArray, List.set_cons_zero, List.set_cons_succ]
    refine reg_take (i := 5) (v := ?v21) rfl (by kernel_rfl) (by kernel_rfl) (by kernel_rfl) (fun _ _ _ h => h) (Or.inl ⟨by kernel_rfl, ?h21⟩) (by assumption) ?r21
    case h21 => (intro w hSw; have hSw := HasC.six hSw HLY_.out; dsimp only at hSw; go_simp; (try rw [if_neg (by omega)]); try with_reducible rfl)
    try simp only [Act.put, List.setIfInBounds_toArray, List.set_cons_zero, List.set_cons_succ]
    refine reg_take (i := 6) (v := ?v22) rfl (by kernel_rfl) (by kernel_rfl) (by kernel_rfl) (fun _ _ _ h => h) (Or.inl ⟨by kernel_rfl, ?h22⟩) (by assumption) ?r22
    case h22 => (intro w hSw; have hSw := HasC.six hSw HLY_.out; dsimp only at hSw; go_simp; (try rw [if_neg (by omega)]); try with_reducible rfl)
    try simp only [Act.put, List.setIfInBounds_toArray, List.set_cons_zero, List.set_cons_succ]
    refine reg_take (i := 7) (v := ?v23) rfl (by kernel_rfl) (by kernel_rfl) (by kernel_rfl) (fun _ _ _ h => h) (Or.inl ⟨by kernel_rfl, ?h23⟩) (by assumption) ?r23
    case h23 => (intro w hSw; have hSw := HasC.six hSw HLY_.out; dsimp only at hSw; go_simp; (try rw [if_neg (by omega)]); try with_reducible rfl)
    try simp only [Act.put, List.setIfInBounds_toArray, List.set_cons_zero, List.set_cons_succ]
    refine reg_take (i := 8) (v := ?v24) rfl (by kernel_rfl) (by kernel_rfl) (by kernel_rfl) (fun _ _ _ h => h) (Or.inl ⟨by kernel_rfl, ?h24⟩) (by assumption) ?r24
    case h24 => (intro w hSw; have hSw := HasC.six hSw HLY_.out; dsimp only at hSw; go_simp; (try rw [if_neg (by omega)]); try with_reducible rfl)
    try simp only [Act.put, List.setIfInBounds_toArray, List.set_cons_zero, List.set_cons_succ]
    refine reg_take (i := 9) (v := ?v25) rfl (by kernel_rfl) (by kernel_rfl) (by kernel_rfl) (fun _ _ _ h => h) (Or.inl ⟨by kernel_rfl, ?h25⟩) (by assumption) ?r25
    case h25 => (intro w hSw; have hSw := HasC.six hSw HLY_.out; dsimp only at hSw; go_simp; (try rw [if_neg (by omega)]); try with_reducible rfl)
    try simp only [Act.put, List.setIfInBounds_toArray, List.set_cons_zero, List.set_cons_succ]
    refine reg_take (i := 11) (v := ?v26) rfl (by kernel_rfl) (by kernel_rfl) (by kernel_rfl) (fun _ _ _ h => h) (Or.inl ⟨by kernel_rfl, ?h26⟩) (by assumption) ?r26
    case h26 => (intro w hSw; have hSw := HasC.six hSw HLY_.out; dsimp only at hSw; go_simp; (try rw [if_neg (by omega)]); try with_reducible rfl)
    try simp only [Act.put, List.setIfInBounds_toArray, List.set_cons_zero, List.set_cons_succ]
    refine reg_call (i := 10) (by kernel_rfl) rfl (fun K hK => ?_)
    go_simp
    refine (impl_levelOf yop _ g0y (HTX.out _ (G6.below hbs (fun k hk => own_ge hown hk))).1.2).mono ?_
    rintro e w_ ⟨rfl, hw_⟩
    subst hw_
    refine hK.out _ _ ?_ (fun hHeld => ?_)
    · exact hSY6
    clear hK K
    try simp only [Act.put, List.setIfInBounds_toArray, List.set_cons_zero, List.set_cons_succ]
    refine reg_take (i := 12) (v := ?v28) rfl (by kernel_rfl) (by kernel_rfl) (by kernel_rfl) (fun _ _ _ h => h) (Or.inl ⟨by kernel_rfl, ?h28⟩) (by assumption) ?r28
    case h28 => (intro w hSw; have hSw := HasC.six hSw HLY_.out; dsimp only at hSw; go_simp; (try rw [if_neg (by omega)]); try with_reducible rfl)
    try simp only [Act.put, List.setIfInBounds_toArray, List.set_cons_zero, List.set_cons_succ]
    refine reg_call (i := 13) (by kernel_rfl) rfl (fun K hK => ?_)
    go_simp
    have Bc := G6.below hbs (fun k hk => own_ge hown hk)
    have Bk := K6.below (Nat.le_trans hbs (Nat.le_of_lt hBw)) (fun k hk => own_ge ow1 hk)
    refine (ih (decide (levOf yop ≤ L)) d' yop yn yname ykids (.slice Ay ykids.length py) _ lo B base _ _ hBb (Nat.le_trans hbs Bc.size) g0y g1y g2y (g3y.below Bk hBb) hfy.out hpy.out (fun w9 b9 => HTX.out w9 (Bc.trans b9)) ow6 (by rw [HWy.out]; (try simp only [List.length_append, List.length_cons, List.length_nil]); omega)).mono ?_
    rw [HWy.out]
    rintro e wz ⟨vz, rfl, owz, gz⟩
    have hSYz := hSY6.own gz hOY6
    refine hK.out _ _ ?_ (fun hHeld => ?_)
    · exact hSYz
    clear hK K
    try simp only [Act.put, List.setIfInBounds_toArray, List.set_cons_zero, List.set_cons_succ]
    refine reg_take (i := 14) (v := ?v30) rfl (by kernel_rfl) (by kernel_rfl) (by kernel_rfl) (fun _ _ _ h => h) (Or.inl ⟨by kernel_rfl, ?h30⟩) (by assumption) ?r30
    case h30 => (intro w hSw; have hSw := HasC.six hSw HLY_.out; dsimp only at hSw; go_simp; (try rw [if_neg (by omega)]); try with_reducible rfl)
    try simp only [Act.put, List.setIfInBounds_toArray, List.set_cons_zero, List.set_cons_succ]
    refine wpAnyH_done (by kernel_rfl) ?_ _
    go_wp2_with fail
    go_ret
    exact ⟨vz, rfl, by rw [E.out]; simpa using owz, G6.trans gz⟩
  · rcases ho12 with rfl | rfl
    · have hkp0 : 0 < kids.length := by omega
      have hkp0' : (0 : Int) < (kids.length : Int) := by omega
      have HLN := Lib.hid hl
      clear hl hfm
      have hb0 : Below w.heap.size w (w.alloc (.cells #[.int .i64 11, .int .i64 n, .string name, .slice A kids.length p] 25)) := (Below.refl _ _).alloc (Nat.le_refl _) _
      have R0 : Row (w.alloc (.cells #[.int .i64 11, .int .i64 n, .string name, .slice A kids.length p] 25)) w.heap.size 25 #[.int .i64 11, .int .i64 n, .string name, .slice A kids.length p] := Row.new w _ _
      have ow0 : OwnW (w.alloc (.cells #[.int .i64 11, .int .i64 n, .string name, .slice A kids.length p] 25)) base (.slice Av l.length cv) l := OwnW.below hown hb0 (Nat.le_refl _)
      have G0 : OwnG (.slice Av l.length cv) (.slice Av l.length cv) w (w.alloc (.cells #[.int .i64 11, .int .i64 n, .string name, .slice A kids.length p] 25)) := OwnG.of_below hb0
      have hne := own_ne' hown (Nat.le_refl _)
      have t0 := HTX.out _ (hb0.mono hbs)
      obtain ⟨d', rfl⟩ := exS_pos h3 (by omega)
      go_enter Tryd.func24, Tryd.ntmps24
      go_wp2_with fail
      refine (impl_levelOf 11 _ ho t0.1.2).mono ?_
      rw [show levOf 11 = 5 from rfl]
      rintro e w' ⟨rfl, hw'⟩
      have hb1 : Below w.heap.size w w' := hw' ▸ hb0
      have R1 : Row w' w.heap.size 25 #[.int .i64 11, .int .i64 n, .string name, .slice A kids.length p] := hw' ▸ R0
      have hBw : w.heap.size < w'.heap.size := hw' ▸ R0.lt
      clear hw' hb0 R0 ow0 G0 t0
      have ow1 : OwnW w' base (.slice Av l.length cv) l := OwnW.below hown hb1 (Nat.le_refl _)
      have G1 : OwnG (.slice Av l.length cv) (.slice Av l.length cv) w w' := OwnG.of_below hb1
      obtain ⟨kx, ox, xop, xn, xname, xkids, xv, hAx, _, hbBx, HLx, g0x, g1x, g2x, g3x, c0x, c1x, c2x, c3x⟩ := ex_get d' (h3.below (hb1.mono hbs) hBb) hkp0
      obtain ⟨Ax, px, hfx, _, _⟩ := g3x.form
      change _ = Value.slice Ax xkids.length px at hfx
      subst hfx
      subst hAx
      have hmx : Ex.mk xop xn xname xkids ∈ kids := HLx.out ▸ List.getElem_mem _
      have hfx := Lib.hid (List.all_eq_true.1 HA.out _ hmx)
      have hpx := Lib.hid (HP.out _ hmx)
      clear hmx
      obtain ⟨wsx, hwsx⟩ : ∃ ws, wdE m (decide (levOf xop < 5)) (.mk xop xn xname xkids) = ws := ⟨_, rfl⟩
      have hkk : kids = [.mk xop xn xname xkids] := by
        obtain ⟨a, hab⟩ := one_listT HLN.out
        have h1 := HLx.out
        simp only [hab, List.getElem_cons_zero] at h1
        rw [hab, h1]
      have E : Hid (wdE (m + 1) false (.mk 11 n name kids) = [⟨3, ⟨#[33]⟩⟩] ++ wsx) := by
        show _ = _
        rw [wd_no]
        unfold inW
        rw [if_neg (by omega), if_neg (by omega), if_neg (by omega), if_pos (show levOf 11 = 5 from rfl), hkk]
        show [⟨3, sgS 11⟩] ++ wdE m (decide (levOf xop < 5)) (Ex.mk xop xn xname xkids) = _
        rw [hwsx]
        rfl
      rw [E.out] at hlen
      simp only [List.length_append, List.length_cons, List.length_nil] at hlen
      have HWx := Lib.hid hwsx
      clear hkk hwsx hp
      obtain ⟨LX, hLX⟩ : ∃ L : List (Addr × Value), L = [(⟨w.heap.size, 0, none⟩, .int .i64 11), (⟨w.heap.size, 3, none⟩, .slice (some ⟨kx, ox, none⟩) kids.length p), (⟨kx, ox, none⟩, .int .i64 xop), (⟨kx, ox + 1, none⟩, .int .i64 xn), (⟨kx, ox + 2, none⟩, .string xname), (⟨kx, ox + 3, none⟩, .slice Ax xkids.length px)] := ⟨_, rfl⟩
      have hSX : HasC w' LX := hLX ▸ (hasC_cons (R1.cell 0) (hasC_cons (R1.cell 3) (hasC_cons (by simpa [Nat.add_assoc] using c0x) (hasC_cons (by simpa [Nat.add_assoc] using c1x) (hasC_cons (by simpa [Nat.add_assoc] using c2x) (hasC_cons (by simpa [Nat.add_assoc] using c3x) hasC_nil))))))
      have hOX : ∀ x ∈ LX, x.1.block < w'.heap.size ∧ (Value.slice Av l.length cv).ownBlock ≠ some x.1.block := hLX ▸ (olt_cons (show w.heap.size < w'.heap.size by omega) hne (olt_cons (show w.heap.size < w'.heap.size by omega) hne (olt_cons (show kx < w'.heap.size by omega) (own_ne hown (show kx < base by omega)) (olt_cons (show kx < w'.heap.size by omega) (own_ne hown (show kx < base by omega)) (olt_cons (show kx < w'.heap.size by omega) (own_ne hown (show kx < base by omega)) (olt_cons (show kx < w'.heap.size by omega) (own_ne hown (show kx < base by omega)) olt_nil))))))
      have HLX_ := Lib.hid hLX
      clear hLX
      have bdd : Below w'.heap.size w' w'.drew := (Below.refl _ _).drew
      have hS0 : HasC w'.drew LX := hSX
      have hO0 := olt_up hOX (OwnG.of_below bdd)
      have ow2 : OwnW w'.drew base (.slice Av l.length cv) l := OwnW.below ow1 bdd (Nat.le_refl _)
      have G2 := G1.trans (OwnG.of_below bdd)
      have K2 : OwnG (.slice Av l.length cv) (.slice Av l.length cv) w' w'.drew := OwnG.of_below bdd
      have f0 : w'.cell? ⟨w.heap.size, 0, none⟩ = some (.int .i64 11) := R1.cell 0
      have f1 : w'.cell? ⟨w.heap.size, 3, none⟩ = some (.slice (some ⟨kx, ox, none⟩) kids.length p) := R1.cell 3
      have f2 : w'.cell? ⟨kx, ox, none⟩ = some (.int .i64 xop) := by simpa [Nat.add_assoc] using c0x
      have f3 : w'.cell? ⟨kx, ox + 1, none⟩ = some (.int .i64 xn) := by simpa [Nat.add_assoc] using c1x
      have f4 : w'.cell? ⟨kx, ox + 2, none⟩ = some (.string xname) := by simpa [Nat.add_assoc] using c2x
      have f5 : w'.cell? ⟨kx, ox + 3, none⟩ = some (.slice Ax xkids.length px) := by simpa [Nat.add_assoc] using c3x
      go_wp2_with fail
      refine wp_region_held_drew (S := fun w' => HasC w' LX) (by kernel_rfl) ?_ (fun hHeld => ?_)
      · exact hS0
      generalize w'.drew = wd at hHeld bdd hS0 hO0 ow2 G2 K2 ⊢
      clear bdd hSX hOX f0 f1 f2 f3 f4 f5
      refine reg_take (i := 0) (v := ?v1001) rfl (by kernel_rfl) (by kernel_rfl) (by kernel_rfl) (fun _ _ _ h => h) (Or.inl ⟨by kernel_rfl, ?h1001⟩) hS0 ?r1001
      case h1001 => (intro w hSw; have hSw := HasC.six hSw HLX_.out; dsimp only at hSw; go_simp; (try rw [if_neg (by omega)]); try with_reducible rfl)
      try simp only [Act.put, List.setIfInBounds_toArray, List.set_cons_zero, List.set_cons_succ]
      refine reg_take (i := 1) (v := ?v1002) rfl (by kernel_rfl) (by kernel_rfl) (by kernel_rfl) (fun _ _ _ h => h) (Or.inl ⟨by kernel_rfl, ?h1002⟩) hS0 ?r1002
      case h1002 => (intro w hSw; have hSw := HasC.six hSw HLX_.out; dsimp only at hSw; go_simp; (try rw [if_neg (by omega)]); try with_reducible rfl)
      try simp only [Act.put, List.setIfInBounds_toArray, List.set_cons_zero, List.set_cons_succ]
      refine reg_take (i := 5) (v := ?v1003) rfl (by kernel_rfl) (by kernel_rfl) (by kernel_rfl) (fun _ _ _ h => h) (Or.inl ⟨by kernel_rfl, ?h1003⟩) hS0 ?r1003
      case h1003 => (intro w hSw; have hSw := HasC.six hSw HLX_.out; dsimp only at hSw; go_simp; (try rw [if_neg (by omega)]); try with_reducible rfl)
      try simp only [Act.put, List.setIfInBounds_toArray, List.set_cons_zero, List.set_cons_succ]
      refine reg_take (i := 6) (v := ?v1004) rfl (by kernel_rfl) (by kernel_rfl) (by kernel_rfl) (fun _ _ _ h => h) (Or.inl ⟨by kernel_rfl, ?h1004⟩) hS0 ?r1004
      case h1004 => (intro w hSw; have hSw := HasC.six hSw HLX_.out; dsimp only at hSw; go_simp; (try rw [if_neg (by omega)]); try with_reducible rfl)
      try simp only [Act.put, List.setIfInBounds_toArray, List.set_cons_zero, List.set_cons_succ]
      refine reg_take (i := 7) (v := ?v1005) rfl (by kernel_rfl) (by kernel_rfl) (by kernel_rfl) (fun _ _ _ h => h) (Or.inl ⟨by kernel_rfl, ?h1005⟩) hS0 ?r1005
      case h1005 => (intro w hSw; have hSw := HasC.six hSw HLX_.out; dsimp only at hSw; go_simp; (try rw [if_neg (by omega)]); try with_reducible rfl)
      try simp only [Act.put, List.setIfInBounds_toArray, List.set_cons_zero, List.set_cons_succ]
      refine reg_take (i := 8) (v := ?v1006) rfl (by kernel_rfl) (by kernel_rfl) (by kernel_rfl) (fun _ _ _ h => h) (Or.inl ⟨by kernel_rfl, ?h1006⟩) hS0 ?r1006
      case h1006 => (intro w hSw; have hSw := HasC.six hSw HLX_.out; dsimp only at hSw; go_simp; (try rw [if_neg (by omega)]); try with_reducible rfl)
      try simp only [Act.put, List.setIfInBounds_toArray, List.set_cons_zero, List.set_cons_succ]
      refine reg_take (i := 9) (v := ?v1007) rfl (by kernel_rfl) (by kernel_rfl) (by kernel_rfl) (fun _ _ _ h => h) (Or.inl ⟨by kernel_rfl, ?h1007⟩) hS0 ?r1007
      case h1007 => (intro w hSw; have hSw := HasC.six hSw HLX_.out; dsimp only at hSw; go_simp; (try rw [if_neg (by omega)]); try with_reducible rfl)
      try simp only [Act.put, List.setIfInBounds_toArray, List.set_cons_zero, List.set_cons_succ]
      refine reg_take (i := 10) (v := ?v1008) rfl (by kernel_rfl) (by kernel_rfl) (by kernel_rfl) (fun _ _ _ h => h) (Or.inl ⟨by kernel_rfl, ?h1008⟩) hS0 ?r1008
      case h1008 => (intro w hSw; have hSw := HasC.six hSw HLX_.out; dsimp only at hSw; go_simp; (try rw [if_neg (by omega)]); try with_reducible rfl)
      try simp only [Act.put, List.setIfInBounds_toArray, List.set_cons_zero, List.set_cons_succ]
      refine reg_take (i := 11) (v := ?v1009) rfl (by kernel_rfl) (by kernel_rfl) (by kernel_rfl) (fun _ _ _ h => h) (Or.inl ⟨by kernel_rfl, ?h1009⟩) hS0 ?r1009
      case h1009 => (intro w hSw; have hSw := HasC.six hSw HLX_.out; dsimp only at hSw; go_simp; (try rw [if_neg (by omega)]); try with_reducible rfl)
      try simp only [Act.put, List.setIfInBounds_toArray, List.set_cons_zero, List.set_cons_succ]
      refine reg_take (i := 12) (v := ?v1010) rfl (by kernel_rfl) (by kernel_rfl) (by kernel_rfl) (fun _ _ _ h => h) (Or.inl ⟨by kernel_rfl, ?h1010⟩) hS0 ?r1010
      case h1010 => (intro w hSw; have hSw := HasC.six hSw HLX_.out; dsimp only at hSw; go_simp; (try rw [if_neg (by omega)]); try with_reducible rfl)
      try simp only [Act.put, List.setIfInBounds_toArray, List.set_cons_zero, List.set_cons_succ]
      refine reg_take (i := 13) (v := ?v1011) rfl (by kernel_rfl) (by kernel_rfl) (by kernel_rfl) (fun _ _ _ h => h) (Or.inl ⟨by kernel_rfl, ?h1011⟩) hS0 ?r1011
      case h1011 => (intro w hSw; have hSw := HasC.six hSw HLX_.out; dsimp only at hSw; go_simp; (try rw [if_neg (by omega)]); try with_reducible rfl)
      try simp only [Act.put, List.setIfInBounds_toArray, List.set_cons_zero, List.set_cons_succ]
      refine reg_call (i := 2) (by kernel_rfl) rfl (fun K hK => ?_)
      go_simp
      refine (impl_signWord ⟨#[33]⟩ _).mono ?_
      rintro e wa ⟨rfl, ba⟩
      have hSa := hS0.own (OwnG.of_below (v := .slice Av l.length cv) ba) hO0
      have hOa := olt_up hO0 (OwnG.of_below (v := .slice Av l.length cv) ba)
      have owa := OwnW.below ow2 ba (Nat.le_refl _)
      have Ga := G2.trans (OwnG.of_below ba)
      have Ka := K2.trans (OwnG.of_below ba)
      refine hK.out _ _ hSa (fun hHeld => ?_)
      clear hK K
      try simp only [Act.put, List.setIfInBounds_toArray, List.set_cons_zero, List.set_cons_succ]
      refine reg_call (i := 3) (by kernel_rfl) rfl (fun K hK => ?_)
      go_simp
      have bs := (Below.refl _ wa).alloc (Nat.le_refl _) (.cells #[.int .i64 3, .string ⟨#[33]⟩] 59)
      have hSs := hSa.own (OwnG.of_below (v := .slice Av l.length cv) bs) hOa
      refine hK.out _ _ hSs (fun hHeld => ?_)
      clear hK K
      try simp only [Act.put, List.setIfInBounds_toArray, List.set_cons_zero, List.set_cons_succ]
      refine reg_call (i := 4) (by kernel_rfl) rfl (fun K hK => ?_)
      obtain ⟨v4, wb, r4, owb, gb⟩ := run_words wa base 47 (.slice Av l.length cv) l [⟨3, ⟨#[33]⟩⟩] [.int .i64 3, .string ⟨#[33]⟩] rfl 1 rfl owa (by (try simp only [List.length_append, List.length_cons, List.length_nil]); omega) (Nat.le_trans hbs Ga.size)
      rw [if_pos (show Region.wanted _ _ = true by kernel_rfl)]
      refine Lib.wp_append_run_sl _ _ _ 47 rfl _ _ rfl rfl r4 ?_
      clear r4
      obtain ⟨Ab, nb_, cb, hfb⟩ := OwnW.formN owb
      subst hfb
      have hSb := hSa.own gb hOa
      have hOb := olt_up hOa gb
      have Gb := Ga.trans gb
      have Kb := Ka.trans gb
      refine hK.out _ _ hSb (fun hHeld => ?_)
      clear hK K
      try simp only [Act.put, List.setIfInBounds_toArray, List.set_cons_zero, List.set_cons_succ]
      refine reg_call (i := 14) (by kernel_rfl) rfl (fun K hK => ?_)
      go_simp
      refine (impl_levelOf xop _ g0x (HTX.out _ (Gb.below hbs (fun k hk => own_ge hown hk))).1.2).mono ?_
      rintro e w_ ⟨rfl, hw_⟩
      subst hw_
      refine hK.out _ _ hSb (fun hHeld => ?_)
      clear hK K
      try simp only [Act.put, List.setIfInBounds_toArray, List.set_cons_zero, List.set_cons_succ]
      refine reg_take (i := 15) (v := ?v1012) rfl (by kernel_rfl) (by kernel_rfl) (by kernel_rfl) (fun _ _ _ h => h) (Or.inl ⟨by kernel_rfl, ?h1012⟩) hSb ?r1012
      case h1012 => (intro w hSw; have hSw := HasC.six hSw HLX_.out; dsimp only at hSw; go_simp; (try rw [if_neg (by omega)]); try with_reducible rfl)
      try simp only [Act.put, List.setIfInBounds_toArray, List.set_cons_zero, List.set_cons_succ]
      refine reg_call (i := 16) (by kernel_rfl) rfl (fun K hK => ?_)
      go_simp
      have Bc := Gb.below hbs (fun k hk => own_ge hown hk)
      have Bk := Kb.below (Nat.le_trans hbs (Nat.le_of_lt hBw)) (fun k hk => own_ge ow1 hk)
      refine (ih (decide (levOf xop < 5)) d' xop xn xname xkids (.slice Ax xkids.length px) _ lo B base _ _ hBb (Nat.le_trans hbs Bc.size) g0x g1x g2x (g3x.below Bk hBb) hfx.out hpx.out (fun w9 b9 => HTX.out w9 (Bc.trans b9)) owb (by rw [HWx.out]; (try simp only [List.length_append, List.length_cons, List.length_nil]); omega)).mono ?_
      rw [HWx.out]
      rintro e wz ⟨vz, rfl, owz, gz⟩
      refine hK.out _ _ (hSb.own gz hOb) (fun hHeld => ?_)
      clear hK K
      try simp only [Act.put, List.setIfInBounds_toArray, List.set_cons_zero, List.set_cons_succ]
      refine reg_take (i := 17) (v := ?v1013) rfl (by kernel_rfl) (by kernel_rfl) (by kernel_rfl) (fun _ _ _ h => h) (Or.inl ⟨by kernel_rfl, ?h1013⟩) (hSb.own gz hOb) ?r1013
      case h1013 => (intro w hSw; have hSw := HasC.six hSw HLX_.out; dsimp only at hSw; go_simp; (try rw [if_neg (by omega)]); try with_reducible rfl)
      try simp only [Act.put, List.setIfInBounds_toArray, List.set_cons_zero, List.set_cons_succ]
      refine wpAnyH_done (by kernel_rfl) ?_ _
      go_wp2_with fail
      go_ret
      exact ⟨vz, rfl, by rw [E.out]; simpa using owz, Gb.trans gz⟩
    · have hkp0 : 0 < kids.length := by omega
      have hkp0' : (0 : Int) < (kids.length : Int) := by omega
      have HLN := Lib.hid hl
      clear hl hfm
      have hb0 : Below w.heap.size w (w.alloc (.cells #[.int .i64 12, .int .i64 n, .string name, .slice A kids.length p] 25)) := (Below.refl _ _).alloc (Nat.le_refl _) _
      have R0 : Row (w.alloc (.cells #[.int .i64 12, .int .i64 n, .string name, .slice A kids.length p] 25)) w.heap.size 25 #[.int .i64 12, .int .i64 n, .string name, .slice A kids.length p] := Row.new w _ _
      have ow0 : OwnW (w.alloc (.cells #[.int .i64 12, .int .i64 n, .string name, .slice A kids.length p] 25)) base (.slice Av l.length cv) l := OwnW.below hown hb0 (Nat.le_refl _)
      have G0 : OwnG (.slice Av l.length cv) (.slice Av l.length cv) w (w.alloc (.cells #[.int .i64 12, .int .i64 n, .string name, .slice A kids.length p] 25)) := OwnG.of_below hb0
      have hne := own_ne' hown (Nat.le_refl _)
      have t0 := HTX.out _ (hb0.mono hbs)
      obtain ⟨d', rfl⟩ := exS_pos h3 (by omega)
      go_enter Tryd.func24, Tryd.ntmps24
      go_wp2_with fail
      refine (impl_levelOf 12 _ ho t0.1.2).mono ?_
      rw [show levOf 12 = 5 from rfl]
      rintro e w' ⟨rfl, hw'⟩
      have hb1 : Below w.heap.size w w' := hw' ▸ hb0
      have R1 : Row w' w.heap.size 25 #[.int .i64 12, .int .i64 n, .string name, .slice A kids.length p] := hw' ▸ R0
      have hBw : w.heap.size < w'.heap.size := hw' ▸ R0.lt
      clear hw' hb0 R0 ow0 G0 t0
      have ow1 : OwnW w' base (.slice Av l.length cv) l := OwnW.below hown hb1 (Nat.le_refl _)
      have G1 : OwnG (.slice Av l.length cv) (.slice Av l.length cv) w w' := OwnG.of_below hb1
      obtain ⟨kx, ox, xop, xn, xname, xkids, xv, hAx, _, hbBx, HLx, g0x, g1x, g2x, g3x, c0x, c1x, c2x, c3x⟩ := ex_get d' (h3.below (hb1.mono hbs) hBb) hkp0
      obtain ⟨Ax, px, hfx, _, _⟩ := g3x.form
      change _ = Value.slice Ax xkids.length px at hfx
      subst hfx
      subst hAx
      have hmx : Ex.mk xop xn xname xkids ∈ kids := HLx.out ▸ List.getElem_mem _
      have hfx := Lib.hid (List.all_eq_true.1 HA.out _ hmx)
      have hpx := Lib.hid (HP.out _ hmx)
      clear hmx
      obtain ⟨wsx, hwsx⟩ : ∃ ws, wdE m (decide (levOf xop < 5)) (.mk xop xn xname xkids) = ws := ⟨_, rfl⟩
      have hkk : kids = [.mk xop xn xname xkids] := by
        obtain ⟨a, hab⟩ := one_listT HLN.out
        have h1 := HLx.out
        simp only [hab, List.getElem_cons_zero] at h1
        rw [hab, h1]
      have E : Hid (wdE (m + 1) false (.mk 12 n name kids) = [⟨3, ⟨#[64]⟩⟩] ++ wsx) := by
        show _ = _
        rw [wd_no]
        unfold inW
        rw [if_neg (by omega), if_neg (by omega), if_neg (by omega), if_pos (show levOf 12 = 5 from rfl), hkk]
        show [⟨3, sgS 12⟩] ++ wdE m (decide (levOf xop < 5)) (Ex.mk xop xn xname xkids) = _
        rw [hwsx]
        rfl
      rw [E.out] at hlen
      simp only [List.length_append, List.length_cons, List.length_nil] at hlen
      have HWx := Lib.hid hwsx
      clear hkk hwsx hp
      obtain ⟨LX, hLX⟩ : ∃ L : List (Addr × Value), L = [(⟨w.heap.size, 0, none⟩, .int .i64 12), (⟨w.heap.size, 3, none⟩, .slice (some ⟨kx, ox, none⟩) kids.length p), (⟨kx, ox, none⟩, .int .i64 xop), (⟨kx, ox + 1, none⟩, .int .i64 xn), (⟨kx, ox + 2, none⟩, .string xname), (⟨kx, ox + 3, none⟩, .slice Ax xkids.length px)] := ⟨_, rfl⟩
      have hSX : HasC w' LX := hLX ▸ (hasC_cons (R1.cell 0) (hasC_cons (R1.cell 3) (hasC_cons (by simpa [Nat.add_assoc] using c0x) (hasC_cons (by simpa [Nat.add_assoc] using c1x) (hasC_cons (by simpa [Nat.add_assoc] using c2x) (hasC_cons (by simpa [Nat.add_assoc] using c3x) hasC_nil))))))
      have hOX : ∀ x ∈ LX, x.1.block < w'.heap.size ∧ (Value.slice Av l.length cv).ownBlock ≠ some x.1.block := hLX ▸ (olt_cons (show w.heap.size < w'.heap.size by omega) hne (olt_cons (show w.heap.size < w'.heap.size by omega) hne (olt_cons (show kx < w'.heap.size by omega) (own_ne hown (show kx < base by omega)) (olt_cons (show kx < w'.heap.size by omega) (own_ne hown (show kx < base by omega)) (olt_cons (show kx < w'.heap.size by omega) (own_ne hown (show kx < base by omega)) (olt_cons (show kx < w'.heap.size by omega) (own_ne hown (show kx < base by omega)) olt_nil))))))
      have HLX_ := Lib.hid hLX
      clear hLX
      have bdd : Below w'.heap.size w' w'.drew := (Below.refl _ _).drew
      have hS0 : HasC w'.drew LX := hSX
      have hO0 := olt_up hOX (OwnG.of_below bdd)
      have ow2 : OwnW w'.drew base (.slice Av l.length cv) l := OwnW.below ow1 bdd (Nat.le_refl _)
      have G2 := G1.trans (OwnG.of_below bdd)
      have K2 : OwnG (.slice Av l.length cv) (.slice Av l.length cv) w' w'.drew := OwnG.of_below bdd
      have f0 : w'.cell? ⟨w.heap.size, 0, none⟩ = some (.int .i64 12) := R1.cell 0
      have f1 : w'.cell? ⟨w.heap.size, 3, none⟩ = some (.slice (some ⟨kx, ox, none⟩) kids.length p) := R1.cell 3
      have f2 : w'.cell? ⟨kx, ox, none⟩ = some (.int .i64 xop) := by simpa [Nat.add_assoc] using c0x
      have f3 : w'.cell? ⟨kx, ox + 1, none⟩ = some (.int .i64 xn) := by simpa [Nat.add_assoc] using c1x
      have f4 : w'.cell? ⟨kx, ox + 2, none⟩ = some (.string xname) := by simpa [Nat.add_assoc] using c2x
      have f5 : w'.cell? ⟨kx, ox + 3, none⟩ = some (.slice Ax xkids.length px) := by simpa [Nat.add_assoc] using c3x
      go_wp2_with fail
      refine wp_region_held_drew (S := fun w' => HasC w' LX) (by kernel_rfl) ?_ (fun hHeld => ?_)
      · exact hS0
      generalize w'.drew = wd at hHeld bdd hS0 hO0 ow2 G2 K2 ⊢
      clear bdd hSX hOX f0 f1 f2 f3 f4 f5
      refine reg_take (i := 0) (v := ?v1014) rfl (by kernel_rfl) (by kernel_rfl) (by kernel_rfl) (fun _ _ _ h => h) (Or.inl ⟨by kernel_rfl, ?h1014⟩) hS0 ?r1014
      case h1014 => (intro w hSw; have hSw := HasC.six hSw HLX_.out; dsimp only at hSw; go_simp; (try rw [if_neg (by omega)]); try with_reducible rfl)
      try simp only [Act.put, List.setIfInBounds_toArray, List.set_cons_zero, List.set_cons_succ]
      refine reg_take (i := 1) (v := ?v1015) rfl (by kernel_rfl) (by kernel_rfl) (by kernel_rfl) (fun _ _ _ h => h) (Or.inl ⟨by kernel_rfl, ?h1015⟩) hS0 ?r1015
      case h1015 => (intro w hSw; have hSw := HasC.six hSw HLX_.out; dsimp only at hSw; go_simp; (try rw [if_neg (by omega)]); try with_reducible rfl)
      try simp only [Act.put, List.setIfInBounds_toArray, List.set_cons_zero, List.set_cons_succ]
      refine reg_take (i := 5) (v := ?v1016) rfl (by kernel_rfl) (by kernel_rfl) (by kernel_rfl) (fun _ _ _ h => h) (Or.inl ⟨by kernel_rfl, ?h1016⟩) hS0 ?r1016
      case h1016 => (intro w hSw; have hSw := HasC.six hSw HLX_.out; dsimp only at hSw; go_simp; (try rw [if_neg (by omega)]); try with_reducible rfl)
      try simp only [Act.put, List.setIfInBounds_toArray, List.set_cons_zero, List.set_cons_succ]
      refine reg_take (i := 6) (v := ?v1017) rfl (by kernel_rfl) (by kernel_rfl) (by kernel_rfl) (fun _ _ _ h => h) (Or.inl ⟨by kernel_rfl, ?h1017⟩) hS0 ?r1017
      case h1017 => (intro w hSw; have hSw := HasC.six hSw HLX_.out; dsimp only at hSw; go_simp; (try rw [if_neg (by omega)]); try with_reducible rfl)
      try simp only [Act.put, List.setIfInBounds_toArray, List.set_cons_zero, List.set_cons_succ]
      refine reg_take (i := 7) (v := ?v1018) rfl (by kernel_rfl) (by kernel_rfl) (by kernel_rfl) (fun _ _ _ h => h) (Or.inl ⟨by kernel_rfl, ?h1018⟩) hS0 ?r1018
      case h1018 => (intro w hSw; have hSw := HasC.six hSw HLX_.out; dsimp only at hSw; go_simp; (try rw [if_neg (by omega)]); try with_reducible rfl)
      try simp only [Act.put, List.setIfInBounds_toArray, List.set_cons_zero, List.set_cons_succ]
      refine reg_take (i := 8) (v := ?v1019) rfl (by kernel_rfl) (by kernel_rfl) (by kernel_rfl) (fun _ _ _ h => h) (Or.inl ⟨by kernel_rfl, ?h1019⟩) hS0 ?r1019
      case h1019 => (intro w hSw; have hSw := HasC.six hSw HLX_.out; dsimp only at hSw; go_simp; (try rw [if_neg (by omega)]); try with_reducible rfl)
      try simp only [Act.put, List.setIfInBounds_toArray, List.set_cons_zero, List.set_cons_succ]
      refine reg_take (i := 9) (v := ?v1020) rfl (by kernel_rfl) (by kernel_rfl) (by kernel_rfl) (fun _ _ _ h => h) (Or.inl ⟨by kernel_rfl, ?h1020⟩) hS0 ?r1020
      case h1020 => (intro w hSw; have hSw := HasC.six hSw HLX_.out; dsimp only at hSw; go_simp; (try rw [if_neg (by omega)]); try with_reducible rfl)
      try simp only [Act.put, List.setIfInBounds_toArray, List.set_cons_zero, List.set_cons_succ]
      refine reg_take (i := 10) (v := ?v1021) rfl (by kernel_rfl) (by kernel_rfl) (by kernel_rfl) (fun _ _ _ h => h) (Or.inl ⟨by kernel_rfl, ?h1021⟩) hS0 ?r1021
      case h1021 => (intro w hSw; have hSw := HasC.six hSw HLX_.out; dsimp only at hSw; go_simp; (try rw [if_neg (by omega)]); try with_reducible rfl)
      try simp only [Act.put, List.setIfInBounds_toArray, List.set_cons_zero, List.set_cons_succ]
      refine reg_take (i := 11) (v := ?v1022) rfl (by kernel_rfl) (by kernel_rfl) (by kernel_rfl) (fun _ _ _ h => h) (Or.inl ⟨by kernel_rfl, ?h1022⟩) hS0 ?r1022
      case h1022 => (intro w hSw; have hSw := HasC.six hSw HLX_.out; dsimp only at hSw; go_simp; (try rw [if_neg (by omega)]); try with_reducible rfl)
      try simp only [Act.put, List.setIfInBounds_toArray, List.set_cons_zero, List.set_cons_succ]
      refine reg_take (i := 12) (v := ?v1023) rfl (by kernel_rfl) (by kernel_rfl) (by kernel_rfl) (fun _ _ _ h => h) (Or.inl ⟨by kernel_rfl, ?h1023⟩) hS0 ?r1023
      case h1023 => (intro w hSw; have hSw := HasC.six hSw HLX_.out; dsimp only at hSw; go_simp; (try rw [if_neg (by omega)]); try with_reducible rfl)
      try simp only [Act.put, List.setIfInBounds_toArray, List.set_cons_zero, List.set_cons_succ]
      refine reg_take (i := 13) (v := ?v1024) rfl (by kernel_rfl) (by kernel_rfl) (by kernel_rfl) (fun _ _ _ h => h) (Or.inl ⟨by kernel_rfl, ?h1024⟩) hS0 ?r1024
      case h1024 => (intro w hSw; have hSw := HasC.six hSw HLX_.out; dsimp only at hSw; go_simp; (try rw [if_neg (by omega)]); try with_reducible rfl)
      try simp only [Act.put, List.setIfInBounds_toArray, List.set_cons_zero, List.set_cons_succ]
      refine reg_call (i := 2) (by kernel_rfl) rfl (fun K hK => ?_)
      go_simp
      refine (impl_signWord ⟨#[64]⟩ _).mono ?_
      rintro e wa ⟨rfl, ba⟩
      have hSa := hS0.own (OwnG.of_below (v := .slice Av l.length cv) ba) hO0
      have hOa := olt_up hO0 (OwnG.of_below (v := .slice Av l.length cv) ba)
      have owa := OwnW.below ow2 ba (Nat.le_refl _)
      have Ga := G2.trans (OwnG.of_below ba)
      have Ka := K2.trans (OwnG.of_below ba)
      refine hK.out _ _ hSa (fun hHeld => ?_)
      clear hK K
      try simp only [Act.put, List.setIfInBounds_toArray, List.set_cons_zero, List.set_cons_succ]
      refine reg_call (i := 3) (by kernel_rfl) rfl (fun K hK => ?_)
      go_simp
      have bs := (Below.refl _ wa).alloc (Nat.le_refl _) (.cells #[.int .i64 3, .string ⟨#[64]⟩] 59)
      have hSs := hSa.own (OwnG.of_below (v := .slice Av l.length cv) bs) hOa
      refine hK.out _ _ hSs (fun hHeld => ?_)
      clear hK K
      try simp only [Act.put, List.setIfInBounds_toArray, List.set_cons_zero, List.set_cons_succ]
      refine reg_call (i := 4) (by kernel_rfl) rfl (fun K hK => ?_)
      obtain ⟨v4, wb, r4, owb, gb⟩ := run_words wa base 47 (.slice Av l.length cv) l [⟨3, ⟨#[64]⟩⟩] [.int .i64 3, .string ⟨#[64]⟩] rfl 1 rfl owa (by (try simp only [List.length_append, List.length_cons, List.length_nil]); omega) (Nat.le_trans hbs Ga.size)
      rw [if_pos (show Region.wanted _ _ = true by kernel_rfl)]
      refine Lib.wp_append_run_sl _ _ _ 47 rfl _ _ rfl rfl r4 ?_
      clear r4
      obtain ⟨Ab, nb_, cb, hfb⟩ := OwnW.formN owb
      subst hfb
      have hSb := hSa.own gb hOa
      have hOb := olt_up hOa gb
      have Gb := Ga.trans gb
      have Kb := Ka.trans gb
      refine hK.out _ _ hSb (fun hHeld => ?_)
      clear hK K
      try simp only [Act.put, List.setIfInBounds_toArray, List.set_cons_zero, List.set_cons_succ]
      refine reg_call (i := 14) (by kernel_rfl) rfl (fun K hK => ?_)
      go_simp
      refine (impl_levelOf xop _ g0x (HTX.out _ (Gb.below hbs (fun k hk => own_ge hown hk))).1.2).mono ?_
      rintro e w_ ⟨rfl, hw_⟩
      subst hw_
      refine hK.out _ _ hSb (fun hHeld => ?_)
      clear hK K
      try simp only [Act.put, List.setIfInBounds_toArray, List.set_cons_zero, List.set_cons_succ]
      refine reg_take (i := 15) (v := ?v1025) rfl (by kernel_rfl) (by kernel_rfl) (by kernel_rfl) (fun _ _ _ h => h) (Or.inl ⟨by kernel_rfl, ?h1025⟩) hSb ?r1025
      case h1025 => (intro w hSw; have hSw := HasC.six hSw HLX_.out; dsimp only at hSw; go_simp; (try rw [if_neg (by omega)]); try with_reducible rfl)
      try simp only [Act.put, List.setIfInBounds_toArray, List.set_cons_zero, List.set_cons_succ]
      refine reg_call (i := 16) (by kernel_rfl) rfl (fun K hK => ?_)
      go_simp
      have Bc := Gb.below hbs (fun k hk => own_ge hown hk)
      have Bk := Kb.below (Nat.le_trans hbs (Nat.le_of_lt hBw)) (fun k hk => own_ge ow1 hk)
      refine (ih (decide (levOf xop < 5)) d' xop xn xname xkids (.slice Ax xkids.length px) _ lo B base _ _ hBb (Nat.le_trans hbs Bc.size) g0x g1x g2x (g3x.below Bk hBb) hfx.out hpx.out (fun w9 b9 => HTX.out w9 (Bc.trans b9)) owb (by rw [HWx.out]; (try simp only [List.length_append, List.length_cons, List.length_nil]); omega)).mono ?_
      rw [HWx.out]
      rintro e wz ⟨vz, rfl, owz, gz⟩
      refine hK.out _ _ (hSb.own gz hOb) (fun hHeld => ?_)
      clear hK K
      try simp only [Act.put, List.setIfInBounds_toArray, List.set_cons_zero, List.set_cons_succ]
      refine reg_take (i := 17) (v := ?v1026) rfl (by kernel_rfl) (by kernel_rfl) (by kernel_rfl) (fun _ _ _ h => h) (Or.inl ⟨by kernel_rfl, ?h1026⟩) (hSb.own gz hOb) ?r1026
      case h1026 => (intro w hSw; have hSw := HasC.six hSw HLX_.out; dsimp only at hSw; go_simp; (try rw [if_neg (by omega)]); try with_reducible rfl)
      try simp only [Act.put, List.setIfInBounds_toArray, List.set_cons_zero, List.set_cons_succ]
      refine wpAnyH_done (by kernel_rfl) ?_ _
      go_wp2_with fail
      go_ret
      exact ⟨vz, rfl, by rw [E.out]; simpa using owz, Gb.trans gz⟩
theorem impl_exprWords : ∀ (m : Nat) (ar : Bool), WordsAt m ar
  | 0, _ => fun d op n name kids v3 w lo B base v l _ _ _ _ _ _ h => by simp [formB] at h
  | m + 1, false => words_step m (impl_exprWords m)
  | m + 1, true => words_round m (words_step m (impl_exprWords m))
end Go.Proofs.YthfinoapfbhgcaaDoor
