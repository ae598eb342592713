/-
  The words of statements, by the program. Conditions: the argument reads as data; the statements are valid, and few; the tables lie.
-/
import Derived.Test.YtbikgakoeheahaaGreatDoorPt1
import Derived.Test.YtbikgakoeheahaaGreatDoorWords
import Derived.Test.YtbikgakoeheahaaGreatDoorReg
import Derived.Deep.RegionHeld3
import Derived.Lib.SlFresh
namespace Go.Proofs.YtbikgakoeheahaaGreatDoor
open Go.RowKit Go.ChangeShapes Go.WideShapes Go.Deep
set_option linter.unusedVariables false
set_option linter.unusedSimpArgs false
set_option maxRecDepth 100000 in
theorem impl_keyWord (s : ByteArray) (w : World) : Calls Tryz.prog 15 #[.string s] w (RetV (.agg #[.int .i64 4, .string s]) w) := by
  go_enter Tryz.func15, Tryz.ntmps15
  go_wp2_with fail
  refine bodyPost_ret (v := .agg #[.int .i64 4, .string s]) (by simp [results, Tryz.results15, go_sem]) rfl ?_
  exact RetV.mk rfl rfl ((Below.refl _ _).alloc (Nat.le_refl _) _)
theorem stsW_take_len (l : List St) (k : Nat) : (stsW (l.take k)).length ≤ (stsW l).length := by
  have h : stsW l = stsW (l.take k) ++ stsW (l.drop k) := by rw [← stsW_app, List.take_append_drop]
  rw [h, List.length_append]
  omega
/-- the same words, told apart -/
def StmtsW (m : Nat) : Prop := ∀ (d : Nat) (l : List St) (vb : Value) (w : World) (lo B base : Nat) (v : Value) (l0 : List WordD) (_ : B ≤ base) (_ : base ≤ w.heap.size) (_ : Sl false (stS false d) w lo B l vb) (_ : l.all (stB m) = true) (_ : cnL l ≤ 40) (_ : ∀ w9, Below base w w9 → TabX w9) (_ : OwnW w base v l0) (_ : l0.length + (stsW l).length ≤ 90000),
  Calls Tryz.prog 35 #[v, vb] w (WordsP (stsW l) l0 v base w)
def BlocksW (m : Nat) : Prop := ∀ (d : Nat) (l : List St) (vb : Value) (w : World) (lo B base : Nat) (v : Value) (l0 : List WordD) (_ : B ≤ base) (_ : base ≤ w.heap.size) (_ : Sl false (stS false d) w lo B l vb) (_ : l.all (stB m) = true) (_ : cnL l ≤ 40) (_ : ∀ w9, Below base w w9 → TabX w9) (_ : OwnW w base v l0) (_ : l0.length + (blW l).length ≤ 90000),
  Calls Tryz.prog 18 #[v, vb] w (WordsP (blW l) l0 v base w)
set_option maxRecDepth 100000 in
set_option maxHeartbeats 16000000 in
theorem blocks_of (m : Nat) (ih : StmtsW m) : BlocksW m := by
  intro d l vb w lo B base v l0 hBb hbs hv hall hc HTX hown hlen
  obtain ⟨A, p, hf, hl1, hl2⟩ := hv.form
  subst hf
  obtain ⟨Av, cv, hfv⟩ := hown.form
  subst hfv
  replace HTX := Lib.hid HTX
  rw [blW_len] at hlen
  have HE : Hid (blW l = ([⟨3, ⟨#[123]⟩⟩] ++ stsW l) ++ [⟨3, ⟨#[125]⟩⟩]) := by show _ = _; unfold blW; rw [List.append_assoc]
  go_enter Tryz.func18, Tryz.ntmps18
  go_wp2_with fail
  refine (impl_signWord ⟨#[123]⟩ _).mono ?_
  rintro e w1 ⟨rfl, b1⟩
  have ow1 := OwnW.below hown b1 (Nat.le_refl _)
  have G1 := OwnG.of_below (v := .slice Av l0.length cv) b1
  go_wp2_with (at_builtin; refine app_words rfl _ _ rfl w1 base _ (l0) [⟨3, ⟨#[123]⟩⟩] _ rfl 1 rfl ow1 (by (try simp only [List.length_append, List.length_cons, List.length_nil]); omega) (Nat.le_trans hbs b1.size) rfl rfl ?_)
  intro v2 w2 ow2 g2
  have G2 := G1.trans g2
  have Bw2 : Below base w w2 := G2.below hbs (fun k hk => own_ge hown hk)
  obtain ⟨A2, n2_, c2, hf2⟩ := OwnW.formN ow2
  subst hf2
  go_wp2_with fail
  refine (ih d l (.slice A l.length p) _ lo B base _ _ hBb (Nat.le_trans hbs Bw2.size) (hv.below Bw2 hBb) hall hc (fun w9 b9 => HTX.out w9 (Bw2.trans b9)) ow2 (by (try simp only [List.length_append, List.length_cons, List.length_nil]); omega)).mono ?_
  rintro e w3 ⟨v3', rfl, ow3, g3⟩
  have G3 := G2.trans g3
  obtain ⟨A3, n3_, c3, hf3⟩ := OwnW.formN ow3
  subst hf3
  go_wp2_with fail
  refine (impl_signWord ⟨#[125]⟩ _).mono ?_
  rintro e w4 ⟨rfl, b4⟩
  have ow4 := OwnW.below ow3 b4 (Nat.le_refl _)
  have G4 := G3.trans (OwnG.of_below b4)
  have hs4 := G4.size
  go_wp2_with (at_builtin; refine app_words rfl _ _ rfl w4 base _ ((l0 ++ [⟨3, ⟨#[123]⟩⟩]) ++ stsW l) [⟨3, ⟨#[125]⟩⟩] _ rfl 1 rfl ow4 (by (try simp only [List.length_append, List.length_cons, List.length_nil]); omega) (Nat.le_trans hbs hs4) rfl rfl ?_)
  intro v5 w5 ow5 g5
  go_wp2_with fail
  go_ret
  exact ⟨v5, rfl, by rw [HE.out]; simpa using ow5, G4.trans g5⟩
set_option maxRecDepth 100000 in
set_option maxHeartbeats 64000000 in
theorem stmts_step (m : Nat) (ih : ∀ m', m = m' + 1 → BlocksW m') : StmtsW m := by
  intro d l vb w lo B base v l0 hBb hbs hv hall hc HTX hown hlen
  obtain ⟨A, p, hf, hl1, hl2⟩ := hv.form
  subst hf
  replace HTX := Lib.hid HTX
  have HA := Lib.hid hall
  have HC := Lib.hid hc
  have HO := Lib.hid hown
  have hge : ∀ x, v.ownBlock = some x → base ≤ x := fun x hx => own_ge hown hx
  obtain ⟨Av, cv, hfv⟩ := hown.form
  subst hfv
  clear hall hc
  go_enter Tryz.func35, Tryz.ntmps35
  go_wp2_with fail
  go_loopw [0, 11] (fun vv i wr => ∃ (k : Nat) (acc : List WordD), k ≤ l.length ∧ i = .int .i64 k ∧ Hid (stsW (l.take k) = acc) ∧ OwnW wr base vv (l0 ++ acc) ∧ OwnG (.slice Av l0.length cv) vv w wr) (fun _ i _ => l.length - (intOf i).toNat)
  case atStart => exact ⟨0, [], by omega, rfl, (by show _ = _; rw [List.take_zero, stsW]), by simpa using HO.out, OwnG.refl _ _⟩
  case round =>
    obtain ⟨k, acc, hk, rfl, HK, own, G⟩ := hrel
    obtain ⟨wo, hwo⟩ : ∃ x, x = wr := ⟨_, rfl⟩
    subst hwo
    have Bw : Below base w wo := G.below hbs hge
    have hsz := Bw.size
    obtain ⟨Au, nu_, cu, hu⟩ := OwnW.formN own
    subst hu
    by_cases hkl : k < l.length
    · obtain ⟨d', rfl⟩ := stS_pos hv (by omega)
      obtain ⟨b, oo, op, name, args, v2, body, v3, els, v4, rfl, _, hbB, HL, g0, g1, g2, g3, g4, c0, c1, c2, c3, c4⟩ := st_get d' (hv.below Bw hBb) hkl
      obtain ⟨A2, p2, hf, _, _⟩ := g2.form
      change _ = Value.slice A2 args.length p2 at hf
      subst hf
      obtain ⟨A3, p3, hf, _, _⟩ := g3.form
      change _ = Value.slice A3 body.length p3 at hf
      subst hf
      obtain ⟨A4, p4, hf, _, _⟩ := g4.form
      change _ = Value.slice A4 els.length p4 at hf
      subst hf
      have hkn : (k : Int) < (l.length : Int) := by omega
      have hki : (0 : Int) ≤ (k : Int) := by omega
      have hmem : St.mk op name args body els ∈ l := HL.out ▸ List.getElem_mem hkl
      have hc0 : cnS (.mk op name args body els) ≤ 40 := Nat.le_trans (cnL_mem hmem) HC.out
      have hst := List.all_eq_true.1 HA.out _ hmem
      obtain ⟨m', hm'⟩ : ∃ m', m = m' + 1 := by
        cases m with
        | zero => simp [stB] at hst
        | succ n => exact ⟨n, rfl⟩
      subst hm'
      obtain ⟨hop, hlen1, hnmB, hvs, hels, hbody, hb3', hb4'⟩ := st_in hst
      have HS : Hid (stsW (l.take (k + 1)) = acc ++ stW (.mk op name args body els)) := by show _ = _; rw [stsW_snoc hkl HL.out, HK.out]
      have HV := Lib.hid hvs
      have HB3 := Lib.hid hb3'
      have HB4 := Lib.hid hb4'
      have HC3 : Hid (cnL body ≤ 40) := by rw [cnS] at hc0; show _ ≤ _; omega
      have HC4 : Hid (cnL els ≤ 40) := by rw [cnS] at hc0; show _ ≤ _; omega
      clear HK hmem hvs hb3' hb4' hnmB hst
      replace hlen1 := Lib.hid hlen1
      obtain rfl | rfl | rfl | rfl | rfl | rfl | rfl | rfl : op = 1 ∨ op = 2 ∨ op = 3 ∨ op = 4 ∨ op = 5 ∨ op = 6 ∨ op = 7 ∨ op = 8 := by omega
      · obtain ⟨T, hT⟩ : ∃ T, agW args = T := ⟨_, rfl⟩
        have hW : stW (.mk 1 name args body els) = [⟨4, ⟨#[108, 101, 116]⟩⟩, ⟨1, name⟩, ⟨3, ⟨#[61]⟩⟩] ++ (T ++ [⟨3, ⟨#[59]⟩⟩]) := by rw [stW_mk, hT, if_neg (by omega)]; rfl
        rw [hW] at HS
        have hlw : (stW (.mk 1 name args body els)).length + acc.length + l0.length ≤ 90000 := by have h1 := stsW_take_len l (k + 1); rw [HS.out] at h1; rw [hW]; simp only [List.length_append] at h1 ⊢; omega
        rw [hW] at hlw
        simp only [List.length_append, List.length_cons, List.length_nil] at hlw
        have HT0 := Lib.hid hT
        clear hW hT
        have hbk : Below wo.heap.size wo (wo.alloc (.cells #[.int .i64 1, .string name, .slice A2 args.length p2, .slice A3 body.length p3, .slice A4 els.length p4] 76)) := (Below.refl _ _).alloc (Nat.le_refl _) _
        have RK : Row (wo.alloc (.cells #[.int .i64 1, .string name, .slice A2 args.length p2, .slice A3 body.length p3, .slice A4 els.length p4] 76)) wo.heap.size 76 #[.int .i64 1, .string name, .slice A2 args.length p2, .slice A3 body.length p3, .slice A4 els.length p4] := Row.new wo _ _
        have owk := OwnW.below own hbk (Nat.le_refl _)
        have hnk := own_ne' own (Nat.le_refl _)
        have hgk : ∀ x, Value.ownBlock (.slice Au nu_ cu) = some x → base ≤ x := fun x hx => own_ge own hx
        clear hc0
        have bdd : Below (wo.alloc (.cells #[.int .i64 1, .string name, .slice A2 args.length p2, .slice A3 body.length p3, .slice A4 els.length p4] 76)).heap.size (wo.alloc (.cells #[.int .i64 1, .string name, .slice A2 args.length p2, .slice A3 body.length p3, .slice A4 els.length p4] 76)) (wo.alloc (.cells #[.int .i64 1, .string name, .slice A2 args.length p2, .slice A3 body.length p3, .slice A4 els.length p4] 76)).drew := (Below.refl _ _).drew
        have RKd : Row (wo.alloc (.cells #[.int .i64 1, .string name, .slice A2 args.length p2, .slice A3 body.length p3, .slice A4 els.length p4] 76)).drew wo.heap.size 76 #[.int .i64 1, .string name, .slice A2 args.length p2, .slice A3 body.length p3, .slice A4 els.length p4] := RK
        have owd := OwnW.below owk bdd (Nat.le_refl _)
        have gd : OwnG (.slice Au nu_ cu) (.slice Au nu_ cu) (wo.alloc (.cells #[.int .i64 1, .string name, .slice A2 args.length p2, .slice A3 body.length p3, .slice A4 els.length p4] 76)) (wo.alloc (.cells #[.int .i64 1, .string name, .slice A2 args.length p2, .slice A3 body.length p3, .slice A4 els.length p4] 76)).drew := OwnG.of_below bdd
        go_wp2_with fail
        refine wp_region_held_drew (S := fun w' => w'.cell? ⟨wo.heap.size, 1, none⟩ = some (.string name)) (by kernel_rfl) ?_ (fun hHeld => ?_)
        · exact RKd.cell 1
        generalize (wo.alloc (.cells #[.int .i64 1, .string name, .slice A2 args.length p2, .slice A3 body.length p3, .slice A4 els.length p4] 76)).drew = wd at hHeld RKd owd gd bdd ⊢
        refine reg_take (i := 0) (v := ?v1) rfl (by kernel_rfl) (by kernel_rfl) (by kernel_rfl) (fun _ _ _ h => h) (Or.inl ⟨by kernel_rfl, ?h1⟩) (by assumption) ?r1
        case h1 => (intro w hSw; (try dsimp only at hSw); go_simp; try with_reducible rfl)
        try simp only [Act.put, List.setIfInBounds_toArray, List.set_cons_zero, List.set_cons_succ]
        refine reg_take (i := 2) (v := ?v2) rfl (by kernel_rfl) (by kernel_rfl) (by kernel_rfl) (fun _ _ _ h => h) (Or.inl ⟨by kernel_rfl, ?h2⟩) (by assumption) ?r2
        case h2 => (intro w hSw; (try dsimp only at hSw); go_simp; try with_reducible rfl)
        try simp only [Act.put, List.setIfInBounds_toArray, List.set_cons_zero, List.set_cons_succ]
        refine reg_take (i := 3) (v := ?v3) rfl (by kernel_rfl) (by kernel_rfl) (by kernel_rfl) (fun _ _ _ h => h) (Or.inl ⟨by kernel_rfl, ?h3⟩) (by assumption) ?r3
        case h3 => (intro w hSw; (try dsimp only at hSw); go_simp; try with_reducible rfl)
        try simp only [Act.put, List.setIfInBounds_toArray, List.set_cons_zero, List.set_cons_succ]
        refine reg_call (i := 1) (by kernel_rfl) rfl (fun K hK => ?_)
        go_simp
        refine (impl_keyWord ⟨#[108, 101, 116]⟩ _).mono ?_
        rintro e wa0 ⟨rfl, ba0⟩
        have owa0 := OwnW.below owd ba0 (Nat.le_refl _)
        have ga0 : OwnG (.slice Au nu_ cu) (.slice Au nu_ cu) (wo.alloc (.cells #[.int .i64 1, .string name, .slice A2 args.length p2, .slice A3 body.length p3, .slice A4 els.length p4] 76)) wa0 := gd.trans (OwnG.of_below ba0)
        have Ra0 := RKd.below ba0 RKd.lt
        refine hK.out _ _ (Ra0.cell 1) (fun hHeld => ?_)
        clear hK K
        try simp only [Act.put, List.setIfInBounds_toArray, List.set_cons_zero, List.set_cons_succ]
        refine reg_call (i := 4) (by kernel_rfl) rfl (fun K hK => ?_)
        go_simp
        refine (impl_nameWord name _).mono ?_
        rintro e wa1 ⟨rfl, ba1⟩
        have owa1 := OwnW.below owa0 ba1 (Nat.le_refl _)
        have ga1 : OwnG (.slice Au nu_ cu) (.slice Au nu_ cu) (wo.alloc (.cells #[.int .i64 1, .string name, .slice A2 args.length p2, .slice A3 body.length p3, .slice A4 els.length p4] 76)) wa1 := ga0.trans (OwnG.of_below ba1)
        have Ra1 := Ra0.below ba1 Ra0.lt
        refine hK.out _ _ (Ra1.cell 1) (fun hHeld => ?_)
        clear hK K
        try simp only [Act.put, List.setIfInBounds_toArray, List.set_cons_zero, List.set_cons_succ]
        refine reg_call (i := 5) (by kernel_rfl) rfl (fun K hK => ?_)
        go_simp
        refine (impl_signWord ⟨#[61]⟩ _).mono ?_
        rintro e wa2 ⟨rfl, ba2⟩
        have owa2 := OwnW.below owa1 ba2 (Nat.le_refl _)
        have ga2 : OwnG (.slice Au nu_ cu) (.slice Au nu_ cu) (wo.alloc (.cells #[.int .i64 1, .string name, .slice A2 args.length p2, .slice A3 body.length p3, .slice A4 els.length p4] 76)) wa2 := ga1.trans (OwnG.of_below ba2)
        have Ra2 := Ra1.below ba2 Ra1.lt
        refine hK.out _ _ (Ra2.cell 1) (fun hHeld => ?_)
        clear hK K
        try simp only [Act.put, List.setIfInBounds_toArray, List.set_cons_zero, List.set_cons_succ]
        have hsa := Nat.le_trans hbk.size ga2.size
        refine reg_call (i := 6) (by kernel_rfl) rfl (fun K hK => ?_)
        go_simp
        refine hK.out _ _ ((Ra2.alloc _).cell 1) (fun hHeld => ?_)
        clear hK K
        try simp only [Act.put, List.setIfInBounds_toArray, List.set_cons_zero, List.set_cons_succ]
        refine reg_call (i := 7) (by kernel_rfl) rfl (fun K hK => ?_)
        obtain ⟨v5, w5, rr, ow5, g5⟩ := run_words wa2 base 39 (.slice Au nu_ cu) (l0 ++ acc) [⟨4, ⟨#[108, 101, 116]⟩⟩, ⟨1, name⟩, ⟨3, ⟨#[61]⟩⟩] [.int .i64 4, .string ⟨#[108, 101, 116]⟩, .int .i64 1, .string name, .int .i64 3, .string ⟨#[61]⟩] rfl 3 rfl owa2 (by (try simp only [List.length_append, List.length_cons, List.length_nil]); omega) (Nat.le_trans hbs (Nat.le_trans hsz hsa))
        rw [if_pos (show Region.wanted _ _ = true by kernel_rfl)]
        refine Lib.wp_append_run_sl _ _ _ 39 rfl _ _ rfl rfl rr ?_
        clear rr
        obtain ⟨A5, n5_, c5, hf_v5⟩ := OwnW.formN ow5
        subst hf_v5
        have G5 := ga2.trans g5
        have R5 : Row w5 wo.heap.size 76 #[.int .i64 1, .string name, .slice A2 args.length p2, .slice A3 body.length p3, .slice A4 els.length p4] := G5.row RK hnk
        refine hK.out _ _ (R5.cell 1) (fun hHeld => ?_)
        clear hK K
        try simp only [Act.put, List.setIfInBounds_toArray, List.set_cons_zero, List.set_cons_succ]
        refine reg_take (i := 8) (v := ?v4) rfl (by kernel_rfl) (by kernel_rfl) (by kernel_rfl) (fun _ _ _ h => h) (Or.inl ⟨by kernel_rfl, ?h4⟩) (by assumption) ?r4
        case h4 => (intro w hSw; (try dsimp only at hSw); go_simp; try with_reducible rfl)
        try simp only [Act.put, List.setIfInBounds_toArray, List.set_cons_zero, List.set_cons_succ]
        refine wpAnyH_done (by kernel_rfl) ?_ _
        have hn5 := G5.ne (hnk) RK.lt
        have B5 : Below base wo w5 := ((OwnG.of_below hbk).trans G5).below (Nat.le_trans hbs hsz) hgk
        have q0 : w5.cell? ⟨wo.heap.size, 0, none⟩ = some (.int .i64 1) := R5.cell 0
        have q1 : w5.cell? ⟨wo.heap.size, 1, none⟩ = some (.string name) := R5.cell 1
        have q2 : w5.cell? ⟨wo.heap.size, 2, none⟩ = some (.slice A2 args.length p2) := R5.cell 2
        have q3 : w5.cell? ⟨wo.heap.size, 3, none⟩ = some (.slice A3 body.length p3) := R5.cell 3
        have q4 : w5.cell? ⟨wo.heap.size, 4, none⟩ = some (.slice A4 els.length p4) := R5.cell 4
        clear owd gd bdd RKd Ra0 Ra1 Ra2 owa0 owa1 owa2 ba0 ba1 ba2 ga0 ga1 owk g5
        have hg5 : ∀ x, Value.ownBlock (.slice A5 n5_ c5) = some x → base ≤ x := fun x hx => own_ge ow5 hx
        have HG := Lib.hid G5
        have HOW := Lib.hid ow5
        clear G5 ga2
        go_wp2_with fail
        go_loopw [0, 75] (fun vv i wr => ∃ (j : Nat) (ac : List WordD), j ≤ args.length ∧ i = .int .i64 j ∧ Hid (((args.drop j).foldl (cmW (wdE 6 false)) (j, ac)).2 = T) ∧ OwnW wr base vv (((l0 ++ acc) ++ [⟨4, ⟨#[108, 101, 116]⟩⟩, ⟨1, name⟩, ⟨3, ⟨#[61]⟩⟩]) ++ ac) ∧ OwnG (.slice A5 n5_ c5) vv w5 wr) (fun _ i _ => args.length - (intOf i).toNat)
        case atStart => exact ⟨0, [], by omega, rfl, HT0.out, by simpa using HOW.out, OwnG.refl _ _⟩
        case round =>
          obtain ⟨j, ac, hj, rfl, HT, owq, Gq⟩ := hrel
          clear q0 q1 q2 q3 q4
          have Rq : Row wr wo.heap.size 76 #[.int .i64 1, .string name, .slice A2 args.length p2, .slice A3 body.length p3, .slice A4 els.length p4] := Gq.row R5 hn5
          have Bq : Below base wo wr := B5.trans (Gq.below (Nat.le_trans hbs (Nat.le_trans hsz B5.size)) hg5)
          have Bwq := Bw.trans Bq
          have hszq := Bwq.size
          have q0 : wr.cell? ⟨wo.heap.size, 0, none⟩ = some (.int .i64 1) := Rq.cell 0
          have q1 : wr.cell? ⟨wo.heap.size, 1, none⟩ = some (.string name) := Rq.cell 1
          have q2 : wr.cell? ⟨wo.heap.size, 2, none⟩ = some (.slice A2 args.length p2) := Rq.cell 2
          have q3 : wr.cell? ⟨wo.heap.size, 3, none⟩ = some (.slice A3 body.length p3) := Rq.cell 3
          have q4 : wr.cell? ⟨wo.heap.size, 4, none⟩ = some (.slice A4 els.length p4) := Rq.cell 4
          have hacc : ac.length ≤ T.length := by have h1 := cmW_grow (f := wdE 6 false) (args.drop j) (j, ac); rw [HT.out] at h1; exact h1
          obtain ⟨Aq, nq_, cq, hq⟩ := OwnW.formN owq
          subst hq
          by_cases hjl : j < args.length
          · obtain ⟨d'', rfl⟩ : ∃ d'', d' = d'' + 1 := exS_pos g2 (by omega)
            obtain ⟨bx, ox, xop, xn, xname, xkids, xv, hAx, _, hbBx, HLx, g0x, g1x, g2x, g3x, c0x, c1x, c2x, c3x⟩ := ex_get d'' (g2.below Bq hBb) hjl
            subst hAx
            obtain ⟨Ax, px, hfx, _, _⟩ := g3x.form
            change _ = Value.slice Ax xkids.length px at hfx
            subst hfx
            have hjn : (j : Int) < (args.length : Int) := by omega
            have hji : (0 : Int) ≤ (j : Int) := by omega
            have hvx := val_form6 (List.all_eq_true.1 HV.out _ (HLx.out ▸ List.getElem_mem hjl : Ex.mk xop xn xname xkids ∈ args))
            have HVX := Lib.hid hvx
            clear hvx
            obtain ⟨ws, hws⟩ : ∃ ws, wdE 6 false (.mk xop xn xname xkids) = ws := ⟨_, rfl⟩
            have HW := Lib.hid hws
            have HN : Hid (((args.drop (j + 1)).foldl (cmW (wdE 6 false)) (j + 1, (if 0 < j then ac ++ [⟨3, ⟨#[44]⟩⟩] else ac) ++ ws)).2 = T) := by
              have h1 := HT.out
              rw [drop_cons hjl HLx.out, List.foldl_cons] at h1
              rw [← hws]
              exact h1
            have hgr := cmW_grow (f := wdE 6 false) (args.drop (j + 1)) (j + 1, (if 0 < j then ac ++ [⟨3, ⟨#[44]⟩⟩] else ac) ++ ws)
            rw [HN.out] at hgr
            clear HT hws
            have hbx : Below wr.heap.size wr (wr.alloc (.cells #[.int .i64 xop, .int .i64 xn, .string xname, .slice Ax xkids.length px] 90)) := (Below.refl _ _).alloc (Nat.le_refl _) _
            have RX : Row (wr.alloc (.cells #[.int .i64 xop, .int .i64 xn, .string xname, .slice Ax xkids.length px] 90)) wr.heap.size 90 #[.int .i64 xop, .int .i64 xn, .string xname, .slice Ax xkids.length px] := Row.new wr _ _
            have owx := OwnW.below owq hbx (Nat.le_refl _)
            have hnx := own_ne' owq (Nat.le_refl _)
            have Gx := Gq.trans (OwnG.of_below hbx)
            by_cases hj0 : 0 < j
            · have hj0' : (0 : Int) < (j : Int) := by omega
              rw [if_pos hj0] at HN hgr
              simp only [List.length_append, List.length_cons, List.length_nil] at hgr
              go_wp2_with fail
              refine (impl_signWord ⟨#[44]⟩ _).mono ?_
              rintro e w7 ⟨rfl, b7⟩
              have ow7 := OwnW.below owx b7 (Nat.le_refl _)
              have hs7 := Nat.le_trans hszq (Nat.le_trans hbx.size b7.size)
              go_wp2_with (at_builtin; refine app_words rfl _ _ rfl w7 base _ (((l0 ++ acc) ++ [⟨4, ⟨#[108, 101, 116]⟩⟩, ⟨1, name⟩, ⟨3, ⟨#[61]⟩⟩]) ++ ac) [⟨3, ⟨#[44]⟩⟩] _ rfl 1 rfl ow7 (by (try simp only [List.length_append, List.length_cons, List.length_nil]); omega) (Nat.le_trans hbs hs7) rfl rfl ?_)
              intro v8 w8 ow8 g8
              have g78 := (OwnG.of_below (v := .slice Aq nq_ cq) b7).trans g8
              have G8 := Gx.trans g78
              have R8 : Row w8 wr.heap.size 90 #[.int .i64 xop, .int .i64 xn, .string xname, .slice Ax xkids.length px] := g78.row RX hnx
              obtain ⟨A8, n8_, c8, hf8⟩ := OwnW.formN ow8
              subst hf8
              have r0 : w8.cell? ⟨wr.heap.size, 0, none⟩ = some (.int .i64 xop) := R8.cell 0
              have r1 : w8.cell? ⟨wr.heap.size, 1, none⟩ = some (.int .i64 xn) := R8.cell 1
              have r2 : w8.cell? ⟨wr.heap.size, 2, none⟩ = some (.string xname) := R8.cell 2
              have r3 : w8.cell? ⟨wr.heap.size, 3, none⟩ = some (.slice Ax xkids.length px) := R8.cell 3
              have B8 : Below base wr w8 := ((OwnG.of_below hbx).trans g78).below (Nat.le_trans hbs hszq) (fun k hk => own_ge owq hk)
              have Bw8 := Bwq.trans B8
              go_wp2_with fail
              refine (impl_exprWords 6 false d'' xop xn xname xkids (.slice Ax xkids.length px) _ lo B base _ _ hBb (Nat.le_trans hbs Bw8.size) g0x g1x g2x (g3x.below B8 hBb) HVX.out.1 HVX.out.2 (fun w9 b9 => HTX.out w9 (Bw8.trans b9)) ow8 (by rw [HW.out]; (try simp only [List.length_append, List.length_cons, List.length_nil]); omega)).mono ?_
              rw [HW.out]
              rintro e wz ⟨vz, rfl, owz, gz⟩
              go_wp2_with fail
              go_roundw
              case rel => exact ⟨j + 1, _, by omega, by go_num, HN, by simpa using owz, G8.trans gz⟩
              case measure => simp [intOf]; omega
            · have hj0' : decide ((0 : Int) < (j : Int)) = false := decide_eq_false (by omega)
              rw [if_neg hj0] at HN hgr
              simp only [List.length_append, List.length_cons, List.length_nil] at hgr
              have r0 : (wr.alloc (.cells #[.int .i64 xop, .int .i64 xn, .string xname, .slice Ax xkids.length px] 90)).cell? ⟨wr.heap.size, 0, none⟩ = some (.int .i64 xop) := RX.cell 0
              have r1 : (wr.alloc (.cells #[.int .i64 xop, .int .i64 xn, .string xname, .slice Ax xkids.length px] 90)).cell? ⟨wr.heap.size, 1, none⟩ = some (.int .i64 xn) := RX.cell 1
              have r2 : (wr.alloc (.cells #[.int .i64 xop, .int .i64 xn, .string xname, .slice Ax xkids.length px] 90)).cell? ⟨wr.heap.size, 2, none⟩ = some (.string xname) := RX.cell 2
              have r3 : (wr.alloc (.cells #[.int .i64 xop, .int .i64 xn, .string xname, .slice Ax xkids.length px] 90)).cell? ⟨wr.heap.size, 3, none⟩ = some (.slice Ax xkids.length px) := RX.cell 3
              have B8 : Below base wr (wr.alloc (.cells #[.int .i64 xop, .int .i64 xn, .string xname, .slice Ax xkids.length px] 90)) := (OwnG.of_below hbx).below (Nat.le_trans hbs hszq) (fun k hk => own_ge owq hk)
              have Bw8 := Bwq.trans B8
              go_wp2_with fail
              refine (impl_exprWords 6 false d'' xop xn xname xkids (.slice Ax xkids.length px) _ lo B base _ _ hBb (Nat.le_trans hbs Bw8.size) g0x g1x g2x (g3x.below B8 hBb) HVX.out.1 HVX.out.2 (fun w9 b9 => HTX.out w9 (Bw8.trans b9)) owx (by rw [HW.out]; (try simp only [List.length_append, List.length_cons, List.length_nil]); omega)).mono ?_
              rw [HW.out]
              rintro e wz ⟨vz, rfl, owz, gz⟩
              go_wp2_with fail
              go_roundw
              case rel => exact ⟨j + 1, _, by omega, by go_num, HN, by simpa using owz, Gx.trans gz⟩
              case measure => simp [intOf]; omega
          · have hT3 : ac = T := by have h1 := HT.out; rw [List.drop_eq_nil_of_le (by omega), List.foldl_nil] at h1; exact h1
            subst hT3
            clear HT
            go_wp2_with fail
            refine (impl_signWord ⟨#[59]⟩ _).mono ?_
            rintro e w7 ⟨rfl, b7⟩
            have ow7 := OwnW.below owq b7 (Nat.le_refl _)
            have hs7 := Nat.le_trans hszq b7.size
            go_wp2_with (at_builtin; refine app_words rfl _ _ rfl w7 base _ (((l0 ++ acc) ++ [⟨4, ⟨#[108, 101, 116]⟩⟩, ⟨1, name⟩, ⟨3, ⟨#[61]⟩⟩]) ++ ac) [⟨3, ⟨#[59]⟩⟩] _ rfl 1 rfl ow7 (by (try simp only [List.length_append, List.length_cons, List.length_nil]); omega) (Nat.le_trans hbs hs7) rfl rfl ?_)
            intro v8 w8 ow8 g8
            go_wp2_with fail
            go_roundw
            case rel => exact ⟨k + 1, _, by omega, by go_num, HS, by simpa using ow8, (G.trans ((OwnG.of_below hbk).trans (HG.out.trans Gq))).trans ((OwnG.of_below b7).trans g8)⟩
            case measure => simp [intOf]; omega
      · obtain ⟨T, hT⟩ : ∃ T, agW args = T := ⟨_, rfl⟩
        have hW : stW (.mk 2 name args body els) = [⟨1, name⟩, ⟨3, ⟨#[61]⟩⟩] ++ (T ++ [⟨3, ⟨#[59]⟩⟩]) := by rw [stW_mk, hT, if_neg (by omega)]; rfl
        rw [hW] at HS
        have hlw : (stW (.mk 2 name args body els)).length + acc.length + l0.length ≤ 90000 := by have h1 := stsW_take_len l (k + 1); rw [HS.out] at h1; rw [hW]; simp only [List.length_append] at h1 ⊢; omega
        rw [hW] at hlw
        simp only [List.length_append, List.length_cons, List.length_nil] at hlw
        have HT0 := Lib.hid hT
        clear hW hT
        have hbk : Below wo.heap.size wo (wo.alloc (.cells #[.int .i64 2, .string name, .slice A2 args.length p2, .slice A3 body.length p3, .slice A4 els.length p4] 76)) := (Below.refl _ _).alloc (Nat.le_refl _) _
        have RK : Row (wo.alloc (.cells #[.int .i64 2, .string name, .slice A2 args.length p2, .slice A3 body.length p3, .slice A4 els.length p4] 76)) wo.heap.size 76 #[.int .i64 2, .string name, .slice A2 args.length p2, .slice A3 body.length p3, .slice A4 els.length p4] := Row.new wo _ _
        have owk := OwnW.below own hbk (Nat.le_refl _)
        have hnk := own_ne' own (Nat.le_refl _)
        have hgk : ∀ x, Value.ownBlock (.slice Au nu_ cu) = some x → base ≤ x := fun x hx => own_ge own hx
        clear hc0
        go_wp2_with fail
        refine (impl_nameWord name _).mono ?_
        rintro e wa0 ⟨rfl, ba0⟩
        have owa0 := OwnW.below owk ba0 (Nat.le_refl _)
        have ga0 : OwnG (.slice Au nu_ cu) (.slice Au nu_ cu) (wo.alloc (.cells #[.int .i64 2, .string name, .slice A2 args.length p2, .slice A3 body.length p3, .slice A4 els.length p4] 76)) wa0 := OwnG.of_below ba0
        go_wp2_with fail
        refine (impl_signWord ⟨#[61]⟩ _).mono ?_
        rintro e wa1 ⟨rfl, ba1⟩
        have owa1 := OwnW.below owa0 ba1 (Nat.le_refl _)
        have ga1 : OwnG (.slice Au nu_ cu) (.slice Au nu_ cu) (wo.alloc (.cells #[.int .i64 2, .string name, .slice A2 args.length p2, .slice A3 body.length p3, .slice A4 els.length p4] 76)) wa1 := ga0.trans (OwnG.of_below ba1)
        have hsa := Nat.le_trans hbk.size ga1.size
        go_wp2_with (at_builtin; refine app_words rfl _ _ rfl wa1 base _ (l0 ++ acc) [⟨1, name⟩, ⟨3, ⟨#[61]⟩⟩] _ rfl 2 rfl owa1 (by (try simp only [List.length_append, List.length_cons, List.length_nil]); omega) (Nat.le_trans hbs (Nat.le_trans hsz hsa)) rfl rfl ?_)
        intro v5 w5 ow5 g5
        have G5 := ga1.trans g5
        have R5 : Row w5 wo.heap.size 76 #[.int .i64 2, .string name, .slice A2 args.length p2, .slice A3 body.length p3, .slice A4 els.length p4] := G5.row RK hnk
        obtain ⟨A5, n5_, c5, hf5⟩ := OwnW.formN ow5
        subst hf5
        have hn5 := G5.ne (hnk) RK.lt
        have B5 : Below base wo w5 := ((OwnG.of_below hbk).trans G5).below (Nat.le_trans hbs hsz) hgk
        have q0 : w5.cell? ⟨wo.heap.size, 0, none⟩ = some (.int .i64 2) := R5.cell 0
        have q1 : w5.cell? ⟨wo.heap.size, 1, none⟩ = some (.string name) := R5.cell 1
        have q2 : w5.cell? ⟨wo.heap.size, 2, none⟩ = some (.slice A2 args.length p2) := R5.cell 2
        have q3 : w5.cell? ⟨wo.heap.size, 3, none⟩ = some (.slice A3 body.length p3) := R5.cell 3
        have q4 : w5.cell? ⟨wo.heap.size, 4, none⟩ = some (.slice A4 els.length p4) := R5.cell 4
        clear owa0 ba0 ga0 owa1 ba1  owk g5
        have hg5 : ∀ x, Value.ownBlock (.slice A5 n5_ c5) = some x → base ≤ x := fun x hx => own_ge ow5 hx
        have HG := Lib.hid G5
        have HOW := Lib.hid ow5
        clear G5 ga1
        go_wp2_with fail
        go_loopw [0, 75] (fun vv i wr => ∃ (j : Nat) (ac : List WordD), j ≤ args.length ∧ i = .int .i64 j ∧ Hid (((args.drop j).foldl (cmW (wdE 6 false)) (j, ac)).2 = T) ∧ OwnW wr base vv (((l0 ++ acc) ++ [⟨1, name⟩, ⟨3, ⟨#[61]⟩⟩]) ++ ac) ∧ OwnG (.slice A5 n5_ c5) vv w5 wr) (fun _ i _ => args.length - (intOf i).toNat)
        case atStart => exact ⟨0, [], by omega, rfl, HT0.out, by simpa using HOW.out, OwnG.refl _ _⟩
        case round =>
          obtain ⟨j, ac, hj, rfl, HT, owq, Gq⟩ := hrel
          clear q0 q1 q2 q3 q4
          have Rq : Row wr wo.heap.size 76 #[.int .i64 2, .string name, .slice A2 args.length p2, .slice A3 body.length p3, .slice A4 els.length p4] := Gq.row R5 hn5
          have Bq : Below base wo wr := B5.trans (Gq.below (Nat.le_trans hbs (Nat.le_trans hsz B5.size)) hg5)
          have Bwq := Bw.trans Bq
          have hszq := Bwq.size
          have q0 : wr.cell? ⟨wo.heap.size, 0, none⟩ = some (.int .i64 2) := Rq.cell 0
          have q1 : wr.cell? ⟨wo.heap.size, 1, none⟩ = some (.string name) := Rq.cell 1
          have q2 : wr.cell? ⟨wo.heap.size, 2, none⟩ = some (.slice A2 args.length p2) := Rq.cell 2
          have q3 : wr.cell? ⟨wo.heap.size, 3, none⟩ = some (.slice A3 body.length p3) := Rq.cell 3
          have q4 : wr.cell? ⟨wo.heap.size, 4, none⟩ = some (.slice A4 els.length p4) := Rq.cell 4
          have hacc : ac.length ≤ T.length := by have h1 := cmW_grow (f := wdE 6 false) (args.drop j) (j, ac); rw [HT.out] at h1; exact h1
          obtain ⟨Aq, nq_, cq, hq⟩ := OwnW.formN owq
          subst hq
          by_cases hjl : j < args.length
          · obtain ⟨d'', rfl⟩ : ∃ d'', d' = d'' + 1 := exS_pos g2 (by omega)
            obtain ⟨bx, ox, xop, xn, xname, xkids, xv, hAx, _, hbBx, HLx, g0x, g1x, g2x, g3x, c0x, c1x, c2x, c3x⟩ := ex_get d'' (g2.below Bq hBb) hjl
            subst hAx
            obtain ⟨Ax, px, hfx, _, _⟩ := g3x.form
            change _ = Value.slice Ax xkids.length px at hfx
            subst hfx
            have hjn : (j : Int) < (args.length : Int) := by omega
            have hji : (0 : Int) ≤ (j : Int) := by omega
            have hvx := val_form6 (List.all_eq_true.1 HV.out _ (HLx.out ▸ List.getElem_mem hjl : Ex.mk xop xn xname xkids ∈ args))
            have HVX := Lib.hid hvx
            clear hvx
            obtain ⟨ws, hws⟩ : ∃ ws, wdE 6 false (.mk xop xn xname xkids) = ws := ⟨_, rfl⟩
            have HW := Lib.hid hws
            have HN : Hid (((args.drop (j + 1)).foldl (cmW (wdE 6 false)) (j + 1, (if 0 < j then ac ++ [⟨3, ⟨#[44]⟩⟩] else ac) ++ ws)).2 = T) := by
              have h1 := HT.out
              rw [drop_cons hjl HLx.out, List.foldl_cons] at h1
              rw [← hws]
              exact h1
            have hgr := cmW_grow (f := wdE 6 false) (args.drop (j + 1)) (j + 1, (if 0 < j then ac ++ [⟨3, ⟨#[44]⟩⟩] else ac) ++ ws)
            rw [HN.out] at hgr
            clear HT hws
            have hbx : Below wr.heap.size wr (wr.alloc (.cells #[.int .i64 xop, .int .i64 xn, .string xname, .slice Ax xkids.length px] 90)) := (Below.refl _ _).alloc (Nat.le_refl _) _
            have RX : Row (wr.alloc (.cells #[.int .i64 xop, .int .i64 xn, .string xname, .slice Ax xkids.length px] 90)) wr.heap.size 90 #[.int .i64 xop, .int .i64 xn, .string xname, .slice Ax xkids.length px] := Row.new wr _ _
            have owx := OwnW.below owq hbx (Nat.le_refl _)
            have hnx := own_ne' owq (Nat.le_refl _)
            have Gx := Gq.trans (OwnG.of_below hbx)
            by_cases hj0 : 0 < j
            · have hj0' : (0 : Int) < (j : Int) := by omega
              rw [if_pos hj0] at HN hgr
              simp only [List.length_append, List.length_cons, List.length_nil] at hgr
              go_wp2_with fail
              refine (impl_signWord ⟨#[44]⟩ _).mono ?_
              rintro e w7 ⟨rfl, b7⟩
              have ow7 := OwnW.below owx b7 (Nat.le_refl _)
              have hs7 := Nat.le_trans hszq (Nat.le_trans hbx.size b7.size)
              go_wp2_with (at_builtin; refine app_words rfl _ _ rfl w7 base _ (((l0 ++ acc) ++ [⟨1, name⟩, ⟨3, ⟨#[61]⟩⟩]) ++ ac) [⟨3, ⟨#[44]⟩⟩] _ rfl 1 rfl ow7 (by (try simp only [List.length_append, List.length_cons, List.length_nil]); omega) (Nat.le_trans hbs hs7) rfl rfl ?_)
              intro v8 w8 ow8 g8
              have g78 := (OwnG.of_below (v := .slice Aq nq_ cq) b7).trans g8
              have G8 := Gx.trans g78
              have R8 : Row w8 wr.heap.size 90 #[.int .i64 xop, .int .i64 xn, .string xname, .slice Ax xkids.length px] := g78.row RX hnx
              obtain ⟨A8, n8_, c8, hf8⟩ := OwnW.formN ow8
              subst hf8
              have r0 : w8.cell? ⟨wr.heap.size, 0, none⟩ = some (.int .i64 xop) := R8.cell 0
              have r1 : w8.cell? ⟨wr.heap.size, 1, none⟩ = some (.int .i64 xn) := R8.cell 1
              have r2 : w8.cell? ⟨wr.heap.size, 2, none⟩ = some (.string xname) := R8.cell 2
              have r3 : w8.cell? ⟨wr.heap.size, 3, none⟩ = some (.slice Ax xkids.length px) := R8.cell 3
              have B8 : Below base wr w8 := ((OwnG.of_below hbx).trans g78).below (Nat.le_trans hbs hszq) (fun k hk => own_ge owq hk)
              have Bw8 := Bwq.trans B8
              go_wp2_with fail
              refine (impl_exprWords 6 false d'' xop xn xname xkids (.slice Ax xkids.length px) _ lo B base _ _ hBb (Nat.le_trans hbs Bw8.size) g0x g1x g2x (g3x.below B8 hBb) HVX.out.1 HVX.out.2 (fun w9 b9 => HTX.out w9 (Bw8.trans b9)) ow8 (by rw [HW.out]; (try simp only [List.length_append, List.length_cons, List.length_nil]); omega)).mono ?_
              rw [HW.out]
              rintro e wz ⟨vz, rfl, owz, gz⟩
              go_wp2_with fail
              go_roundw
              case rel => exact ⟨j + 1, _, by omega, by go_num, HN, by simpa using owz, G8.trans gz⟩
              case measure => simp [intOf]; omega
            · have hj0' : decide ((0 : Int) < (j : Int)) = false := decide_eq_false (by omega)
              rw [if_neg hj0] at HN hgr
              simp only [List.length_append, List.length_cons, List.length_nil] at hgr
              have r0 : (wr.alloc (.cells #[.int .i64 xop, .int .i64 xn, .string xname, .slice Ax xkids.length px] 90)).cell? ⟨wr.heap.size, 0, none⟩ = some (.int .i64 xop) := RX.cell 0
              have r1 : (wr.alloc (.cells #[.int .i64 xop, .int .i64 xn, .string xname, .slice Ax xkids.length px] 90)).cell? ⟨wr.heap.size, 1, none⟩ = some (.int .i64 xn) := RX.cell 1
              have r2 : (wr.alloc (.cells #[.int .i64 xop, .int .i64 xn, .string xname, .slice Ax xkids.length px] 90)).cell? ⟨wr.heap.size, 2, none⟩ = some (.string xname) := RX.cell 2
              have r3 : (wr.alloc (.cells #[.int .i64 xop, .int .i64 xn, .string xname, .slice Ax xkids.length px] 90)).cell? ⟨wr.heap.size, 3, none⟩ = some (.slice Ax xkids.length px) := RX.cell 3
              have B8 : Below base wr (wr.alloc (.cells #[.int .i64 xop, .int .i64 xn, .string xname, .slice Ax xkids.length px] 90)) := (OwnG.of_below hbx).below (Nat.le_trans hbs hszq) (fun k hk => own_ge owq hk)
              have Bw8 := Bwq.trans B8
              go_wp2_with fail
              refine (impl_exprWords 6 false d'' xop xn xname xkids (.slice Ax xkids.length px) _ lo B base _ _ hBb (Nat.le_trans hbs Bw8.size) g0x g1x g2x (g3x.below B8 hBb) HVX.out.1 HVX.out.2 (fun w9 b9 => HTX.out w9 (Bw8.trans b9)) owx (by rw [HW.out]; (try simp only [List.length_append, List.length_cons, List.length_nil]); omega)).mono ?_
              rw [HW.out]
              rintro e wz ⟨vz, rfl, owz, gz⟩
              go_wp2_with fail
              go_roundw
              case rel => exact ⟨j + 1, _, by omega, by go_num, HN, by simpa using owz, Gx.trans gz⟩
              case measure => simp [intOf]; omega
          · have hT3 : ac = T := by have h1 := HT.out; rw [List.drop_eq_nil_of_le (by omega), List.foldl_nil] at h1; exact h1
            subst hT3
            clear HT
            go_wp2_with fail
            refine (impl_signWord ⟨#[59]⟩ _).mono ?_
            rintro e w7 ⟨rfl, b7⟩
            have ow7 := OwnW.below owq b7 (Nat.le_refl _)
            have hs7 := Nat.le_trans hszq b7.size
            go_wp2_with (at_builtin; refine app_words rfl _ _ rfl w7 base _ (((l0 ++ acc) ++ [⟨1, name⟩, ⟨3, ⟨#[61]⟩⟩]) ++ ac) [⟨3, ⟨#[59]⟩⟩] _ rfl 1 rfl ow7 (by (try simp only [List.length_append, List.length_cons, List.length_nil]); omega) (Nat.le_trans hbs hs7) rfl rfl ?_)
            intro v8 w8 ow8 g8
            go_wp2_with fail
            go_roundw
            case rel => exact ⟨k + 1, _, by omega, by go_num, HS, by simpa using ow8, (G.trans ((OwnG.of_below hbk).trans (HG.out.trans Gq))).trans ((OwnG.of_below b7).trans g8)⟩
            case measure => simp [intOf]; omega
      · obtain ⟨T, hT⟩ : ∃ T, agW args = T := ⟨_, rfl⟩
        have hW : stW (.mk 3 name args body els) = [⟨4, ⟨#[115, 97, 121]⟩⟩] ++ (T ++ [⟨3, ⟨#[59]⟩⟩]) := by rw [stW_mk, hT, if_neg (by omega)]; rfl
        rw [hW] at HS
        have hlw : (stW (.mk 3 name args body els)).length + acc.length + l0.length ≤ 90000 := by have h1 := stsW_take_len l (k + 1); rw [HS.out] at h1; rw [hW]; simp only [List.length_append] at h1 ⊢; omega
        rw [hW] at hlw
        simp only [List.length_append, List.length_cons, List.length_nil] at hlw
        have HT0 := Lib.hid hT
        clear hW hT
        have hbk : Below wo.heap.size wo (wo.alloc (.cells #[.int .i64 3, .string name, .slice A2 args.length p2, .slice A3 body.length p3, .slice A4 els.length p4] 76)) := (Below.refl _ _).alloc (Nat.le_refl _) _
        have RK : Row (wo.alloc (.cells #[.int .i64 3, .string name, .slice A2 args.length p2, .slice A3 body.length p3, .slice A4 els.length p4] 76)) wo.heap.size 76 #[.int .i64 3, .string name, .slice A2 args.length p2, .slice A3 body.length p3, .slice A4 els.length p4] := Row.new wo _ _
        have owk := OwnW.below own hbk (Nat.le_refl _)
        have hnk := own_ne' own (Nat.le_refl _)
        have hgk : ∀ x, Value.ownBlock (.slice Au nu_ cu) = some x → base ≤ x := fun x hx => own_ge own hx
        clear hc0
        go_wp2_with fail
        refine (impl_keyWord ⟨#[115, 97, 121]⟩ _).mono ?_
        rintro e wa0 ⟨rfl, ba0⟩
        have owa0 := OwnW.below owk ba0 (Nat.le_refl _)
        have ga0 : OwnG (.slice Au nu_ cu) (.slice Au nu_ cu) (wo.alloc (.cells #[.int .i64 3, .string name, .slice A2 args.length p2, .slice A3 body.length p3, .slice A4 els.length p4] 76)) wa0 := OwnG.of_below ba0
        have hsa := Nat.le_trans hbk.size ga0.size
        go_wp2_with (at_builtin; refine app_words rfl _ _ rfl wa0 base _ (l0 ++ acc) [⟨4, ⟨#[115, 97, 121]⟩⟩] _ rfl 1 rfl owa0 (by (try simp only [List.length_append, List.length_cons, List.length_nil]); omega) (Nat.le_trans hbs (Nat.le_trans hsz hsa)) rfl rfl ?_)
        intro v5 w5 ow5 g5
        have G5 := ga0.trans g5
        have R5 : Row w5 wo.heap.size 76 #[.int .i64 3, .string name, .slice A2 args.length p2, .slice A3 body.length p3, .slice A4 els.length p4] := G5.row RK hnk
        obtain ⟨A5, n5_, c5, hf5⟩ := OwnW.formN ow5
        subst hf5
        have hn5 := G5.ne (hnk) RK.lt
        have B5 : Below base wo w5 := ((OwnG.of_below hbk).trans G5).below (Nat.le_trans hbs hsz) hgk
        have q0 : w5.cell? ⟨wo.heap.size, 0, none⟩ = some (.int .i64 3) := R5.cell 0
        have q1 : w5.cell? ⟨wo.heap.size, 1, none⟩ = some (.string name) := R5.cell 1
        have q2 : w5.cell? ⟨wo.heap.size, 2, none⟩ = some (.slice A2 args.length p2) := R5.cell 2
        have q3 : w5.cell? ⟨wo.heap.size, 3, none⟩ = some (.slice A3 body.length p3) := R5.cell 3
        have q4 : w5.cell? ⟨wo.heap.size, 4, none⟩ = some (.slice A4 els.length p4) := R5.cell 4
        clear owa0 ba0  owk g5
        have hg5 : ∀ x, Value.ownBlock (.slice A5 n5_ c5) = some x → base ≤ x := fun x hx => own_ge ow5 hx
        have HG := Lib.hid G5
        have HOW := Lib.hid ow5
        clear G5 ga0
        go_wp2_with fail
        go_loopw [0, 75] (fun vv i wr => ∃ (j : Nat) (ac : List WordD), j ≤ args.length ∧ i = .int .i64 j ∧ Hid (((args.drop j).foldl (cmW (wdE 6 false)) (j, ac)).2 = T) ∧ OwnW wr base vv (((l0 ++ acc) ++ [⟨4, ⟨#[115, 97, 121]⟩⟩]) ++ ac) ∧ OwnG (.slice A5 n5_ c5) vv w5 wr) (fun _ i _ => args.length - (intOf i).toNat)
        case atStart => exact ⟨0, [], by omega, rfl, HT0.out, by simpa using HOW.out, OwnG.refl _ _⟩
        case round =>
          obtain ⟨j, ac, hj, rfl, HT, owq, Gq⟩ := hrel
          clear q0 q1 q2 q3 q4
          have Rq : Row wr wo.heap.size 76 #[.int .i64 3, .string name, .slice A2 args.length p2, .slice A3 body.length p3, .slice A4 els.length p4] := Gq.row R5 hn5
          have Bq : Below base wo wr := B5.trans (Gq.below (Nat.le_trans hbs (Nat.le_trans hsz B5.size)) hg5)
          have Bwq := Bw.trans Bq
          have hszq := Bwq.size
          have q0 : wr.cell? ⟨wo.heap.size, 0, none⟩ = some (.int .i64 3) := Rq.cell 0
          have q1 : wr.cell? ⟨wo.heap.size, 1, none⟩ = some (.string name) := Rq.cell 1
          have q2 : wr.cell? ⟨wo.heap.size, 2, none⟩ = some (.slice A2 args.length p2) := Rq.cell 2
          have q3 : wr.cell? ⟨wo.heap.size, 3, none⟩ = some (.slice A3 body.length p3) := Rq.cell 3
          have q4 : wr.cell? ⟨wo.heap.size, 4, none⟩ = some (.slice A4 els.length p4) := Rq.cell 4
          have hacc : ac.length ≤ T.length := by have h1 := cmW_grow (f := wdE 6 false) (args.drop j) (j, ac); rw [HT.out] at h1; exact h1
          obtain ⟨Aq, nq_, cq, hq⟩ := OwnW.formN owq
          subst hq
          by_cases hjl : j < args.length
          · obtain ⟨d'', rfl⟩ : ∃ d'', d' = d'' + 1 := exS_pos g2 (by omega)
            obtain ⟨bx, ox, xop, xn, xname, xkids, xv, hAx, _, hbBx, HLx, g0x, g1x, g2x, g3x, c0x, c1x, c2x, c3x⟩ := ex_get d'' (g2.below Bq hBb) hjl
            subst hAx
            obtain ⟨Ax, px, hfx, _, _⟩ := g3x.form
            change _ = Value.slice Ax xkids.length px at hfx
            subst hfx
            have hjn : (j : Int) < (args.length : Int) := by omega
            have hji : (0 : Int) ≤ (j : Int) := by omega
            have hvx := val_form6 (List.all_eq_true.1 HV.out _ (HLx.out ▸ List.getElem_mem hjl : Ex.mk xop xn xname xkids ∈ args))
            have HVX := Lib.hid hvx
            clear hvx
            obtain ⟨ws, hws⟩ : ∃ ws, wdE 6 false (.mk xop xn xname xkids) = ws := ⟨_, rfl⟩
            have HW := Lib.hid hws
            have HN : Hid (((args.drop (j + 1)).foldl (cmW (wdE 6 false)) (j + 1, (if 0 < j then ac ++ [⟨3, ⟨#[44]⟩⟩] else ac) ++ ws)).2 = T) := by
              have h1 := HT.out
              rw [drop_cons hjl HLx.out, List.foldl_cons] at h1
              rw [← hws]
              exact h1
            have hgr := cmW_grow (f := wdE 6 false) (args.drop (j + 1)) (j + 1, (if 0 < j then ac ++ [⟨3, ⟨#[44]⟩⟩] else ac) ++ ws)
            rw [HN.out] at hgr
            clear HT hws
            have hbx : Below wr.heap.size wr (wr.alloc (.cells #[.int .i64 xop, .int .i64 xn, .string xname, .slice Ax xkids.length px] 90)) := (Below.refl _ _).alloc (Nat.le_refl _) _
            have RX : Row (wr.alloc (.cells #[.int .i64 xop, .int .i64 xn, .string xname, .slice Ax xkids.length px] 90)) wr.heap.size 90 #[.int .i64 xop, .int .i64 xn, .string xname, .slice Ax xkids.length px] := Row.new wr _ _
            have owx := OwnW.below owq hbx (Nat.le_refl _)
            have hnx := own_ne' owq (Nat.le_refl _)
            have Gx := Gq.trans (OwnG.of_below hbx)
            by_cases hj0 : 0 < j
            · have hj0' : (0 : Int) < (j : Int) := by omega
              rw [if_pos hj0] at HN hgr
              simp only [List.length_append, List.length_cons, List.length_nil] at hgr
              go_wp2_with fail
              refine (impl_signWord ⟨#[44]⟩ _).mono ?_
              rintro e w7 ⟨rfl, b7⟩
              have ow7 := OwnW.below owx b7 (Nat.le_refl _)
              have hs7 := Nat.le_trans hszq (Nat.le_trans hbx.size b7.size)
              go_wp2_with (at_builtin; refine app_words rfl _ _ rfl w7 base _ (((l0 ++ acc) ++ [⟨4, ⟨#[115, 97, 121]⟩⟩]) ++ ac) [⟨3, ⟨#[44]⟩⟩] _ rfl 1 rfl ow7 (by (try simp only [List.length_append, List.length_cons, List.length_nil]); omega) (Nat.le_trans hbs hs7) rfl rfl ?_)
              intro v8 w8 ow8 g8
              have g78 := (OwnG.of_below (v := .slice Aq nq_ cq) b7).trans g8
              have G8 := Gx.trans g78
              have R8 : Row w8 wr.heap.size 90 #[.int .i64 xop, .int .i64 xn, .string xname, .slice Ax xkids.length px] := g78.row RX hnx
              obtain ⟨A8, n8_, c8, hf8⟩ := OwnW.formN ow8
              subst hf8
              have r0 : w8.cell? ⟨wr.heap.size, 0, none⟩ = some (.int .i64 xop) := R8.cell 0
              have r1 : w8.cell? ⟨wr.heap.size, 1, none⟩ = some (.int .i64 xn) := R8.cell 1
              have r2 : w8.cell? ⟨wr.heap.size, 2, none⟩ = some (.string xname) := R8.cell 2
              have r3 : w8.cell? ⟨wr.heap.size, 3, none⟩ = some (.slice Ax xkids.length px) := R8.cell 3
              have B8 : Below base wr w8 := ((OwnG.of_below hbx).trans g78).below (Nat.le_trans hbs hszq) (fun k hk => own_ge owq hk)
              have Bw8 := Bwq.trans B8
              go_wp2_with fail
              refine (impl_exprWords 6 false d'' xop xn xname xkids (.slice Ax xkids.length px) _ lo B base _ _ hBb (Nat.le_trans hbs Bw8.size) g0x g1x g2x (g3x.below B8 hBb) HVX.out.1 HVX.out.2 (fun w9 b9 => HTX.out w9 (Bw8.trans b9)) ow8 (by rw [HW.out]; (try simp only [List.length_append, List.length_cons, List.length_nil]); omega)).mono ?_
              rw [HW.out]
              rintro e wz ⟨vz, rfl, owz, gz⟩
              go_wp2_with fail
              go_roundw
              case rel => exact ⟨j + 1, _, by omega, by go_num, HN, by simpa using owz, G8.trans gz⟩
              case measure => simp [intOf]; omega
            · have hj0' : decide ((0 : Int) < (j : Int)) = false := decide_eq_false (by omega)
              rw [if_neg hj0] at HN hgr
              simp only [List.length_append, List.length_cons, List.length_nil] at hgr
              have r0 : (wr.alloc (.cells #[.int .i64 xop, .int .i64 xn, .string xname, .slice Ax xkids.length px] 90)).cell? ⟨wr.heap.size, 0, none⟩ = some (.int .i64 xop) := RX.cell 0
              have r1 : (wr.alloc (.cells #[.int .i64 xop, .int .i64 xn, .string xname, .slice Ax xkids.length px] 90)).cell? ⟨wr.heap.size, 1, none⟩ = some (.int .i64 xn) := RX.cell 1
              have r2 : (wr.alloc (.cells #[.int .i64 xop, .int .i64 xn, .string xname, .slice Ax xkids.length px] 90)).cell? ⟨wr.heap.size, 2, none⟩ = some (.string xname) := RX.cell 2
              have r3 : (wr.alloc (.cells #[.int .i64 xop, .int .i64 xn, .string xname, .slice Ax xkids.length px] 90)).cell? ⟨wr.heap.size, 3, none⟩ = some (.slice Ax xkids.length px) := RX.cell 3
              have B8 : Below base wr (wr.alloc (.cells #[.int .i64 xop, .int .i64 xn, .string xname, .slice Ax xkids.length px] 90)) := (OwnG.of_below hbx).below (Nat.le_trans hbs hszq) (fun k hk => own_ge owq hk)
              have Bw8 := Bwq.trans B8
              go_wp2_with fail
              refine (impl_exprWords 6 false d'' xop xn xname xkids (.slice Ax xkids.length px) _ lo B base _ _ hBb (Nat.le_trans hbs Bw8.size) g0x g1x g2x (g3x.below B8 hBb) HVX.out.1 HVX.out.2 (fun w9 b9 => HTX.out w9 (Bw8.trans b9)) owx (by rw [HW.out]; (try simp only [List.length_append, List.length_cons, List.length_nil]); omega)).mono ?_
              rw [HW.out]
              rintro e wz ⟨vz, rfl, owz, gz⟩
              go_wp2_with fail
              go_roundw
              case rel => exact ⟨j + 1, _, by omega, by go_num, HN, by simpa using owz, Gx.trans gz⟩
              case measure => simp [intOf]; omega
          · have hT3 : ac = T := by have h1 := HT.out; rw [List.drop_eq_nil_of_le (by omega), List.foldl_nil] at h1; exact h1
            subst hT3
            clear HT
            go_wp2_with fail
            refine (impl_signWord ⟨#[59]⟩ _).mono ?_
            rintro e w7 ⟨rfl, b7⟩
            have ow7 := OwnW.below owq b7 (Nat.le_refl _)
            have hs7 := Nat.le_trans hszq b7.size
            go_wp2_with (at_builtin; refine app_words rfl _ _ rfl w7 base _ (((l0 ++ acc) ++ [⟨4, ⟨#[115, 97, 121]⟩⟩]) ++ ac) [⟨3, ⟨#[59]⟩⟩] _ rfl 1 rfl ow7 (by (try simp only [List.length_append, List.length_cons, List.length_nil]); omega) (Nat.le_trans hbs hs7) rfl rfl ?_)
            intro v8 w8 ow8 g8
            go_wp2_with fail
            go_roundw
            case rel => exact ⟨k + 1, _, by omega, by go_num, HS, by simpa using ow8, (G.trans ((OwnG.of_below hbk).trans (HG.out.trans Gq))).trans ((OwnG.of_below b7).trans g8)⟩
            case measure => simp [intOf]; omega
      · obtain ⟨T, hT⟩ : ∃ T, agW args = T := ⟨_, rfl⟩
        have hW : stW (.mk 4 name args body els) = [⟨4, ⟨#[112, 117, 116]⟩⟩] ++ (T ++ [⟨3, ⟨#[59]⟩⟩]) := by rw [stW_mk, hT, if_neg (by omega)]; rfl
        rw [hW] at HS
        have hlw : (stW (.mk 4 name args body els)).length + acc.length + l0.length ≤ 90000 := by have h1 := stsW_take_len l (k + 1); rw [HS.out] at h1; rw [hW]; simp only [List.length_append] at h1 ⊢; omega
        rw [hW] at hlw
        simp only [List.length_append, List.length_cons, List.length_nil] at hlw
        have HT0 := Lib.hid hT
        clear hW hT
        have hbk : Below wo.heap.size wo (wo.alloc (.cells #[.int .i64 4, .string name, .slice A2 args.length p2, .slice A3 body.length p3, .slice A4 els.length p4] 76)) := (Below.refl _ _).alloc (Nat.le_refl _) _
        have RK : Row (wo.alloc (.cells #[.int .i64 4, .string name, .slice A2 args.length p2, .slice A3 body.length p3, .slice A4 els.length p4] 76)) wo.heap.size 76 #[.int .i64 4, .string name, .slice A2 args.length p2, .slice A3 body.length p3, .slice A4 els.length p4] := Row.new wo _ _
        have owk := OwnW.below own hbk (Nat.le_refl _)
        have hnk := own_ne' own (Nat.le_refl _)
        have hgk : ∀ x, Value.ownBlock (.slice Au nu_ cu) = some x → base ≤ x := fun x hx => own_ge own hx
        clear hc0
        go_wp2_with fail
        refine (impl_keyWord ⟨#[112, 117, 116]⟩ _).mono ?_
        rintro e wa0 ⟨rfl, ba0⟩
        have owa0 := OwnW.below owk ba0 (Nat.le_refl _)
        have ga0 : OwnG (.slice Au nu_ cu) (.slice Au nu_ cu) (wo.alloc (.cells #[.int .i64 4, .string name, .slice A2 args.length p2, .slice A3 body.length p3, .slice A4 els.length p4] 76)) wa0 := OwnG.of_below ba0
        have hsa := Nat.le_trans hbk.size ga0.size
        go_wp2_with (at_builtin; refine app_words rfl _ _ rfl wa0 base _ (l0 ++ acc) [⟨4, ⟨#[112, 117, 116]⟩⟩] _ rfl 1 rfl owa0 (by (try simp only [List.length_append, List.length_cons, List.length_nil]); omega) (Nat.le_trans hbs (Nat.le_trans hsz hsa)) rfl rfl ?_)
        intro v5 w5 ow5 g5
        have G5 := ga0.trans g5
        have R5 : Row w5 wo.heap.size 76 #[.int .i64 4, .string name, .slice A2 args.length p2, .slice A3 body.length p3, .slice A4 els.length p4] := G5.row RK hnk
        obtain ⟨A5, n5_, c5, hf5⟩ := OwnW.formN ow5
        subst hf5
        have hn5 := G5.ne (hnk) RK.lt
        have B5 : Below base wo w5 := ((OwnG.of_below hbk).trans G5).below (Nat.le_trans hbs hsz) hgk
        have q0 : w5.cell? ⟨wo.heap.size, 0, none⟩ = some (.int .i64 4) := R5.cell 0
        have q1 : w5.cell? ⟨wo.heap.size, 1, none⟩ = some (.string name) := R5.cell 1
        have q2 : w5.cell? ⟨wo.heap.size, 2, none⟩ = some (.slice A2 args.length p2) := R5.cell 2
        have q3 : w5.cell? ⟨wo.heap.size, 3, none⟩ = some (.slice A3 body.length p3) := R5.cell 3
        have q4 : w5.cell? ⟨wo.heap.size, 4, none⟩ = some (.slice A4 els.length p4) := R5.cell 4
        clear owa0 ba0  owk g5
        have hg5 : ∀ x, Value.ownBlock (.slice A5 n5_ c5) = some x → base ≤ x := fun x hx => own_ge ow5 hx
        have HG := Lib.hid G5
        have HOW := Lib.hid ow5
        clear G5 ga0
        go_wp2_with fail
        go_loopw [0, 75] (fun vv i wr => ∃ (j : Nat) (ac : List WordD), j ≤ args.length ∧ i = .int .i64 j ∧ Hid (((args.drop j).foldl (cmW (wdE 6 false)) (j, ac)).2 = T) ∧ OwnW wr base vv (((l0 ++ acc) ++ [⟨4, ⟨#[112, 117, 116]⟩⟩]) ++ ac) ∧ OwnG (.slice A5 n5_ c5) vv w5 wr) (fun _ i _ => args.length - (intOf i).toNat)
        case atStart => exact ⟨0, [], by omega, rfl, HT0.out, by simpa using HOW.out, OwnG.refl _ _⟩
        case round =>
          obtain ⟨j, ac, hj, rfl, HT, owq, Gq⟩ := hrel
          clear q0 q1 q2 q3 q4
          have Rq : Row wr wo.heap.size 76 #[.int .i64 4, .string name, .slice A2 args.length p2, .slice A3 body.length p3, .slice A4 els.length p4] := Gq.row R5 hn5
          have Bq : Below base wo wr := B5.trans (Gq.below (Nat.le_trans hbs (Nat.le_trans hsz B5.size)) hg5)
          have Bwq := Bw.trans Bq
          have hszq := Bwq.size
          have q0 : wr.cell? ⟨wo.heap.size, 0, none⟩ = some (.int .i64 4) := Rq.cell 0
          have q1 : wr.cell? ⟨wo.heap.size, 1, none⟩ = some (.string name) := Rq.cell 1
          have q2 : wr.cell? ⟨wo.heap.size, 2, none⟩ = some (.slice A2 args.length p2) := Rq.cell 2
          have q3 : wr.cell? ⟨wo.heap.size, 3, none⟩ = some (.slice A3 body.length p3) := Rq.cell 3
          have q4 : wr.cell? ⟨wo.heap.size, 4, none⟩ = some (.slice A4 els.length p4) := Rq.cell 4
          have hacc : ac.length ≤ T.length := by have h1 := cmW_grow (f := wdE 6 false) (args.drop j) (j, ac); rw [HT.out] at h1; exact h1
          obtain ⟨Aq, nq_, cq, hq⟩ := OwnW.formN owq
          subst hq
          by_cases hjl : j < args.length
          · obtain ⟨d'', rfl⟩ : ∃ d'', d' = d'' + 1 := exS_pos g2 (by omega)
            obtain ⟨bx, ox, xop, xn, xname, xkids, xv, hAx, _, hbBx, HLx, g0x, g1x, g2x, g3x, c0x, c1x, c2x, c3x⟩ := ex_get d'' (g2.below Bq hBb) hjl
            subst hAx
            obtain ⟨Ax, px, hfx, _, _⟩ := g3x.form
            change _ = Value.slice Ax xkids.length px at hfx
            subst hfx
            have hjn : (j : Int) < (args.length : Int) := by omega
            have hji : (0 : Int) ≤ (j : Int) := by omega
            have hvx := val_form6 (List.all_eq_true.1 HV.out _ (HLx.out ▸ List.getElem_mem hjl : Ex.mk xop xn xname xkids ∈ args))
            have HVX := Lib.hid hvx
            clear hvx
            obtain ⟨ws, hws⟩ : ∃ ws, wdE 6 false (.mk xop xn xname xkids) = ws := ⟨_, rfl⟩
            have HW := Lib.hid hws
            have HN : Hid (((args.drop (j + 1)).foldl (cmW (wdE 6 false)) (j + 1, (if 0 < j then ac ++ [⟨3, ⟨#[44]⟩⟩] else ac) ++ ws)).2 = T) := by
              have h1 := HT.out
              rw [drop_cons hjl HLx.out, List.foldl_cons] at h1
              rw [← hws]
              exact h1
            have hgr := cmW_grow (f := wdE 6 false) (args.drop (j + 1)) (j + 1, (if 0 < j then ac ++ [⟨3, ⟨#[44]⟩⟩] else ac) ++ ws)
            rw [HN.out] at hgr
            clear HT hws
            have hbx : Below wr.heap.size wr (wr.alloc (.cells #[.int .i64 xop, .int .i64 xn, .string xname, .slice Ax xkids.length px] 90)) := (Below.refl _ _).alloc (Nat.le_refl _) _
            have RX : Row (wr.alloc (.cells #[.int .i64 xop, .int .i64 xn, .string xname, .slice Ax xkids.length px] 90)) wr.heap.size 90 #[.int .i64 xop, .int .i64 xn, .string xname, .slice Ax xkids.length px] := Row.new wr _ _
            have owx := OwnW.below owq hbx (Nat.le_refl _)
            have hnx := own_ne' owq (Nat.le_refl _)
            have Gx := Gq.trans (OwnG.of_below hbx)
            by_cases hj0 : 0 < j
            · have hj0' : (0 : Int) < (j : Int) := by omega
              rw [if_pos hj0] at HN hgr
              simp only [List.length_append, List.length_cons, List.length_nil] at hgr
              go_wp2_with fail
              refine (impl_signWord ⟨#[44]⟩ _).mono ?_
              rintro e w7 ⟨rfl, b7⟩
              have ow7 := OwnW.below owx b7 (Nat.le_refl _)
              have hs7 := Nat.le_trans hszq (Nat.le_trans hbx.size b7.size)
              go_wp2_with (at_builtin; refine app_words rfl _ _ rfl w7 base _ (((l0 ++ acc) ++ [⟨4, ⟨#[112, 117, 116]⟩⟩]) ++ ac) [⟨3, ⟨#[44]⟩⟩] _ rfl 1 rfl ow7 (by (try simp only [List.length_append, List.length_cons, List.length_nil]); omega) (Nat.le_trans hbs hs7) rfl rfl ?_)
              intro v8 w8 ow8 g8
              have g78 := (OwnG.of_below (v := .slice Aq nq_ cq) b7).trans g8
              have G8 := Gx.trans g78
              have R8 : Row w8 wr.heap.size 90 #[.int .i64 xop, .int .i64 xn, .string xname, .slice Ax xkids.length px] := g78.row RX hnx
              obtain ⟨A8, n8_, c8, hf8⟩ := OwnW.formN ow8
              subst hf8
              have r0 : w8.cell? ⟨wr.heap.size, 0, none⟩ = some (.int .i64 xop) := R8.cell 0
              have r1 : w8.cell? ⟨wr.heap.size, 1, none⟩ = some (.int .i64 xn) := R8.cell 1
              have r2 : w8.cell? ⟨wr.heap.size, 2, none⟩ = some (.string xname) := R8.cell 2
              have r3 : w8.cell? ⟨wr.heap.size, 3, none⟩ = some (.slice Ax xkids.length px) := R8.cell 3
              have B8 : Below base wr w8 := ((OwnG.of_below hbx).trans g78).below (Nat.le_trans hbs hszq) (fun k hk => own_ge owq hk)
              have Bw8 := Bwq.trans B8
              go_wp2_with fail
              refine (impl_exprWords 6 false d'' xop xn xname xkids (.slice Ax xkids.length px) _ lo B base _ _ hBb (Nat.le_trans hbs Bw8.size) g0x g1x g2x (g3x.below B8 hBb) HVX.out.1 HVX.out.2 (fun w9 b9 => HTX.out w9 (Bw8.trans b9)) ow8 (by rw [HW.out]; (try simp only [List.length_append, List.length_cons, List.length_nil]); omega)).mono ?_
              rw [HW.out]
              rintro e wz ⟨vz, rfl, owz, gz⟩
              go_wp2_with fail
              go_roundw
              case rel => exact ⟨j + 1, _, by omega, by go_num, HN, by simpa using owz, G8.trans gz⟩
              case measure => simp [intOf]; omega
            · have hj0' : decide ((0 : Int) < (j : Int)) = false := decide_eq_false (by omega)
              rw [if_neg hj0] at HN hgr
              simp only [List.length_append, List.length_cons, List.length_nil] at hgr
              have r0 : (wr.alloc (.cells #[.int .i64 xop, .int .i64 xn, .string xname, .slice Ax xkids.length px] 90)).cell? ⟨wr.heap.size, 0, none⟩ = some (.int .i64 xop) := RX.cell 0
              have r1 : (wr.alloc (.cells #[.int .i64 xop, .int .i64 xn, .string xname, .slice Ax xkids.length px] 90)).cell? ⟨wr.heap.size, 1, none⟩ = some (.int .i64 xn) := RX.cell 1
              have r2 : (wr.alloc (.cells #[.int .i64 xop, .int .i64 xn, .string xname, .slice Ax xkids.length px] 90)).cell? ⟨wr.heap.size, 2, none⟩ = some (.string xname) := RX.cell 2
              have r3 : (wr.alloc (.cells #[.int .i64 xop, .int .i64 xn, .string xname, .slice Ax xkids.length px] 90)).cell? ⟨wr.heap.size, 3, none⟩ = some (.slice Ax xkids.length px) := RX.cell 3
              have B8 : Below base wr (wr.alloc (.cells #[.int .i64 xop, .int .i64 xn, .string xname, .slice Ax xkids.length px] 90)) := (OwnG.of_below hbx).below (Nat.le_trans hbs hszq) (fun k hk => own_ge owq hk)
              have Bw8 := Bwq.trans B8
              go_wp2_with fail
              refine (impl_exprWords 6 false d'' xop xn xname xkids (.slice Ax xkids.length px) _ lo B base _ _ hBb (Nat.le_trans hbs Bw8.size) g0x g1x g2x (g3x.below B8 hBb) HVX.out.1 HVX.out.2 (fun w9 b9 => HTX.out w9 (Bw8.trans b9)) owx (by rw [HW.out]; (try simp only [List.length_append, List.length_cons, List.length_nil]); omega)).mono ?_
              rw [HW.out]
              rintro e wz ⟨vz, rfl, owz, gz⟩
              go_wp2_with fail
              go_roundw
              case rel => exact ⟨j + 1, _, by omega, by go_num, HN, by simpa using owz, Gx.trans gz⟩
              case measure => simp [intOf]; omega
          · have hT3 : ac = T := by have h1 := HT.out; rw [List.drop_eq_nil_of_le (by omega), List.foldl_nil] at h1; exact h1
            subst hT3
            clear HT
            go_wp2_with fail
            refine (impl_signWord ⟨#[59]⟩ _).mono ?_
            rintro e w7 ⟨rfl, b7⟩
            have ow7 := OwnW.below owq b7 (Nat.le_refl _)
            have hs7 := Nat.le_trans hszq b7.size
            go_wp2_with (at_builtin; refine app_words rfl _ _ rfl w7 base _ (((l0 ++ acc) ++ [⟨4, ⟨#[112, 117, 116]⟩⟩]) ++ ac) [⟨3, ⟨#[59]⟩⟩] _ rfl 1 rfl ow7 (by (try simp only [List.length_append, List.length_cons, List.length_nil]); omega) (Nat.le_trans hbs hs7) rfl rfl ?_)
            intro v8 w8 ow8 g8
            go_wp2_with fail
            go_roundw
            case rel => exact ⟨k + 1, _, by omega, by go_num, HS, by simpa using ow8, (G.trans ((OwnG.of_below hbk).trans (HG.out.trans Gq))).trans ((OwnG.of_below b7).trans g8)⟩
            case measure => simp [intOf]; omega
      · obtain ⟨T, hT⟩ : ∃ T, agW args = T := ⟨_, rfl⟩
        have hW : stW (.mk 5 name args body els) = [⟨4, ⟨#[105, 102]⟩⟩] ++ (T ++ (blW body ++ (if els.length = 0 then [] else [⟨4, ⟨#[101, 108, 115, 101]⟩⟩] ++ blW els))) := by rw [stW_mk, hT, if_pos (by omega)]; rfl
        rw [hW] at HS
        have hlw : (stW (.mk 5 name args body els)).length + acc.length + l0.length ≤ 90000 := by have h1 := stsW_take_len l (k + 1); rw [HS.out] at h1; rw [hW]; simp only [List.length_append] at h1 ⊢; omega
        rw [hW] at hlw
        simp only [List.length_append, List.length_cons, List.length_nil] at hlw
        have HT0 := Lib.hid hT
        clear hW hT
        have hbk : Below wo.heap.size wo (wo.alloc (.cells #[.int .i64 5, .string name, .slice A2 args.length p2, .slice A3 body.length p3, .slice A4 els.length p4] 76)) := (Below.refl _ _).alloc (Nat.le_refl _) _
        have RK : Row (wo.alloc (.cells #[.int .i64 5, .string name, .slice A2 args.length p2, .slice A3 body.length p3, .slice A4 els.length p4] 76)) wo.heap.size 76 #[.int .i64 5, .string name, .slice A2 args.length p2, .slice A3 body.length p3, .slice A4 els.length p4] := Row.new wo _ _
        have owk := OwnW.below own hbk (Nat.le_refl _)
        have hnk := own_ne' own (Nat.le_refl _)
        have hgk : ∀ x, Value.ownBlock (.slice Au nu_ cu) = some x → base ≤ x := fun x hx => own_ge own hx
        clear hc0
        go_wp2_with fail
        refine (impl_keyWord ⟨#[105, 102]⟩ _).mono ?_
        rintro e wa0 ⟨rfl, ba0⟩
        have owa0 := OwnW.below owk ba0 (Nat.le_refl _)
        have ga0 : OwnG (.slice Au nu_ cu) (.slice Au nu_ cu) (wo.alloc (.cells #[.int .i64 5, .string name, .slice A2 args.length p2, .slice A3 body.length p3, .slice A4 els.length p4] 76)) wa0 := OwnG.of_below ba0
        have hsa := Nat.le_trans hbk.size ga0.size
        go_wp2_with (at_builtin; refine app_words rfl _ _ rfl wa0 base _ (l0 ++ acc) [⟨4, ⟨#[105, 102]⟩⟩] _ rfl 1 rfl owa0 (by (try simp only [List.length_append, List.length_cons, List.length_nil]); omega) (Nat.le_trans hbs (Nat.le_trans hsz hsa)) rfl rfl ?_)
        intro v5 w5 ow5 g5
        have G5 := ga0.trans g5
        have R5 : Row w5 wo.heap.size 76 #[.int .i64 5, .string name, .slice A2 args.length p2, .slice A3 body.length p3, .slice A4 els.length p4] := G5.row RK hnk
        obtain ⟨A5, n5_, c5, hf5⟩ := OwnW.formN ow5
        subst hf5
        have hn5 := G5.ne (hnk) RK.lt
        have B5 : Below base wo w5 := ((OwnG.of_below hbk).trans G5).below (Nat.le_trans hbs hsz) hgk
        have q0 : w5.cell? ⟨wo.heap.size, 0, none⟩ = some (.int .i64 5) := R5.cell 0
        have q1 : w5.cell? ⟨wo.heap.size, 1, none⟩ = some (.string name) := R5.cell 1
        have q2 : w5.cell? ⟨wo.heap.size, 2, none⟩ = some (.slice A2 args.length p2) := R5.cell 2
        have q3 : w5.cell? ⟨wo.heap.size, 3, none⟩ = some (.slice A3 body.length p3) := R5.cell 3
        have q4 : w5.cell? ⟨wo.heap.size, 4, none⟩ = some (.slice A4 els.length p4) := R5.cell 4
        clear owa0 ba0  owk g5
        have hg5 : ∀ x, Value.ownBlock (.slice A5 n5_ c5) = some x → base ≤ x := fun x hx => own_ge ow5 hx
        have HG := Lib.hid G5
        have HOW := Lib.hid ow5
        clear G5 ga0
        go_wp2_with fail
        go_loopw [0, 75] (fun vv i wr => ∃ (j : Nat) (ac : List WordD), j ≤ args.length ∧ i = .int .i64 j ∧ Hid (((args.drop j).foldl (cmW (wdE 6 false)) (j, ac)).2 = T) ∧ OwnW wr base vv (((l0 ++ acc) ++ [⟨4, ⟨#[105, 102]⟩⟩]) ++ ac) ∧ OwnG (.slice A5 n5_ c5) vv w5 wr) (fun _ i _ => args.length - (intOf i).toNat)
        case atStart => exact ⟨0, [], by omega, rfl, HT0.out, by simpa using HOW.out, OwnG.refl _ _⟩
        case round =>
          obtain ⟨j, ac, hj, rfl, HT, owq, Gq⟩ := hrel
          clear q0 q1 q2 q3 q4
          have Rq : Row wr wo.heap.size 76 #[.int .i64 5, .string name, .slice A2 args.length p2, .slice A3 body.length p3, .slice A4 els.length p4] := Gq.row R5 hn5
          have Bq : Below base wo wr := B5.trans (Gq.below (Nat.le_trans hbs (Nat.le_trans hsz B5.size)) hg5)
          have Bwq := Bw.trans Bq
          have hszq := Bwq.size
          have q0 : wr.cell? ⟨wo.heap.size, 0, none⟩ = some (.int .i64 5) := Rq.cell 0
          have q1 : wr.cell? ⟨wo.heap.size, 1, none⟩ = some (.string name) := Rq.cell 1
          have q2 : wr.cell? ⟨wo.heap.size, 2, none⟩ = some (.slice A2 args.length p2) := Rq.cell 2
          have q3 : wr.cell? ⟨wo.heap.size, 3, none⟩ = some (.slice A3 body.length p3) := Rq.cell 3
          have q4 : wr.cell? ⟨wo.heap.size, 4, none⟩ = some (.slice A4 els.length p4) := Rq.cell 4
          have hacc : ac.length ≤ T.length := by have h1 := cmW_grow (f := wdE 6 false) (args.drop j) (j, ac); rw [HT.out] at h1; exact h1
          obtain ⟨Aq, nq_, cq, hq⟩ := OwnW.formN owq
          subst hq
          by_cases hjl : j < args.length
          · obtain ⟨d'', rfl⟩ : ∃ d'', d' = d'' + 1 := exS_pos g2 (by omega)
            obtain ⟨bx, ox, xop, xn, xname, xkids, xv, hAx, _, hbBx, HLx, g0x, g1x, g2x, g3x, c0x, c1x, c2x, c3x⟩ := ex_get d'' (g2.below Bq hBb) hjl
            subst hAx
            obtain ⟨Ax, px, hfx, _, _⟩ := g3x.form
            change _ = Value.slice Ax xkids.length px at hfx
            subst hfx
            have hjn : (j : Int) < (args.length : Int) := by omega
            have hji : (0 : Int) ≤ (j : Int) := by omega
            have hvx := val_form6 (List.all_eq_true.1 HV.out _ (HLx.out ▸ List.getElem_mem hjl : Ex.mk xop xn xname xkids ∈ args))
            have HVX := Lib.hid hvx
            clear hvx
            obtain ⟨ws, hws⟩ : ∃ ws, wdE 6 false (.mk xop xn xname xkids) = ws := ⟨_, rfl⟩
            have HW := Lib.hid hws
            have HN : Hid (((args.drop (j + 1)).foldl (cmW (wdE 6 false)) (j + 1, (if 0 < j then ac ++ [⟨3, ⟨#[44]⟩⟩] else ac) ++ ws)).2 = T) := by
              have h1 := HT.out
              rw [drop_cons hjl HLx.out, List.foldl_cons] at h1
              rw [← hws]
              exact h1
            have hgr := cmW_grow (f := wdE 6 false) (args.drop (j + 1)) (j + 1, (if 0 < j then ac ++ [⟨3, ⟨#[44]⟩⟩] else ac) ++ ws)
            rw [HN.out] at hgr
            clear HT hws
            have hbx : Below wr.heap.size wr (wr.alloc (.cells #[.int .i64 xop, .int .i64 xn, .string xname, .slice Ax xkids.length px] 90)) := (Below.refl _ _).alloc (Nat.le_refl _) _
            have RX : Row (wr.alloc (.cells #[.int .i64 xop, .int .i64 xn, .string xname, .slice Ax xkids.length px] 90)) wr.heap.size 90 #[.int .i64 xop, .int .i64 xn, .string xname, .slice Ax xkids.length px] := Row.new wr _ _
            have owx := OwnW.below owq hbx (Nat.le_refl _)
            have hnx := own_ne' owq (Nat.le_refl _)
            have Gx := Gq.trans (OwnG.of_below hbx)
            by_cases hj0 : 0 < j
            · have hj0' : (0 : Int) < (j : Int) := by omega
              rw [if_pos hj0] at HN hgr
              simp only [List.length_append, List.length_cons, List.length_nil] at hgr
              go_wp2_with fail
              refine (impl_signWord ⟨#[44]⟩ _).mono ?_
              rintro e w7 ⟨rfl, b7⟩
              have ow7 := OwnW.below owx b7 (Nat.le_refl _)
              have hs7 := Nat.le_trans hszq (Nat.le_trans hbx.size b7.size)
              go_wp2_with (at_builtin; refine app_words rfl _ _ rfl w7 base _ (((l0 ++ acc) ++ [⟨4, ⟨#[105, 102]⟩⟩]) ++ ac) [⟨3, ⟨#[44]⟩⟩] _ rfl 1 rfl ow7 (by (try simp only [List.length_append, List.length_cons, List.length_nil]); omega) (Nat.le_trans hbs hs7) rfl rfl ?_)
              intro v8 w8 ow8 g8
              have g78 := (OwnG.of_below (v := .slice Aq nq_ cq) b7).trans g8
              have G8 := Gx.trans g78
              have R8 : Row w8 wr.heap.size 90 #[.int .i64 xop, .int .i64 xn, .string xname, .slice Ax xkids.length px] := g78.row RX hnx
              obtain ⟨A8, n8_, c8, hf8⟩ := OwnW.formN ow8
              subst hf8
              have r0 : w8.cell? ⟨wr.heap.size, 0, none⟩ = some (.int .i64 xop) := R8.cell 0
              have r1 : w8.cell? ⟨wr.heap.size, 1, none⟩ = some (.int .i64 xn) := R8.cell 1
              have r2 : w8.cell? ⟨wr.heap.size, 2, none⟩ = some (.string xname) := R8.cell 2
              have r3 : w8.cell? ⟨wr.heap.size, 3, none⟩ = some (.slice Ax xkids.length px) := R8.cell 3
              have B8 : Below base wr w8 := ((OwnG.of_below hbx).trans g78).below (Nat.le_trans hbs hszq) (fun k hk => own_ge owq hk)
              have Bw8 := Bwq.trans B8
              go_wp2_with fail
              refine (impl_exprWords 6 false d'' xop xn xname xkids (.slice Ax xkids.length px) _ lo B base _ _ hBb (Nat.le_trans hbs Bw8.size) g0x g1x g2x (g3x.below B8 hBb) HVX.out.1 HVX.out.2 (fun w9 b9 => HTX.out w9 (Bw8.trans b9)) ow8 (by rw [HW.out]; (try simp only [List.length_append, List.length_cons, List.length_nil]); omega)).mono ?_
              rw [HW.out]
              rintro e wz ⟨vz, rfl, owz, gz⟩
              go_wp2_with fail
              go_roundw
              case rel => exact ⟨j + 1, _, by omega, by go_num, HN, by simpa using owz, G8.trans gz⟩
              case measure => simp [intOf]; omega
            · have hj0' : decide ((0 : Int) < (j : Int)) = false := decide_eq_false (by omega)
              rw [if_neg hj0] at HN hgr
              simp only [List.length_append, List.length_cons, List.length_nil] at hgr
              have r0 : (wr.alloc (.cells #[.int .i64 xop, .int .i64 xn, .string xname, .slice Ax xkids.length px] 90)).cell? ⟨wr.heap.size, 0, none⟩ = some (.int .i64 xop) := RX.cell 0
              have r1 : (wr.alloc (.cells #[.int .i64 xop, .int .i64 xn, .string xname, .slice Ax xkids.length px] 90)).cell? ⟨wr.heap.size, 1, none⟩ = some (.int .i64 xn) := RX.cell 1
              have r2 : (wr.alloc (.cells #[.int .i64 xop, .int .i64 xn, .string xname, .slice Ax xkids.length px] 90)).cell? ⟨wr.heap.size, 2, none⟩ = some (.string xname) := RX.cell 2
              have r3 : (wr.alloc (.cells #[.int .i64 xop, .int .i64 xn, .string xname, .slice Ax xkids.length px] 90)).cell? ⟨wr.heap.size, 3, none⟩ = some (.slice Ax xkids.length px) := RX.cell 3
              have B8 : Below base wr (wr.alloc (.cells #[.int .i64 xop, .int .i64 xn, .string xname, .slice Ax xkids.length px] 90)) := (OwnG.of_below hbx).below (Nat.le_trans hbs hszq) (fun k hk => own_ge owq hk)
              have Bw8 := Bwq.trans B8
              go_wp2_with fail
              refine (impl_exprWords 6 false d'' xop xn xname xkids (.slice Ax xkids.length px) _ lo B base _ _ hBb (Nat.le_trans hbs Bw8.size) g0x g1x g2x (g3x.below B8 hBb) HVX.out.1 HVX.out.2 (fun w9 b9 => HTX.out w9 (Bw8.trans b9)) owx (by rw [HW.out]; (try simp only [List.length_append, List.length_cons, List.length_nil]); omega)).mono ?_
              rw [HW.out]
              rintro e wz ⟨vz, rfl, owz, gz⟩
              go_wp2_with fail
              go_roundw
              case rel => exact ⟨j + 1, _, by omega, by go_num, HN, by simpa using owz, Gx.trans gz⟩
              case measure => simp [intOf]; omega
          · have hT3 : ac = T := by have h1 := HT.out; rw [List.drop_eq_nil_of_le (by omega), List.foldl_nil] at h1; exact h1
            subst hT3
            clear HT
            go_wp2_with fail
            refine (ih m' rfl d' body (.slice A3 body.length p3) _ lo B base _ _ hBb (Nat.le_trans hbs hszq) (g3.below Bq hBb) HB3.out HC3.out (fun w9 b9 => HTX.out w9 (Bwq.trans b9)) owq (by (try simp only [List.length_append, List.length_cons, List.length_nil]); omega)).mono ?_
            rintro e w7 ⟨v7, rfl, ow7, g7⟩
            obtain ⟨A7, n7_, c7, hf7⟩ := OwnW.formN ow7
            subst hf7
            have R7 : Row w7 wo.heap.size 76 #[.int .i64 5, .string name, .slice A2 args.length p2, .slice A3 body.length p3, .slice A4 els.length p4] := g7.row Rq (Gq.ne hn5 R5.lt)
            have B7 : Below base wr w7 := g7.below (Nat.le_trans hbs hszq) (fun k hk => own_ge owq hk)
            have Bw7 := Bwq.trans B7
            clear q0 q1 q2 q3 q4
            have q0 : w7.cell? ⟨wo.heap.size, 0, none⟩ = some (.int .i64 5) := R7.cell 0
            have q1 : w7.cell? ⟨wo.heap.size, 1, none⟩ = some (.string name) := R7.cell 1
            have q2 : w7.cell? ⟨wo.heap.size, 2, none⟩ = some (.slice A2 args.length p2) := R7.cell 2
            have q3 : w7.cell? ⟨wo.heap.size, 3, none⟩ = some (.slice A3 body.length p3) := R7.cell 3
            have q4 : w7.cell? ⟨wo.heap.size, 4, none⟩ = some (.slice A4 els.length p4) := R7.cell 4
            by_cases he0 : els.length = 0
            · have qe : decide ((0 : Int) < (els.length : Int)) = false := decide_eq_false (by omega)
              rw [if_pos he0, List.append_nil] at HS
              have he1 : ¬ 0 < els.length := by omega
              clear he0
              go_wp2_with fail
              go_roundw
              case rel => exact ⟨k + 1, _, by omega, by go_num, HS, by simpa using ow7, (G.trans ((OwnG.of_below hbk).trans (HG.out.trans Gq))).trans g7⟩
              case measure => simp [intOf]; omega
            · have qe : (0 : Int) < (els.length : Int) := by omega
              rw [if_neg he0] at HS hlw
              simp only [List.length_append, List.length_cons, List.length_nil] at hlw
              have he1 : 0 < els.length := by omega
              clear he0
              have bdd : Below w7.heap.size w7 w7.drew := (Below.refl _ _).drew
              have RKd : Row w7.drew wo.heap.size 76 #[.int .i64 5, .string name, .slice A2 args.length p2, .slice A3 body.length p3, .slice A4 els.length p4] := R7
              have owd := OwnW.below ow7 bdd (Nat.le_refl _)
              have gd : OwnG (.slice A7 n7_ c7) (.slice A7 n7_ c7) w7 w7.drew := OwnG.of_below bdd
              go_wp2_with fail
              refine wp_region_held_drew (S := fun w' => w'.cell? ⟨wo.heap.size, 4, none⟩ = some (.slice A4 els.length p4)) (by kernel_rfl) ?_ (fun hHeld => ?_)
              · exact RKd.cell 4
              generalize w7.drew = wd at hHeld RKd owd gd bdd ⊢
              refine reg_take (i := 0) (v := ?v5) rfl (by kernel_rfl) (by kernel_rfl) (by kernel_rfl) (fun _ _ _ h => h) (Or.inl ⟨by kernel_rfl, ?h5⟩) (by assumption) ?r5
              case h5 => (intro w hSw; (try dsimp only at hSw); go_simp; try with_reducible rfl)
              try simp only [Act.put, List.setIfInBounds_toArray, List.set_cons_zero, List.set_cons_succ]
              refine reg_take (i := 4) (v := ?v6) rfl (by kernel_rfl) (by kernel_rfl) (by kernel_rfl) (fun _ _ _ h => h) (Or.inl ⟨by kernel_rfl, ?h6⟩) (by assumption) ?r6
              case h6 => (intro w hSw; (try dsimp only at hSw); go_simp; try with_reducible rfl)
              try simp only [Act.put, List.setIfInBounds_toArray, List.set_cons_zero, List.set_cons_succ]
              refine reg_take (i := 5) (v := ?v7) rfl (by kernel_rfl) (by kernel_rfl) (by kernel_rfl) (fun _ _ _ h => h) (Or.inl ⟨by kernel_rfl, ?h7⟩) (by assumption) ?r7
              case h7 => (intro w hSw; (try dsimp only at hSw); go_simp; try with_reducible rfl)
              try simp only [Act.put, List.setIfInBounds_toArray, List.set_cons_zero, List.set_cons_succ]
              refine reg_call (i := 1) (by kernel_rfl) rfl (fun K hK => ?_)
              go_simp
              refine (impl_keyWord ⟨#[101, 108, 115, 101]⟩ _).mono ?_
              rintro e wa0 ⟨rfl, ba0⟩
              have owa0 := OwnW.below owd ba0 (Nat.le_refl _)
              have ga0 : OwnG (.slice A7 n7_ c7) (.slice A7 n7_ c7) w7 wa0 := gd.trans (OwnG.of_below ba0)
              have Ra0 := RKd.below ba0 RKd.lt
              refine hK.out _ _ (Ra0.cell 4) (fun hHeld => ?_)
              clear hK K
              try simp only [Act.put, List.setIfInBounds_toArray, List.set_cons_zero, List.set_cons_succ]
              refine reg_call (i := 2) (by kernel_rfl) rfl (fun K hK => ?_)
              go_simp
              refine hK.out _ _ ((Ra0.alloc _).cell 4) (fun hHeld => ?_)
              clear hK K
              try simp only [Act.put, List.setIfInBounds_toArray, List.set_cons_zero, List.set_cons_succ]
              refine reg_call (i := 3) (by kernel_rfl) rfl (fun K hK => ?_)
              obtain ⟨v9, wn, rr, ow9, g9⟩ := run_words wa0 base 39 (.slice A7 n7_ c7) ((((l0 ++ acc) ++ [⟨4, ⟨#[105, 102]⟩⟩]) ++ ac) ++ blW body) [⟨4, ⟨#[101, 108, 115, 101]⟩⟩] [.int .i64 4, .string ⟨#[101, 108, 115, 101]⟩] rfl 1 rfl owa0 (by (try simp only [List.length_append, List.length_cons, List.length_nil]); omega) (Nat.le_trans hbs (Nat.le_trans Bw7.size ga0.size))
              rw [if_pos (show Region.wanted _ _ = true by kernel_rfl)]
              refine Lib.wp_append_run_sl _ _ _ 39 rfl _ _ rfl rfl rr ?_
              clear rr
              obtain ⟨A9, n9_, c9, hf_v9⟩ := OwnW.formN ow9
              subst hf_v9
              have g89 := ga0.trans g9
              have R9 : Row wn wo.heap.size 76 #[.int .i64 5, .string name, .slice A2 args.length p2, .slice A3 body.length p3, .slice A4 els.length p4] := g89.row R7 (g7.ne (Gq.ne hn5 R5.lt) Rq.lt)
              refine hK.out _ _ (R9.cell 4) (fun hHeld => ?_)
              clear hK K
              try simp only [Act.put, List.setIfInBounds_toArray, List.set_cons_zero, List.set_cons_succ]
              have B9 : Below base w7 wn := g89.below (Nat.le_trans hbs Bw7.size) (fun k hk => own_ge ow7 hk)
              have Bw9 := Bw7.trans B9
              refine reg_call (i := 6) (by kernel_rfl) rfl (fun K hK => ?_)
              go_simp
              refine (ih m' rfl d' els (.slice A4 els.length p4) _ lo B base _ _ hBb (Nat.le_trans hbs Bw9.size) (g4.below (Bq.trans (B7.trans B9)) hBb) HB4.out HC4.out (fun w9 b9 => HTX.out w9 (Bw9.trans b9)) ow9 (by (try simp only [List.length_append, List.length_cons, List.length_nil]); omega)).mono ?_
              rintro e wz ⟨vz, rfl, owz, gz⟩
              have RZ : Row wz wo.heap.size 76 #[.int .i64 5, .string name, .slice A2 args.length p2, .slice A3 body.length p3, .slice A4 els.length p4] := gz.row R9 (g89.ne (g7.ne (Gq.ne hn5 R5.lt) Rq.lt) R7.lt)
              refine hK.out _ _ (RZ.cell 4) (fun hHeld => ?_)
              clear hK K
              try simp only [Act.put, List.setIfInBounds_toArray, List.set_cons_zero, List.set_cons_succ]
              refine reg_take (i := 7) (v := ?v8) rfl (by kernel_rfl) (by kernel_rfl) (by kernel_rfl) (fun _ _ _ h => h) (Or.inl ⟨by kernel_rfl, ?h8⟩) (by assumption) ?r8
              case h8 => (intro w hSw; (try dsimp only at hSw); go_simp; try with_reducible rfl)
              try simp only [Act.put, List.setIfInBounds_toArray, List.set_cons_zero, List.set_cons_succ]
              refine wpAnyH_done (by kernel_rfl) ?_ _
              go_wp2_with fail
              go_roundw
              case rel => exact ⟨k + 1, _, by omega, by go_num, HS, by simpa using owz, (G.trans ((OwnG.of_below hbk).trans (HG.out.trans Gq))).trans (g7.trans (g89.trans gz))⟩
              case measure => simp [intOf]; omega
      · obtain ⟨T, hT⟩ : ∃ T, agW args = T := ⟨_, rfl⟩
        have hW : stW (.mk 6 name args body els) = [⟨4, ⟨#[108, 111, 111, 112]⟩⟩] ++ (T ++ blW body) := by rw [stW_mk, hT, if_pos (by omega), if_pos (show els.length = 0 by omega), List.append_nil]; rfl
        rw [hW] at HS
        have hlw : (stW (.mk 6 name args body els)).length + acc.length + l0.length ≤ 90000 := by have h1 := stsW_take_len l (k + 1); rw [HS.out] at h1; rw [hW]; simp only [List.length_append] at h1 ⊢; omega
        rw [hW] at hlw
        simp only [List.length_append, List.length_cons, List.length_nil] at hlw
        have HT0 := Lib.hid hT
        clear hW hT
        have hbk : Below wo.heap.size wo (wo.alloc (.cells #[.int .i64 6, .string name, .slice A2 args.length p2, .slice A3 body.length p3, .slice A4 els.length p4] 76)) := (Below.refl _ _).alloc (Nat.le_refl _) _
        have RK : Row (wo.alloc (.cells #[.int .i64 6, .string name, .slice A2 args.length p2, .slice A3 body.length p3, .slice A4 els.length p4] 76)) wo.heap.size 76 #[.int .i64 6, .string name, .slice A2 args.length p2, .slice A3 body.length p3, .slice A4 els.length p4] := Row.new wo _ _
        have owk := OwnW.below own hbk (Nat.le_refl _)
        have hnk := own_ne' own (Nat.le_refl _)
        have hgk : ∀ x, Value.ownBlock (.slice Au nu_ cu) = some x → base ≤ x := fun x hx => own_ge own hx
        clear hc0
        go_wp2_with fail
        refine (impl_keyWord ⟨#[108, 111, 111, 112]⟩ _).mono ?_
        rintro e wa0 ⟨rfl, ba0⟩
        have owa0 := OwnW.below owk ba0 (Nat.le_refl _)
        have ga0 : OwnG (.slice Au nu_ cu) (.slice Au nu_ cu) (wo.alloc (.cells #[.int .i64 6, .string name, .slice A2 args.length p2, .slice A3 body.length p3, .slice A4 els.length p4] 76)) wa0 := OwnG.of_below ba0
        have hsa := Nat.le_trans hbk.size ga0.size
        go_wp2_with (at_builtin; refine app_words rfl _ _ rfl wa0 base _ (l0 ++ acc) [⟨4, ⟨#[108, 111, 111, 112]⟩⟩] _ rfl 1 rfl owa0 (by (try simp only [List.length_append, List.length_cons, List.length_nil]); omega) (Nat.le_trans hbs (Nat.le_trans hsz hsa)) rfl rfl ?_)
        intro v5 w5 ow5 g5
        have G5 := ga0.trans g5
        have R5 : Row w5 wo.heap.size 76 #[.int .i64 6, .string name, .slice A2 args.length p2, .slice A3 body.length p3, .slice A4 els.length p4] := G5.row RK hnk
        obtain ⟨A5, n5_, c5, hf5⟩ := OwnW.formN ow5
        subst hf5
        have hn5 := G5.ne (hnk) RK.lt
        have B5 : Below base wo w5 := ((OwnG.of_below hbk).trans G5).below (Nat.le_trans hbs hsz) hgk
        have q0 : w5.cell? ⟨wo.heap.size, 0, none⟩ = some (.int .i64 6) := R5.cell 0
        have q1 : w5.cell? ⟨wo.heap.size, 1, none⟩ = some (.string name) := R5.cell 1
        have q2 : w5.cell? ⟨wo.heap.size, 2, none⟩ = some (.slice A2 args.length p2) := R5.cell 2
        have q3 : w5.cell? ⟨wo.heap.size, 3, none⟩ = some (.slice A3 body.length p3) := R5.cell 3
        have q4 : w5.cell? ⟨wo.heap.size, 4, none⟩ = some (.slice A4 els.length p4) := R5.cell 4
        clear owa0 ba0  owk g5
        have hg5 : ∀ x, Value.ownBlock (.slice A5 n5_ c5) = some x → base ≤ x := fun x hx => own_ge ow5 hx
        have HG := Lib.hid G5
        have HOW := Lib.hid ow5
        clear G5 ga0
        go_wp2_with fail
        go_loopw [0, 75] (fun vv i wr => ∃ (j : Nat) (ac : List WordD), j ≤ args.length ∧ i = .int .i64 j ∧ Hid (((args.drop j).foldl (cmW (wdE 6 false)) (j, ac)).2 = T) ∧ OwnW wr base vv (((l0 ++ acc) ++ [⟨4, ⟨#[108, 111, 111, 112]⟩⟩]) ++ ac) ∧ OwnG (.slice A5 n5_ c5) vv w5 wr) (fun _ i _ => args.length - (intOf i).toNat)
        case atStart => exact ⟨0, [], by omega, rfl, HT0.out, by simpa using HOW.out, OwnG.refl _ _⟩
        case round =>
          obtain ⟨j, ac, hj, rfl, HT, owq, Gq⟩ := hrel
          clear q0 q1 q2 q3 q4
          have Rq : Row wr wo.heap.size 76 #[.int .i64 6, .string name, .slice A2 args.length p2, .slice A3 body.length p3, .slice A4 els.length p4] := Gq.row R5 hn5
          have Bq : Below base wo wr := B5.trans (Gq.below (Nat.le_trans hbs (Nat.le_trans hsz B5.size)) hg5)
          have Bwq := Bw.trans Bq
          have hszq := Bwq.size
          have q0 : wr.cell? ⟨wo.heap.size, 0, none⟩ = some (.int .i64 6) := Rq.cell 0
          have q1 : wr.cell? ⟨wo.heap.size, 1, none⟩ = some (.string name) := Rq.cell 1
          have q2 : wr.cell? ⟨wo.heap.size, 2, none⟩ = some (.slice A2 args.length p2) := Rq.cell 2
          have q3 : wr.cell? ⟨wo.heap.size, 3, none⟩ = some (.slice A3 body.length p3) := Rq.cell 3
          have q4 : wr.cell? ⟨wo.heap.size, 4, none⟩ = some (.slice A4 els.length p4) := Rq.cell 4
          have hacc : ac.length ≤ T.length := by have h1 := cmW_grow (f := wdE 6 false) (args.drop j) (j, ac); rw [HT.out] at h1; exact h1
          obtain ⟨Aq, nq_, cq, hq⟩ := OwnW.formN owq
          subst hq
          by_cases hjl : j < args.length
          · obtain ⟨d'', rfl⟩ : ∃ d'', d' = d'' + 1 := exS_pos g2 (by omega)
            obtain ⟨bx, ox, xop, xn, xname, xkids, xv, hAx, _, hbBx, HLx, g0x, g1x, g2x, g3x, c0x, c1x, c2x, c3x⟩ := ex_get d'' (g2.below Bq hBb) hjl
            subst hAx
            obtain ⟨Ax, px, hfx, _, _⟩ := g3x.form
            change _ = Value.slice Ax xkids.length px at hfx
            subst hfx
            have hjn : (j : Int) < (args.length : Int) := by omega
            have hji : (0 : Int) ≤ (j : Int) := by omega
            have hvx := val_form6 (List.all_eq_true.1 HV.out _ (HLx.out ▸ List.getElem_mem hjl : Ex.mk xop xn xname xkids ∈ args))
            have HVX := Lib.hid hvx
            clear hvx
            obtain ⟨ws, hws⟩ : ∃ ws, wdE 6 false (.mk xop xn xname xkids) = ws := ⟨_, rfl⟩
            have HW := Lib.hid hws
            have HN : Hid (((args.drop (j + 1)).foldl (cmW (wdE 6 false)) (j + 1, (if 0 < j then ac ++ [⟨3, ⟨#[44]⟩⟩] else ac) ++ ws)).2 = T) := by
              have h1 := HT.out
              rw [drop_cons hjl HLx.out, List.foldl_cons] at h1
              rw [← hws]
              exact h1
            have hgr := cmW_grow (f := wdE 6 false) (args.drop (j + 1)) (j + 1, (if 0 < j then ac ++ [⟨3, ⟨#[44]⟩⟩] else ac) ++ ws)
            rw [HN.out] at hgr
            clear HT hws
            have hbx : Below wr.heap.size wr (wr.alloc (.cells #[.int .i64 xop, .int .i64 xn, .string xname, .slice Ax xkids.length px] 90)) := (Below.refl _ _).alloc (Nat.le_refl _) _
            have RX : Row (wr.alloc (.cells #[.int .i64 xop, .int .i64 xn, .string xname, .slice Ax xkids.length px] 90)) wr.heap.size 90 #[.int .i64 xop, .int .i64 xn, .string xname, .slice Ax xkids.length px] := Row.new wr _ _
            have owx := OwnW.below owq hbx (Nat.le_refl _)
            have hnx := own_ne' owq (Nat.le_refl _)
            have Gx := Gq.trans (OwnG.of_below hbx)
            by_cases hj0 : 0 < j
            · have hj0' : (0 : Int) < (j : Int) := by omega
              rw [if_pos hj0] at HN hgr
              simp only [List.length_append, List.length_cons, List.length_nil] at hgr
              go_wp2_with fail
              refine (impl_signWord ⟨#[44]⟩ _).mono ?_
              rintro e w7 ⟨rfl, b7⟩
              have ow7 := OwnW.below owx b7 (Nat.le_refl _)
              have hs7 := Nat.le_trans hszq (Nat.le_trans hbx.size b7.size)
              go_wp2_with (at_builtin; refine app_words rfl _ _ rfl w7 base _ (((l0 ++ acc) ++ [⟨4, ⟨#[108, 111, 111, 112]⟩⟩]) ++ ac) [⟨3, ⟨#[44]⟩⟩] _ rfl 1 rfl ow7 (by (try simp only [List.length_append, List.length_cons, List.length_nil]); omega) (Nat.le_trans hbs hs7) rfl rfl ?_)
              intro v8 w8 ow8 g8
              have g78 := (OwnG.of_below (v := .slice Aq nq_ cq) b7).trans g8
              have G8 := Gx.trans g78
              have R8 : Row w8 wr.heap.size 90 #[.int .i64 xop, .int .i64 xn, .string xname, .slice Ax xkids.length px] := g78.row RX hnx
              obtain ⟨A8, n8_, c8, hf8⟩ := OwnW.formN ow8
              subst hf8
              have r0 : w8.cell? ⟨wr.heap.size, 0, none⟩ = some (.int .i64 xop) := R8.cell 0
              have r1 : w8.cell? ⟨wr.heap.size, 1, none⟩ = some (.int .i64 xn) := R8.cell 1
              have r2 : w8.cell? ⟨wr.heap.size, 2, none⟩ = some (.string xname) := R8.cell 2
              have r3 : w8.cell? ⟨wr.heap.size, 3, none⟩ = some (.slice Ax xkids.length px) := R8.cell 3
              have B8 : Below base wr w8 := ((OwnG.of_below hbx).trans g78).below (Nat.le_trans hbs hszq) (fun k hk => own_ge owq hk)
              have Bw8 := Bwq.trans B8
              go_wp2_with fail
              refine (impl_exprWords 6 false d'' xop xn xname xkids (.slice Ax xkids.length px) _ lo B base _ _ hBb (Nat.le_trans hbs Bw8.size) g0x g1x g2x (g3x.below B8 hBb) HVX.out.1 HVX.out.2 (fun w9 b9 => HTX.out w9 (Bw8.trans b9)) ow8 (by rw [HW.out]; (try simp only [List.length_append, List.length_cons, List.length_nil]); omega)).mono ?_
              rw [HW.out]
              rintro e wz ⟨vz, rfl, owz, gz⟩
              go_wp2_with fail
              go_roundw
              case rel => exact ⟨j + 1, _, by omega, by go_num, HN, by simpa using owz, G8.trans gz⟩
              case measure => simp [intOf]; omega
            · have hj0' : decide ((0 : Int) < (j : Int)) = false := decide_eq_false (by omega)
              rw [if_neg hj0] at HN hgr
              simp only [List.length_append, List.length_cons, List.length_nil] at hgr
              have r0 : (wr.alloc (.cells #[.int .i64 xop, .int .i64 xn, .string xname, .slice Ax xkids.length px] 90)).cell? ⟨wr.heap.size, 0, none⟩ = some (.int .i64 xop) := RX.cell 0
              have r1 : (wr.alloc (.cells #[.int .i64 xop, .int .i64 xn, .string xname, .slice Ax xkids.length px] 90)).cell? ⟨wr.heap.size, 1, none⟩ = some (.int .i64 xn) := RX.cell 1
              have r2 : (wr.alloc (.cells #[.int .i64 xop, .int .i64 xn, .string xname, .slice Ax xkids.length px] 90)).cell? ⟨wr.heap.size, 2, none⟩ = some (.string xname) := RX.cell 2
              have r3 : (wr.alloc (.cells #[.int .i64 xop, .int .i64 xn, .string xname, .slice Ax xkids.length px] 90)).cell? ⟨wr.heap.size, 3, none⟩ = some (.slice Ax xkids.length px) := RX.cell 3
              have B8 : Below base wr (wr.alloc (.cells #[.int .i64 xop, .int .i64 xn, .string xname, .slice Ax xkids.length px] 90)) := (OwnG.of_below hbx).below (Nat.le_trans hbs hszq) (fun k hk => own_ge owq hk)
              have Bw8 := Bwq.trans B8
              go_wp2_with fail
              refine (impl_exprWords 6 false d'' xop xn xname xkids (.slice Ax xkids.length px) _ lo B base _ _ hBb (Nat.le_trans hbs Bw8.size) g0x g1x g2x (g3x.below B8 hBb) HVX.out.1 HVX.out.2 (fun w9 b9 => HTX.out w9 (Bw8.trans b9)) owx (by rw [HW.out]; (try simp only [List.length_append, List.length_cons, List.length_nil]); omega)).mono ?_
              rw [HW.out]
              rintro e wz ⟨vz, rfl, owz, gz⟩
              go_wp2_with fail
              go_roundw
              case rel => exact ⟨j + 1, _, by omega, by go_num, HN, by simpa using owz, Gx.trans gz⟩
              case measure => simp [intOf]; omega
          · have hT3 : ac = T := by have h1 := HT.out; rw [List.drop_eq_nil_of_le (by omega), List.foldl_nil] at h1; exact h1
            subst hT3
            clear HT
            go_wp2_with fail
            refine (ih m' rfl d' body (.slice A3 body.length p3) _ lo B base _ _ hBb (Nat.le_trans hbs hszq) (g3.below Bq hBb) HB3.out HC3.out (fun w9 b9 => HTX.out w9 (Bwq.trans b9)) owq (by (try simp only [List.length_append, List.length_cons, List.length_nil]); omega)).mono ?_
            rintro e w7 ⟨v7, rfl, ow7, g7⟩
            have R7 : Row w7 wo.heap.size 76 #[.int .i64 6, .string name, .slice A2 args.length p2, .slice A3 body.length p3, .slice A4 els.length p4] := g7.row Rq (Gq.ne hn5 R5.lt)
            clear q0 q1 q2 q3 q4
            have q0 : w7.cell? ⟨wo.heap.size, 0, none⟩ = some (.int .i64 6) := R7.cell 0
            have q1 : w7.cell? ⟨wo.heap.size, 1, none⟩ = some (.string name) := R7.cell 1
            have q2 : w7.cell? ⟨wo.heap.size, 2, none⟩ = some (.slice A2 args.length p2) := R7.cell 2
            have q3 : w7.cell? ⟨wo.heap.size, 3, none⟩ = some (.slice A3 body.length p3) := R7.cell 3
            have q4 : w7.cell? ⟨wo.heap.size, 4, none⟩ = some (.slice A4 els.length p4) := R7.cell 4
            have he1 : ¬ 0 < els.length := by omega
            have qe : decide ((0 : Int) < (els.length : Int)) = false := decide_eq_false (by omega)
            go_wp2_with fail
            go_roundw
            case rel => exact ⟨k + 1, _, by omega, by go_num, HS, by simpa using ow7, (G.trans ((OwnG.of_below hbk).trans (HG.out.trans Gq))).trans g7⟩
            case measure => simp [intOf]; omega
      · obtain ⟨T, hT⟩ : ∃ T, agW args = T := ⟨_, rfl⟩
        have hW : stW (.mk 7 name args body els) = [⟨4, ⟨#[98, 97, 99, 107]⟩⟩] ++ (T ++ [⟨3, ⟨#[59]⟩⟩]) := by rw [stW_mk, hT, if_neg (by omega)]; rfl
        rw [hW] at HS
        have hlw : (stW (.mk 7 name args body els)).length + acc.length + l0.length ≤ 90000 := by have h1 := stsW_take_len l (k + 1); rw [HS.out] at h1; rw [hW]; simp only [List.length_append] at h1 ⊢; omega
        rw [hW] at hlw
        simp only [List.length_append, List.length_cons, List.length_nil] at hlw
        have HT0 := Lib.hid hT
        clear hW hT
        have hbk : Below wo.heap.size wo (wo.alloc (.cells #[.int .i64 7, .string name, .slice A2 args.length p2, .slice A3 body.length p3, .slice A4 els.length p4] 76)) := (Below.refl _ _).alloc (Nat.le_refl _) _
        have RK : Row (wo.alloc (.cells #[.int .i64 7, .string name, .slice A2 args.length p2, .slice A3 body.length p3, .slice A4 els.length p4] 76)) wo.heap.size 76 #[.int .i64 7, .string name, .slice A2 args.length p2, .slice A3 body.length p3, .slice A4 els.length p4] := Row.new wo _ _
        have owk := OwnW.below own hbk (Nat.le_refl _)
        have hnk := own_ne' own (Nat.le_refl _)
        have hgk : ∀ x, Value.ownBlock (.slice Au nu_ cu) = some x → base ≤ x := fun x hx => own_ge own hx
        clear hc0
        go_wp2_with fail
        refine (impl_keyWord ⟨#[98, 97, 99, 107]⟩ _).mono ?_
        rintro e wa0 ⟨rfl, ba0⟩
        have owa0 := OwnW.below owk ba0 (Nat.le_refl _)
        have ga0 : OwnG (.slice Au nu_ cu) (.slice Au nu_ cu) (wo.alloc (.cells #[.int .i64 7, .string name, .slice A2 args.length p2, .slice A3 body.length p3, .slice A4 els.length p4] 76)) wa0 := OwnG.of_below ba0
        have hsa := Nat.le_trans hbk.size ga0.size
        go_wp2_with (at_builtin; refine app_words rfl _ _ rfl wa0 base _ (l0 ++ acc) [⟨4, ⟨#[98, 97, 99, 107]⟩⟩] _ rfl 1 rfl owa0 (by (try simp only [List.length_append, List.length_cons, List.length_nil]); omega) (Nat.le_trans hbs (Nat.le_trans hsz hsa)) rfl rfl ?_)
        intro v5 w5 ow5 g5
        have G5 := ga0.trans g5
        have R5 : Row w5 wo.heap.size 76 #[.int .i64 7, .string name, .slice A2 args.length p2, .slice A3 body.length p3, .slice A4 els.length p4] := G5.row RK hnk
        obtain ⟨A5, n5_, c5, hf5⟩ := OwnW.formN ow5
        subst hf5
        have hn5 := G5.ne (hnk) RK.lt
        have B5 : Below base wo w5 := ((OwnG.of_below hbk).trans G5).below (Nat.le_trans hbs hsz) hgk
        have q0 : w5.cell? ⟨wo.heap.size, 0, none⟩ = some (.int .i64 7) := R5.cell 0
        have q1 : w5.cell? ⟨wo.heap.size, 1, none⟩ = some (.string name) := R5.cell 1
        have q2 : w5.cell? ⟨wo.heap.size, 2, none⟩ = some (.slice A2 args.length p2) := R5.cell 2
        have q3 : w5.cell? ⟨wo.heap.size, 3, none⟩ = some (.slice A3 body.length p3) := R5.cell 3
        have q4 : w5.cell? ⟨wo.heap.size, 4, none⟩ = some (.slice A4 els.length p4) := R5.cell 4
        clear owa0 ba0  owk g5
        have hg5 : ∀ x, Value.ownBlock (.slice A5 n5_ c5) = some x → base ≤ x := fun x hx => own_ge ow5 hx
        have HG := Lib.hid G5
        have HOW := Lib.hid ow5
        clear G5 ga0
        go_wp2_with fail
        go_loopw [0, 75] (fun vv i wr => ∃ (j : Nat) (ac : List WordD), j ≤ args.length ∧ i = .int .i64 j ∧ Hid (((args.drop j).foldl (cmW (wdE 6 false)) (j, ac)).2 = T) ∧ OwnW wr base vv (((l0 ++ acc) ++ [⟨4, ⟨#[98, 97, 99, 107]⟩⟩]) ++ ac) ∧ OwnG (.slice A5 n5_ c5) vv w5 wr) (fun _ i _ => args.length - (intOf i).toNat)
        case atStart => exact ⟨0, [], by omega, rfl, HT0.out, by simpa using HOW.out, OwnG.refl _ _⟩
        case round =>
          obtain ⟨j, ac, hj, rfl, HT, owq, Gq⟩ := hrel
          clear q0 q1 q2 q3 q4
          have Rq : Row wr wo.heap.size 76 #[.int .i64 7, .string name, .slice A2 args.length p2, .slice A3 body.length p3, .slice A4 els.length p4] := Gq.row R5 hn5
          have Bq : Below base wo wr := B5.trans (Gq.below (Nat.le_trans hbs (Nat.le_trans hsz B5.size)) hg5)
          have Bwq := Bw.trans Bq
          have hszq := Bwq.size
          have q0 : wr.cell? ⟨wo.heap.size, 0, none⟩ = some (.int .i64 7) := Rq.cell 0
          have q1 : wr.cell? ⟨wo.heap.size, 1, none⟩ = some (.string name) := Rq.cell 1
          have q2 : wr.cell? ⟨wo.heap.size, 2, none⟩ = some (.slice A2 args.length p2) := Rq.cell 2
          have q3 : wr.cell? ⟨wo.heap.size, 3, none⟩ = some (.slice A3 body.length p3) := Rq.cell 3
          have q4 : wr.cell? ⟨wo.heap.size, 4, none⟩ = some (.slice A4 els.length p4) := Rq.cell 4
          have hacc : ac.length ≤ T.length := by have h1 := cmW_grow (f := wdE 6 false) (args.drop j) (j, ac); rw [HT.out] at h1; exact h1
          obtain ⟨Aq, nq_, cq, hq⟩ := OwnW.formN owq
          subst hq
          by_cases hjl : j < args.length
          · obtain ⟨d'', rfl⟩ : ∃ d'', d' = d'' + 1 := exS_pos g2 (by omega)
            obtain ⟨bx, ox, xop, xn, xname, xkids, xv, hAx, _, hbBx, HLx, g0x, g1x, g2x, g3x, c0x, c1x, c2x, c3x⟩ := ex_get d'' (g2.below Bq hBb) hjl
            subst hAx
            obtain ⟨Ax, px, hfx, _, _⟩ := g3x.form
            change _ = Value.slice Ax xkids.length px at hfx
            subst hfx
            have hjn : (j : Int) < (args.length : Int) := by omega
            have hji : (0 : Int) ≤ (j : Int) := by omega
            have hvx := val_form6 (List.all_eq_true.1 HV.out _ (HLx.out ▸ List.getElem_mem hjl : Ex.mk xop xn xname xkids ∈ args))
            have HVX := Lib.hid hvx
            clear hvx
            obtain ⟨ws, hws⟩ : ∃ ws, wdE 6 false (.mk xop xn xname xkids) = ws := ⟨_, rfl⟩
            have HW := Lib.hid hws
            have HN : Hid (((args.drop (j + 1)).foldl (cmW (wdE 6 false)) (j + 1, (if 0 < j then ac ++ [⟨3, ⟨#[44]⟩⟩] else ac) ++ ws)).2 = T) := by
              have h1 := HT.out
              rw [drop_cons hjl HLx.out, List.foldl_cons] at h1
              rw [← hws]
              exact h1
            have hgr := cmW_grow (f := wdE 6 false) (args.drop (j + 1)) (j + 1, (if 0 < j then ac ++ [⟨3, ⟨#[44]⟩⟩] else ac) ++ ws)
            rw [HN.out] at hgr
            clear HT hws
            have hbx : Below wr.heap.size wr (wr.alloc (.cells #[.int .i64 xop, .int .i64 xn, .string xname, .slice Ax xkids.length px] 90)) := (Below.refl _ _).alloc (Nat.le_refl _) _
            have RX : Row (wr.alloc (.cells #[.int .i64 xop, .int .i64 xn, .string xname, .slice Ax xkids.length px] 90)) wr.heap.size 90 #[.int .i64 xop, .int .i64 xn, .string xname, .slice Ax xkids.length px] := Row.new wr _ _
            have owx := OwnW.below owq hbx (Nat.le_refl _)
            have hnx := own_ne' owq (Nat.le_refl _)
            have Gx := Gq.trans (OwnG.of_below hbx)
            by_cases hj0 : 0 < j
            · have hj0' : (0 : Int) < (j : Int) := by omega
              rw [if_pos hj0] at HN hgr
              simp only [List.length_append, List.length_cons, List.length_nil] at hgr
              go_wp2_with fail
              refine (impl_signWord ⟨#[44]⟩ _).mono ?_
              rintro e w7 ⟨rfl, b7⟩
              have ow7 := OwnW.below owx b7 (Nat.le_refl _)
              have hs7 := Nat.le_trans hszq (Nat.le_trans hbx.size b7.size)
              go_wp2_with (at_builtin; refine app_words rfl _ _ rfl w7 base _ (((l0 ++ acc) ++ [⟨4, ⟨#[98, 97, 99, 107]⟩⟩]) ++ ac) [⟨3, ⟨#[44]⟩⟩] _ rfl 1 rfl ow7 (by (try simp only [List.length_append, List.length_cons, List.length_nil]); omega) (Nat.le_trans hbs hs7) rfl rfl ?_)
              intro v8 w8 ow8 g8
              have g78 := (OwnG.of_below (v := .slice Aq nq_ cq) b7).trans g8
              have G8 := Gx.trans g78
              have R8 : Row w8 wr.heap.size 90 #[.int .i64 xop, .int .i64 xn, .string xname, .slice Ax xkids.length px] := g78.row RX hnx
              obtain ⟨A8, n8_, c8, hf8⟩ := OwnW.formN ow8
              subst hf8
              have r0 : w8.cell? ⟨wr.heap.size, 0, none⟩ = some (.int .i64 xop) := R8.cell 0
              have r1 : w8.cell? ⟨wr.heap.size, 1, none⟩ = some (.int .i64 xn) := R8.cell 1
              have r2 : w8.cell? ⟨wr.heap.size, 2, none⟩ = some (.string xname) := R8.cell 2
              have r3 : w8.cell? ⟨wr.heap.size, 3, none⟩ = some (.slice Ax xkids.length px) := R8.cell 3
              have B8 : Below base wr w8 := ((OwnG.of_below hbx).trans g78).below (Nat.le_trans hbs hszq) (fun k hk => own_ge owq hk)
              have Bw8 := Bwq.trans B8
              go_wp2_with fail
              refine (impl_exprWords 6 false d'' xop xn xname xkids (.slice Ax xkids.length px) _ lo B base _ _ hBb (Nat.le_trans hbs Bw8.size) g0x g1x g2x (g3x.below B8 hBb) HVX.out.1 HVX.out.2 (fun w9 b9 => HTX.out w9 (Bw8.trans b9)) ow8 (by rw [HW.out]; (try simp only [List.length_append, List.length_cons, List.length_nil]); omega)).mono ?_
              rw [HW.out]
              rintro e wz ⟨vz, rfl, owz, gz⟩
              go_wp2_with fail
              go_roundw
              case rel => exact ⟨j + 1, _, by omega, by go_num, HN, by simpa using owz, G8.trans gz⟩
              case measure => simp [intOf]; omega
            · have hj0' : decide ((0 : Int) < (j : Int)) = false := decide_eq_false (by omega)
              rw [if_neg hj0] at HN hgr
              simp only [List.length_append, List.length_cons, List.length_nil] at hgr
              have r0 : (wr.alloc (.cells #[.int .i64 xop, .int .i64 xn, .string xname, .slice Ax xkids.length px] 90)).cell? ⟨wr.heap.size, 0, none⟩ = some (.int .i64 xop) := RX.cell 0
              have r1 : (wr.alloc (.cells #[.int .i64 xop, .int .i64 xn, .string xname, .slice Ax xkids.length px] 90)).cell? ⟨wr.heap.size, 1, none⟩ = some (.int .i64 xn) := RX.cell 1
              have r2 : (wr.alloc (.cells #[.int .i64 xop, .int .i64 xn, .string xname, .slice Ax xkids.length px] 90)).cell? ⟨wr.heap.size, 2, none⟩ = some (.string xname) := RX.cell 2
              have r3 : (wr.alloc (.cells #[.int .i64 xop, .int .i64 xn, .string xname, .slice Ax xkids.length px] 90)).cell? ⟨wr.heap.size, 3, none⟩ = some (.slice Ax xkids.length px) := RX.cell 3
              have B8 : Below base wr (wr.alloc (.cells #[.int .i64 xop, .int .i64 xn, .string xname, .slice Ax xkids.length px] 90)) := (OwnG.of_below hbx).below (Nat.le_trans hbs hszq) (fun k hk => own_ge owq hk)
              have Bw8 := Bwq.trans B8
              go_wp2_with fail
              refine (impl_exprWords 6 false d'' xop xn xname xkids (.slice Ax xkids.length px) _ lo B base _ _ hBb (Nat.le_trans hbs Bw8.size) g0x g1x g2x (g3x.below B8 hBb) HVX.out.1 HVX.out.2 (fun w9 b9 => HTX.out w9 (Bw8.trans b9)) owx (by rw [HW.out]; (try simp only [List.length_append, List.length_cons, List.length_nil]); omega)).mono ?_
              rw [HW.out]
              rintro e wz ⟨vz, rfl, owz, gz⟩
              go_wp2_with fail
              go_roundw
              case rel => exact ⟨j + 1, _, by omega, by go_num, HN, by simpa using owz, Gx.trans gz⟩
              case measure => simp [intOf]; omega
          · have hT3 : ac = T := by have h1 := HT.out; rw [List.drop_eq_nil_of_le (by omega), List.foldl_nil] at h1; exact h1
            subst hT3
            clear HT
            go_wp2_with fail
            refine (impl_signWord ⟨#[59]⟩ _).mono ?_
            rintro e w7 ⟨rfl, b7⟩
            have ow7 := OwnW.below owq b7 (Nat.le_refl _)
            have hs7 := Nat.le_trans hszq b7.size
            go_wp2_with (at_builtin; refine app_words rfl _ _ rfl w7 base _ (((l0 ++ acc) ++ [⟨4, ⟨#[98, 97, 99, 107]⟩⟩]) ++ ac) [⟨3, ⟨#[59]⟩⟩] _ rfl 1 rfl ow7 (by (try simp only [List.length_append, List.length_cons, List.length_nil]); omega) (Nat.le_trans hbs hs7) rfl rfl ?_)
            intro v8 w8 ow8 g8
            go_wp2_with fail
            go_roundw
            case rel => exact ⟨k + 1, _, by omega, by go_num, HS, by simpa using ow8, (G.trans ((OwnG.of_below hbk).trans (HG.out.trans Gq))).trans ((OwnG.of_below b7).trans g8)⟩
            case measure => simp [intOf]; omega
      · obtain ⟨T, hT⟩ : ∃ T, agW args = T := ⟨_, rfl⟩
        have hW : stW (.mk 8 name args body els) = [⟨4, ⟨#[100, 111]⟩⟩] ++ (T ++ [⟨3, ⟨#[59]⟩⟩]) := by rw [stW_mk, hT, if_neg (by omega)]; rfl
        rw [hW] at HS
        have hlw : (stW (.mk 8 name args body els)).length + acc.length + l0.length ≤ 90000 := by have h1 := stsW_take_len l (k + 1); rw [HS.out] at h1; rw [hW]; simp only [List.length_append] at h1 ⊢; omega
        rw [hW] at hlw
        simp only [List.length_append, List.length_cons, List.length_nil] at hlw
        have HT0 := Lib.hid hT
        clear hW hT
        have hbk : Below wo.heap.size wo (wo.alloc (.cells #[.int .i64 8, .string name, .slice A2 args.length p2, .slice A3 body.length p3, .slice A4 els.length p4] 76)) := (Below.refl _ _).alloc (Nat.le_refl _) _
        have RK : Row (wo.alloc (.cells #[.int .i64 8, .string name, .slice A2 args.length p2, .slice A3 body.length p3, .slice A4 els.length p4] 76)) wo.heap.size 76 #[.int .i64 8, .string name, .slice A2 args.length p2, .slice A3 body.length p3, .slice A4 els.length p4] := Row.new wo _ _
        have owk := OwnW.below own hbk (Nat.le_refl _)
        have hnk := own_ne' own (Nat.le_refl _)
        have hgk : ∀ x, Value.ownBlock (.slice Au nu_ cu) = some x → base ≤ x := fun x hx => own_ge own hx
        clear hc0
        go_wp2_with fail
        refine (impl_keyWord ⟨#[100, 111]⟩ _).mono ?_
        rintro e wa0 ⟨rfl, ba0⟩
        have owa0 := OwnW.below owk ba0 (Nat.le_refl _)
        have ga0 : OwnG (.slice Au nu_ cu) (.slice Au nu_ cu) (wo.alloc (.cells #[.int .i64 8, .string name, .slice A2 args.length p2, .slice A3 body.length p3, .slice A4 els.length p4] 76)) wa0 := OwnG.of_below ba0
        have hsa := Nat.le_trans hbk.size ga0.size
        go_wp2_with (at_builtin; refine app_words rfl _ _ rfl wa0 base _ (l0 ++ acc) [⟨4, ⟨#[100, 111]⟩⟩] _ rfl 1 rfl owa0 (by (try simp only [List.length_append, List.length_cons, List.length_nil]); omega) (Nat.le_trans hbs (Nat.le_trans hsz hsa)) rfl rfl ?_)
        intro v5 w5 ow5 g5
        have G5 := ga0.trans g5
        have R5 : Row w5 wo.heap.size 76 #[.int .i64 8, .string name, .slice A2 args.length p2, .slice A3 body.length p3, .slice A4 els.length p4] := G5.row RK hnk
        obtain ⟨A5, n5_, c5, hf5⟩ := OwnW.formN ow5
        subst hf5
        have hn5 := G5.ne (hnk) RK.lt
        have B5 : Below base wo w5 := ((OwnG.of_below hbk).trans G5).below (Nat.le_trans hbs hsz) hgk
        have q0 : w5.cell? ⟨wo.heap.size, 0, none⟩ = some (.int .i64 8) := R5.cell 0
        have q1 : w5.cell? ⟨wo.heap.size, 1, none⟩ = some (.string name) := R5.cell 1
        have q2 : w5.cell? ⟨wo.heap.size, 2, none⟩ = some (.slice A2 args.length p2) := R5.cell 2
        have q3 : w5.cell? ⟨wo.heap.size, 3, none⟩ = some (.slice A3 body.length p3) := R5.cell 3
        have q4 : w5.cell? ⟨wo.heap.size, 4, none⟩ = some (.slice A4 els.length p4) := R5.cell 4
        clear owa0 ba0  owk g5
        have hg5 : ∀ x, Value.ownBlock (.slice A5 n5_ c5) = some x → base ≤ x := fun x hx => own_ge ow5 hx
        have HG := Lib.hid G5
        have HOW := Lib.hid ow5
        clear G5 ga0
        go_wp2_with fail
        go_loopw [0, 75] (fun vv i wr => ∃ (j : Nat) (ac : List WordD), j ≤ args.length ∧ i = .int .i64 j ∧ Hid (((args.drop j).foldl (cmW (wdE 6 false)) (j, ac)).2 = T) ∧ OwnW wr base vv (((l0 ++ acc) ++ [⟨4, ⟨#[100, 111]⟩⟩]) ++ ac) ∧ OwnG (.slice A5 n5_ c5) vv w5 wr) (fun _ i _ => args.length - (intOf i).toNat)
        case atStart => exact ⟨0, [], by omega, rfl, HT0.out, by simpa using HOW.out, OwnG.refl _ _⟩
        case round =>
          obtain ⟨j, ac, hj, rfl, HT, owq, Gq⟩ := hrel
          clear q0 q1 q2 q3 q4
          have Rq : Row wr wo.heap.size 76 #[.int .i64 8, .string name, .slice A2 args.length p2, .slice A3 body.length p3, .slice A4 els.length p4] := Gq.row R5 hn5
          have Bq : Below base wo wr := B5.trans (Gq.below (Nat.le_trans hbs (Nat.le_trans hsz B5.size)) hg5)
          have Bwq := Bw.trans Bq
          have hszq := Bwq.size
          have q0 : wr.cell? ⟨wo.heap.size, 0, none⟩ = some (.int .i64 8) := Rq.cell 0
          have q1 : wr.cell? ⟨wo.heap.size, 1, none⟩ = some (.string name) := Rq.cell 1
          have q2 : wr.cell? ⟨wo.heap.size, 2, none⟩ = some (.slice A2 args.length p2) := Rq.cell 2
          have q3 : wr.cell? ⟨wo.heap.size, 3, none⟩ = some (.slice A3 body.length p3) := Rq.cell 3
          have q4 : wr.cell? ⟨wo.heap.size, 4, none⟩ = some (.slice A4 els.length p4) := Rq.cell 4
          have hacc : ac.length ≤ T.length := by have h1 := cmW_grow (f := wdE 6 false) (args.drop j) (j, ac); rw [HT.out] at h1; exact h1
          obtain ⟨Aq, nq_, cq, hq⟩ := OwnW.formN owq
          subst hq
          by_cases hjl : j < args.length
          · obtain ⟨d'', rfl⟩ : ∃ d'', d' = d'' + 1 := exS_pos g2 (by omega)
            obtain ⟨bx, ox, xop, xn, xname, xkids, xv, hAx, _, hbBx, HLx, g0x, g1x, g2x, g3x, c0x, c1x, c2x, c3x⟩ := ex_get d'' (g2.below Bq hBb) hjl
            subst hAx
            obtain ⟨Ax, px, hfx, _, _⟩ := g3x.form
            change _ = Value.slice Ax xkids.length px at hfx
            subst hfx
            have hjn : (j : Int) < (args.length : Int) := by omega
            have hji : (0 : Int) ≤ (j : Int) := by omega
            have hvx := val_form6 (List.all_eq_true.1 HV.out _ (HLx.out ▸ List.getElem_mem hjl : Ex.mk xop xn xname xkids ∈ args))
            have HVX := Lib.hid hvx
            clear hvx
            obtain ⟨ws, hws⟩ : ∃ ws, wdE 6 false (.mk xop xn xname xkids) = ws := ⟨_, rfl⟩
            have HW := Lib.hid hws
            have HN : Hid (((args.drop (j + 1)).foldl (cmW (wdE 6 false)) (j + 1, (if 0 < j then ac ++ [⟨3, ⟨#[44]⟩⟩] else ac) ++ ws)).2 = T) := by
              have h1 := HT.out
              rw [drop_cons hjl HLx.out, List.foldl_cons] at h1
              rw [← hws]
              exact h1
            have hgr := cmW_grow (f := wdE 6 false) (args.drop (j + 1)) (j + 1, (if 0 < j then ac ++ [⟨3, ⟨#[44]⟩⟩] else ac) ++ ws)
            rw [HN.out] at hgr
            clear HT hws
            have hbx : Below wr.heap.size wr (wr.alloc (.cells #[.int .i64 xop, .int .i64 xn, .string xname, .slice Ax xkids.length px] 90)) := (Below.refl _ _).alloc (Nat.le_refl _) _
            have RX : Row (wr.alloc (.cells #[.int .i64 xop, .int .i64 xn, .string xname, .slice Ax xkids.length px] 90)) wr.heap.size 90 #[.int .i64 xop, .int .i64 xn, .string xname, .slice Ax xkids.length px] := Row.new wr _ _
            have owx := OwnW.below owq hbx (Nat.le_refl _)
            have hnx := own_ne' owq (Nat.le_refl _)
            have Gx := Gq.trans (OwnG.of_below hbx)
            by_cases hj0 : 0 < j
            · have hj0' : (0 : Int) < (j : Int) := by omega
              rw [if_pos hj0] at HN hgr
              simp only [List.length_append, List.length_cons, List.length_nil] at hgr
              go_wp2_with fail
              refine (impl_signWord ⟨#[44]⟩ _).mono ?_
              rintro e w7 ⟨rfl, b7⟩
              have ow7 := OwnW.below owx b7 (Nat.le_refl _)
              have hs7 := Nat.le_trans hszq (Nat.le_trans hbx.size b7.size)
              go_wp2_with (at_builtin; refine app_words rfl _ _ rfl w7 base _ (((l0 ++ acc) ++ [⟨4, ⟨#[100, 111]⟩⟩]) ++ ac) [⟨3, ⟨#[44]⟩⟩] _ rfl 1 rfl ow7 (by (try simp only [List.length_append, List.length_cons, List.length_nil]); omega) (Nat.le_trans hbs hs7) rfl rfl ?_)
              intro v8 w8 ow8 g8
              have g78 := (OwnG.of_below (v := .slice Aq nq_ cq) b7).trans g8
              have G8 := Gx.trans g78
              have R8 : Row w8 wr.heap.size 90 #[.int .i64 xop, .int .i64 xn, .string xname, .slice Ax xkids.length px] := g78.row RX hnx
              obtain ⟨A8, n8_, c8, hf8⟩ := OwnW.formN ow8
              subst hf8
              have r0 : w8.cell? ⟨wr.heap.size, 0, none⟩ = some (.int .i64 xop) := R8.cell 0
              have r1 : w8.cell? ⟨wr.heap.size, 1, none⟩ = some (.int .i64 xn) := R8.cell 1
              have r2 : w8.cell? ⟨wr.heap.size, 2, none⟩ = some (.string xname) := R8.cell 2
              have r3 : w8.cell? ⟨wr.heap.size, 3, none⟩ = some (.slice Ax xkids.length px) := R8.cell 3
              have B8 : Below base wr w8 := ((OwnG.of_below hbx).trans g78).below (Nat.le_trans hbs hszq) (fun k hk => own_ge owq hk)
              have Bw8 := Bwq.trans B8
              go_wp2_with fail
              refine (impl_exprWords 6 false d'' xop xn xname xkids (.slice Ax xkids.length px) _ lo B base _ _ hBb (Nat.le_trans hbs Bw8.size) g0x g1x g2x (g3x.below B8 hBb) HVX.out.1 HVX.out.2 (fun w9 b9 => HTX.out w9 (Bw8.trans b9)) ow8 (by rw [HW.out]; (try simp only [List.length_append, List.length_cons, List.length_nil]); omega)).mono ?_
              rw [HW.out]
              rintro e wz ⟨vz, rfl, owz, gz⟩
              go_wp2_with fail
              go_roundw
              case rel => exact ⟨j + 1, _, by omega, by go_num, HN, by simpa using owz, G8.trans gz⟩
              case measure => simp [intOf]; omega
            · have hj0' : decide ((0 : Int) < (j : Int)) = false := decide_eq_false (by omega)
              rw [if_neg hj0] at HN hgr
              simp only [List.length_append, List.length_cons, List.length_nil] at hgr
              have r0 : (wr.alloc (.cells #[.int .i64 xop, .int .i64 xn, .string xname, .slice Ax xkids.length px] 90)).cell? ⟨wr.heap.size, 0, none⟩ = some (.int .i64 xop) := RX.cell 0
              have r1 : (wr.alloc (.cells #[.int .i64 xop, .int .i64 xn, .string xname, .slice Ax xkids.length px] 90)).cell? ⟨wr.heap.size, 1, none⟩ = some (.int .i64 xn) := RX.cell 1
              have r2 : (wr.alloc (.cells #[.int .i64 xop, .int .i64 xn, .string xname, .slice Ax xkids.length px] 90)).cell? ⟨wr.heap.size, 2, none⟩ = some (.string xname) := RX.cell 2
              have r3 : (wr.alloc (.cells #[.int .i64 xop, .int .i64 xn, .string xname, .slice Ax xkids.length px] 90)).cell? ⟨wr.heap.size, 3, none⟩ = some (.slice Ax xkids.length px) := RX.cell 3
              have B8 : Below base wr (wr.alloc (.cells #[.int .i64 xop, .int .i64 xn, .string xname, .slice Ax xkids.length px] 90)) := (OwnG.of_below hbx).below (Nat.le_trans hbs hszq) (fun k hk => own_ge owq hk)
              have Bw8 := Bwq.trans B8
              go_wp2_with fail
              refine (impl_exprWords 6 false d'' xop xn xname xkids (.slice Ax xkids.length px) _ lo B base _ _ hBb (Nat.le_trans hbs Bw8.size) g0x g1x g2x (g3x.below B8 hBb) HVX.out.1 HVX.out.2 (fun w9 b9 => HTX.out w9 (Bw8.trans b9)) owx (by rw [HW.out]; (try simp only [List.length_append, List.length_cons, List.length_nil]); omega)).mono ?_
              rw [HW.out]
              rintro e wz ⟨vz, rfl, owz, gz⟩
              go_wp2_with fail
              go_roundw
              case rel => exact ⟨j + 1, _, by omega, by go_num, HN, by simpa using owz, Gx.trans gz⟩
              case measure => simp [intOf]; omega
          · have hT3 : ac = T := by have h1 := HT.out; rw [List.drop_eq_nil_of_le (by omega), List.foldl_nil] at h1; exact h1
            subst hT3
            clear HT
            go_wp2_with fail
            refine (impl_signWord ⟨#[59]⟩ _).mono ?_
            rintro e w7 ⟨rfl, b7⟩
            have ow7 := OwnW.below owq b7 (Nat.le_refl _)
            have hs7 := Nat.le_trans hszq b7.size
            go_wp2_with (at_builtin; refine app_words rfl _ _ rfl w7 base _ (((l0 ++ acc) ++ [⟨4, ⟨#[100, 111]⟩⟩]) ++ ac) [⟨3, ⟨#[59]⟩⟩] _ rfl 1 rfl ow7 (by (try simp only [List.length_append, List.length_cons, List.length_nil]); omega) (Nat.le_trans hbs hs7) rfl rfl ?_)
            intro v8 w8 ow8 g8
            go_wp2_with fail
            go_roundw
            case rel => exact ⟨k + 1, _, by omega, by go_num, HS, by simpa using ow8, (G.trans ((OwnG.of_below hbk).trans (HG.out.trans Gq))).trans ((OwnG.of_below b7).trans g8)⟩
            case measure => simp [intOf]; omega
    · have hT : stsW l = acc := by have h1 := HK.out; rw [List.take_of_length_le (by omega)] at h1; exact h1
      go_wp2_with fail
      go_ret
      exact ⟨_, rfl, by rw [hT]; exact own, G⟩
theorem stmts_pair : ∀ m : Nat, StmtsW m
  | 0 => stmts_step 0 (fun _ h => by cases h)
  | m + 1 => stmts_step (m + 1) (fun m' h => by cases h; exact blocks_of m (stmts_pair m))
theorem impl_blockWords (m : Nat) : BlocksW m := blocks_of m (stmts_pair m)
end Go.Proofs.YtbikgakoeheahaaGreatDoor
