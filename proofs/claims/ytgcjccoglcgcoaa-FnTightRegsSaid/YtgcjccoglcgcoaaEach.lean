/-
  The places of a code's registers, one behind the other: eachReg, with what tight does at each. Conditions: the code's blocks lie apart; the map has the numbers of those named before.
-/
import Derived.Test.YtgcjccoglcgcoaaVis
import Derived.Test.YtgcjccoglcgcoaaUnit1
namespace Go.Proofs.Ytgcjccoglcgcoaa
open Go.RowKit Go.ChangeShapes Go.WideShapes Go.Deep
set_option linter.unusedVariables false
set_option linter.unusedSimpArgs false
theorem num_64 {S : List Int} (hl : S.length ≤ 1048576) (r : Int) : I64 (numS S r) := by
  have : S.idxOf r ≤ S.length := List.idxOf_le_length
  unfold numS I64
  omega
theorem tell_in (s : List Int) (r : Int) : r ∈ tell s r := tell_mem.2 (Or.inr rfl)
/-- a register is visited: those that are still to come are known -/
theorem visit (b o Bm M : Nat) (r : Int) (rest s S : List Int) (w : World) (hc : w.cell? ⟨b, o, none⟩ = some (.int .i64 r)) (hf : w.frozen? ⟨b, o, none⟩ = false) (hr : I64 r) (R : Row w Bm 75 #[.map (some M)]) (hM : MapSt w M s) (hbM : b ≠ M) (hBM : Bm ≠ M) (hS : Hid ((r :: rest).foldl tell s = S)) (hl : S.length ≤ 1048576) :
    Calls Try.prog 43 #[.pointer (some ⟨b, o, none⟩), .pointer (some ⟨Bm, 0, none⟩)] w (fun e w' => e = .returned (.tuple #[]) ∧ ∃ s', MapSt w' M s' ∧ Hid (rest.foldl tell s' = S) ∧ I64 (numS S r) ∧ Upd w b o (numS S r) M w') := by
  have h1 : rest.foldl tell (tell s r) = S := hS.out
  have hp : tell s r <+: S := h1 ▸ tells_pre rest (tell s r)
  have hls : s.length ≤ 1048576 := by
    have := (tell_pre s r).length_le
    have := hp.length_le
    omega
  refine (impl_tight_1 b o Bm M r s w hc hf hr R hM hbM hBM hls).mono ?_
  rintro e w' ⟨rfl, hm, hu⟩
  rw [← num_pre hp (tell_in s r)] at hu
  exact ⟨rfl, _, hm, h1, num_64 hl r, hu⟩
def EachP (fp : List Nat) (M : Nat) (l : List BlkD) (A : Option Addr) (cap : Nat) (S : List Int) (w : World) (e : Ending) (w' : World) : Prop :=
  e = .returned (.tuple #[]) ∧ SlF bkF 65 w' fp (l.map (renBlk (numS S))) (.slice A l.length cap) ∧ MapSt w' M S ∧ Below 0 w w' ∧ ∀ x, x < w.heap.size → x ∉ fp → x ≠ M → w'.heap[x]? = w.heap[x]?
set_option maxRecDepth 100000 in
set_option maxHeartbeats 16000000 in
theorem impl_eachReg (params regs : Int) (blocks : List BlkD) (A : Option Addr) (cap : Nat) (fp : List Nat) (Bm M : Nat) (s S : List Int) (w : World) (h : SlF bkF 65 w fp blocks (.slice A blocks.length cap)) (hnd : fp.Nodup) (hMf : M ∉ fp) (hBf : Bm ∉ fp) (hBM : Bm ≠ M)
    (R : Row w Bm 75 #[.map (some M)]) (hM : MapSt w M s) (hS : (blocks.flatMap regsBlk).foldl tell s = S) (hl : S.length ≤ 1048576) (hbl : blocks.length ≤ 1048576) :
    Calls Try.prog 42 #[.agg #[.int .i64 params, .int .i64 regs, .slice A blocks.length cap], .func (.func 43) #[] #[.pointer (some ⟨Bm, 0, none⟩)]] w (EachP fp M blocks A cap S w) := by
  have hnd := Lib.hid hnd
  have hGf : w.heap.size ∉ fp := fun hx => Nat.lt_irrefl _ (h.lt _ hx)
  have hGM : w.heap.size ≠ M := fun e => by have := hM.lt; omega
  have hG : Row (w.alloc (.cells #[.int .i64 params, .int .i64 regs, .slice A blocks.length cap] 39)) w.heap.size 39 #[.int .i64 params, .int .i64 regs, .slice A blocks.length cap] := Row.new w _ _
  have hB0 := R.alloc (.cells #[.int .i64 params, .int .i64 regs, .slice A blocks.length cap] 39)
  have ha : ∀ x, x < w.heap.size → (w.alloc (.cells #[.int .i64 params, .int .i64 regs, .slice A blocks.length cap] 39)).heap[x]? = w.heap[x]? := fun x hx => Below.heap_alloc w _ x hx
  have hb0 : Below 0 w (w.alloc (.cells #[.int .i64 params, .int .i64 regs, .slice A blocks.length cap] 39)) := (Below.refl _ _).alloc (Nat.zero_le _) _
  have h0 := h.keep (fun b hb => ha b (h.lt b hb))
  have hM0 := hM.keep (ha M hM.lt)
  have hG2 : (w.alloc (.cells #[.int .i64 params, .int .i64 regs, .slice A blocks.length cap] 39)).cell? ⟨w.heap.size, 2, none⟩ = some (.slice A blocks.length cap) := hG.cell 2
  go_enter Try.func42, Try.ntmps42
  go_wp2_with fail
  generalize w.alloc (.cells #[.int .i64 params, .int .i64 regs, .slice A blocks.length cap] 39) = w0 at hG hB0 ha hb0 h0 hM0 hG2 ⊢
  go_loopw [13] (fun i wb => ∃ (k : Nat) (s1 : List Int), k ≤ blocks.length ∧ i = .int .i64 k ∧ SlF bkF 65 wb fp (halfL (renBlk (numS S)) blocks k) (.slice A blocks.length cap) ∧ MapSt wb M s1 ∧ Hid (((blocks.drop k).flatMap regsBlk).foldl tell s1 = S) ∧ Fr fp M w0 wb) (fun i _ => blocks.length - (intOf i).toNat)
  case atStart => exact ⟨0, s, by omega, rfl, by rw [half_zero]; exact h0, hM0, hS, Fr.refl _ _ _⟩
  case round =>
    obtain ⟨k, s1, hk, rfl, hd, hm1, hfold, fr⟩ := hrel
    obtain ⟨wb, hwb⟩ : ∃ x, x = wr := ⟨_, rfl⟩
    subst hwb
    have RG : Row wb w.heap.size 39 #[.int .i64 params, .int .i64 regs, .slice A blocks.length cap] := fr.row hG hGf hGM
    have RB1 : Row wb Bm 75 #[.map (some M)] := fr.row hB0 hBf hBM
    have y2 : wb.cell? ⟨w.heap.size, 2, none⟩ = some (.slice A blocks.length cap) := RG.cell 2
    clear hG2
    by_cases hkl : k < blocks.length
    case neg =>
      have hkn : ¬ (k : Int) < (blocks.length : Int) := by omega
      obtain rfl : k = blocks.length := by omega
      rw [half_end] at hd
      have E : Hid (s1 = S) := by
        have := hfold.out
        rw [List.drop_length] at this
        exact this
      rw [E.out] at hm1
      have F := Lib.hid (show EachP fp M blocks A cap S w (.returned (.tuple #[])) wb from ⟨rfl, hd, hm1, hb0.trans fr.1, fun x h1 h2 h3 => (fr.2 x h2 h3).trans (ha x h1)⟩)
      clear E hfold hS
      go_wp2_with fail
      go_end0
      exact F.out
    obtain ⟨⟨phis, ins, jump, on, next⟩, hx⟩ : ∃ x, blocks[k] = x := ⟨_, rfl⟩
    obtain ⟨b, f0, f1, f2, v0, v1, v2, rfl, hbf, hs0, hs1, hbx0, hbx1, n0, n1, d10, ⟨cur, Rb⟩, c0, c1, c2, c3, hj64, ho64, sl0, sl1, keepb, close⟩ := look_blk hd hnd.out (half_get _ _ hkl hx)
    obtain ⟨A0, p0, hf, hl0, hl0'⟩ := sl0.form
    change _ = Value.slice A0 phis.length p0 at hf
    subst hf
    obtain ⟨A9, p9, hf, hl9, hl9'⟩ := sl1.form
    change _ = Value.slice A9 ins.length p9 at hf
    subst hf
    obtain ⟨rest4, hr4⟩ : ∃ r, (blocks.drop (k + 1)).flatMap regsBlk = r := ⟨_, rfl⟩
    obtain ⟨rest3, hr3⟩ : ∃ r, (if usesOnB jump = true then [on] else []) ++ rest4 = r := ⟨_, rfl⟩
    obtain ⟨rest1, hr1⟩ : ∃ r, ins.flatMap regsIns ++ rest3 = r := ⟨_, rfl⟩
    have hfold1 : Hid ((phis.flatMap regsPhi ++ rest1).foldl tell s1 = S) := by
      have := hfold.out
      rw [drop_cons hkl hx, List.flatMap_cons, hr4] at this
      show _ = _
      rw [← hr1, ← hr3, ← this]
      unfold regsBlk
      simp only [List.append_assoc]
    have EX : Hid ((halfL (renBlk (numS S)) blocks k).set k ⟨phis.map (renPhi (numS S)), ins.map (renIns (numS S)), jump, if usesOnB jump = true then numS S on else on, next⟩ = halfL (renBlk (numS S)) blocks (k + 1)) := half_set (renBlk (numS S)) _ hkl hx
    replace hr4 := Lib.hid hr4
    replace hr3 := Lib.hid hr3
    replace hr1 := Lib.hid hr1
    have hM0f : M ∉ f0 := fun h => hMf (hs0 M h)
    have hM1f : M ∉ f1 := fun h => hMf (hs1 M h)
    have hB0f : Bm ∉ f0 := fun h => hBf (hs0 Bm h)
    have hB1f : Bm ∉ f1 := fun h => hBf (hs1 Bm h)
    have hbM : b ≠ M := fun e => hMf (e ▸ hbf)
    have hbx01 : b ∉ f0 ++ f1 := fun h => by rcases List.mem_append.1 h with h | h; exact hbx0 h; exact hbx1 h
    have hB01 : Bm ∉ f0 ++ f1 := fun h => by rcases List.mem_append.1 h with h | h; exact hB0f h; exact hB1f h
    have m0 : ∀ x ∈ f0, x ∈ f0 ++ f1 := fun x hx => List.mem_append_left _ hx
    have m1 : ∀ x ∈ f1, x ∈ f0 ++ f1 := fun x hx => List.mem_append_right _ hx
    clear hfold hx hd
    have hkn : (k : Int) < (blocks.length : Int) := by omega
    have hki : (0 : Int) ≤ (k : Int) := by omega
    go_wp2_with fail
    go_loopw [25] (fun i wp => ∃ (q : Nat) (s2 : List Int), q ≤ phis.length ∧ i = .int .i64 q ∧ SlF phF 69 wp f0 (halfL (renPhi (numS S)) phis q) (.slice A0 phis.length p0) ∧ MapSt wp M s2 ∧ Hid (((phis.drop q).flatMap regsPhi ++ rest1).foldl tell s2 = S) ∧ Fr f0 M wb wp) (fun i _ => phis.length - (intOf i).toNat)
    case atStart => exact ⟨0, s1, by omega, rfl, by rw [half_zero]; exact sl0, hm1, hfold1, Fr.refl _ _ _⟩
    case round =>
      clear hfold1
      obtain ⟨q, s2, hq, rfl, sl, hm2, hfold2, fr2⟩ := hrel
      obtain ⟨wp, hwp⟩ : ∃ x, x = wr := ⟨_, rfl⟩
      subst hwp
      have kb := keepb M f0 wp hMf hbx0 fr2
      have r0 : wp.cell? ⟨b, k * 5, none⟩ = some (.slice A0 phis.length p0) := (kb.2 _).trans c0
      have RB2 := fr2.row RB1 hB0f hBM
      by_cases hql : q < phis.length
      case pos =>
        obtain ⟨⟨tg, args⟩, hy⟩ : ∃ y, phis[q] = y := ⟨_, rfl⟩
        obtain ⟨b1, g, va, rfl, hb1f, hgf, hbg, gn, e0, ef0, e1, ht64, sla, far1, close1⟩ := look_phi sl n0 (half_get _ _ hql hy)
        replace e0 : wp.cell? ⟨b1, q * 2, none⟩ = some (.int .i64 tg) := e0
        obtain ⟨A1, p1, hf, hl1, hl1'⟩ := sla.form
        change _ = Value.slice A1 args.length p1 at hf
        subst hf
        obtain ⟨rest2, hr2⟩ : ∃ r, (phis.drop (q + 1)).flatMap regsPhi ++ rest1 = r := ⟨_, rfl⟩
        have hfoldt : Hid ((tg :: (args ++ rest2)).foldl tell s2 = S) := by
          have := hfold2.out
          rw [drop_cons hql hy, List.flatMap_cons] at this
          show _ = _
          rw [← hr2, ← this]
          simp only [regsPhi, List.append_assoc, List.cons_append]
        replace hr2 := Lib.hid hr2
        replace hy := Lib.hid hy
        have hb1M : b1 ≠ M := fun e => hM0f (e ▸ hb1f)
        have hMg : M ∉ g := fun h => hM0f (hgf M h)
        have hBg : Bm ∉ g := fun h => hB0f (hgf Bm h)
        have hM0 := hM0f
        clear hfold2 kb
        have hqn : (q : Int) < (phis.length : Int) := by omega
        have hqi : (0 : Int) ≤ (q : Int) := by omega
        go_wp2_with fail
        refine (visit b1 (q * 2) Bm M tg _ s2 S wp e0 ef0 ht64 RB2 hm2 hb1M hBM hfoldt hl).mono ?_
        rintro e w1 ⟨rfl, s3, hm3, hfold3, hn3, up1⟩
        obtain ⟨e1', sla1, fr1⟩ := far1 M _ w1 hM0f up1
        have RB3 := fr1.row RB2 hB0f hBM
        have frb := fr2.trans fr1
        have kb1 := keepb M f0 w1 hMf hbx0 frb
        have r1 : w1.cell? ⟨b, k * 5, none⟩ = some (.slice (some ⟨b1, 0, none⟩) phis.length p0) := (kb1.2 _).trans c0
        clear hfoldt kb1 hM0
        go_wp2_with fail
        go_loopw [46] (fun i wa => ∃ (p : Nat) (s4 : List Int), p ≤ args.length ∧ i = .int .i64 p ∧ SlF intF 3 wa g (halfL (numS S) args p) (.slice A1 args.length p1) ∧ MapSt wa M s4 ∧ Hid ((args.drop p ++ rest2).foldl tell s4 = S) ∧ Fr g M w1 wa) (fun i _ => args.length - (intOf i).toNat)
        case atStart => exact ⟨0, s3, by omega, rfl, by rw [half_zero]; exact sla1, hm3, hfold3, Fr.refl _ _ _⟩
        case round =>
          obtain ⟨p, s4, hp, rfl, sl4, hm4, hfold4, fr4⟩ := hrel
          have RB4 : Row wr Bm 75 #[.map (some M)] := fr4.row RB3 hBg hBM
          have fr04 := frb.trans (fr4.more hgf)
          have kb4 := keepb M f0 wr hMf hbx0 fr04
          have q0 : wr.cell? ⟨b, k * 5, none⟩ = some (.slice (some ⟨b1, 0, none⟩) phis.length p0) := (kb4.2 _).trans c0
          have q1 : wr.cell? ⟨b1, q * 2 + 1, none⟩ = some (.slice A1 args.length p1) := (cell_of_heap (fr4.2 b1 hbg hb1M) _).trans e1'
          by_cases hpl : p < args.length
          case pos =>
            obtain ⟨a, hx⟩ : ∃ a, args[p] = a := ⟨_, rfl⟩
            obtain ⟨b2, rfl, hb2, d0, df0, ha64, close2⟩ := look_int sl4 gn (half_get _ _ hpl hx)
            have hfold5 : Hid ((a :: (args.drop (p + 1) ++ rest2)).foldl tell s4 = S) := by
              have := hfold4.out
              rw [drop_cons hpl hx] at this
              exact this
            have E5 : Hid ((halfL (numS S) args p).set p (numS S a) = halfL (numS S) args (p + 1)) := half_set _ _ hpl hx
            clear hx hfold4
            have hb2M : b2 ≠ M := fun e => hMg (e ▸ hb2)
            have hpn : (p : Int) < (args.length : Int) := by omega
            have hpi : (0 : Int) ≤ (p : Int) := by omega
            go_wp2_with fail
            refine (visit b2 p Bm M a _ s4 S wr d0 df0 ha64 RB4 hm4 hb2M hBM hfold5 hl).mono ?_
            rintro e w6 ⟨rfl, s6, hm6, hfold6, hn6, up6⟩
            obtain ⟨sl6, fr6⟩ := close2 M _ w6 hMg hn6 up6
            rw [E5.out] at sl6
            clear E5 hfold5 d0 df0
            go_wp2_with fail
            go_roundw
            case rel => exact ⟨p + 1, s6, by omega, by go_num, sl6, hm6, hfold6, fr4.trans fr6⟩
            case measure => simp [intOf]; omega
          case neg =>
            have hpn : ¬ (p : Int) < (args.length : Int) := by omega
            obtain rfl : p = args.length := by omega
            rw [half_end] at sl4
            obtain ⟨sl7, fr7⟩ := close1 M _ w1 wr _ hM0f hn3 up1 fr4 sl4
            have E7 : (halfL (renPhi (numS S)) phis q).set q ⟨numS S tg, args.map (numS S)⟩ = halfL (renPhi (numS S)) phis (q + 1) := half_set _ _ hql hy.out
            rw [E7] at sl7
            have hfold7 : Hid (((phis.drop (q + 1)).flatMap regsPhi ++ rest1).foldl tell s4 = S) := by
              have := hfold4.out
              simp only [List.drop_length, List.nil_append] at this
              rw [← hr2.out] at this
              exact this
            clear E7 hfold4
            go_wp2_with fail
            go_roundw
            case rel => exact ⟨q + 1, s4, by omega, by go_num, sl7, hm4, hfold7, fr2.trans fr7⟩
            case measure => simp [intOf]; omega

      case neg =>
        have hqn : ¬ (q : Int) < (phis.length : Int) := by omega
        obtain rfl : q = phis.length := by omega
        rw [half_end] at sl
        have hfold8 : Hid ((ins.flatMap regsIns ++ rest3).foldl tell s2 = S) := by
          have := hfold2.out
          rw [List.drop_length, List.flatMap_nil, List.nil_append] at this
          show _ = _
          rw [hr1.out]
          exact this
        have sl1p := fr2.sl sl1 d10 hM1f
        have r9 : wp.cell? ⟨b, k * 5 + 1, none⟩ = some (.slice A9 ins.length p9) := (kb.2 _).trans c1
        obtain ⟨slP, frP⟩ : SlF phF 69 wp f0 (phis.map (renPhi (numS S))) (.slice A0 phis.length p0) ∧ Fr f0 M wb wp := ⟨sl, fr2⟩
        have RBP := RB2
        clear hfold2 kb sl fr2 RB2 sl0 sl1
        go_wp2_with fail
        go_loopw [68] (fun i wi => ∃ (q : Nat) (s2 : List Int), q ≤ ins.length ∧ i = .int .i64 q ∧ SlF isF 72 wi f1 (halfL (renIns (numS S)) ins q) (.slice A9 ins.length p9) ∧ MapSt wi M s2 ∧ Hid (((ins.drop q).flatMap regsIns ++ rest3).foldl tell s2 = S) ∧ Fr f1 M wp wi) (fun i _ => ins.length - (intOf i).toNat)
        case atStart => exact ⟨0, s2, by omega, rfl, by rw [half_zero]; exact sl1p, hm2, hfold8, Fr.refl _ _ _⟩
        case round =>
          clear hfold8 sl1p r0 r9 hm2
          obtain ⟨q, s2, hq, rfl, sl, hm2, hfold2, fr2⟩ := hrel
          obtain ⟨wi, hwi⟩ : ∃ x, x = wr := ⟨_, rfl⟩
          subst hwi
          have frI : Fr (f0 ++ f1) M wb wi := (frP.more m0).trans (fr2.more m1)
          have kb := keepb M (f0 ++ f1) wi hMf hbx01 frI
          have r0 : wi.cell? ⟨b, k * 5 + 1, none⟩ = some (.slice A9 ins.length p9) := (kb.2 _).trans c1
          have RB2 := fr2.row RBP hB1f hBM
          by_cases hql : q < ins.length
          case pos =>
            obtain ⟨⟨op, tg, args, n⟩, hy⟩ : ∃ y, ins[q] = y := ⟨_, rfl⟩
            obtain ⟨b1, g, va, rfl, hb1f, hgf, hbg, gn, e0, e1, ef1, e2, ho, ht64, sla, far1, close1⟩ := look_ins sl n1 (half_get _ _ hql hy)
            replace e0 : wi.cell? ⟨b1, q * 4, none⟩ = some (.int .i64 op) := e0
            replace e1 : wi.cell? ⟨b1, q * 4 + 1, none⟩ = some (.int .i64 tg) := e1
            obtain ⟨A1, p1, hf, hl1, hl1'⟩ := sla.form
            change _ = Value.slice A1 args.length p1 at hf
            subst hf
            obtain ⟨rest2, hr2⟩ : ∃ r, (ins.drop (q + 1)).flatMap regsIns ++ rest3 = r := ⟨_, rfl⟩
            have hfoldt : Hid (((if setsB op = true then [tg] else []) ++ (args ++ rest2)).foldl tell s2 = S) := by
              have := hfold2.out
              rw [drop_cons hql hy, List.flatMap_cons] at this
              show _ = _
              rw [← hr2, ← this]
              simp only [regsIns, List.append_assoc]
            replace hr2 := Lib.hid hr2
            replace hy := Lib.hid hy
            have hb1M : b1 ≠ M := fun e => hM1f (e ▸ hb1f)
            have hMg : M ∉ g := fun h => hM1f (hgf M h)
            have hBg : Bm ∉ g := fun h => hB1f (hgf Bm h)
            clear hfold2 kb
            have hqn : (q : Int) < (ins.length : Int) := by omega
            have hqi : (0 : Int) ≤ (q : Int) := by omega
            go_wp2_with fail
            refine (impl_sets op _).mono ?_
            rintro e w' ⟨rfl, rfl⟩
            by_cases hset : setsB op = true
            case pos =>
              rw [hset]
              replace hfoldt : Hid ((tg :: (args ++ rest2)).foldl tell s2 = S) := by
                have := hfoldt.out
                rw [if_pos hset] at this
                exact this
              replace hset := Lib.hid hset
              go_wp2_with fail
              refine (visit b1 (q * 4 + 1) Bm M tg _ s2 S wi e1 ef1 ht64 RB2 hm2 hb1M hBM hfoldt hl).mono ?_
              rintro e w1 ⟨rfl, s3, hm3, hfold3, hn3, up1⟩
              obtain ⟨e2', sla1, fr1⟩ := far1 M _ w1 hM1f up1
              replace up1 : Hid (Upd wi b1 (q * 4 + 1) (numS S tg) M w1 ∨ w1 = wi ∧ numS S tg = tg) := Or.inl up1
              have RB3 := fr1.row RB2 hB1f hBM
              have frb := frI.trans (fr1.more m1)
              have kb1 := keepb M (f0 ++ f1) w1 hMf hbx01 frb
              have r1 : w1.cell? ⟨b, k * 5 + 1, none⟩ = some (.slice (some ⟨b1, 0, none⟩) ins.length p9) := (kb1.2 _).trans c1
              clear hfoldt kb1
              go_wp2_with fail
              go_loopw [98] (fun i wa => ∃ (p : Nat) (s4 : List Int), p ≤ args.length ∧ i = .int .i64 p ∧ SlF intF 3 wa g (halfL (numS S) args p) (.slice A1 args.length p1) ∧ MapSt wa M s4 ∧ Hid ((args.drop p ++ rest2).foldl tell s4 = S) ∧ Fr g M w1 wa) (fun i _ => args.length - (intOf i).toNat)
              case atStart => exact ⟨0, s3, by omega, rfl, by rw [half_zero]; exact sla1, hm3, hfold3, Fr.refl _ _ _⟩
              case round =>
                obtain ⟨p, s4, hp, rfl, sl4, hm4, hfold4, fr4⟩ := hrel
                have RB4 : Row wr Bm 75 #[.map (some M)] := fr4.row RB3 hBg hBM
                have fr04 := frb.trans (fr4.more (fun x hx => m1 x (hgf x hx)))
                have kb4 := keepb M (f0 ++ f1) wr hMf hbx01 fr04
                have q0 : wr.cell? ⟨b, k * 5 + 1, none⟩ = some (.slice (some ⟨b1, 0, none⟩) ins.length p9) := (kb4.2 _).trans c1
                have q1 : wr.cell? ⟨b1, q * 4 + 2, none⟩ = some (.slice A1 args.length p1) := (cell_of_heap (fr4.2 b1 hbg hb1M) _).trans e2'
                by_cases hpl : p < args.length
                case pos =>
                  obtain ⟨a, hx⟩ : ∃ a, args[p] = a := ⟨_, rfl⟩
                  obtain ⟨b2, rfl, hb2, d0, df0, ha64, close2⟩ := look_int sl4 gn (half_get _ _ hpl hx)
                  have hfold5 : Hid ((a :: (args.drop (p + 1) ++ rest2)).foldl tell s4 = S) := by
                    have := hfold4.out
                    rw [drop_cons hpl hx] at this
                    exact this
                  have E5 : Hid ((halfL (numS S) args p).set p (numS S a) = halfL (numS S) args (p + 1)) := half_set _ _ hpl hx
                  clear hx hfold4
                  have hb2M : b2 ≠ M := fun e => hMg (e ▸ hb2)
                  have hpn : (p : Int) < (args.length : Int) := by omega
                  have hpi : (0 : Int) ≤ (p : Int) := by omega
                  go_wp2_with fail
                  refine (visit b2 p Bm M a _ s4 S wr d0 df0 ha64 RB4 hm4 hb2M hBM hfold5 hl).mono ?_
                  rintro e w6 ⟨rfl, s6, hm6, hfold6, hn6, up6⟩
                  obtain ⟨sl6, fr6⟩ := close2 M _ w6 hMg hn6 up6
                  rw [E5.out] at sl6
                  clear E5 hfold5 d0 df0
                  go_wp2_with fail
                  go_roundw
                  case rel => exact ⟨p + 1, s6, by omega, by go_num, sl6, hm6, hfold6, fr4.trans fr6⟩
                  case measure => simp [intOf]; omega
                case neg =>
                  have hpn : ¬ (p : Int) < (args.length : Int) := by omega
                  obtain rfl : p = args.length := by omega
                  rw [half_end] at sl4
                  obtain ⟨sl7, fr7⟩ := close1 M (numS S tg) w1 wr _ hM1f hn3 up1.out fr4 sl4
                  have E7 : (halfL (renIns (numS S)) ins q).set q ⟨op, numS S tg, args.map (numS S), n⟩ = halfL (renIns (numS S)) ins (q + 1) := by
                    have := half_set (renIns (numS S)) _ hql hy.out
                    unfold renIns at this ⊢
                    simp only [hset.out] at this
                    exact this
                  rw [E7] at sl7
                  have hfold7 : Hid (((ins.drop (q + 1)).flatMap regsIns ++ rest3).foldl tell s4 = S) := by
                    have := hfold4.out
                    simp only [List.drop_length, List.nil_append] at this
                    rw [← hr2.out] at this
                    exact this
                  clear E7 hfold4
                  go_wp2_with fail
                  go_roundw
                  case rel => exact ⟨q + 1, s4, by omega, by go_num, sl7, hm4, hfold7, fr2.trans fr7⟩
                  case measure => simp [intOf]; omega

            case neg =>
              replace hset : setsB op = false := by simpa using hset
              rw [hset]
              replace hfoldt : Hid ((args ++ rest2).foldl tell s2 = S) := by
                have := hfoldt.out
                rw [if_neg (by rw [hset]; simp)] at this
                exact this
              obtain ⟨w1, hw1⟩ : ∃ x, x = wi := ⟨_, rfl⟩
              subst hw1
              replace hset := Lib.hid hset
              obtain ⟨s3, hs3⟩ : ∃ x, x = s2 := ⟨_, rfl⟩
              subst hs3
              have e2' := e2
              have sla1 := sla
              have hm3 := hm2
              have hfold3 := hfoldt
              have hn3 : I64 tg := ht64
              have RB3 := RB2
              have frb := frI
              go_wp2_with fail
              go_loopw [98] (fun i wa => ∃ (p : Nat) (s4 : List Int), p ≤ args.length ∧ i = .int .i64 p ∧ SlF intF 3 wa g (halfL (numS S) args p) (.slice A1 args.length p1) ∧ MapSt wa M s4 ∧ Hid ((args.drop p ++ rest2).foldl tell s4 = S) ∧ Fr g M w1 wa) (fun i _ => args.length - (intOf i).toNat)
              case atStart => exact ⟨0, s3, by omega, rfl, by rw [half_zero]; exact sla1, hm3, hfold3, Fr.refl _ _ _⟩
              case round =>
                obtain ⟨p, s4, hp, rfl, sl4, hm4, hfold4, fr4⟩ := hrel
                have RB4 : Row wr Bm 75 #[.map (some M)] := fr4.row RB3 hBg hBM
                have fr04 := frb.trans (fr4.more (fun x hx => m1 x (hgf x hx)))
                have kb4 := keepb M (f0 ++ f1) wr hMf hbx01 fr04
                have q0 : wr.cell? ⟨b, k * 5 + 1, none⟩ = some (.slice (some ⟨b1, 0, none⟩) ins.length p9) := (kb4.2 _).trans c1
                have q1 : wr.cell? ⟨b1, q * 4 + 2, none⟩ = some (.slice A1 args.length p1) := (cell_of_heap (fr4.2 b1 hbg hb1M) _).trans e2'
                by_cases hpl : p < args.length
                case pos =>
                  obtain ⟨a, hx⟩ : ∃ a, args[p] = a := ⟨_, rfl⟩
                  obtain ⟨b2, rfl, hb2, d0, df0, ha64, close2⟩ := look_int sl4 gn (half_get _ _ hpl hx)
                  have hfold5 : Hid ((a :: (args.drop (p + 1) ++ rest2)).foldl tell s4 = S) := by
                    have := hfold4.out
                    rw [drop_cons hpl hx] at this
                    exact this
                  have E5 : Hid ((halfL (numS S) args p).set p (numS S a) = halfL (numS S) args (p + 1)) := half_set _ _ hpl hx
                  clear hx hfold4
                  have hb2M : b2 ≠ M := fun e => hMg (e ▸ hb2)
                  have hpn : (p : Int) < (args.length : Int) := by omega
                  have hpi : (0 : Int) ≤ (p : Int) := by omega
                  go_wp2_with fail
                  refine (visit b2 p Bm M a _ s4 S wr d0 df0 ha64 RB4 hm4 hb2M hBM hfold5 hl).mono ?_
                  rintro e w6 ⟨rfl, s6, hm6, hfold6, hn6, up6⟩
                  obtain ⟨sl6, fr6⟩ := close2 M _ w6 hMg hn6 up6
                  rw [E5.out] at sl6
                  clear E5 hfold5 d0 df0
                  go_wp2_with fail
                  go_roundw
                  case rel => exact ⟨p + 1, s6, by omega, by go_num, sl6, hm6, hfold6, fr4.trans fr6⟩
                  case measure => simp [intOf]; omega
                case neg =>
                  have hpn : ¬ (p : Int) < (args.length : Int) := by omega
                  obtain rfl : p = args.length := by omega
                  rw [half_end] at sl4
                  obtain ⟨sl7, fr7⟩ := close1 M (tg) w1 wr _ hM1f hn3 (Or.inr ⟨rfl, rfl⟩) fr4 sl4
                  have E7 : (halfL (renIns (numS S)) ins q).set q ⟨op, tg, args.map (numS S), n⟩ = halfL (renIns (numS S)) ins (q + 1) := by
                    have := half_set (renIns (numS S)) _ hql hy.out
                    unfold renIns at this ⊢
                    simp only [hset.out] at this
                    exact this
                  rw [E7] at sl7
                  have hfold7 : Hid (((ins.drop (q + 1)).flatMap regsIns ++ rest3).foldl tell s4 = S) := by
                    have := hfold4.out
                    simp only [List.drop_length, List.nil_append] at this
                    rw [← hr2.out] at this
                    exact this
                  clear E7 hfold4
                  go_wp2_with fail
                  go_roundw
                  case rel => exact ⟨q + 1, s4, by omega, by go_num, sl7, hm4, hfold7, fr2.trans fr7⟩
                  case measure => simp [intOf]; omega

          case neg =>
            have hqn : ¬ (q : Int) < (ins.length : Int) := by omega
            obtain rfl : q = ins.length := by omega
            rw [half_end] at sl
            have hfold9 : Hid (((if usesOnB jump = true then [on] else []) ++ rest4).foldl tell s2 = S) := by
              have := hfold2.out
              rw [List.drop_length, List.flatMap_nil, List.nil_append] at this
              show _ = _
              rw [hr3.out]
              exact this
            have r2 : wi.cell? ⟨b, k * 5 + 2, none⟩ = some (.int .i64 jump) := (kb.2 _).trans c2
            have r3 : wi.cell? ⟨b, k * 5 + 3, none⟩ = some (.int .i64 on) := (kb.2 _).trans c3
            have rf3 := kb.1
            clear hfold2
            go_wp2_with fail
            refine (impl_usesOn jump _).mono ?_
            rintro e w' ⟨rfl, rfl⟩
            by_cases hu : usesOnB jump = true
            case pos =>
              rw [hu]
              replace hfold9 : Hid ((on :: rest4).foldl tell s2 = S) := by
                have := hfold9.out
                rw [if_pos hu] at this
                exact this
              have EX2 : Hid ((halfL (renBlk (numS S)) blocks k).set k ⟨phis.map (renPhi (numS S)), ins.map (renIns (numS S)), jump, numS S on, next⟩ = halfL (renBlk (numS S)) blocks (k + 1)) := by
                have := EX.out
                simp only [if_pos hu] at this
                exact this
              clear hu EX
              go_wp2_with fail
              refine (visit b (k * 5 + 3) Bm M on _ s2 S wi r3 rf3 ho64 RB2 hm2 hbM hBM hfold9 hl).mono ?_
              rintro e w8 ⟨rfl, s8, hm8, hfold8, hn8, up8⟩
              obtain ⟨sl9, fr9⟩ := close M _ wp wi w8 _ _ hMf hn8 frP slP fr2 sl (Or.inl up8)
              rw [EX2.out] at sl9
              have hfold10 : Hid (((blocks.drop (k + 1)).flatMap regsBlk).foldl tell s8 = S) := by
                have := hfold8.out
                rw [← hr4.out] at this
                exact this
              clear hfold9 EX2 hfold8
              go_wp2_with fail
              go_roundw
              case rel => exact ⟨k + 1, s8, by omega, by go_num, sl9, hm8, hfold10, fr.trans fr9⟩
              case measure => simp [intOf]; omega
            case neg =>
              have hu' : usesOnB jump = false := by simpa using hu
              rw [hu']
              have EX2 : Hid ((halfL (renBlk (numS S)) blocks k).set k ⟨phis.map (renPhi (numS S)), ins.map (renIns (numS S)), jump, on, next⟩ = halfL (renBlk (numS S)) blocks (k + 1)) := by
                have := EX.out
                simp only [if_neg hu] at this
                exact this
              have hfold10 : Hid (((blocks.drop (k + 1)).flatMap regsBlk).foldl tell s2 = S) := by
                have := hfold9.out
                rw [if_neg hu, List.nil_append, ← hr4.out] at this
                exact this
              obtain ⟨sl9, fr9⟩ := close M on wp wi wi _ _ hMf ho64 frP slP fr2 sl (Or.inr ⟨rfl, rfl⟩)
              rw [EX2.out] at sl9
              clear hu hu' EX EX2 hfold9
              go_wp2_with fail
              go_roundw
              case rel => exact ⟨k + 1, s2, by omega, by go_num, sl9, hm2, hfold10, fr.trans fr9⟩
              case measure => simp [intOf]; omega
end Go.Proofs.Ytgcjccoglcgcoaa
