/-
  A code numbered anew, by the reference: l7Tight. Conditions: the code is valid and reads as data of small size.
-/
import Derived.Test.YtgcjccoglcgcoaaTgtT
import Derived.Test.YtgcjccoglcgcoaaSea
namespace Go.Proofs.Ytgcjccoglcgcoaa
open Go.RowKit Go.ChangeShapes Go.WideShapes Go.Deep
set_option linter.unusedVariables false
set_option linter.unusedSimpArgs false
/-- the call of l7Tight: its boxes and its list -/
structure TT (w wr : World) (cc zz : Array Value) (bT cT R : Nat) (T : List Int) : Prop where
  hbl : Below w.heap.size w wr
  Rb : Row wr w.heap.size 39 cc
  RR : Row wr (w.heap.size + 1) 39 zz
  hbT : w.heap.size + 2 ≤ bT
  sl : SlF intF 3 wr [bT] T (.slice (some ⟨bT, 0, none⟩) R cT)
  len : T.length = R
theorem TT.below {w wr w' : World} {cc zz : Array Value} {bT cT R : Nat} {T : List Int} (h : TT w wr cc zz bT cT R T) (nb : Below wr.heap.size wr w') : TT w w' cc zz bT cT R T :=
  ⟨h.hbl.trans (nb.mono h.hbl.size), h.Rb.below nb h.Rb.lt, h.RR.below nb h.RR.lt, h.hbT, h.sl.belo nb (Nat.le_refl _), h.len⟩
theorem TT.al {w wr : World} {cc zz : Array Value} {bT cT R : Nat} {T : List Int} (h : TT w wr cc zz bT cT R T) (o : Obj) : TT w (wr.alloc o) cc zz bT cT R T := h.below ((Below.refl _ _).alloc (Nat.le_refl _) _)
theorem TT.old {w wr : World} {cc zz : Array Value} {bT cT R : Nat} {T : List Int} (h : TT w wr cc zz bT cT R T) {b o : Nat} (hb : b < w.heap.size) {x : Option Value} (hx : w.cell? ⟨b, o, none⟩ = x) : wr.cell? ⟨b, o, none⟩ = x := (h.hbl.cell (p := ⟨b, o, none⟩) hb).trans hx
theorem reg_nat {r : Int} {R : Nat} (h : 0 ≤ r ∧ r < (R : Int)) : ∃ n : Nat, r = (n : Int) ∧ n < R := ⟨r.toNat, by omega, by omega⟩
theorem TT.lt {w wr : World} {cc zz : Array Value} {bT cT R : Nat} {T : List Int} (h : TT w wr cc zz bT cT R T) : bT < wr.heap.size := h.sl.lt bT (by simp)
theorem TT.write {w wr w' : World} {cc zz : Array Value} {bT cT R : Nat} {T T' : List Int} (h : TT w wr cc zz bT cT R T) (hs : SlF intF 3 w' [bT] T' (.slice (some ⟨bT, 0, none⟩) R cT)) (hl : T'.length = R) (fr : Fr [bT] wr.heap.size wr w') : TT w w' cc zz bT cT R T' :=
  have hT := h.hbT
  have h1 := h.RR.lt
  have h2 := h.Rb.lt
  ⟨h.hbl.trans (fr.below (fun x hx => by simp at hx; omega) (by omega)), fr.row h.Rb (by simp; omega) (by omega), fr.row h.RR (by simp; omega) (by omega), hT, hs, hl⟩
/-- a register is told -/
theorem told {w wr : World} {cc zz : Array Value} {bT cT R : Nat} {T s rest S : List Int} (h : TT w wr cc zz bT cT R T) (ht : TS T s) (r : Nat) (hr : r < R) (hS : Hid (((r : Int) :: rest).foldl tell s = S)) (hl : S.length ≤ 1048576) :
    Calls Try.prog 37 #[.slice (some ⟨bT, 0, none⟩) R cT, .int .i64 (r : Int), .int .i64 (s.length : Int)] wr (fun e w' => ∃ T' s' : List Int, e = .returned (.int .i64 (s'.length : Int)) ∧ TT w w' cc zz bT cT R T' ∧ Hid (TS T' s') ∧ Hid (rest.foldl tell s' = S) ∧ ∀ (b : Nat) (t : TypeId) (cs : Array Value), b ≠ bT → Row wr b t cs → Row w' b t cs) := by
  have h1 : rest.foldl tell (tell s r) = S := hS.out
  have hls : s.length ≤ 1048576 := by
    have k1 := (tell_pre s r).length_le
    have k2 := (tells_pre rest (tell s r)).length_le
    rw [h1] at k2
    omega
  have hlt := h.lt
  have hM : wr.heap.size ∉ [bT] := by
    simp
    omega
  have hsl := h.sl
  have hlen := h.len
  subst hlen
  refine (spec_l7Tell T [bT] (some ⟨bT, 0, none⟩) cT wr.heap.size r s wr hsl (by simp) hM ht hr hls).mono ?_
  rintro e w' ⟨rfl, T', hl', hs', ht', fr⟩
  exact ⟨T', _, rfl, h.write hs' hl' fr, ht', h1, fun b t cs hb R => fr.row R (by simp; omega) (by have := R.lt; omega)⟩
theorem valid_jump {us : List CodeD} {c : CodeD} {k b : Nat} {x : BlkD} (h : blkB us c k b x = true) : x.jump = 1 ↔ usesOnB x.jump = false := by
  unfold blkB at h
  simp only [Bool.and_eq_true] at h
  have h1 := of_decide_eq_true h.1
  unfold nextN at h1
  unfold usesOnB
  by_cases j1 : x.jump = 1
  · simp [j1]
  · by_cases j2 : x.jump = 2
    · simp [j2]
    · by_cases j3 : x.jump = 3
      · simp [j3]
      · rw [if_neg j1, if_neg j2, if_neg j3] at h1
        omega
/-- what is told of a valid code -/
theorem code_facts {us : List CodeD} {k : Nat} {c : CodeD} (h : codeB us k c = true) : (∀ x ∈ c.blocks, ∀ r ∈ regsBlk x, (0 ≤ r ∧ r < c.regs) ∧ r ∈ seenC c) ∧ (∀ x ∈ c.blocks, (x.jump = 1 ↔ usesOnB x.jump = false)) := by
  have hs := (seen_valid h).1
  unfold codeB at h
  rw [Bool.and_eq_true] at h
  refine ⟨fun x hx r hr => ?_, fun x hx => ?_⟩
  · have hm : r ∈ seenC c := (seenC_mem c r).2 (Or.inr (List.mem_flatMap.2 ⟨x, hx, hr⟩))
    exact ⟨hs r hm, hm⟩
  · obtain ⟨i, hi⟩ := List.mem_iff_getElem?.1 hx
    exact valid_jump (blksB_all h.2 i x hi)
set_option maxRecDepth 100000 in
set_option maxHeartbeats 16000000 in
theorem spec_l7Tight (us : List CodeD) (kk : Nat) (params regs : Int) (blocks : List BlkD) (v2 : Value) (w : World) (lo B : Nat) (hB : B ≤ w.heap.size) (hl : codeN ⟨params, regs, blocks⟩ ≤ 1048576) (h0 : I64 params) (h1 : I64 regs) (h2 : Sl false (blkS false) w lo B blocks v2) (hv : codeB us kk ⟨params, regs, blocks⟩ = true) :
    Calls Try.prog 19 #[.agg #[.int .i64 params, .int .i64 regs, v2]] w (ToF cdF (tightC ⟨params, regs, blocks⟩) w) := by
  obtain ⟨hregs, hjumps⟩ := code_facts hv
  obtain ⟨_, hp0, hpS, hSr, hr3⟩ := seen_valid hv
  replace hp0 : 0 ≤ params := hp0
  have hr0 : ((seenC ⟨params, regs, blocks⟩).length : Int) ≤ regs := hSr
  obtain ⟨p, rfl⟩ : ∃ p : Nat, params = (p : Int) := ⟨params.toNat, by omega⟩
  obtain ⟨R, rfl⟩ : ∃ R : Nat, regs = (R : Int) := ⟨regs.toNat, by omega⟩
  obtain ⟨S, hSd⟩ : ∃ S, seenC ⟨(p : Int), (R : Int), blocks⟩ = S := ⟨_, rfl⟩
  rw [hSd] at hpS hSr hregs
  replace hpS : (p : Int) ≤ (S.length : Int) := hpS
  replace hSr : (S.length : Int) ≤ (R : Int) := hSr
  replace hr3 : (R : Int) ≤ 300 := hr3
  have hpR : p ≤ R := by omega
  have hR3 : R ≤ 300 := by omega
  have hS300 : S.length ≤ 1048576 := by omega
  have hbl : blocks.length ≤ 1048576 := by
    have : blocks.length + sumBy blkN blocks ≤ 1048576 := hl
    omega
  have hfold : (blocks.flatMap regsBlk).foldl tell (upto p) = S := hSd
  replace hSd := Lib.hid hSd
  replace hfold := Lib.hid hfold
  replace hl := Lib.hid hl
  replace hregs : Hid (∀ x ∈ blocks, ∀ r ∈ regsBlk x, (0 ≤ r ∧ r < (R : Int)) ∧ r ∈ S) := Lib.hid hregs
  replace hjumps : Hid (∀ x ∈ blocks, (x.jump = 1 ↔ usesOnB x.jump = false)) := Lib.hid hjumps
  have hpl := Lib.hid hpS
  have hSl := Lib.hid hSr
  clear hv hp0 hr0 hpS hSr hr3
  obtain ⟨A, cap0, hf, _, _⟩ := h2.form
  change _ = Value.slice A blocks.length cap0 at hf
  subst hf
  obtain ⟨zs, hmk, hzs⟩ := make_zeros ((w.alloc (.cells #[.int .i64 (p : Int), .int .i64 (R : Int), .slice A blocks.length cap0] 39)).alloc (.cells #[.int .i64 0, .int .i64 0, .slice none 0 0] 39)) R (by omega)
  have tt0 : TT w (((w.alloc (.cells #[.int .i64 (p : Int), .int .i64 (R : Int), .slice A blocks.length cap0] 39)).alloc (.cells #[.int .i64 0, .int .i64 0, .slice none 0 0] 39)).alloc (.cells zs 3)) #[.int .i64 (p : Int), .int .i64 (R : Int), .slice A blocks.length cap0] #[.int .i64 0, .int .i64 0, .slice none 0 0] ((w.alloc (.cells #[.int .i64 (p : Int), .int .i64 (R : Int), .slice A blocks.length cap0] 39)).alloc (.cells #[.int .i64 0, .int .i64 0, .slice none 0 0] 39)).heap.size R R (List.replicate R 0) := ⟨(((Below.refl _ w).alloc (Nat.le_refl _) _).alloc (by simp) _).alloc (by simp; omega) _, ((Row.new w _ _).alloc _).alloc _, (by simpa using (Row.new (w.alloc (.cells #[.int .i64 (p : Int), .int .i64 (R : Int), .slice A blocks.length cap0] 39)) 39 #[.int .i64 0, .int .i64 0, .slice none 0 0]).alloc (.cells zs 3)), by simp, hzs _ (Row.new _ _ _), by simp⟩
  go_enter Try.func19, Try.ntmps19
  go_wp2_with fail
  generalize ((w.alloc (.cells #[.int .i64 (p : Int), .int .i64 (R : Int), .slice A blocks.length cap0] 39)).alloc (.cells #[.int .i64 0, .int .i64 0, .slice none 0 0] 39)).alloc (.cells zs 3) = w0 at tt0 ⊢
  clear hmk hzs
  have hsz : ((w.alloc (.cells #[.int .i64 (p : Int), .int .i64 (R : Int), .slice A blocks.length cap0] 39)).alloc (.cells #[.int .i64 0, .int .i64 0, .slice none 0 0] 39)).heap.size = w.heap.size + 1 + 1 := by simp
  rw [hsz] at tt0
  try rw [hsz]
  clear hsz
  obtain ⟨cc, hcc⟩ : ∃ x : Array Value, x = #[.int .i64 (p : Int), .int .i64 (R : Int), .slice A blocks.length cap0] := ⟨_, rfl⟩
  rw [← hcc] at tt0
  have hc0 : Hid (cc[0]? = some (.int .i64 (p : Int))) := by rw [hcc]; rfl
  have hc1 : Hid (cc[1]? = some (.int .i64 (R : Int))) := by rw [hcc]; rfl
  have hc2 : Hid (cc[2]? = some (.slice A blocks.length cap0)) := by rw [hcc]; rfl
  clear hcc
  obtain ⟨bT, hbT⟩ : ∃ x, x = w.heap.size + 1 + 1 := ⟨_, rfl⟩
  rw [← hbT] at tt0 ⊢
  clear hbT
  obtain ⟨cT, hcT⟩ : ∃ x, x = R := ⟨_, rfl⟩
  go_loopw [4] (fun i wr => ∃ (k : Nat) (T : List Int), k ≤ R ∧ i = .int .i64 k ∧ TT w wr cc #[.int .i64 0, .int .i64 0, .slice none 0 0] bT R R T ∧ Hid (∀ n : Nat, n < k → T[n]? = some (if n < p then (n : Int) else -1))) (fun i _ => R - (intOf i).toNat)
  case atStart => exact ⟨0, _, by omega, rfl, tt0, Lib.hid (fun n hn => by omega)⟩
  case round =>
    clear tt0
    obtain ⟨k, T, hk, rfl, tt, hT⟩ := hrel
    have x1 : wr.cell? ⟨w.heap.size, 1, none⟩ = some (.int .i64 (R : Int)) := (tt.Rb.cell 1).trans hc1.out
    have x0 : wr.cell? ⟨w.heap.size, 0, none⟩ = some (.int .i64 (p : Int)) := (tt.Rb.cell 0).trans hc0.out
    by_cases hkR : k < R
    case pos =>
      have hlen := tt.len
      have hkT : k < T.length := by omega
      obtain ⟨b, eb, hb, c0, f0, _, close⟩ := look_int tt.sl (by simp) (List.getElem?_eq_getElem hkT)
      injection eb with eb
      injection eb with eb _ _
      subst eb
      have hM : wr.heap.size ∉ [bT] := by
        have := tt.lt
        simp
        omega
      have hbM : bT ≠ wr.heap.size := by have := tt.lt; omega
      obtain ⟨s1, fr1⟩ := close wr.heap.size (-1) _ hM ⟨by omega, by omega⟩ (Upd.set (w := wr) (w1 := wr) (Below.refl _ _) (fun _ _ => rfl) hbM)
      have tt1 := tt.write s1 (by rw [List.length_set]; exact hlen) fr1
      have hkn : (k : Int) < (R : Int) := by omega
      have hki : (0 : Int) ≤ (k : Int) := by omega
      have hbW : w.heap.size ≠ bT := by have := tt.hbT; omega
      have x0' : (wr.setCell ⟨bT, k, none⟩ (.int .i64 (-1))).cell? ⟨w.heap.size, 0, none⟩ = some (.int .i64 (p : Int)) := (far_cell hbW).trans x0
      clear hlen close
      by_cases hkp : k < p
      case pos =>
        have hkpn : (k : Int) < (p : Int) := by omega
        have hkT2 : k < (T.set k (-1)).length := by rw [List.length_set]; exact hkT
        obtain ⟨b, eb, hb, c0', f0', _, close2⟩ := look_int tt1.sl (by simp) (List.getElem?_eq_getElem hkT2)
        injection eb with eb
        injection eb with eb _ _
        subst eb
        obtain ⟨s2, fr2⟩ := close2 (wr.setCell ⟨bT, k, none⟩ (.int .i64 (-1))).heap.size (k : Int) _ (by simpa using hM) ⟨by omega, by omega⟩ (Upd.set (w := wr.setCell ⟨bT, k, none⟩ (.int .i64 (-1))) (w1 := wr.setCell ⟨bT, k, none⟩ (.int .i64 (-1))) (Below.refl _ _) (fun _ _ => rfl) (by simpa using hbM))
        have tt2 := tt1.write s2 (by rw [List.length_set]; exact tt1.len) fr2
        have hT2 : Hid (∀ n : Nat, n < k + 1 → ((T.set k (-1)).set k (k : Int))[n]? = some (if n < p then (n : Int) else -1)) := Lib.hid (fun n hn => by
          by_cases e : n = k
          · subst e
            rw [List.getElem?_set_self hkT2, if_pos hkp]
          · rw [List.getElem?_set_ne (Ne.symm e), List.getElem?_set_ne (Ne.symm e)]
            exact hT.out n (by omega))
        clear close2 s1 fr1 s2 fr2 tt tt1 hM hT
        go_wp2_with fail
        go_roundw
        case rel => exact ⟨k + 1, _, by omega, by go_num, tt2, hT2⟩
        case measure => simp [intOf]; omega
      case neg =>
        have hkpn : ¬ (k : Int) < (p : Int) := by omega
        have hT1 : Hid (∀ n : Nat, n < k + 1 → (T.set k (-1))[n]? = some (if n < p then (n : Int) else -1)) := Lib.hid (fun n hn => by
          by_cases e : n = k
          · subst e
            rw [List.getElem?_set_self hkT, if_neg hkp]
          · rw [List.getElem?_set_ne (Ne.symm e)]
            exact hT.out n (by omega))
        clear s1 fr1 tt hM hT
        go_wp2_with fail
        go_roundw
        case rel => exact ⟨k + 1, _, by omega, by go_num, tt1, hT1⟩
        case measure => simp [intOf]; omega
    case neg =>
      have hkn : ¬ (k : Int) < (R : Int) := by omega
      obtain rfl : R = k := by omega
      have hTl := tt.len
      have ts : Hid (TS T (upto p)) := Lib.hid (TS.start (fun n hn => hT.out n (by omega)))
      clear hT hTl
      rw [show (Value.slice (some ⟨bT, 0, none⟩) R R) = Value.slice (some ⟨bT, 0, none⟩) R cT by rw [hcT]]
      replace tt : TT w wr cc #[.int .i64 0, .int .i64 0, .slice none 0 0] bT cT R T := by rw [hcT]; exact tt
      clear hcT
      go_wp2_with fail
      obtain ⟨w1, hw1⟩ : ∃ x, x = wr := ⟨_, rfl⟩
      subst hw1
      clear x0 x1 hkn hkR
      go_loopw [5, 6] (fun nx i wr => ∃ (k : Nat) (T1 s1 : List Int), k ≤ blocks.length ∧ i = .int .i64 k ∧ nx = .int .i64 (s1.length : Int) ∧ TT w wr cc #[.int .i64 0, .int .i64 0, .slice none 0 0] bT cT R T1 ∧ Hid (TS T1 s1) ∧ Hid (((blocks.drop k).flatMap regsBlk).foldl tell s1 = S)) (fun _ i _ => blocks.length - (intOf i).toNat)
      case atStart => exact ⟨0, T, upto p, by omega, rfl, by rw [upto_len], tt, ts, hfold⟩
      case round =>
        clear tt ts hfold
        obtain ⟨k, T1, s1, hk, rfl, rfl, tt, ts, hfold⟩ := hrel
        have x2 : wr.cell? ⟨w.heap.size, 2, none⟩ = some (.slice A blocks.length cap0) := (tt.Rb.cell 2).trans hc2.out
        by_cases hkl : k < blocks.length
        case neg =>
          have hkn : ¬ (k : Int) < (blocks.length : Int) := by omega
          obtain rfl : k = blocks.length := by omega
          have E : Hid (s1 = S) := by
            have := hfold.out
            rw [List.drop_length] at this
            exact this
          have es : (s1.length : Int) = (S.length : Int) := by rw [E.out]
          rw [es]
          clear es
          have ts' : TS T1 S := by rw [← E.out]; exact ts.out
          have x0 : wr.cell? ⟨w.heap.size, 0, none⟩ = some (.int .i64 (p : Int)) := (tt.Rb.cell 0).trans hc0.out
          have x1 : wr.cell? ⟨w.heap.size, 1, none⟩ = some (.int .i64 (R : Int)) := (tt.Rb.cell 1).trans hc1.out
          have hTs : Sl false (intS false) wr 0 wr.heap.size T1 (.slice (some ⟨bT, 0, none⟩) R cT) := tt.sl.ints (fun b hb => ⟨Nat.zero_le _, tt.sl.lt b hb⟩)
          have hto : Hid (∀ x ∈ blocks, ∀ r ∈ regsBlk x, ∃ n : Nat, r = (n : Int) ∧ T1[n]? = some (numS S r)) := Lib.hid (fun x hx r hr => by
            obtain ⟨hr1, hr2⟩ := hregs.out x hx r hr
            obtain ⟨n, rfl, hn⟩ := reg_nat hr1
            exact ⟨n, rfl, ts'.yes (by rw [tt.len]; exact hn) hr2⟩)
          clear hfold ts ts' E
          go_wp2_with fail
          have hsz := tt.hbl.size
          refine (spec_l7Each (p : Int) (R : Int) blocks (.slice A blocks.length cap0) T1 (.slice (some ⟨bT, 0, none⟩) R cT) (numS S) wr lo B (by omega) hl.out h0 h1 (h2.below tt.hbl hB) hTs hto.out hjumps.out).mono ?_
          rintro e w3 ⟨cs, f, rfl, hr, hnd, hfr, nb3⟩
          obtain ⟨v', hcs, _, _, sl3⟩ := hr
          obtain ⟨A', cap', hv', _, _⟩ := sl3.form
          rw [List.length_map] at hv'
          subst hv'
          change cs = [.int .i64 (p : Int), .int .i64 (R : Int), .slice A' blocks.length cap'] at hcs
          subst hcs
          replace sl3 : SlF bkF 65 w3 f (blocks.map (renBlk (numS S))) (.slice A' blocks.length cap') := sl3
          have RR3 := tt.RR.below nb3 tt.RR.lt
          have hb3 : Below w.heap.size w w3 := tt.hbl.trans (nb3.mono tt.hbl.size)
          have hfr3 : ∀ x ∈ f, w.heap.size + 2 ≤ x := fun x hx => by
            have := hfr x hx
            have := tt.RR.lt
            omega
          have z3 : w.heap.size + 2 ≤ w3.heap.size := by
            have := nb3.size
            have := tt.RR.lt
            omega
          have hout : Row (w3.alloc (.cells #[.int .i64 (p : Int), .int .i64 (R : Int), .slice A' blocks.length cap'] 39)) w3.heap.size 39 #[.int .i64 (p : Int), .int .i64 (R : Int), .slice A' blocks.length cap'] := Row.new w3 _ _
          have hs64 : I64 (S.length : Int) := ⟨by omega, by omega⟩
          have hrep : Hid (cdF.rep w3 f (tightC ⟨(p : Int), (R : Int), blocks⟩) [.int .i64 (p : Int), .int .i64 (S.length : Int), .slice A' blocks.length cap']) := Lib.hid ⟨_, by unfold tightC; rw [hSd.out], h0, by unfold tightC; rw [hSd.out]; exact hs64, by unfold tightC; rw [hSd.out]; exact sl3⟩
          have k4 : ((w3.alloc (.cells #[.int .i64 (p : Int), .int .i64 (R : Int), .slice A' blocks.length cap'] 39))).cell? ⟨w3.heap.size, 1, none⟩ = some (.int .i64 (R : Int)) := hout.cell 1
          have kf4 : ((w3.alloc (.cells #[.int .i64 (p : Int), .int .i64 (R : Int), .slice A' blocks.length cap'] 39))).frozen? ⟨w3.heap.size, 1, none⟩ = false := hout.frozen 1
          have RR4 := RR3.alloc (.cells #[.int .i64 (p : Int), .int .i64 (R : Int), .slice A' blocks.length cap'] 39)
          have hb4 : Below w.heap.size w (w3.alloc (.cells #[.int .i64 (p : Int), .int .i64 (R : Int), .slice A' blocks.length cap'] 39)) := hb3.alloc hb3.size _
          have hrep4 : Hid (cdF.rep (w3.alloc (.cells #[.int .i64 (p : Int), .int .i64 (R : Int), .slice A' blocks.length cap'] 39)) f (tightC ⟨(p : Int), (R : Int), blocks⟩) [.int .i64 (p : Int), .int .i64 (S.length : Int), .slice A' blocks.length cap']) := Lib.hid (cdF.keep hrep.out (fun b hb => Below.heap_alloc w3 _ b (sl3.lt b hb)))
          have hlt3 := sl3.lt
          clear sl3 hrep RR3 tt hTs hto nb3 hfr hb3
          go_upto_region 33 with fail
          obtain ⟨G, hG⟩ : ∃ x, w3.heap.size = x := ⟨_, rfl⟩
          rw [hG] at hout k4 kf4 hlt3 z3
          simp only [hG]
          clear hG
          generalize (w3.alloc (.cells #[.int .i64 (p : Int), .int .i64 (R : Int), .slice A' blocks.length cap'] 39)) = w4 at hout k4 kf4 RR4 hb4 hrep4 ⊢
          have R5 := hout.set_ 1 (.int .i64 (S.length : Int))
          have RR5 := RR4.far (p := ⟨G, 1, none⟩) (by show w.heap.size + 1 ≠ G; omega) (.int .i64 (S.length : Int))
          have hb5 : Below w.heap.size w (w4.setCell ⟨G, 1, none⟩ (.int .i64 (S.length : Int))) := hb4.setCell (p := ⟨G, 1, none⟩) (by show w.heap.size ≤ G; omega) _
          have hrep5 : Hid (cdF.rep (w4.setCell ⟨G, 1, none⟩ (.int .i64 (S.length : Int))) f (tightC ⟨(p : Int), (R : Int), blocks⟩) [.int .i64 (p : Int), .int .i64 (S.length : Int), .slice A' blocks.length cap']) := Lib.hid (cdF.keep hrep4.out (fun b hb => Below.heap_setCell w4 ⟨G, 1, none⟩ _ b (fun e => by have := hlt3 b hb; have : b = G := e; omega)))
          go_upto_region 34 with fail
          generalize (w4.setCell ⟨G, 1, none⟩ (.int .i64 (S.length : Int))) = w5 at R5 RR5 hb5 hrep5 ⊢
          have F := Lib.hid (fun (w8 : World) (n8 : Near w.heap.size 2 w5 w8) => ToF.fin (k := 2) hrep5.out hnd hfr3 hb5 n8)
          have r0 : w5.cell? ⟨G, 0, none⟩ = some (.int .i64 (p : Int)) := R5.cell 0
          have r1 : w5.cell? ⟨G, 1, none⟩ = some (.int .i64 (S.length : Int)) := R5.cell 1
          have r2 : w5.cell? ⟨G, 2, none⟩ = some (.slice A' blocks.length cap') := R5.cell 2
          have s0 : w5.cell? ⟨w.heap.size + 1, 0, none⟩ = some (.int .i64 0) := RR5.cell 0
          have s1 : w5.cell? ⟨w.heap.size + 1, 1, none⟩ = some (.int .i64 0) := RR5.cell 1
          have s2 : w5.cell? ⟨w.heap.size + 1, 2, none⟩ = some (.slice none 0 0) := RR5.cell 2
          have sf0 : w5.frozen? ⟨w.heap.size + 1, 0, none⟩ = false := RR5.frozen 0
          have sf1 : w5.frozen? ⟨w.heap.size + 1, 1, none⟩ = false := RR5.frozen 1
          have sf2 : w5.frozen? ⟨w.heap.size + 1, 2, none⟩ = false := RR5.frozen 2
          go_wp2_with fail
          refine bodyPost_ret (v := .agg #[.int .i64 (p : Int), .int .i64 (S.length : Int), .slice A' blocks.length cap']) (by simp [results, Try.results19, go_sem, s0, s1, s2]) rfl (F.out _ (by repeat' (first | exact Near.refl _ _ _ | refine Near.set ?_ (by show w.heap.size ≤ _; simp) (by show _ < w.heap.size + 2; simp) _)))
        obtain ⟨bS, oS, phis, v0, ins, v1, jump, on, next, v4, rfl, hlS, hbS, HL, g0, g1, g2, g3, g4, q0, q1, q2, q3, q4⟩ := blk_get h2 hkl
        have hbSW : bS < w.heap.size := by omega
        obtain ⟨A0, p0, hf, _, _⟩ := g0.form
        change _ = Value.slice A0 phis.length p0 at hf
        subst hf
        obtain ⟨A1, p1, hf, _, _⟩ := g1.form
        change _ = Value.slice A1 ins.length p1 at hf
        subst hf
        obtain ⟨A4, p4, hf, _, _⟩ := g4.form
        change _ = Value.slice A4 next.length p4 at hf
        subst hf
        have hmem : (⟨phis, ins, jump, on, next⟩ : BlkD) ∈ blocks := HL.out ▸ List.getElem_mem hkl
        have hrb : Hid (∀ r ∈ regsBlk ⟨phis, ins, jump, on, next⟩, 0 ≤ r ∧ r < (R : Int)) := Lib.hid (fun r hr => (hregs.out _ hmem r hr).1)
        have hjb : Hid (jump = 1 ↔ usesOnB jump = false) := hjumps.out _ hmem
        have htp : Hid (∀ f ∈ phis, ∀ r ∈ regsPhi f, 0 ≤ r ∧ r < (R : Int)) := Lib.hid (fun f hf r hr => hrb.out r (by unfold regsBlk; exact List.mem_append_left _ (List.mem_append_left _ (List.mem_flatMap.2 ⟨f, hf, hr⟩))))
        have hti : Hid (∀ y ∈ ins, ∀ r ∈ regsIns y, 0 ≤ r ∧ r < (R : Int)) := Lib.hid (fun f hf r hr => hrb.out r (by unfold regsBlk; exact List.mem_append_left _ (List.mem_append_right _ (List.mem_flatMap.2 ⟨f, hf, hr⟩))))
        obtain ⟨rest4, hr4⟩ : ∃ r, (blocks.drop (k + 1)).flatMap regsBlk = r := ⟨_, rfl⟩
        obtain ⟨rest3, hr3⟩ : ∃ r, (if usesOnB jump = true then [on] else []) ++ rest4 = r := ⟨_, rfl⟩
        obtain ⟨rest1, hr1⟩ : ∃ r, ins.flatMap regsIns ++ rest3 = r := ⟨_, rfl⟩
        have hfold1 : Hid ((phis.flatMap regsPhi ++ rest1).foldl tell s1 = S) := by
          have := hfold.out
          rw [drop_cons hkl HL.out, List.flatMap_cons, hr4] at this
          show _ = _
          rw [← hr1, ← hr3, ← this]
          unfold regsBlk
          simp only [List.append_assoc]
        replace hr4 := Lib.hid hr4
        replace hr3 := Lib.hid hr3
        replace hr1 := Lib.hid hr1
        have y0 : wr.cell? ⟨bS, oS + k * 5, none⟩ = some (.slice A0 phis.length p0) := tt.old hbSW q0
        have y1 : wr.cell? ⟨bS, oS + k * 5 + 1, none⟩ = some (.slice A1 ins.length p1) := tt.old hbSW q1
        have y2 : wr.cell? ⟨bS, oS + k * 5 + 2, none⟩ = some (.int .i64 jump) := tt.old hbSW q2
        have y3 : wr.cell? ⟨bS, oS + k * 5 + 3, none⟩ = some (.int .i64 on) := tt.old hbSW q3
        have y4 : wr.cell? ⟨bS, oS + k * 5 + 4, none⟩ = some (.slice A4 next.length p4) := tt.old hbSW q4
        have hkn : (k : Int) < (blocks.length : Int) := by omega
        have hki : (0 : Int) ≤ (k : Int) := by omega
        have tt2 := tt.al (.cells #[.slice A0 phis.length p0, .slice A1 ins.length p1, .int .i64 jump, .int .i64 on, .slice A4 next.length p4] 65)
        have Rx2 := Row.new wr 65 #[.slice A0 phis.length p0, .slice A1 ins.length p1, .int .i64 jump, .int .i64 on, .slice A4 next.length p4]
        have hgxT : wr.heap.size ≠ bT := by have := tt.lt; omega
        clear hfold tt q0 q1 q2 q3 q4 HL hmem
        go_wp2_with fail
        clear y0 y1 y2 y3 y4 x2
        generalize wr.alloc (.cells #[.slice A0 phis.length p0, .slice A1 ins.length p1, .int .i64 jump, .int .i64 on, .slice A4 next.length p4] 65) = wb at tt2 Rx2 ⊢
        obtain ⟨gx, hgx⟩ : ∃ x, x = wr.heap.size := ⟨_, rfl⟩
        rw [← hgx] at Rx2 hgxT ⊢
        clear hgx
        obtain ⟨xc, hxc⟩ : ∃ x : Array Value, x = #[.slice A0 phis.length p0, .slice A1 ins.length p1, .int .i64 jump, .int .i64 on, .slice A4 next.length p4] := ⟨_, rfl⟩
        rw [← hxc] at Rx2
        have hx0 : Hid (xc[0]? = some (.slice A0 phis.length p0)) := by rw [hxc]; rfl
        have hx1 : Hid (xc[1]? = some (.slice A1 ins.length p1)) := by rw [hxc]; rfl
        have hx2 : Hid (xc[2]? = some (.int .i64 jump)) := by rw [hxc]; rfl
        have hx3 : Hid (xc[3]? = some (.int .i64 on)) := by rw [hxc]; rfl
        clear hxc
        go_loopw [5, 8] (fun nx i wp => ∃ (q : Nat) (T2 s2 : List Int), q ≤ phis.length ∧ i = .int .i64 q ∧ nx = .int .i64 (s2.length : Int) ∧ TT w wp cc #[.int .i64 0, .int .i64 0, .slice none 0 0] bT cT R T2 ∧ Hid (TS T2 s2) ∧ Row wp gx 65 xc ∧ Hid (((phis.drop q).flatMap regsPhi ++ rest1).foldl tell s2 = S)) (fun _ i _ => phis.length - (intOf i).toNat)
        case atStart => exact ⟨0, T1, s1, by omega, rfl, rfl, tt2, ts, Rx2, hfold1⟩
        case round =>
          clear tt2 Rx2 hfold1 ts
          obtain ⟨q, T2, s2, hq, rfl, rfl, tt2, ts2, Rx2, hfold2⟩ := hrel
          have x0 : wr.cell? ⟨gx, 0, none⟩ = some (.slice A0 phis.length p0) := (Rx2.cell 0).trans hx0.out
          by_cases hql : q < phis.length
          case pos =>
            obtain ⟨b1, o1, tg, args, va, eA0, _, hb1, HL, _, ha, q0, q1⟩ := phi_get g0 hql
            subst eA0
            have hbW : b1 < w.heap.size := by omega
            obtain ⟨Aa, ca, hf, _, _⟩ := ha.form
            change _ = Value.slice Aa args.length ca at hf
            subst hf
            have hyt := htp.out ⟨tg, args⟩ (HL.out ▸ List.getElem_mem hql)
            have hta : Hid (∀ r ∈ args, 0 ≤ r ∧ r < (R : Int)) := Lib.hid (fun r hr => hyt r (by simp [regsPhi, hr]))
            obtain ⟨mt, rfl, hmt⟩ := reg_nat (hyt tg (by simp [regsPhi]))
            obtain ⟨rest2, hr2⟩ : ∃ r, (phis.drop (q + 1)).flatMap regsPhi ++ rest1 = r := ⟨_, rfl⟩
            have hfoldt : Hid (((mt : Int) :: (args ++ rest2)).foldl tell s2 = S) := by
              have := hfold2.out
              rw [drop_cons hql HL.out, List.flatMap_cons] at this
              show _ = _
              rw [← hr2, ← this]
              simp only [regsPhi, List.append_assoc, List.cons_append]
            replace hr2 := Lib.hid hr2
            have y0 : wr.cell? ⟨b1, o1 + q * 2, none⟩ = some (.int .i64 (mt : Int)) := tt2.old hbW q0
            have hqn : (q : Int) < (phis.length : Int) := by omega
            have hqi : (0 : Int) ≤ (q : Int) := by omega
            clear hfold2 hyt HL
            go_wp2_with fail
            refine (told tt2 ts2.out mt hmt hfoldt hS300).mono ?_
            rintro e w3 ⟨T3, s3, rfl, tt3, ts3, hfold3, hrow⟩
            have Rx3 := hrow gx _ _ hgxT Rx2
            have x0 : w3.cell? ⟨gx, 0, none⟩ = some (.slice (some ⟨b1, o1, none⟩) phis.length p0) := (Rx3.cell 0).trans hx0.out
            clear hrow hfoldt y0
            go_wp2_with fail
            go_loopw [5, 9] (fun nx i wa => ∃ (z : Nat) (T4 s4 : List Int), z ≤ args.length ∧ i = .int .i64 z ∧ nx = .int .i64 (s4.length : Int) ∧ TT w wa cc #[.int .i64 0, .int .i64 0, .slice none 0 0] bT cT R T4 ∧ Hid (TS T4 s4) ∧ Row wa gx 65 xc ∧ Hid ((args.drop z ++ rest2).foldl tell s4 = S)) (fun _ i _ => args.length - (intOf i).toNat)
            case atStart => exact ⟨0, T3, s3, by omega, rfl, rfl, tt3, ts3, Rx3, hfold3⟩
            case round =>
              obtain ⟨z, T4, s4, hz, rfl, rfl, tt4, ts4, Rx4, hfold4⟩ := hrel
              have x0 : wr.cell? ⟨gx, 0, none⟩ = some (.slice (some ⟨b1, o1, none⟩) phis.length p0) := (Rx4.cell 0).trans hx0.out
              have y1 : wr.cell? ⟨b1, o1 + q * 2 + 1, none⟩ = some (.slice Aa args.length ca) := tt4.old hbW q1
              by_cases hzl : z < args.length
              case pos =>
                obtain ⟨a, hx⟩ : ∃ a, args[z] = a := ⟨_, rfl⟩
                have hfold5 : Hid ((a :: (args.drop (z + 1) ++ rest2)).foldl tell s4 = S) := by
                  have := hfold4.out
                  rw [drop_cons hzl hx] at this
                  exact this
                obtain ⟨b2, o2, a', eA, _, hb2, HL2, _, d0⟩ := int_get ha hzl
                obtain rfl : a = a' := hx.symm.trans HL2.out
                obtain ⟨ma, rfl, hma⟩ := reg_nat (hta.out a (hx ▸ List.getElem_mem hzl))
                first | subst eA | (injection eA with eA; injection eA with eA eB _; replace eA := eA.symm; replace eB := eB.symm; subst eA; subst eB)
                have d0' : wr.cell? ⟨b2, o2 + z, none⟩ = some (.int .i64 (ma : Int)) := tt4.old (by omega) d0
                have hzn : (z : Int) < (args.length : Int) := by omega
                have hzi : (0 : Int) ≤ (z : Int) := by omega
                clear hx HL2 hfold4
                go_wp2_with fail
                refine (told tt4 ts4.out ma hma hfold5 hS300).mono ?_
                rintro e w5 ⟨T5, s5, rfl, tt5, ts5, hf5, hrow⟩
                have Rx5 := hrow gx _ _ hgxT Rx4
                clear hrow hfold5
                go_wp2_with fail
                go_roundw
                case rel => exact ⟨z + 1, T5, s5, by omega, by go_num, rfl, tt5, ts5, Rx5, hf5⟩
                case measure => simp [intOf]; omega
              case neg =>
                have hzn : ¬ (z : Int) < (args.length : Int) := by omega
                obtain rfl : z = args.length := by omega
                have hfold7 : Hid (((phis.drop (q + 1)).flatMap regsPhi ++ rest1).foldl tell s4 = S) := by
                  have := hfold4.out
                  simp only [List.drop_length, List.nil_append] at this
                  rw [← hr2.out] at this
                  exact this
                clear hfold4
                go_wp2_with fail
                go_roundw
                case rel => exact ⟨q + 1, T4, s4, by omega, by go_num, rfl, tt4, ts4, Rx4, hfold7⟩
                case measure => simp [intOf]; omega
          case neg =>
            have hqn : ¬ (q : Int) < (phis.length : Int) := by omega
            obtain rfl : q = phis.length := by omega
            have hfold8 : Hid ((ins.flatMap regsIns ++ rest3).foldl tell s2 = S) := by
              have := hfold2.out
              rw [List.drop_length, List.flatMap_nil, List.nil_append] at this
              show _ = _
              rw [hr1.out]
              exact this
            clear hfold2
            go_wp2_with fail
            clear x0
            go_loopw [5, 10] (fun nx i wi => ∃ (q : Nat) (T2 s2 : List Int), q ≤ ins.length ∧ i = .int .i64 q ∧ nx = .int .i64 (s2.length : Int) ∧ TT w wi cc #[.int .i64 0, .int .i64 0, .slice none 0 0] bT cT R T2 ∧ Hid (TS T2 s2) ∧ Row wi gx 65 xc ∧ Hid (((ins.drop q).flatMap regsIns ++ rest3).foldl tell s2 = S)) (fun _ i _ => ins.length - (intOf i).toNat)
            case atStart => exact ⟨0, T2, s2, by omega, rfl, rfl, tt2, ts2, Rx2, hfold8⟩
            case round =>
              clear tt2 Rx2 hfold8 ts2
              obtain ⟨q, T2, s2, hq, rfl, rfl, tt2, ts2, Rx2, hfold2⟩ := hrel
              have x1 : wr.cell? ⟨gx, 1, none⟩ = some (.slice A1 ins.length p1) := (Rx2.cell 1).trans hx1.out
              by_cases hql : q < ins.length
              case pos =>
                obtain ⟨b1, o1, op, tg, args, va, n, eA0, _, hb1, HL, _, _, ha, _, q0, q1, q2, q3⟩ := ins_get g1 hql
                subst eA0
                have hbW : b1 < w.heap.size := by omega
                obtain ⟨Aa, ca, hf, _, _⟩ := ha.form
                change _ = Value.slice Aa args.length ca at hf
                subst hf
                have hyt := hti.out ⟨op, tg, args, n⟩ (HL.out ▸ List.getElem_mem hql)
                have hta : Hid (∀ r ∈ args, 0 ≤ r ∧ r < (R : Int)) := Lib.hid (fun r hr => hyt r (by simp [regsIns, hr]))
                have hytg : Hid (setsB op = true → 0 ≤ tg ∧ tg < (R : Int)) := Lib.hid (fun h => hyt tg (by simp [regsIns, h]))
                obtain ⟨rest2, hr2⟩ : ∃ r, (ins.drop (q + 1)).flatMap regsIns ++ rest3 = r := ⟨_, rfl⟩
                have hfoldt : Hid (((if setsB op = true then [tg] else []) ++ (args ++ rest2)).foldl tell s2 = S) := by
                  have := hfold2.out
                  rw [drop_cons hql HL.out, List.flatMap_cons] at this
                  show _ = _
                  rw [← hr2, ← this]
                  simp only [regsIns, List.append_assoc]
                replace hr2 := Lib.hid hr2
                have y0 : wr.cell? ⟨b1, o1 + q * 4, none⟩ = some (.int .i64 op) := tt2.old hbW q0
                have y1 : wr.cell? ⟨b1, o1 + q * 4 + 1, none⟩ = some (.int .i64 tg) := tt2.old hbW q1
                have hqn : (q : Int) < (ins.length : Int) := by omega
                have hqi : (0 : Int) ≤ (q : Int) := by omega
                clear hfold2 hyt HL
                go_wp2_with fail
                refine (spec_l7Makes op _).mono ?_
                rintro e w' ⟨rfl, rfl⟩
                by_cases hset : setsB op = true
                case pos =>
                  obtain ⟨mt, rfl, hmt⟩ := reg_nat (hytg.out hset)
                  rw [hset]
                  replace hfoldt : Hid (((mt : Int) :: (args ++ rest2)).foldl tell s2 = S) := by
                    have := hfoldt.out
                    rw [if_pos hset] at this
                    exact this
                  clear hset
                  go_wp2_with fail
                  refine (told tt2 ts2.out mt hmt hfoldt hS300).mono ?_
                  rintro e w3 ⟨T3, s3, rfl, tt3, ts3, hfold3, hrow⟩
                  have Rx3 := hrow gx _ _ hgxT Rx2
                  have x1 : w3.cell? ⟨gx, 1, none⟩ = some (.slice (some ⟨b1, o1, none⟩) ins.length p1) := (Rx3.cell 1).trans hx1.out
                  clear hrow hfoldt y0 y1
                  go_wp2_with fail
                  go_loopw [5, 11] (fun nx i wa => ∃ (z : Nat) (T4 s4 : List Int), z ≤ args.length ∧ i = .int .i64 z ∧ nx = .int .i64 (s4.length : Int) ∧ TT w wa cc #[.int .i64 0, .int .i64 0, .slice none 0 0] bT cT R T4 ∧ Hid (TS T4 s4) ∧ Row wa gx 65 xc ∧ Hid ((args.drop z ++ rest2).foldl tell s4 = S)) (fun _ i _ => args.length - (intOf i).toNat)
                  case atStart => exact ⟨0, T3, s3, by omega, rfl, rfl, tt3, ts3, Rx3, hfold3⟩
                  case round =>
                    obtain ⟨z, T4, s4, hz, rfl, rfl, tt4, ts4, Rx4, hfold4⟩ := hrel
                    have x1 : wr.cell? ⟨gx, 1, none⟩ = some (.slice (some ⟨b1, o1, none⟩) ins.length p1) := (Rx4.cell 1).trans hx1.out
                    have y1 : wr.cell? ⟨b1, o1 + q * 4 + 2, none⟩ = some (.slice Aa args.length ca) := tt4.old hbW q2
                    by_cases hzl : z < args.length
                    case pos =>
                      obtain ⟨a, hx⟩ : ∃ a, args[z] = a := ⟨_, rfl⟩
                      have hfold5 : Hid ((a :: (args.drop (z + 1) ++ rest2)).foldl tell s4 = S) := by
                        have := hfold4.out
                        rw [drop_cons hzl hx] at this
                        exact this
                      obtain ⟨b2, o2, a', eA, _, hb2, HL2, _, d0⟩ := int_get ha hzl
                      obtain rfl : a = a' := hx.symm.trans HL2.out
                      obtain ⟨ma, rfl, hma⟩ := reg_nat (hta.out a (hx ▸ List.getElem_mem hzl))
                      first | subst eA | (injection eA with eA; injection eA with eA eB _; replace eA := eA.symm; replace eB := eB.symm; subst eA; subst eB)
                      have d0' : wr.cell? ⟨b2, o2 + z, none⟩ = some (.int .i64 (ma : Int)) := tt4.old (by omega) d0
                      have hzn : (z : Int) < (args.length : Int) := by omega
                      have hzi : (0 : Int) ≤ (z : Int) := by omega
                      clear hx HL2 hfold4
                      go_wp2_with fail
                      refine (told tt4 ts4.out ma hma hfold5 hS300).mono ?_
                      rintro e w5 ⟨T5, s5, rfl, tt5, ts5, hf5, hrow⟩
                      have Rx5 := hrow gx _ _ hgxT Rx4
                      clear hrow hfold5
                      go_wp2_with fail
                      go_roundw
                      case rel => exact ⟨z + 1, T5, s5, by omega, by go_num, rfl, tt5, ts5, Rx5, hf5⟩
                      case measure => simp [intOf]; omega
                    case neg =>
                      have hzn : ¬ (z : Int) < (args.length : Int) := by omega
                      obtain rfl : z = args.length := by omega
                      have hfold7 : Hid (((ins.drop (q + 1)).flatMap regsIns ++ rest3).foldl tell s4 = S) := by
                        have := hfold4.out
                        simp only [List.drop_length, List.nil_append] at this
                        rw [← hr2.out] at this
                        exact this
                      clear hfold4
                      go_wp2_with fail
                      go_roundw
                      case rel => exact ⟨q + 1, T4, s4, by omega, by go_num, rfl, tt4, ts4, Rx4, hfold7⟩
                      case measure => simp [intOf]; omega
                case neg =>
                  replace hfoldt : Hid ((args ++ rest2).foldl tell s2 = S) := by
                    have := hfoldt.out
                    rw [if_neg hset] at this
                    exact this
                  replace hset : setsB op = false := by simpa using hset
                  rw [hset]
                  clear hset
                  have tt3 := tt2
                  have ts3 := ts2
                  have Rx3 := Rx2
                  have hfold3 := hfoldt
                  obtain ⟨T3, hT3⟩ : ∃ x, x = T2 := ⟨_, rfl⟩
                  subst hT3
                  obtain ⟨s3, hs3⟩ : ∃ x, x = s2 := ⟨_, rfl⟩
                  subst hs3
                  clear tt2 ts2 Rx2 hfoldt
                  go_wp2_with fail
                  clear y0 y1
                  go_loopw [5, 11] (fun nx i wa => ∃ (z : Nat) (T4 s4 : List Int), z ≤ args.length ∧ i = .int .i64 z ∧ nx = .int .i64 (s4.length : Int) ∧ TT w wa cc #[.int .i64 0, .int .i64 0, .slice none 0 0] bT cT R T4 ∧ Hid (TS T4 s4) ∧ Row wa gx 65 xc ∧ Hid ((args.drop z ++ rest2).foldl tell s4 = S)) (fun _ i _ => args.length - (intOf i).toNat)
                  case atStart => exact ⟨0, T3, s3, by omega, rfl, rfl, tt3, ts3, Rx3, hfold3⟩
                  case round =>
                    obtain ⟨z, T4, s4, hz, rfl, rfl, tt4, ts4, Rx4, hfold4⟩ := hrel
                    have x1 : wr.cell? ⟨gx, 1, none⟩ = some (.slice (some ⟨b1, o1, none⟩) ins.length p1) := (Rx4.cell 1).trans hx1.out
                    have y1 : wr.cell? ⟨b1, o1 + q * 4 + 2, none⟩ = some (.slice Aa args.length ca) := tt4.old hbW q2
                    by_cases hzl : z < args.length
                    case pos =>
                      obtain ⟨a, hx⟩ : ∃ a, args[z] = a := ⟨_, rfl⟩
                      have hfold5 : Hid ((a :: (args.drop (z + 1) ++ rest2)).foldl tell s4 = S) := by
                        have := hfold4.out
                        rw [drop_cons hzl hx] at this
                        exact this
                      obtain ⟨b2, o2, a', eA, _, hb2, HL2, _, d0⟩ := int_get ha hzl
                      obtain rfl : a = a' := hx.symm.trans HL2.out
                      obtain ⟨ma, rfl, hma⟩ := reg_nat (hta.out a (hx ▸ List.getElem_mem hzl))
                      first | subst eA | (injection eA with eA; injection eA with eA eB _; replace eA := eA.symm; replace eB := eB.symm; subst eA; subst eB)
                      have d0' : wr.cell? ⟨b2, o2 + z, none⟩ = some (.int .i64 (ma : Int)) := tt4.old (by omega) d0
                      have hzn : (z : Int) < (args.length : Int) := by omega
                      have hzi : (0 : Int) ≤ (z : Int) := by omega
                      clear hx HL2 hfold4
                      go_wp2_with fail
                      refine (told tt4 ts4.out ma hma hfold5 hS300).mono ?_
                      rintro e w5 ⟨T5, s5, rfl, tt5, ts5, hf5, hrow⟩
                      have Rx5 := hrow gx _ _ hgxT Rx4
                      clear hrow hfold5
                      go_wp2_with fail
                      go_roundw
                      case rel => exact ⟨z + 1, T5, s5, by omega, by go_num, rfl, tt5, ts5, Rx5, hf5⟩
                      case measure => simp [intOf]; omega
                    case neg =>
                      have hzn : ¬ (z : Int) < (args.length : Int) := by omega
                      obtain rfl : z = args.length := by omega
                      have hfold7 : Hid (((ins.drop (q + 1)).flatMap regsIns ++ rest3).foldl tell s4 = S) := by
                        have := hfold4.out
                        simp only [List.drop_length, List.nil_append] at this
                        rw [← hr2.out] at this
                        exact this
                      clear hfold4
                      go_wp2_with fail
                      go_roundw
                      case rel => exact ⟨q + 1, T4, s4, by omega, by go_num, rfl, tt4, ts4, Rx4, hfold7⟩
                      case measure => simp [intOf]; omega
              case neg =>
                have hqn : ¬ (q : Int) < (ins.length : Int) := by omega
                obtain rfl : q = ins.length := by omega
                have hfold9 : Hid (((if usesOnB jump = true then [on] else []) ++ rest4).foldl tell s2 = S) := by
                  have := hfold2.out
                  rw [List.drop_length, List.flatMap_nil, List.nil_append] at this
                  show _ = _
                  rw [hr3.out]
                  exact this
                have x2 : wr.cell? ⟨gx, 2, none⟩ = some (.int .i64 jump) := (Rx2.cell 2).trans hx2.out
                have x3 : wr.cell? ⟨gx, 3, none⟩ = some (.int .i64 on) := (Rx2.cell 3).trans hx3.out
                clear hfold2
                by_cases hj1 : jump = 1
                case neg =>
                  have hu : usesOnB jump = true := by
                    cases h : usesOnB jump
                    · exact absurd (hjb.out.2 h) hj1
                    · rfl
                  obtain ⟨mt, rfl, hmt⟩ := reg_nat (hrb.out on (by simp [regsBlk, hu]))
                  replace hfold9 : Hid (((mt : Int) :: rest4).foldl tell s2 = S) := by
                    have := hfold9.out
                    rw [if_pos hu] at this
                    exact this
                  clear hu hjb
                  go_wp2_with fail
                  refine (told tt2 ts2.out mt hmt hfold9 hS300).mono ?_
                  rintro e w3 ⟨T3, s3, rfl, tt3, ts3, hfold3, hrow⟩
                  have hfold10 : Hid (((blocks.drop (k + 1)).flatMap regsBlk).foldl tell s3 = S) := by
                    have := hfold3.out
                    rw [← hr4.out] at this
                    exact this
                  clear hrow hfold9 hfold3
                  go_wp2_with fail
                  go_roundw
                  case rel => exact ⟨k + 1, T3, s3, by omega, by go_num, rfl, tt3, ts3, hfold10⟩
                  case measure => simp [intOf]; omega
                case pos =>
                  have hu : usesOnB jump = false := hjb.out.1 hj1
                  have hfold10 : Hid (((blocks.drop (k + 1)).flatMap regsBlk).foldl tell s2 = S) := by
                    have := hfold9.out
                    rw [hu] at this
                    simp only [Bool.false_eq_true, if_false, List.nil_append] at this
                    rw [← hr4.out] at this
                    exact this
                  clear hu hfold9
                  go_wp2_with fail
                  go_roundw
                  case rel => exact ⟨k + 1, T2, s2, by omega, by go_num, rfl, tt2, ts2, hfold10⟩
                  case measure => simp [intOf]; omega
end Go.Proofs.Ytgcjccoglcgcoaa
