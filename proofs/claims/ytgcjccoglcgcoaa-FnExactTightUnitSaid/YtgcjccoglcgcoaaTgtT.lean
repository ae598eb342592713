/-
  Several texts in one: Tgt, Tll.
-/
import Derived.Test.YtgcjccoglcgcoaaEach
import Derived.Test.YtgcjccoglcgcoaaCln2
import Derived.Deep.CutRange
import Derived.Deep.CutBlock
import Derived.Laws.MakeOwn
namespace Go.Proofs.Ytgcjccoglcgcoaa
open Go.RowKit Go.ChangeShapes Go.WideShapes Go.Deep
set_option linter.unusedVariables false
set_option linter.unusedSimpArgs false
theorem Fr.below {fp : List Nat} {M B : Nat} {a b : World} (h : Fr fp M a b) (hf : ∀ x ∈ fp, B ≤ x) (hM : B ≤ M) : Below B a b :=
  ⟨h.1.os, h.1.tape, h.1.output, h.1.size, fun k hk => h.2 k (fun hx => by have := hf k hx; omega) (by omega)⟩
/-- a map has been made, and its box -/
theorem map_made (w3 : World) (n : Nat) (hn : w3.heap.size = n) (t : TypeId) : MapSt ((w3.alloc (.map #[] 0)).alloc (.cells #[.map (some n)] t)) n [] ∧ Row ((w3.alloc (.map #[] 0)).alloc (.cells #[.map (some n)] t)) (n + 1) t #[.map (some n)] ∧ Below n w3 ((w3.alloc (.map #[] 0)).alloc (.cells #[.map (some n)] t)) := by
  subst hn
  refine ⟨(MapSt.made w3).keep (Below.heap_alloc (w3.alloc (.map #[] 0)) _ _ (by simp)), ?_, ((Below.refl _ _).alloc (Nat.le_refl _) _).alloc (by simp) _⟩
  simpa using Row.new (w3.alloc (.map #[] 0)) t #[.map (some w3.heap.size)]
/-- the cells of a code are written -/
def setc (w : World) (b : Nat) (u0 u1 u2 : Value) : World := ((w.setCell ⟨b, 0, none⟩ u0).setCell ⟨b, 1, none⟩ u1).setCell ⟨b, 2, none⟩ u2
theorem setc_row {w : World} {b : Nat} {t : TypeId} {x0 x1 x2 : Value} (R : Row w b t #[x0, x1, x2]) (u0 u1 u2 : Value) : Row (setc w b u0 u1 u2) b t #[u0, u1, u2] := by
  have := ((R.set_ 0 u0).set_ 1 u1).set_ 2 u2
  unfold setc
  simpa using this
theorem setc_far {w : World} {b g : Nat} {t : TypeId} {cs : Array Value} (R : Row w g t cs) (h : g ≠ b) (u0 u1 u2 : Value) : Row (setc w b u0 u1 u2) g t cs := ((R.far (p := ⟨b, 0, none⟩) h u0).far (p := ⟨b, 1, none⟩) h u1).far (p := ⟨b, 2, none⟩) h u2
theorem setc_near {w : World} {lo k b : Nat} (h0 : lo ≤ b) (h1 : b < lo + k) (u0 u1 u2 : Value) : Near lo k w (setc w b u0 u1 u2) := (((Near.refl lo k w).set (p := ⟨b, 0, none⟩) h0 h1 u0).set (p := ⟨b, 1, none⟩) h0 h1 u1).set (p := ⟨b, 2, none⟩) h0 h1 u2
theorem setc_size (w : World) (b : Nat) (u0 u1 u2 : Value) : (setc w b u0 u1 u2).heap.size = w.heap.size := by simp [setc, World.setCell]
set_option maxRecDepth 100000 in
set_option maxHeartbeats 8000000 in
theorem impl_tight (params regs : Int) (blocks : List BlkD) (v2 : Value) (w : World) (lo B : Nat) (hB : B ≤ w.heap.size) (hl : codeN ⟨params, regs, blocks⟩ ≤ 1048576) (h0 : I64 params) (h1 : I64 regs) (h2 : Sl false (blkS false) w lo B blocks v2) (hS : (seenC ⟨params, regs, blocks⟩).length ≤ 1048576) :
    Calls Try.prog 22 #[.agg #[.int .i64 params, .int .i64 regs, v2]] w (ToF cdF (tightC ⟨params, regs, blocks⟩) w) := by
  have hbl : blocks.length ≤ 1048576 := by
    have : blocks.length + sumBy blkN blocks ≤ 1048576 := hl
    omega
  have hpl : params.toNat ≤ 1048576 := by
    have h := (tells_pre (regsCode ⟨params, regs, blocks⟩) (upto params.toNat)).length_le
    rw [upto_len] at h
    exact Nat.le_trans h hS
  obtain ⟨S, hSd⟩ : ∃ S, seenC ⟨params, regs, blocks⟩ = S := ⟨_, rfl⟩
  rw [hSd] at hS
  have hfold : (blocks.flatMap regsBlk).foldl tell (upto params.toNat) = S := hSd
  replace hSd := Lib.hid hSd
  replace hfold := Lib.hid hfold
  replace hl := Lib.hid hl
  obtain ⟨A, p, hf, _, _⟩ := h2.form
  change _ = Value.slice A blocks.length p at hf
  subst hf
  have hb2 : Below w.heap.size w ((w.alloc (.cells #[.int .i64 params, .int .i64 regs, .slice A blocks.length p] 39)).alloc (.cells #[.int .i64 0, .int .i64 0, .slice none 0 0] 39)) := ((Below.refl _ _).alloc (Nat.le_refl _) _).alloc (by simp) _
  have R2 : Row ((w.alloc (.cells #[.int .i64 params, .int .i64 regs, .slice A blocks.length p] 39)).alloc (.cells #[.int .i64 0, .int .i64 0, .slice none 0 0] 39)) w.heap.size 39 #[.int .i64 params, .int .i64 regs, .slice A blocks.length p] := (Row.new w _ _).alloc _
  have S2 : Row ((w.alloc (.cells #[.int .i64 params, .int .i64 regs, .slice A blocks.length p] 39)).alloc (.cells #[.int .i64 0, .int .i64 0, .slice none 0 0] 39)) (w.heap.size + 1) 39 #[.int .i64 0, .int .i64 0, .slice none 0 0] := by simpa using Row.new (w.alloc (.cells #[.int .i64 params, .int .i64 regs, .slice A blocks.length p] 39)) 39 #[.int .i64 0, .int .i64 0, .slice none 0 0]
  have z2 : w.heap.size + 2 = ((w.alloc (.cells #[.int .i64 params, .int .i64 regs, .slice A blocks.length p] 39)).alloc (.cells #[.int .i64 0, .int .i64 0, .slice none 0 0] 39)).heap.size := by simp
  have k0 := h2.below hb2 hB
  have hmm := @run_makeMap Try.prog
  go_enter Try.func22, Try.ntmps22
  go_wp2_with fail
  refine (impl_cloneCode params regs blocks (.slice A blocks.length p) _ lo B (Nat.le_trans hB hb2.size) hl.out h0 h1 k0).mono ?_
  rintro e w3 ⟨cs, f, rfl, ⟨v', rfl, _, _, hs⟩, hnd, hfr, b3⟩
  obtain ⟨A', p', hf, _, _⟩ := hs.form
  subst hf
  have hb3 : Below w.heap.size w w3 := hb2.trans (b3.mono hb2.size)
  have R3 := R2.below b3 R2.lt
  have S3 := S2.below b3 S2.lt
  replace hfr : Hid (∀ x ∈ f, w.heap.size + 2 ≤ x) := Lib.hid (fun x hx => by have := hfr x hx; omega)
  replace hnd := Lib.hid hnd
  have z3 : w.heap.size + 2 ≤ w3.heap.size := by have := b3.size; omega
  have r0 : w3.cell? ⟨w.heap.size, 0, none⟩ = some (.int .i64 params) := R3.cell 0
  have rf0 : w3.frozen? ⟨w.heap.size, 0, none⟩ = false := R3.frozen 0
  have r1 : w3.cell? ⟨w.heap.size, 1, none⟩ = some (.int .i64 regs) := R3.cell 1
  have rf1 : w3.frozen? ⟨w.heap.size, 1, none⟩ = false := R3.frozen 1
  have r2 : w3.cell? ⟨w.heap.size, 2, none⟩ = some (.slice A blocks.length p) := R3.cell 2
  have rf2 : w3.frozen? ⟨w.heap.size, 2, none⟩ = false := R3.frozen 2
  clear R2 S2 b3 hb2 k0
  go_upto_region 3 with fail
  clear r0 rf0 r1 rf1 r2 rf2 hmm
  have R4 := setc_row R3 (.int .i64 params) (.int .i64 regs) (.slice A' blocks.length p')
  have S4 := setc_far S3 (by omega : w.heap.size + 1 ≠ w.heap.size) (.int .i64 params) (.int .i64 regs) (.slice A' blocks.length p')
  have n4 : Near w.heap.size 2 w3 _ := setc_near (Nat.le_refl _) (by omega) (.int .i64 params) (.int .i64 regs) (.slice A' blocks.length p')
  have z4 := setc_size w3 w.heap.size (.int .i64 params) (.int .i64 regs) (.slice A' blocks.length p')
  obtain ⟨M, hMd⟩ : ∃ M, w3.heap.size = M := ⟨_, rfl⟩
  change _
  have hs4 := hs.near n4 hfr.out
  have hlt4 : Hid (∀ x ∈ f, x < M) := Lib.hid (fun x hx => by have := hs.lt x hx; omega)
  have hb4 : Below w.heap.size w (setc w3 w.heap.size (.int .i64 params) (.int .i64 regs) (.slice A' blocks.length p')) := hb3.trans n4.1
  rw [show ((w3.setCell { block := w.heap.size, off := 0 } (Value.int IntKind.i64 params)).setCell { block := w.heap.size, off := 1 } (Value.int IntKind.i64 regs)).setCell { block := w.heap.size, off := 2 } (Value.slice A' blocks.length p') = setc w3 w.heap.size (.int .i64 params) (.int .i64 regs) (.slice A' blocks.length p') from rfl]
  simp only [hMd]
  rw [hMd] at z4 z3
  clear hMd R3 S3 hs hb3 n4
  generalize setc w3 w.heap.size (.int .i64 params) (.int .i64 regs) (.slice A' blocks.length p') = w4 at R4 S4 z4 hs4 hb4 ⊢
  obtain ⟨hm5, RB5, b5⟩ := map_made w4 M z4 75
  have R5 := (R4.alloc (.map #[] 0)).alloc (.cells #[.map (some M)] 75)
  have S5 := (S4.alloc (.map #[] 0)).alloc (.cells #[.map (some M)] 75)
  have hs5 := hs4.belo b5 (by omega)
  have hb5 : Below w.heap.size w ((w4.alloc (.map #[] 0)).alloc (.cells #[.map (some M)] 75)) := hb4.trans (b5.mono (by omega))
  clear R4 S4 hs4 hb4 b5
  generalize (w4.alloc (.map #[] 0)).alloc (.cells #[.map (some M)] 75) = w5 at hm5 RB5 R5 S5 hs5 hb5 ⊢
  clear z4
  have r0 : w5.cell? ⟨w.heap.size, 0, none⟩ = some (.int .i64 params) := R5.cell 0
  have hg1 : w.heap.size ≠ M := by omega
  have hg2 : w.heap.size + 1 ≠ M := by omega
  go_wp2_with fail
  go_loopw [10] (fun i wr => ∃ k : Nat, k ≤ params.toNat ∧ i = .int .i64 k ∧ MapSt wr M (upto k) ∧ Fr [] M w5 wr) (fun i _ => params.toNat - (intOf i).toNat)
  case atStart => exact ⟨0, by omega, rfl, hm5, Fr.refl _ _ _⟩
  case round =>
    obtain ⟨k, hk, rfl, hm, fr⟩ := hrel
    have RB := fr.row RB5 (by simp) (by omega)
    have R6 := fr.row R5 (by simp) hg1
    have S6 := fr.row S5 (by simp) hg2
    have y0 : wr.cell? ⟨M + 1, 0, none⟩ = some (.map (some M)) := RB.cell 0
    by_cases hkp : k < params.toNat
    case pos =>
      have hkn : (k : Int) < params := by omega
      have hk64 : I64 (k : Int) := ⟨by omega, by omega⟩
      obtain ⟨w6, hrun, m6, b6, k6⟩ := hm.put hk64 (fun h => by have := upto_mem.1 h; omega) (by rw [upto_len]; omega)
      rw [upto_len] at hrun
      rw [← upto_succ] at m6
      have fr6 : Fr [] M w5 w6 := fr.trans ⟨b6, fun x _ hx => k6 x hx⟩
      clear hm b6 k6 fr
      go_wp2_with fail
      go_roundw
      case rel => exact ⟨k + 1, by omega, by go_num, m6, fr6⟩
      case measure => simp [intOf]; omega
    case neg =>
      have hkn : ¬ (k : Int) < params := by omega
      obtain rfl : k = params.toNat := by omega
      have hsR := fr.sl hs5 (by simp) (fun h => by have := hlt4.out M h; omega)
      have r0 : wr.cell? ⟨w.heap.size, 0, none⟩ = some (.int .i64 params) := R6.cell 0
      have r1 : wr.cell? ⟨w.heap.size, 1, none⟩ = some (.int .i64 regs) := R6.cell 1
      have r2 : wr.cell? ⟨w.heap.size, 2, none⟩ = some (.slice A' blocks.length p') := R6.cell 2
      have hbR : Below w.heap.size w wr := hb5.trans (fr.below (by simp) (by omega))
      go_wp2_with fail
      refine (impl_eachReg params regs blocks A' p' f (M + 1) M (upto params.toNat) S wr hsR hnd.out (fun h => by have := hlt4.out M h; omega) (fun h => by have := hlt4.out (M + 1) h; omega) (by omega) RB hm hfold.out hS hbl).mono ?_
      rintro e w7 ⟨rfl, hs7, hm7, b7, k7⟩
      have hGn : w.heap.size ∉ f := fun h => by have := hfr.out _ h; omega
      have hGn1 : w.heap.size + 1 ∉ f := fun h => by have := hfr.out _ h; omega
      have R7 : Row w7 w.heap.size 39 #[.int .i64 params, .int .i64 regs, .slice A' blocks.length p'] := (k7 _ R6.lt hGn hg1).trans R6
      have S7 : Row w7 (w.heap.size + 1) 39 #[.int .i64 0, .int .i64 0, .slice none 0 0] := (k7 _ S6.lt hGn1 hg2).trans S6
      have RB7 : Row w7 (M + 1) 75 #[.map (some M)] := (k7 _ RB.lt (fun h => by have := hlt4.out _ h; omega) (by omega)).trans RB
      have hb7 : Below w.heap.size w w7 := hbR.trans ⟨b7.os, b7.tape, b7.output, b7.size, fun x hx => k7 x (by have := hbR.size; omega) (fun h => by have := hfr.out x h; omega) (by omega)⟩
      have hlen := hm7.len 3
      have F := Lib.hid (fun (w8 : World) (n8 : Near w.heap.size 2 w7 w8) => ToF.fin (k := 2) (show cdF.rep w7 f (tightC ⟨params, regs, blocks⟩) [.int .i64 params, .int .i64 (S.length : Int), .slice A' blocks.length p'] from ⟨_, by unfold tightC; rw [hSd.out], h0, by unfold tightC; rw [hSd.out]; exact (show I64 (S.length : Int) from ⟨by omega, by omega⟩), by unfold tightC; rw [hSd.out]; exact hs7⟩) hnd.out hfr.out hb7 n8)
      have y0 : w7.cell? ⟨M + 1, 0, none⟩ = some (.map (some M)) := RB7.cell 0
      have r0 : w7.cell? ⟨w.heap.size, 0, none⟩ = some (.int .i64 params) := R7.cell 0
      have r1 : w7.cell? ⟨w.heap.size, 1, none⟩ = some (.int .i64 regs) := R7.cell 1
      have rf1 : w7.frozen? ⟨w.heap.size, 1, none⟩ = false := R7.frozen 1
      have r2 : w7.cell? ⟨w.heap.size, 2, none⟩ = some (.slice A' blocks.length p') := R7.cell 2
      have s0 : w7.cell? ⟨w.heap.size + 1, 0, none⟩ = some (.int .i64 0) := S7.cell 0
      have sf0 : w7.frozen? ⟨w.heap.size + 1, 0, none⟩ = false := S7.frozen 0
      have s1 : w7.cell? ⟨w.heap.size + 1, 1, none⟩ = some (.int .i64 0) := S7.cell 1
      have sf1 : w7.frozen? ⟨w.heap.size + 1, 1, none⟩ = false := S7.frozen 1
      have s2 : w7.cell? ⟨w.heap.size + 1, 2, none⟩ = some (.slice none 0 0) := S7.cell 2
      have sf2 : w7.frozen? ⟨w.heap.size + 1, 2, none⟩ = false := S7.frozen 2
      clear hs7 hm7 k7 hSd hfold hm
      go_wp2_with fail
      refine bodyPost_ret (v := .agg #[.int .i64 params, .int .i64 (S.length : Int), .slice A' blocks.length p']) (by simp [results, Try.results22, go_sem, s0, s1, s2]) rfl (F.out _ (by repeat' (first | exact Near.refl _ _ _ | refine Near.set ?_ (by show w.heap.size ≤ _; simp) (by show _ < w.heap.size + 2; simp) _)))
end Go.Proofs.Ytgcjccoglcgcoaa

namespace Go.Proofs.Ytgcjccoglcgcoaa
open Go.RowKit Go.ChangeShapes Go.WideShapes Go.Deep
set_option linter.unusedVariables false
set_option linter.unusedSimpArgs false
/-- the list tells the numbers of the registers of s; of the others it tells -1 -/
def TS (T s : List Int) : Prop := ∀ n : Nat, n < T.length → T[n]? = some (if (n : Int) ∈ s then numS s n else -1)
theorem TS.yes {T s : List Int} (h : TS T s) {n : Nat} (hn : n < T.length) (hs : (n : Int) ∈ s) : T[n]? = some (numS s n) := by
  have := h n hn
  rw [if_pos hs] at this
  exact this
theorem TS.tell {T s : List Int} (h : TS T s) {n : Nat} (hs : (n : Int) ∉ s) : TS (T.set n (s.length : Int)) (s ++ [(n : Int)]) := by
  intro k hk
  rw [List.length_set] at hk
  by_cases e : k = n
  · subst e
    rw [List.getElem?_set_self hk, if_pos (by simp), num_new hs]
  · rw [List.getElem?_set_ne (Ne.symm e), h k hk]
    by_cases hm : (k : Int) ∈ s
    · rw [if_pos hm, if_pos (by simp [hm]), num_pre (List.prefix_append _ _) hm]
    · rw [if_neg hm, if_neg (by
        intro hx
        rcases List.mem_append.1 hx with hx | hx
        · exact hm hx
        · simp at hx
          omega)]
theorem TS.start {T : List Int} {p : Nat} (h : ∀ n : Nat, n < T.length → T[n]? = some (if n < p then (n : Int) else -1)) : TS T (upto p) := by
  intro n hn
  rw [h n hn]
  by_cases hp : n < p
  · have hm : (n : Int) ∈ upto p := upto_mem.2 ⟨by omega, by omega⟩
    rw [if_pos hp, if_pos hm, num_upto hm]
  · rw [if_neg hp, if_neg (fun hm => by have := upto_mem.1 hm; omega)]
def TellP (g : List Nat) (M n cap : Nat) (A : Option Addr) (s : List Int) (r : Int) (w : World) (e : Ending) (w' : World) : Prop :=
  e = .returned (.int .i64 ((tell s r).length : Int)) ∧ ∃ T' : List Int, T'.length = n ∧ SlF intF 3 w' g T' (.slice A n cap) ∧ TS T' (tell s r) ∧ Fr g M w w'
set_option maxRecDepth 100000 in
theorem spec_l7Tell (T : List Int) (g : List Nat) (A : Option Addr) (cap M : Nat) (r : Nat) (s : List Int) (w : World) (h : SlF intF 3 w g T (.slice A T.length cap)) (hnd : g.Nodup) (hM : M ∉ g) (hTS : TS T s) (hr : r < T.length) (hs : s.length ≤ 1048576) :
    Calls Try.prog 37 #[.slice A T.length cap, .int .i64 (r : Int), .int .i64 (s.length : Int)] w (TellP g M T.length cap A s r w) := by
  obtain ⟨a, hx⟩ : ∃ a, T[r] = a := ⟨_, rfl⟩
  have hxx : T[r]? = some a := by rw [List.getElem?_eq_getElem hr, hx]
  obtain ⟨b, rfl, hb, d0, df0, ha64, close⟩ := look_int h hnd hxx
  have hri : (0 : Int) ≤ (r : Int) := by omega
  have hrn : (r : Int) < (T.length : Int) := by omega
  have hbM : b ≠ M := fun e => hM (e ▸ hb)
  have hv := hTS r hr
  rw [hxx] at hv
  injection hv with hv
  by_cases hm : (r : Int) ∈ s
  · have ht : Hid (tell s r = s) := by show _ = _; unfold tell; rw [if_pos hm]
    rw [if_pos hm] at hv
    have ha0 : 0 ≤ a := by have := num_lt hm; omega
    have F := Lib.hid (show TellP g M T.length cap (some ⟨b, 0, none⟩) s r w (.returned (.int .i64 (s.length : Int))) w from ⟨by rw [ht.out], T, rfl, h, by rw [ht.out]; exact hTS, Fr.refl _ _ _⟩)
    clear hv ht hx hxx close h
    go_enter Try.func37, Try.ntmps37
    go_wp2_with fail
    go_ret
    exact F.out
  · have ht : Hid (tell s r = s ++ [(r : Int)]) := by show _ = _; unfold tell; rw [if_neg hm]
    rw [if_neg hm] at hv
    have ha0 : ¬ 0 ≤ a := by omega
    have hs64 : I64 (s.length : Int) := ⟨by omega, by omega⟩
    have F := Lib.hid (show TellP g M T.length cap (some ⟨b, 0, none⟩) s r w (.returned (.int .i64 ((s.length : Int) + 1))) (w.setCell ⟨b, r, none⟩ (.int .i64 (s.length : Int))) from by
      obtain ⟨k1, k2⟩ := close M _ _ hM hs64 (Upd.set (w := w) (w1 := w) (Below.refl _ _) (fun _ _ => rfl) hbM)
      exact ⟨by rw [ht.out, List.length_append, List.length_singleton]; rfl, _, by rw [List.length_set], k1, by rw [ht.out]; exact hTS.tell hm, k2⟩)
    clear hv ht hx hxx close h
    go_enter Try.func37, Try.ntmps37
    go_wp2_with fail
    go_ret
    exact F.out
theorem zeros_get {n i : Nat} (h : i < n) : (madeCells (Value.int .i64 0).cells (n * 1))[i]? = some (.int .i64 0) := by
  simp [madeCells, Value.cells, Nat.mod_one, h]
/-- a list of zeros -/
theorem make_zeros (w : World) (n : Nat) (hn : n ≤ 1048576) :
    ∃ cs : Array Value, (Instr.makeSlice 63 (.int .i64 (n : Int)) (.int .i64 (n : Int))).run Try.prog w = .ok (.slice (some ⟨w.heap.size, 0, none⟩) n n) (w.alloc (.cells cs 3)) ∧ ∀ w', Row w' w.heap.size 3 cs → SlF intF 3 w' [w.heap.size] (List.replicate n 0) (.slice (some ⟨w.heap.size, 0, none⟩) n n) := by
  obtain ⟨i0, hi, hz0, hz1, hz2⟩ := info_parts Try.info_int
  have hr := run_make (P := Try.prog) w 63 3 i0 (.int .i64 0) Try.underlying63 hi hz0 .i64 .i64 n n (by omega) (by omega) (by rw [hz2]; omega) (by omega)
  rw [hz1] at hr
  simp only [Int.toNat_natCast] at hr
  refine ⟨_, hr, fun w' R => ⟨_, n, by rw [List.length_replicate], by rw [List.length_replicate]; omega, by unfold maxLen; omega, Or.inr ⟨_, _, List.replicate n [], rfl, R, ?_, by simp, by simp, fun i a f ha hf => ?_⟩⟩⟩
  · rw [size_madeCells]
    rfl
  · have hil : i < n := by
      have := (List.getElem?_eq_some_iff.1 ha).1
      simpa using this
    rw [List.getElem?_replicate, if_pos hil] at ha hf
    injection ha with ha
    injection hf with hf
    subst ha
    subst hf
    refine ⟨[.int .i64 0], ⟨rfl, rfl, by unfold I64; omega⟩, fun j u hu => ?_⟩
    cases j with
    | zero =>
      simp at hu
      subst hu
      show (madeCells (Value.int .i64 0).cells (n * 1))[i * 1 + 0]? = _
      rw [Nat.mul_one, Nat.mul_one, Nat.add_zero]
      have := zeros_get hil
      rw [Nat.mul_one] at this
      exact this
    | succ j => simp at hu
end Go.Proofs.Ytgcjccoglcgcoaa
