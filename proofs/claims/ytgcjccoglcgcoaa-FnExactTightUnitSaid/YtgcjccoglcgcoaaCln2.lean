/-
  Clones of phis, instructions, blocks, codes. Conditions: the argument reads as data of small size.
-/
import Derived.Test.YtgcjccoglcgcoaaRegT
import Derived.Test.YtgcjccoglcgcoaaCln
import Derived.Deep.MidRow
import Derived.Deep.CutRange
import Derived.Deep.CutBlock
import Derived.Deep.QuietTactic
import Derived.BigQuiet
import Derived.IntWalk
namespace Go.Proofs.Ytgcjccoglcgcoaa
open Go.RowKit Go.ChangeShapes Go.WideShapes Go.Deep
set_option linter.unusedVariables false
set_option linter.unusedSimpArgs false
theorem row_all {w : World} {b : Nat} {t : TypeId} {cs : Array Value} (R : Row w b t cs) (n : Nat) (hn : n ≤ cs.size) : w.there b 0 n := fun j hj => ⟨by
  rw [R.cell, Array.getElem?_eq_getElem (by omega)]
  simp, R.frozen _⟩
theorem SlF.near {α : Type} {S : Fsh α} {t : TypeId} {w w' : World} {lo k : Nat} {fp : List Nat} {l : List α} {v : Value} (h : SlF S t w fp l v) (hn : Near lo k w w') (hf : ∀ x ∈ fp, lo + k ≤ x) : SlF S t w' fp l v := h.keep fun b hb => hn.2 b (hf b hb)
theorem SlF.belo {α : Type} {S : Fsh α} {t : TypeId} {w w' : World} {B : Nat} {fp : List Nat} {l : List α} {v : Value} (h : SlF S t w fp l v) (hn : Below B w w') (hB : w.heap.size ≤ B) : SlF S t w' fp l v := h.keep fun b hb => hn.block b (by have := h.lt b hb; omega)
set_option maxRecDepth 100000 in
set_option maxHeartbeats 4000000 in
theorem impl_clonePhi (tg : Int) (args : List Int) (v1 : Value) (w : World) (lo B : Nat) (hB : B ≤ w.heap.size) (hl : args.length ≤ 1048576) (h0 : I64 tg) (h1 : Sl false (intS false) w lo B args v1) :
    Calls Try.prog 100 #[.agg #[.int .i64 tg, v1]] w (ToF phF ⟨tg, args⟩ w) := by
  obtain ⟨A, p, hf, hl1, hl2⟩ := h1.form
  change _ = Value.slice A args.length p at hf
  subst hf
  go_enter Try.func100, Try.ntmps100
  go_upto_region 1 with fail
  have hb2 : Below w.heap.size w ((w.alloc (.cells #[.int .i64 tg, .slice A args.length p] 69)).alloc (.cells #[.int .i64 0, .slice none 0 0] 69)) := ((Below.refl _ _).alloc (Nat.le_refl _) _).alloc (by simp) _
  have R2 : Row ((w.alloc (.cells #[.int .i64 tg, .slice A args.length p] 69)).alloc (.cells #[.int .i64 0, .slice none 0 0] 69)) w.heap.size 69 #[.int .i64 tg, .slice A args.length p] := (Row.new w _ _).alloc _
  have S2 : Row ((w.alloc (.cells #[.int .i64 tg, .slice A args.length p] 69)).alloc (.cells #[.int .i64 0, .slice none 0 0] 69)) (w.heap.size + 1) 69 #[.int .i64 0, .slice none 0 0] := by simpa using Row.new (w.alloc (.cells #[.int .i64 tg, .slice A args.length p] 69)) 69 #[.int .i64 0, .slice none 0 0]
  have z2 : w.heap.size + 2 = (((w.alloc (.cells #[.int .i64 tg, .slice A args.length p] 69)).alloc (.cells #[.int .i64 0, .slice none 0 0] 69))).heap.size := by simp
  have h1' := h1.below hb2 hB
  generalize ((w.alloc (.cells #[.int .i64 tg, .slice A args.length p] 69)).alloc (.cells #[.int .i64 0, .slice none 0 0] 69)) = w2 at hb2 R2 S2 z2 h1' ⊢
  refine wp_region_held_drew (S := fun w' => (w'.cell? ⟨w.heap.size, 0, none⟩ = some (.int .i64 tg) ∧ w'.cell? ⟨w.heap.size, 1, none⟩ = some (.slice A args.length p))) (by kernel_rfl) ?_ (fun hHeld => ?_)
  · exact ⟨R2.cell 0, R2.cell 1⟩
  replace hb2 : Below w.heap.size w w2.drew := hb2.drew
  replace R2 := R2.drew
  replace S2 := S2.drew
  replace h1' : Sl false (intS false) w2.drew lo B args (.slice A args.length p) := h1'.keep (Nat.le_refl _) (Nat.le_refl _) (fun _ _ _ => rfl)
  replace z2 : w.heap.size + 2 = w2.drew.heap.size := z2
  generalize w2.drew = wd at hHeld hb2 R2 S2 h1' z2 ⊢
  refine tk (i := 0) ?_
  try simp only [ap]
  refine tk (i := 1) ?_
  try simp only [ap]
  refine tk (i := 2) ?_
  try simp only [ap]
  refine tk (i := 3) ?_
  try simp only [ap]
  refine reg_call (i := 4) (by kernel_rfl) rfl (fun K hK => ?_)
  go_simp
  refine (clone_ints args (.slice A args.length p) wd lo B hl h1').mono ?_
  rintro e w3 ⟨v', f, rfl, hs, hnd, hfr, b3⟩
  obtain ⟨A', p', hf, _, _⟩ := hs.form
  subst hf
  have R3 := R2.below b3 R2.lt
  have S3 := S2.below b3 S2.lt
  have hb3 : Below w.heap.size w w3 := hb2.trans (b3.mono hb2.size)
  refine hK.out _ _ ?_ (fun hHeld => ?_)
  · exact ⟨R3.cell 0, R3.cell 1⟩
  clear hK K
  try simp only [ap]
  refine tk (i := 5) ?_
  try simp only [ap]
  refine reg_call (i := 6) (by kernel_rfl) rfl (fun K hK => ?_)
  rw [if_pos (show Region.wanted _ _ = true by kernel_rfl)]
  refine wp_store_mid 69 _ _ rfl (w.heap.size + 1) 0 #[.int .i64 tg, .slice A' args.length p'] rfl rfl (row_all S3 2 (by decide)) (by kernel_rfl) (by simp [Value.oneCell']) ?_
  obtain ⟨w4, hw4⟩ : ∃ w4, w3.setCells (w.heap.size + 1) 0 [.int .i64 tg, .slice A' args.length p'] = w4 := ⟨_, rfl⟩
  have e4 : w4 = ((w3.setCell ⟨w.heap.size + 1, 0, none⟩ (.int .i64 tg)).setCell ⟨w.heap.size + 1, 1, none⟩ (.slice A' args.length p')) := hw4 ▸ rfl
  rw [hw4]
  have R4 : Row w4 w.heap.size 69 #[.int .i64 tg, .slice A args.length p] := by rw [e4]; exact (R3.far (by show w.heap.size ≠ w.heap.size + 1; omega) _).far (by show w.heap.size ≠ w.heap.size + 1; omega) _
  have S4 : Row w4 (w.heap.size + 1) 69 #[.int .i64 tg, .slice A' args.length p'] := by rw [e4]; simpa using (S3.set_ 0 (.int .i64 tg)).set_ 1 (.slice A' args.length p')
  have n4 : Near w.heap.size 2 w3 w4 := by rw [e4]; exact ((Near.refl _ _ _).set (p := ⟨w.heap.size + 1, 0, none⟩) (by show w.heap.size ≤ w.heap.size + 1; omega) (by show w.heap.size + 1 < w.heap.size + 2; omega) _).set (p := ⟨w.heap.size + 1, 1, none⟩) (by show w.heap.size ≤ w.heap.size + 1; omega) (by show w.heap.size + 1 < w.heap.size + 2; omega) _
  clear hw4 e4
  refine hK.out _ _ ?_ (fun hHeld => ?_)
  · exact ⟨R4.cell 0, R4.cell 1⟩
  clear hK K
  try simp only [ap]
  refine wpAnyH_done (by kernel_rfl) ?_ _
  have s0 : w4.cell? ⟨w.heap.size + 1, 0, none⟩ = some (.int .i64 tg) := S4.cell 0
  have s1 : w4.cell? ⟨w.heap.size + 1, 1, none⟩ = some (.slice A' args.length p') := S4.cell 1
  go_wp2_with fail
  refine bodyPost_ret (v := .agg #[.int .i64 tg, .slice A' args.length p']) (by simp [results, Try.results100, go_sem, s0, s1]) rfl (ToF.fin (k := 2) (show phF.rep w3 f (⟨tg, args⟩ : PhiD) [.int .i64 tg, .slice A' args.length p'] from ⟨_, rfl, h0, hs⟩) hnd (fun x hx => by have := hfr x hx; omega) hb3 n4)
set_option maxRecDepth 100000 in
set_option maxHeartbeats 4000000 in
theorem impl_cloneIns (op tg : Int) (args : List Int) (v2 : Value) (n : Int) (w : World) (lo B : Nat) (hB : B ≤ w.heap.size) (hl : args.length ≤ 1048576) (h0 : I64 op) (h1 : I64 tg) (h2 : Sl false (intS false) w lo B args v2) (h3 : I64 n) :
    Calls Try.prog 102 #[.agg #[.int .i64 op, .int .i64 tg, v2, .int .i64 n]] w (ToF isF ⟨op, tg, args, n⟩ w) := by
  obtain ⟨A, p, hf, hl1, hl2⟩ := h2.form
  change _ = Value.slice A args.length p at hf
  subst hf
  have hb2 : Below w.heap.size w ((w.alloc (.cells #[.int .i64 op, .int .i64 tg, .slice A args.length p, .int .i64 n] 72)).alloc (.cells #[.int .i64 0, .int .i64 0, .slice none 0 0, .int .i64 0] 72)) := ((Below.refl _ _).alloc (Nat.le_refl _) _).alloc (by simp) _
  have R2 : Row ((w.alloc (.cells #[.int .i64 op, .int .i64 tg, .slice A args.length p, .int .i64 n] 72)).alloc (.cells #[.int .i64 0, .int .i64 0, .slice none 0 0, .int .i64 0] 72)) w.heap.size 72 #[.int .i64 op, .int .i64 tg, .slice A args.length p, .int .i64 n] := (Row.new w _ _).alloc _
  have S2 : Row ((w.alloc (.cells #[.int .i64 op, .int .i64 tg, .slice A args.length p, .int .i64 n] 72)).alloc (.cells #[.int .i64 0, .int .i64 0, .slice none 0 0, .int .i64 0] 72)) (w.heap.size + 1) 72 #[.int .i64 0, .int .i64 0, .slice none 0 0, .int .i64 0] := by simpa using Row.new (w.alloc (.cells #[.int .i64 op, .int .i64 tg, .slice A args.length p, .int .i64 n] 72)) 72 #[.int .i64 0, .int .i64 0, .slice none 0 0, .int .i64 0]
  have z2 : w.heap.size + 2 = (((w.alloc (.cells #[.int .i64 op, .int .i64 tg, .slice A args.length p, .int .i64 n] 72)).alloc (.cells #[.int .i64 0, .int .i64 0, .slice none 0 0, .int .i64 0] 72))).heap.size := by simp
  have h2' := h2.below hb2 hB
  go_enter Try.func102, Try.ntmps102
  go_wp2_with fail
  refine (clone_ints args (.slice A args.length p) _ lo B hl h2').mono ?_
  rintro e w3 ⟨v', f, rfl, hs, hnd, hfr, b3⟩
  obtain ⟨A', p', hf, _, _⟩ := hs.form
  subst hf
  have hb3 : Below w.heap.size w w3 := hb2.trans (b3.mono hb2.size)
  have R3 := R2.below b3 R2.lt
  have S3 := S2.below b3 S2.lt
  have r0 : w3.cell? ⟨w.heap.size, 0, none⟩ = some (.int .i64 op) := R3.cell 0
  have rf0 : w3.frozen? ⟨w.heap.size, 0, none⟩ = false := R3.frozen 0
  have r1 : w3.cell? ⟨w.heap.size, 1, none⟩ = some (.int .i64 tg) := R3.cell 1
  have rf1 : w3.frozen? ⟨w.heap.size, 1, none⟩ = false := R3.frozen 1
  have r2 : w3.cell? ⟨w.heap.size, 2, none⟩ = some (.slice A args.length p) := R3.cell 2
  have rf2 : w3.frozen? ⟨w.heap.size, 2, none⟩ = false := R3.frozen 2
  have r3 : w3.cell? ⟨w.heap.size, 3, none⟩ = some (.int .i64 n) := R3.cell 3
  have rf3 : w3.frozen? ⟨w.heap.size, 3, none⟩ = false := R3.frozen 3
  have s0 : w3.cell? ⟨w.heap.size + 1, 0, none⟩ = some (.int .i64 0) := S3.cell 0
  have sf0 : w3.frozen? ⟨w.heap.size + 1, 0, none⟩ = false := S3.frozen 0
  have s1 : w3.cell? ⟨w.heap.size + 1, 1, none⟩ = some (.int .i64 0) := S3.cell 1
  have sf1 : w3.frozen? ⟨w.heap.size + 1, 1, none⟩ = false := S3.frozen 1
  have s2 : w3.cell? ⟨w.heap.size + 1, 2, none⟩ = some (.slice none 0 0) := S3.cell 2
  have sf2 : w3.frozen? ⟨w.heap.size + 1, 2, none⟩ = false := S3.frozen 2
  have s3 : w3.cell? ⟨w.heap.size + 1, 3, none⟩ = some (.int .i64 0) := S3.cell 3
  have sf3 : w3.frozen? ⟨w.heap.size + 1, 3, none⟩ = false := S3.frozen 3
  go_wp2_with fail
  refine bodyPost_ret (v := .agg #[.int .i64 op, .int .i64 tg, .slice A' args.length p', .int .i64 n]) (by simp [results, Try.results102, go_sem, s0, s1, s2, s3]) rfl (ToF.fin (k := 2) (show isF.rep w3 f (⟨op, tg, args, n⟩ : InsD) [.int .i64 op, .int .i64 tg, .slice A' args.length p', .int .i64 n] from ⟨_, rfl, h0, h1, h3, hs⟩) hnd (fun x hx => by have := hfr x hx; omega) hb3 (by repeat' (first | exact Near.refl _ _ _ | refine Near.set ?_ (by show w.heap.size ≤ _; simp) (by show _ < w.heap.size + 2; simp) _)))
set_option maxRecDepth 100000 in
set_option maxHeartbeats 4000000 in
theorem impl_cloneBlock (phis : List PhiD) (v0 : Value) (ins : List InsD) (v1 : Value) (jump on : Int) (next : List Int) (v4 : Value) (w : World) (lo B : Nat) (hB : B ≤ w.heap.size) (hl : blkN ⟨phis, ins, jump, on, next⟩ ≤ 1048576) (h0 : Sl false (phiS false) w lo B phis v0) (h1 : Sl false (insS false) w lo B ins v1) (h2 : I64 jump) (h3 : I64 on) (h4 : Sl false (intS false) w lo B next v4) :
    Calls Try.prog 71 #[.agg #[v0, v1, .int .i64 jump, .int .i64 on, v4]] w (ToF bkF ⟨phis, ins, jump, on, next⟩ w) := by
  have hl0 : (phis.length + sumBy phiN phis) + (ins.length + sumBy insN ins) + next.length ≤ 1048576 := hl
  have hlp : Hid (∀ a ∈ phis, a.args.length ≤ 1048576) := Lib.hid (fun a ha => by
    have : a.args.length ≤ sumBy phiN phis := sumBy_mem phiN ha
    omega)
  have hli : Hid (∀ a ∈ ins, a.args.length ≤ 1048576) := Lib.hid (fun a ha => by
    have : a.args.length ≤ sumBy insN ins := sumBy_mem insN ha
    omega)
  have hl1 : phis.length ≤ 1048576 := by omega
  have hl2 : ins.length ≤ 1048576 := by omega
  have hl3 : next.length ≤ 1048576 := by omega
  clear hl hl0
  obtain ⟨A0, p0, hf, _, _⟩ := h0.form
  change _ = Value.slice A0 phis.length p0 at hf
  subst hf
  obtain ⟨A1, p1, hf, _, _⟩ := h1.form
  change _ = Value.slice A1 ins.length p1 at hf
  subst hf
  obtain ⟨A4, p4, hf, _, _⟩ := h4.form
  change _ = Value.slice A4 next.length p4 at hf
  subst hf
  have hb2 : Below w.heap.size w ((w.alloc (.cells #[.slice A0 phis.length p0, .slice A1 ins.length p1, .int .i64 jump, .int .i64 on, .slice A4 next.length p4] 65)).alloc (.cells #[.slice none 0 0, .slice none 0 0, .int .i64 0, .int .i64 0, .slice none 0 0] 65)) := ((Below.refl _ _).alloc (Nat.le_refl _) _).alloc (by simp) _
  have R2 : Row ((w.alloc (.cells #[.slice A0 phis.length p0, .slice A1 ins.length p1, .int .i64 jump, .int .i64 on, .slice A4 next.length p4] 65)).alloc (.cells #[.slice none 0 0, .slice none 0 0, .int .i64 0, .int .i64 0, .slice none 0 0] 65)) w.heap.size 65 #[.slice A0 phis.length p0, .slice A1 ins.length p1, .int .i64 jump, .int .i64 on, .slice A4 next.length p4] := (Row.new w _ _).alloc _
  have S2 : Row ((w.alloc (.cells #[.slice A0 phis.length p0, .slice A1 ins.length p1, .int .i64 jump, .int .i64 on, .slice A4 next.length p4] 65)).alloc (.cells #[.slice none 0 0, .slice none 0 0, .int .i64 0, .int .i64 0, .slice none 0 0] 65)) (w.heap.size + 1) 65 #[.slice none 0 0, .slice none 0 0, .int .i64 0, .int .i64 0, .slice none 0 0] := by simpa using Row.new (w.alloc (.cells #[.slice A0 phis.length p0, .slice A1 ins.length p1, .int .i64 jump, .int .i64 on, .slice A4 next.length p4] 65)) 65 #[.slice none 0 0, .slice none 0 0, .int .i64 0, .int .i64 0, .slice none 0 0]
  have z2 : w.heap.size + 2 = (((w.alloc (.cells #[.slice A0 phis.length p0, .slice A1 ins.length p1, .int .i64 jump, .int .i64 on, .slice A4 next.length p4] 65)).alloc (.cells #[.slice none 0 0, .slice none 0 0, .int .i64 0, .int .i64 0, .slice none 0 0] 65))).heap.size := by simp
  have k0 := h0.below hb2 hB
  go_enter Try.func71, Try.ntmps71
  go_wp2_with fail
  refine (impl_mapped_Phi 100 #[] id phis (.slice A0 phis.length p0) _ lo B (Nat.le_trans hB hb2.size) hl1 k0 (fun args w => by kernel_rfl) (fun tg args v1 w' hb' g0 g1 hmem => by simpa using impl_clonePhi tg args v1 w' lo B (Nat.le_trans hB (hb2.trans (hb'.mono hb2.size)).size) (hlp.out _ hmem) g0 g1)).mono ?_
  rintro e w3 ⟨v', f0, rfl, hs0, hnd0, hfr0, b3⟩
  rw [List.map_id] at hs0
  obtain ⟨B0, q0, hf, _, _⟩ := hs0.form
  subst hf
  replace hnd0 := Lib.hid hnd0
  replace hfr0 : Hid (∀ x ∈ f0, w.heap.size + 2 ≤ x) := Lib.hid (fun x hx => by have := hfr0 x hx; omega)
  have hb3 : Below w.heap.size w w3 := hb2.trans (b3.mono hb2.size)
  have z3 : w.heap.size + 2 ≤ w3.heap.size := by have := b3.size; omega
  have R3 := R2.below b3 R2.lt
  have S3 := S2.below b3 S2.lt
  clear R2 S2 b3
  have r0 : w3.cell? ⟨w.heap.size, 0, none⟩ = some (.slice A0 phis.length p0) := R3.cell 0
  have rf0 : w3.frozen? ⟨w.heap.size, 0, none⟩ = false := R3.frozen 0
  have r1 : w3.cell? ⟨w.heap.size, 1, none⟩ = some (.slice A1 ins.length p1) := R3.cell 1
  go_wp2_with fail
  obtain ⟨w4, e4⟩ : ∃ w4, w3.setCell ⟨w.heap.size, 0, none⟩ (.slice B0 phis.length q0) = w4 := ⟨_, rfl⟩
  have n4 : Near w.heap.size 2 w3 w4 := by rw [← e4]; exact (Near.refl _ _ _).set (p := ⟨w.heap.size, 0, none⟩) (Nat.le_refl _) (by show w.heap.size < w.heap.size + 2; omega) _
  have R4 : Row w4 w.heap.size 65 #[.slice B0 phis.length q0, .slice A1 ins.length p1, .int .i64 jump, .int .i64 on, .slice A4 next.length p4] := by rw [← e4]; simpa using R3.set_ 0 (.slice B0 phis.length q0)
  have S4 : Row w4 (w.heap.size + 1) 65 #[.slice none 0 0, .slice none 0 0, .int .i64 0, .int .i64 0, .slice none 0 0] := by rw [← e4]; exact S3.far (by show w.heap.size + 1 ≠ w.heap.size; omega) _
  have hs04 := hs0.near n4 hfr0.out
  have hb4 : Below w.heap.size w w4 := hb3.trans n4.1
  have z4 : w.heap.size + 2 ≤ w4.heap.size := by have := n4.1.size; omega
  have k1 := h1.below hb4 hB
  rw [e4]
  clear r0 rf0 r1 e4 hs0 n4 R3 S3
  refine (impl_mapped_Ins 102 #[] id ins (.slice A1 ins.length p1) w4 lo B (Nat.le_trans hB hb4.size) hl2 k1 (fun args w => by kernel_rfl) (fun op tg args v2 n w' hb' g0 g1 g2 g3 hmem => by simpa using impl_cloneIns op tg args v2 n w' lo B (Nat.le_trans hB (hb4.trans (hb'.mono hb4.size)).size) (hli.out _ hmem) g0 g1 g2 g3)).mono ?_
  rintro e w5 ⟨v', f1, rfl, hs1, hnd1, hfr1, b5⟩
  rw [List.map_id] at hs1
  obtain ⟨B1, q1, hf, _, _⟩ := hs1.form
  subst hf
  replace hnd1 := Lib.hid hnd1
  have hd01 : Hid (∀ a ∈ f0, ∀ b ∈ f1, a ≠ b) := Lib.hid (fun a ha b hb e => by have := hs04.lt a ha; have := hfr1 b hb; omega)
  replace hfr1 : Hid (∀ x ∈ f1, w.heap.size + 2 ≤ x) := Lib.hid (fun x hx => by have := hfr1 x hx; omega)
  have hb5 : Below w.heap.size w w5 := hb4.trans (b5.mono hb4.size)
  have z5 : w.heap.size + 2 ≤ w5.heap.size := by have := b5.size; omega
  have R5 := R4.below b5 R4.lt
  have S5 := S4.below b5 S4.lt
  have hs05 := hs04.belo b5 (Nat.le_refl _)
  clear R4 S4 b5 hs04
  have r1 : w5.cell? ⟨w.heap.size, 1, none⟩ = some (.slice A1 ins.length p1) := R5.cell 1
  have rf1 : w5.frozen? ⟨w.heap.size, 1, none⟩ = false := R5.frozen 1
  have r4 : w5.cell? ⟨w.heap.size, 4, none⟩ = some (.slice A4 next.length p4) := R5.cell 4
  go_wp2_with fail
  obtain ⟨w6, e6⟩ : ∃ w6, w5.setCell ⟨w.heap.size, 1, none⟩ (.slice B1 ins.length q1) = w6 := ⟨_, rfl⟩
  have n6 : Near w.heap.size 2 w5 w6 := by rw [← e6]; exact (Near.refl _ _ _).set (p := ⟨w.heap.size, 1, none⟩) (Nat.le_refl _) (by show w.heap.size < w.heap.size + 2; omega) _
  have R6 : Row w6 w.heap.size 65 #[.slice B0 phis.length q0, .slice B1 ins.length q1, .int .i64 jump, .int .i64 on, .slice A4 next.length p4] := by rw [← e6]; simpa using R5.set_ 1 (.slice B1 ins.length q1)
  have S6 : Row w6 (w.heap.size + 1) 65 #[.slice none 0 0, .slice none 0 0, .int .i64 0, .int .i64 0, .slice none 0 0] := by rw [← e6]; exact S5.far (by show w.heap.size + 1 ≠ w.heap.size; omega) _
  have hs06 := hs05.near n6 hfr0.out
  have hs16 := hs1.near n6 hfr1.out
  have hb6 : Below w.heap.size w w6 := hb5.trans n6.1
  have z6 : w.heap.size + 2 ≤ w6.heap.size := by have := n6.1.size; omega
  have k4 := h4.below hb6 hB
  rw [e6]
  clear r1 rf1 r4 e6 hs05 hs1 n6 R5 S5
  refine (clone_ints next (.slice A4 next.length p4) w6 lo B hl3 k4).mono ?_
  rintro e w7 ⟨v', f4, rfl, hs4, hnd4, hfr4, b7⟩
  obtain ⟨B4, q4, hf, _, _⟩ := hs4.form
  subst hf
  have hd04 : Hid (∀ a ∈ f0, ∀ b ∈ f4, a ≠ b) := Lib.hid (fun a ha b hb e => by have := hs06.lt a ha; have := hfr4 b hb; omega)
  have hd14 : Hid (∀ a ∈ f1, ∀ b ∈ f4, a ≠ b) := Lib.hid (fun a ha b hb e => by have := hs16.lt a ha; have := hfr4 b hb; omega)
  have hb7 : Below w.heap.size w w7 := hb6.trans (b7.mono hb6.size)
  have R7 := R6.below b7 R6.lt
  have S7 := S6.below b7 S6.lt
  have hs07 := hs06.belo b7 (Nat.le_refl _)
  have hs17 := hs16.belo b7 (Nat.le_refl _)
  have F := Lib.hid (fun (w8 : World) (n8 : Near w.heap.size 2 w7 w8) => ToF.fin (k := 2) (show bkF.rep w7 (f0 ++ (f1 ++ f4)) (⟨phis, ins, jump, on, next⟩ : BlkD) [.slice B0 phis.length q0, .slice B1 ins.length q1, .int .i64 jump, .int .i64 on, .slice B4 next.length q4] from ⟨f0, f1, f4, _, _, _, rfl, rfl, h2, h3, hs07, hs17, hs4⟩) (by
      rw [List.nodup_append, List.nodup_append]
      refine ⟨hnd0.out, ⟨hnd1.out, hnd4, hd14.out⟩, fun a ha b hb => ?_⟩
      rcases List.mem_append.1 hb with hb | hb
      · exact hd01.out a ha b hb
      · exact hd04.out a ha b hb) (fun x hx => by
      rcases List.mem_append.1 hx with hx | hx
      · exact hfr0.out x hx
      · rcases List.mem_append.1 hx with hx | hx
        · exact hfr1.out x hx
        · have := hfr4 x hx
          omega) hb7 n8)
  clear hs07 hs17 hs4 hs06 hs16 hd01 hd04 hd14 hnd0 hnd1 hnd4 hfr4
  have r0 : w7.cell? ⟨w.heap.size, 0, none⟩ = some (.slice B0 phis.length q0) := R7.cell 0
  have rf0 : w7.frozen? ⟨w.heap.size, 0, none⟩ = false := R7.frozen 0
  have r1 : w7.cell? ⟨w.heap.size, 1, none⟩ = some (.slice B1 ins.length q1) := R7.cell 1
  have rf1 : w7.frozen? ⟨w.heap.size, 1, none⟩ = false := R7.frozen 1
  have r2 : w7.cell? ⟨w.heap.size, 2, none⟩ = some (.int .i64 jump) := R7.cell 2
  have rf2 : w7.frozen? ⟨w.heap.size, 2, none⟩ = false := R7.frozen 2
  have r3 : w7.cell? ⟨w.heap.size, 3, none⟩ = some (.int .i64 on) := R7.cell 3
  have rf3 : w7.frozen? ⟨w.heap.size, 3, none⟩ = false := R7.frozen 3
  have r4 : w7.cell? ⟨w.heap.size, 4, none⟩ = some (.slice A4 next.length p4) := R7.cell 4
  have rf4 : w7.frozen? ⟨w.heap.size, 4, none⟩ = false := R7.frozen 4
  have s0 : w7.cell? ⟨w.heap.size + 1, 0, none⟩ = some (.slice none 0 0) := S7.cell 0
  have sf0 : w7.frozen? ⟨w.heap.size + 1, 0, none⟩ = false := S7.frozen 0
  have s1 : w7.cell? ⟨w.heap.size + 1, 1, none⟩ = some (.slice none 0 0) := S7.cell 1
  have sf1 : w7.frozen? ⟨w.heap.size + 1, 1, none⟩ = false := S7.frozen 1
  have s2 : w7.cell? ⟨w.heap.size + 1, 2, none⟩ = some (.int .i64 0) := S7.cell 2
  have sf2 : w7.frozen? ⟨w.heap.size + 1, 2, none⟩ = false := S7.frozen 2
  have s3 : w7.cell? ⟨w.heap.size + 1, 3, none⟩ = some (.int .i64 0) := S7.cell 3
  have sf3 : w7.frozen? ⟨w.heap.size + 1, 3, none⟩ = false := S7.frozen 3
  have s4 : w7.cell? ⟨w.heap.size + 1, 4, none⟩ = some (.slice none 0 0) := S7.cell 4
  have sf4 : w7.frozen? ⟨w.heap.size + 1, 4, none⟩ = false := S7.frozen 4
  go_wp2_with fail
  refine bodyPost_ret (v := .agg #[.slice B0 phis.length q0, .slice B1 ins.length q1, .int .i64 jump, .int .i64 on, .slice B4 next.length q4]) (by simp [results, Try.results71, go_sem, s0, s1, s2, s3, s4]) rfl (F.out _ (by repeat' (first | exact Near.refl _ _ _ | refine Near.set ?_ (by show w.heap.size ≤ _; simp) (by show _ < w.heap.size + 2; simp) _)))
set_option maxRecDepth 100000 in
set_option maxHeartbeats 4000000 in
theorem impl_cloneCode (params regs : Int) (blocks : List BlkD) (v2 : Value) (w : World) (lo B : Nat) (hB : B ≤ w.heap.size) (hl : codeN ⟨params, regs, blocks⟩ ≤ 1048576) (h0 : I64 params) (h1 : I64 regs) (h2 : Sl false (blkS false) w lo B blocks v2) :
    Calls Try.prog 41 #[.agg #[.int .i64 params, .int .i64 regs, v2]] w (ToF cdF ⟨params, regs, blocks⟩ w) := by
  have hl0 : blocks.length + sumBy blkN blocks ≤ 1048576 := hl
  have hlb : Hid (∀ a ∈ blocks, blkN a ≤ 1048576) := Lib.hid (fun a ha => by
    have := sumBy_mem blkN ha
    omega)
  have hl1 : blocks.length ≤ 1048576 := by omega
  clear hl hl0
  obtain ⟨A, p, hf, _, _⟩ := h2.form
  change _ = Value.slice A blocks.length p at hf
  subst hf
  have hb2 : Below w.heap.size w ((w.alloc (.cells #[.int .i64 params, .int .i64 regs, .slice A blocks.length p] 39)).alloc (.cells #[.int .i64 0, .int .i64 0, .slice none 0 0] 39)) := ((Below.refl _ _).alloc (Nat.le_refl _) _).alloc (by simp) _
  have R2 : Row ((w.alloc (.cells #[.int .i64 params, .int .i64 regs, .slice A blocks.length p] 39)).alloc (.cells #[.int .i64 0, .int .i64 0, .slice none 0 0] 39)) w.heap.size 39 #[.int .i64 params, .int .i64 regs, .slice A blocks.length p] := (Row.new w _ _).alloc _
  have S2 : Row ((w.alloc (.cells #[.int .i64 params, .int .i64 regs, .slice A blocks.length p] 39)).alloc (.cells #[.int .i64 0, .int .i64 0, .slice none 0 0] 39)) (w.heap.size + 1) 39 #[.int .i64 0, .int .i64 0, .slice none 0 0] := by simpa using Row.new (w.alloc (.cells #[.int .i64 params, .int .i64 regs, .slice A blocks.length p] 39)) 39 #[.int .i64 0, .int .i64 0, .slice none 0 0]
  have z2 : w.heap.size + 2 = (((w.alloc (.cells #[.int .i64 params, .int .i64 regs, .slice A blocks.length p] 39)).alloc (.cells #[.int .i64 0, .int .i64 0, .slice none 0 0] 39))).heap.size := by simp
  have k0 := h2.below hb2 hB
  go_enter Try.func41, Try.ntmps41
  go_wp2_with fail
  refine (impl_mapped_Block 71 #[] id blocks (.slice A blocks.length p) _ lo B (Nat.le_trans hB hb2.size) hl1 k0 (fun args w => by kernel_rfl) (fun phis v0 ins v1 jump on next v4 w' hb' g0 g1 g2 g3 g4 hmem => by simpa using impl_cloneBlock phis v0 ins v1 jump on next v4 w' lo B (Nat.le_trans hB (hb2.trans (hb'.mono hb2.size)).size) (hlb.out _ hmem) g0 g1 g2 g3 g4)).mono ?_
  rintro e w3 ⟨v', f, rfl, hs, hnd, hfr, b3⟩
  rw [List.map_id] at hs
  obtain ⟨A', p', hf, _, _⟩ := hs.form
  subst hf
  have hb3 : Below w.heap.size w w3 := hb2.trans (b3.mono hb2.size)
  have R3 := R2.below b3 R2.lt
  have S3 := S2.below b3 S2.lt
  have r0 : w3.cell? ⟨w.heap.size, 0, none⟩ = some (.int .i64 params) := R3.cell 0
  have rf0 : w3.frozen? ⟨w.heap.size, 0, none⟩ = false := R3.frozen 0
  have r1 : w3.cell? ⟨w.heap.size, 1, none⟩ = some (.int .i64 regs) := R3.cell 1
  have rf1 : w3.frozen? ⟨w.heap.size, 1, none⟩ = false := R3.frozen 1
  have r2 : w3.cell? ⟨w.heap.size, 2, none⟩ = some (.slice A blocks.length p) := R3.cell 2
  have rf2 : w3.frozen? ⟨w.heap.size, 2, none⟩ = false := R3.frozen 2
  have s0 : w3.cell? ⟨w.heap.size + 1, 0, none⟩ = some (.int .i64 0) := S3.cell 0
  have sf0 : w3.frozen? ⟨w.heap.size + 1, 0, none⟩ = false := S3.frozen 0
  have s1 : w3.cell? ⟨w.heap.size + 1, 1, none⟩ = some (.int .i64 0) := S3.cell 1
  have sf1 : w3.frozen? ⟨w.heap.size + 1, 1, none⟩ = false := S3.frozen 1
  have s2 : w3.cell? ⟨w.heap.size + 1, 2, none⟩ = some (.slice none 0 0) := S3.cell 2
  have sf2 : w3.frozen? ⟨w.heap.size + 1, 2, none⟩ = false := S3.frozen 2
  go_wp2_with fail
  refine bodyPost_ret (v := .agg #[.int .i64 params, .int .i64 regs, .slice A' blocks.length p']) (by simp [results, Try.results41, go_sem, s0, s1, s2]) rfl (ToF.fin (k := 2) (show cdF.rep w3 f (⟨params, regs, blocks⟩ : CodeD) [.int .i64 params, .int .i64 regs, .slice A' blocks.length p'] from ⟨_, rfl, h0, h1, hs⟩) hnd (fun x hx => by have := hfr x hx; omega) hb3 (by repeat' (first | exact Near.refl _ _ _ | refine Near.set ?_ (by show w.heap.size ≤ _; simp) (by show _ < w.heap.size + 2; simp) _)))
end Go.Proofs.Ytgcjccoglcgcoaa
