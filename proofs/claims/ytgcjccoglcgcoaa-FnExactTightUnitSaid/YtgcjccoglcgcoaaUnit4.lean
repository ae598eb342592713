/-
  impl.insOk. Condition: the codes read as data, the code's place is one of them, its registers are at most 300.
-/
import Derived.Test.YtgcjccoglcgcoaaRegT
import Derived.Test.YtgcjccoglcgcoaaUnitB
import Derived.Deep.QuietTactic
import Derived.BigQuiet
import Derived.IntWalk
import Derived.Laws.EntriesVeiled
namespace Go.Proofs.Ytgcjccoglcgcoaa
open Go.RowKit Go.ChangeShapes Go.WideShapes Go.Deep
set_option linter.unusedVariables false
set_option linter.unusedSimpArgs false
theorem insB_op {us : List CodeD} {regs : Int} {k : Nat} {op to n : Int} {args : List Int} (h : inB op 1 14 = false) : insB us regs k ⟨op, to, args, n⟩ = false := by simp only [insB, h, Bool.false_and]
theorem insB_args {us : List CodeD} {regs : Int} {k : Nat} {op to n : Int} {args : List Int} (h : args.all (regB regs) = false) : insB us regs k ⟨op, to, args, n⟩ = false := by simp only [insB, h, Bool.false_and, Bool.and_false]
/-- what is asked of the register that is set -/
def toB (regs op to : Int) : Bool := if setsB op = true then regB regs to else decide (to = -1)
theorem insB_to {us : List CodeD} {regs : Int} {k : Nat} {op to n : Int} {args : List Int} (h : toB regs op to = false) : insB us regs k ⟨op, to, args, n⟩ = false := by
  unfold toB at h
  simp only [insB, h, Bool.false_and, Bool.and_false]
theorem insB_rest {us : List CodeD} {regs : Int} {k : Nat} {op to n : Int} {args : List Int} (h : inB op 1 14 = true) (ha : args.all (regB regs) = true) (ht : toB regs op to = true) : insB us regs k ⟨op, to, args, n⟩ = if op = 1 then decide ((args.length : Int) = 0) && inB n 0 255 else if op = 14 then inB n 0 ((k : Int) - 1) && decide ((args.length : Int) = parOf us n) else decide (n = 0) && decide ((args.length : Int) = argsN op) := by
  unfold toB at ht
  simp only [insB, h, ha, ht, Bool.true_and]
theorem any_notall (regs : Int) (l : List Int) : l.any (fun r => !regB regs r) = !l.all (regB regs) := by simp [List.all_eq_not_any_not]
theorem parOf_at {us : List CodeD} {m : Nat} (h : m < us.length) {c : CodeD} (hc : us[m] = c) : parOf us (m : Int) = c.params := by
  unfold parOf
  rw [Int.toNat_natCast, List.getElem?_eq_getElem h, hc]
theorem cell_two {w : World} {o1 o2 : Obj} {p : Addr} {v : Value} (h : w.cell? p = some v) (hp : p.block < w.heap.size) : ((w.alloc o1).alloc o2).cell? p = some v :=
  (World.cell?_of_block (Below.heap_alloc _ _ _ (by simp; omega))).trans ((World.cell?_of_block (Below.heap_alloc _ _ _ hp)).trans h)
theorem boxes4 (w : World) (c0 c1 c2 c3 : Array Value) (t0 t1 t2 t3 : TypeId) : Row ((((w.alloc (.cells c0 t0)).alloc (.cells c1 t1)).alloc (.cells c2 t2)).alloc (.cells c3 t3)) w.heap.size t0 c0 ∧
    Row ((((w.alloc (.cells c0 t0)).alloc (.cells c1 t1)).alloc (.cells c2 t2)).alloc (.cells c3 t3)) (w.heap.size + 1) t1 c1 ∧
    Row ((((w.alloc (.cells c0 t0)).alloc (.cells c1 t1)).alloc (.cells c2 t2)).alloc (.cells c3 t3)) (w.heap.size + 1 + 1) t2 c2 ∧
    Row ((((w.alloc (.cells c0 t0)).alloc (.cells c1 t1)).alloc (.cells c2 t2)).alloc (.cells c3 t3)) (w.heap.size + 1 + 1 + 1) t3 c3 ∧
    Below w.heap.size w ((((w.alloc (.cells c0 t0)).alloc (.cells c1 t1)).alloc (.cells c2 t2)).alloc (.cells c3 t3)) ∧
    ((((w.alloc (.cells c0 t0)).alloc (.cells c1 t1)).alloc (.cells c2 t2)).alloc (.cells c3 t3)).heap.size = w.heap.size + 1 + 1 + 1 + 1 := by
  have e1 : (w.alloc (.cells c0 t0)).heap.size = w.heap.size + 1 := by simp
  have e2 : ((w.alloc (.cells c0 t0)).alloc (.cells c1 t1)).heap.size = w.heap.size + 1 + 1 := by simp
  have e3 : (((w.alloc (.cells c0 t0)).alloc (.cells c1 t1)).alloc (.cells c2 t2)).heap.size = w.heap.size + 1 + 1 + 1 := by simp
  have n1 := Row.new (w.alloc (.cells c0 t0)) t1 c1
  have n2 := Row.new ((w.alloc (.cells c0 t0)).alloc (.cells c1 t1)) t2 c2
  have n3 := Row.new (((w.alloc (.cells c0 t0)).alloc (.cells c1 t1)).alloc (.cells c2 t2)) t3 c3
  rw [e1] at n1
  rw [e2] at n2
  rw [e3] at n3
  exact ⟨(((Row.new w t0 c0).alloc _).alloc _).alloc _, (n1.alloc _).alloc _, n2.alloc _, n3, ((((Below.refl _ _).alloc (Nat.le_refl _) _).alloc (by simp) _).alloc (by simp; omega) _).alloc (by simp; omega) _, by simp⟩
theorem reg_1w (f : Nat) (hf : f = 89) (r params regs : Int) (vb : Value) (gc : Nat) (w : World) (hr : 0 ≤ regs ∧ regs ≤ 300) (hc : w.cell? ⟨gc, 1, none⟩ = some (.int .i64 regs)) :
    Calls Try.prog f #[.int .i64 r, .pointer (some ⟨gc, 0, none⟩)] w (RetW (.bool (regB regs r)) w) := by
  subst hf
  go_enter Try.func89, Try.ntmps89
  go_wp2_with fail
  refine (impl_within r 0 _ _).mono ?_
  rintro e w1 ⟨rfl, rfl⟩
  go_wp2_with fail
  go_ret
  exact ⟨rfl, rfl⟩
set_option maxRecDepth 100000 in
set_option maxHeartbeats 2000000 in
theorem impl_insOk (us : List CodeD) (v0 : Value) (k : Nat) (op to n : Int) (args : List Int) (va : Value) (params regs : Int) (blocks : List BlkD) (w : World) (lo B : Nat) (hB : B ≤ w.heap.size) (hN : us.length ≤ 1048576) (hu : Sl false (codeS false) w lo B us v0) (ha : Sl false (intS false) w lo B args va)
    (hk : k < us.length) (hL : us[k] = ⟨params, regs, blocks⟩) (hr : 0 ≤ regs ∧ regs ≤ 300) :
    Calls Try.prog 61 #[.agg #[v0], .int .i64 k, .agg #[.int .i64 op, .int .i64 to, va, .int .i64 n]] w (RetV (.bool (insB us regs k ⟨op, to, args, n⟩)) w) := by
  obtain ⟨A, cap, rfl, hlc, hcm⟩ := hu.form
  obtain ⟨Aa, pa, hf, hla, hma⟩ := ha.form
  change _ = Value.slice Aa args.length pa at hf
  subst hf
  obtain ⟨b, o, params', regs', blocks', u2, rfl, _, hbB, HL, g0, g1, g2, c0, c1, c2⟩ := code_get hu hk
  have e := HL.out
  rw [hL] at e
  injection e with e1 e2 e3
  subst e1
  subst e2
  subst e3
  clear hL
  obtain ⟨A2, p2, hf, _, _⟩ := g2.form
  change _ = Value.slice A2 blocks.length p2 at hf
  subst hf
  have hkn : (k : Int) < (us.length : Int) := by omega
  have hki : (0 : Int) ≤ (k : Int) := by omega
  have hbw : b < w.heap.size := by omega
  have d0 := cell_two (o1 := .cells #[.slice (some ⟨b, o, none⟩) us.length cap] 28) (o2 := .cells #[.int .i64 op, .int .i64 to, .slice Aa args.length pa, .int .i64 n] 72) c0 hbw
  have d1 := cell_two (o1 := .cells #[.slice (some ⟨b, o, none⟩) us.length cap] 28) (o2 := .cells #[.int .i64 op, .int .i64 to, .slice Aa args.length pa, .int .i64 n] 72) c1 hbw
  have d2 := cell_two (o1 := .cells #[.slice (some ⟨b, o, none⟩) us.length cap] 28) (o2 := .cells #[.int .i64 op, .int .i64 to, .slice Aa args.length pa, .int .i64 n] 72) c2 hbw
  go_enter Try.func61, Try.ntmps61
  go_wp2_with fail
  obtain ⟨R0, R1, R2, R3, hb, hsz⟩ := boxes4 w #[.slice (some ⟨b, o, none⟩) us.length cap] #[.int .i64 op, .int .i64 to, .slice Aa args.length pa, .int .i64 n] #[.int .i64 params, .int .i64 regs, .slice A2 blocks.length p2] #[.func (.func 89) #[] #[.pointer (some ⟨w.heap.size + 1 + 1, 0, none⟩)]] 28 72 39 70
  generalize hW : (((w.alloc (.cells #[.slice (some ⟨b, o, none⟩) us.length cap] 28)).alloc (.cells #[.int .i64 op, .int .i64 to, .slice Aa args.length pa, .int .i64 n] 72)).alloc (.cells #[.int .i64 params, .int .i64 regs, .slice A2 blocks.length p2] 39)).alloc (.cells #[.func (.func 89) #[] #[.pointer (some ⟨w.heap.size + 1 + 1, 0, none⟩)]] 70) = wk at R0 R1 R2 R3 hb hsz ⊢
  clear hW d0 d1 d2
  have x0 : wk.cell? ⟨w.heap.size + 1, 0, none⟩ = some (.int .i64 op) := R1.cell 0
  have x2 : wk.cell? ⟨w.heap.size + 1, 2, none⟩ = some (.slice Aa args.length pa) := R1.cell 2
  have f0 : wk.cell? ⟨w.heap.size + 1 + 1 + 1, 0, none⟩ = some (.func (.func 89) #[] #[.pointer (some ⟨w.heap.size + 1 + 1, 0, none⟩)]) := R3.cell 0
  have hr1 : (w.heap.size + 1 + 1 + 1) < wk.heap.size := R3.lt
  refine (impl_isIns op _).mono ?_
  rintro e w' ⟨rfl, rfl⟩
  cases hi : inB op 1 14
  · have E : Hid (insB us regs k ⟨op, to, args, n⟩ = false) := insB_op hi
    clear hi
    go_wp2_with fail
    go_ret
    exact RetV.mk (by rw [E.out] <;> rfl) rfl hb
  replace hi := Lib.hid hi
  go_wp2_with fail
  refine (ints_ContainsFunc_ins (w.heap.size + 1 + 1 + 1) (fun r => !regB regs r) args _ wk lo B (Nat.le_trans hB hb.size) (ha.below hb hB) (fun wr a hbr _ => noreg_2 91 89 (Or.inl ⟨rfl, rfl⟩) a params regs (.bool false) (w.heap.size + 1 + 1) (w.heap.size + 1 + 1 + 1) wr hr ((R2.below hbr R2.lt).cell 1) ((R3.below hbr R3.lt).cell 0))).mono ?_
  rintro e w1 ⟨rfl, b1⟩
  have hb1 := hb.trans (b1.mono hb.size)
  have hs1 := b1.size
  have y0 : w1.cell? ⟨w.heap.size + 1, 0, none⟩ = some (.int .i64 op) := (R1.below b1 R1.lt).cell 0
  have y1 : w1.cell? ⟨w.heap.size + 1, 1, none⟩ = some (.int .i64 to) := (R1.below b1 R1.lt).cell 1
  have y2 : w1.cell? ⟨w.heap.size + 1, 2, none⟩ = some (.slice Aa args.length pa) := (R1.below b1 R1.lt).cell 2
  have y3 : w1.cell? ⟨w.heap.size + 1, 3, none⟩ = some (.int .i64 n) := (R1.below b1 R1.lt).cell 3
  have yu : w1.cell? ⟨w.heap.size, 0, none⟩ = some (.slice (some ⟨b, o, none⟩) us.length cap) := (R0.below b1 R0.lt).cell 0
  have yf : w1.cell? ⟨w.heap.size + 1 + 1 + 1, 0, none⟩ = some (.func (.func 89) #[] #[.pointer (some ⟨w.heap.size + 1 + 1, 0, none⟩)]) := (R3.below b1 R3.lt).cell 0
  have yc : w1.cell? ⟨w.heap.size + 1 + 1, 1, none⟩ = some (.int .i64 regs) := (R2.below b1 R2.lt).cell 1
  have hu1 := hu.below hb1 hB
  clear x0 x2 f0
  rw [any_notall]
  cases hA : args.all (regB regs)
  · have E : Hid (insB us regs k ⟨op, to, args, n⟩ = false) := insB_args hA
    clear hA
    go_wp2_with fail
    go_ret
    exact RetV.mk (by rw [E.out] <;> rfl) rfl hb1
  replace hA := Lib.hid hA
  go_wp2_with fail
  refine (impl_sets op _).mono ?_
  rintro e w' ⟨rfl, rfl⟩
  obtain ⟨T, hT⟩ : ∃ T, T = toB regs op to := ⟨_, rfl⟩
  have step : T = false → insB us regs k ⟨op, to, args, n⟩ = false := fun h => insB_to (hT.symm.trans h)
  have go : T = true → insB us regs k ⟨op, to, args, n⟩ = if op = 1 then decide ((args.length : Int) = 0) && inB n 0 255 else if op = 14 then inB n 0 ((k : Int) - 1) && decide ((args.length : Int) = parOf us n) else decide (n = 0) && decide ((args.length : Int) = argsN op) := fun h => insB_rest hi.out hA.out (hT.symm.trans h)
  cases hs : setsB op
  · by_cases ht : to = -1
    · have eT : T = true := by rw [hT]; unfold toB; rw [hs]; simp [ht]
      have E := Lib.hid (go eT)
      subst ht
      clear step go hT eT
      have hs := Lib.hid hs
      go_wp2_with fail
      refine (impl_sets op _).mono ?_
      rintro e w' ⟨rfl, rfl⟩
      rw [hs.out]
      replace E := E.out
      have h1 : op ≠ 1 := fun h => by subst h; exact absurd hs.out (by decide)
      have h14 : op ≠ 14 := fun h => by subst h; exact absurd hs.out (by decide)
      have e1 : (op == 1) = false := by simpa using h1
      rw [if_neg h1] at E
      have e14 : (op == 14) = false := by simpa using h14
      rw [if_neg h14] at E
      by_cases hn : n = 0
      · rw [decide_eq_true hn, Bool.true_and] at E
        subst hn
        cases hz : decide ((args.length : Int) = argsN op)
        · rw [hz] at E
          have hz' : ((args.length : Int) == argsN op) = false := hz
          replace E := Lib.hid E
          go_wp2_with fail
          refine wp_region_held_drew (S := fun w' => (w'.cell? ⟨w.heap.size + 1, 0, none⟩ = some (.int .i64 op) ∧ w'.cell? ⟨w.heap.size + 1, 2, none⟩ = some (.slice Aa args.length pa) ∧ w'.cell? ⟨w.heap.size + 1, 3, none⟩ = some (.int .i64 0))) (by kernel_rfl) ?_ (fun hHeld => ?_)
          · exact ⟨y0, y2, y3⟩
          refine tk (i := 0) ?_
          try simp only [ap]
          refine tk (i := 1) ?_
          try simp only [ap]
          refine tk (i := 2) ?_
          try simp only [ap]
          refine tk (i := 3) ?_
          try simp only [ap]
          refine tk (i := 4) ?_
          try simp only [ap]
          refine tk (i := 5) ?_
          try simp only [ap]
          refine tk (i := 6) ?_
          try simp only [ap]
          refine tk (i := 7) ?_
          try simp only [ap]
          refine tk (i := 8) ?_
          try simp only [ap]
          refine reg_call (i := 9) (by kernel_rfl) rfl (fun K hK => ?_)
          go_simp
          (go_at_call 93; refine (impl_insArgs op _).mono ?_; rintro e w' ⟨rfl, rfl⟩)
          refine hK.out _ _ ?_ (fun hHeld => ?_)
          · exact ⟨y0, y2, y3⟩
          clear hK K
          try simp only [ap]
          refine tk (i := 10) ?_
          try simp only [ap]
          refine tk (i := 11) ?_
          try simp only [ap]
          refine tk (i := 12) ?_
          try simp only [ap]
          refine wpAnyH_done (by kernel_rfl) ?_ _
          go_wp2_with fail
          go_ret
          exact RetV.mk (by rw [E.out] <;> rfl) rfl (below_drewN hb1 _)
        · rw [hz] at E
          have hz' : ((args.length : Int) == argsN op) = true := hz
          replace E := Lib.hid E
          go_wp2_with fail
          refine wp_region_held_drew (S := fun w' => (w'.cell? ⟨w.heap.size + 1, 0, none⟩ = some (.int .i64 op) ∧ w'.cell? ⟨w.heap.size + 1, 2, none⟩ = some (.slice Aa args.length pa) ∧ w'.cell? ⟨w.heap.size + 1, 3, none⟩ = some (.int .i64 0))) (by kernel_rfl) ?_ (fun hHeld => ?_)
          · exact ⟨y0, y2, y3⟩
          refine tk (i := 0) ?_
          try simp only [ap]
          refine tk (i := 1) ?_
          try simp only [ap]
          refine tk (i := 2) ?_
          try simp only [ap]
          refine tk (i := 3) ?_
          try simp only [ap]
          refine tk (i := 4) ?_
          try simp only [ap]
          refine tk (i := 5) ?_
          try simp only [ap]
          refine tk (i := 6) ?_
          try simp only [ap]
          refine tk (i := 7) ?_
          try simp only [ap]
          refine tk (i := 8) ?_
          try simp only [ap]
          refine reg_call (i := 9) (by kernel_rfl) rfl (fun K hK => ?_)
          go_simp
          (go_at_call 93; refine (impl_insArgs op _).mono ?_; rintro e w' ⟨rfl, rfl⟩)
          refine hK.out _ _ ?_ (fun hHeld => ?_)
          · exact ⟨y0, y2, y3⟩
          clear hK K
          try simp only [ap]
          refine tk (i := 10) ?_
          try simp only [ap]
          refine tk (i := 11) ?_
          try simp only [ap]
          refine tk (i := 12) ?_
          try simp only [ap]
          refine wpAnyH_done (by kernel_rfl) ?_ _
          go_wp2_with fail
          go_ret
          exact RetV.mk (by rw [E.out] <;> rfl) rfl (below_drewN hb1 _)
      · rw [decide_eq_false hn, Bool.false_and] at E
        have n0 : (n == 0) = false := by simpa using hn
        replace E := Lib.hid E
        go_wp2_with fail
        refine wp_region_held_drew (S := fun w' => (w'.cell? ⟨w.heap.size + 1, 3, none⟩ = some (.int .i64 n))) (by kernel_rfl) ?_ (fun hHeld => ?_)
        · exact y3
        refine tk (i := 0) ?_
        try simp only [ap]
        refine tk (i := 1) ?_
        try simp only [ap]
        refine tk (i := 2) ?_
        try simp only [ap]
        refine tk (i := 3) ?_
        try simp only [ap]
        refine reg_take (i := 4) (v := undef) rfl (by kernel_rfl) (by kernel_rfl) (by kernel_rfl) (fun _ _ _ h => h) (Or.inr ⟨by kernel_rfl, rfl⟩) (by assumption) ?_
        try simp only [ap]
        refine reg_take (i := 5) (v := undef) rfl (by kernel_rfl) (by kernel_rfl) (by kernel_rfl) (fun _ _ _ h => h) (Or.inr ⟨by kernel_rfl, rfl⟩) (by assumption) ?_
        try simp only [ap]
        refine reg_take (i := 6) (v := undef) rfl (by kernel_rfl) (by kernel_rfl) (by kernel_rfl) (fun _ _ _ h => h) (Or.inr ⟨by kernel_rfl, rfl⟩) (by assumption) ?_
        try simp only [ap]
        refine reg_take (i := 7) (v := undef) rfl (by kernel_rfl) (by kernel_rfl) (by kernel_rfl) (fun _ _ _ h => h) (Or.inr ⟨by kernel_rfl, rfl⟩) (by assumption) ?_
        try simp only [ap]
        refine reg_take (i := 8) (v := undef) rfl (by kernel_rfl) (by kernel_rfl) (by kernel_rfl) (fun _ _ _ h => h) (Or.inr ⟨by kernel_rfl, rfl⟩) (by assumption) ?_
        try simp only [ap]
        refine reg_take (i := 9) (v := undef) rfl (by kernel_rfl) (by kernel_rfl) (by kernel_rfl) (fun _ _ _ h => h) (Or.inr ⟨by kernel_rfl, rfl⟩) (by assumption) ?_
        try simp only [ap]
        refine reg_take (i := 10) (v := undef) rfl (by kernel_rfl) (by kernel_rfl) (by kernel_rfl) (fun _ _ _ h => h) (Or.inr ⟨by kernel_rfl, rfl⟩) (by assumption) ?_
        try simp only [ap]
        refine tk (i := 11) ?_
        try simp only [ap]
        refine tk (i := 12) ?_
        try simp only [ap]
        refine wpAnyH_done (by kernel_rfl) ?_ _
        go_wp2_with fail
        go_ret
        exact RetV.mk (by rw [E.out] <;> rfl) rfl (below_drewN hb1 _)
    · have eT : T = false := by rw [hT]; unfold toB; rw [hs]; simp [ht]
      have E := Lib.hid (step eT)
      have n1 : (to != -1) = true := by simpa using ht
      clear step go hT eT
      have hs := Lib.hid hs
      go_wp2_with fail
      refine (impl_sets op _).mono ?_
      rintro e w' ⟨rfl, rfl⟩
      rw [hs.out]
      go_wp2_with fail
      go_ret
      exact RetV.mk (by rw [E.out] <;> rfl) rfl hb1
  · cases ht : regB regs to
    · have eT : T = false := by rw [hT]; unfold toB; rw [hs, if_pos rfl, ht]
      have E := Lib.hid (step eT)
      clear step go hT eT hs
      have ht := Lib.hid ht
      go_wp2_with fail
      refine (reg_1w _ rfl to params regs (.bool false) (w.heap.size + 1 + 1) _ hr yc).mono ?_
      rintro e w' ⟨rfl, rfl⟩
      rw [ht.out]
      go_wp2_with fail
      go_ret
      exact RetV.mk (by rw [E.out] <;> rfl) rfl hb1
    · have eT : T = true := by rw [hT]; unfold toB; rw [hs, if_pos rfl, ht]
      have E := Lib.hid (go eT)
      clear step go hT eT
      have hs := Lib.hid hs
      have ht := Lib.hid ht
      go_wp2_with fail
      refine (reg_1w _ rfl to params regs (.bool false) (w.heap.size + 1 + 1) _ hr yc).mono ?_
      rintro e w' ⟨rfl, rfl⟩
      rw [ht.out]
      go_wp2_with fail
      refine (impl_sets op _).mono ?_
      rintro e w' ⟨rfl, rfl⟩
      rw [hs.out]
      replace E := E.out
      by_cases h1 : op = 1
      · subst h1
        rw [if_pos rfl] at E
        cases hz : decide ((args.length : Int) = 0)
        · rw [hz, Bool.false_and] at E
          have hz' : ¬ (args.length : Int) = 0 := of_decide_eq_false hz
          have hz0 : ¬ args.length = 0 := by omega
          have hz1 : ¬ args = [] := fun h => hz0 (by rw [h]; rfl)
          have hz2 : ((args.length : Int) == 0) = false := hz
          have hz3 : (args.length == 0) = false := by simpa using hz1
          replace E := Lib.hid E
          go_wp2_with fail
          go_ret
          exact RetV.mk (by rw [E.out] <;> rfl) rfl hb1
        · rw [hz, Bool.true_and] at E
          have hz' : (args.length : Int) = 0 := of_decide_eq_true hz
          replace E := Lib.hid E
          go_wp2_with fail
          refine (impl_isByte n _).mono ?_
          rintro e w' ⟨rfl, rfl⟩
          go_wp2_with fail
          go_ret
          exact RetV.mk (by rw [E.out] <;> rfl) rfl hb1
      · have e1 : (op == 1) = false := by simpa using h1
        rw [if_neg h1] at E
        by_cases h14 : op = 14
        · subst h14
          rw [if_pos rfl] at E
          have hw : IntKind.i64.wrap ((k : Int) - 1) = (k : Int) - 1 := IntWalk.i64_in _ (by omega)
          cases hn : inB n 0 ((k : Int) - 1)
          · rw [hn, Bool.false_and] at E
            replace E := Lib.hid E
            replace hn := Lib.hid hn
            go_wp2_with fail
            refine wp_region_held_drew (S := fun w' => (w'.cell? ⟨w.heap.size + 1, 3, none⟩ = some (.int .i64 n))) (by kernel_rfl) ?_ (fun hHeld => ?_)
            · exact y3
            refine tk (i := 0) ?_
            try simp only [ap]
            refine tk (i := 1) ?_
            try simp only [ap]
            refine tk (i := 2) ?_
            try simp only [ap]
            refine tk (i := 3) ?_
            try simp only [ap]
            refine reg_call (i := 4) (by kernel_rfl) rfl (fun K hK => ?_)
            go_simp
            (go_at_call 31; refine (impl_within n 0 ((k : Int) - 1) _).mono ?_; rintro e w' ⟨he_, rfl⟩; rw [hn.out] at he_; subst he_)
            refine hK.out _ _ ?_ (fun hHeld => ?_)
            · exact y3
            clear hK K
            try simp only [ap]
            refine tk (i := 5) ?_
            try simp only [ap]
            refine reg_take (i := 6) (v := undef) rfl (by kernel_rfl) (by kernel_rfl) (by kernel_rfl) (fun _ _ _ h => h) (Or.inr ⟨by kernel_rfl, rfl⟩) (by assumption) ?_
            try simp only [ap]
            refine reg_take (i := 7) (v := undef) rfl (by kernel_rfl) (by kernel_rfl) (by kernel_rfl) (fun _ _ _ h => h) (Or.inr ⟨by kernel_rfl, rfl⟩) (by assumption) ?_
            try simp only [ap]
            refine reg_take (i := 8) (v := undef) rfl (by kernel_rfl) (by kernel_rfl) (by kernel_rfl) (fun _ _ _ h => h) (Or.inr ⟨by kernel_rfl, rfl⟩) (by assumption) ?_
            try simp only [ap]
            refine reg_take (i := 9) (v := undef) rfl (by kernel_rfl) (by kernel_rfl) (by kernel_rfl) (fun _ _ _ h => h) (Or.inr ⟨by kernel_rfl, rfl⟩) (by assumption) ?_
            try simp only [ap]
            refine reg_take (i := 10) (v := undef) rfl (by kernel_rfl) (by kernel_rfl) (by kernel_rfl) (fun _ _ _ h => h) (Or.inr ⟨by kernel_rfl, rfl⟩) (by assumption) ?_
            try simp only [ap]
            refine reg_take (i := 11) (v := undef) rfl (by kernel_rfl) (by kernel_rfl) (by kernel_rfl) (fun _ _ _ h => h) (Or.inr ⟨by kernel_rfl, rfl⟩) (by assumption) ?_
            try simp only [ap]
            refine reg_take (i := 12) (v := undef) rfl (by kernel_rfl) (by kernel_rfl) (by kernel_rfl) (fun _ _ _ h => h) (Or.inr ⟨by kernel_rfl, rfl⟩) (by assumption) ?_
            try simp only [ap]
            refine reg_take (i := 13) (v := undef) rfl (by kernel_rfl) (by kernel_rfl) (by kernel_rfl) (fun _ _ _ h => h) (Or.inr ⟨by kernel_rfl, rfl⟩) (by assumption) ?_
            try simp only [ap]
            refine reg_take (i := 14) (v := undef) rfl (by kernel_rfl) (by kernel_rfl) (by kernel_rfl) (fun _ _ _ h => h) (Or.inr ⟨by kernel_rfl, rfl⟩) (by assumption) ?_
            try simp only [ap]
            refine reg_take (i := 15) (v := undef) rfl (by kernel_rfl) (by kernel_rfl) (by kernel_rfl) (fun _ _ _ h => h) (Or.inr ⟨by kernel_rfl, rfl⟩) (by assumption) ?_
            try simp only [ap]
            refine reg_take (i := 16) (v := undef) rfl (by kernel_rfl) (by kernel_rfl) (by kernel_rfl) (fun _ _ _ h => h) (Or.inr ⟨by kernel_rfl, rfl⟩) (by assumption) ?_
            try simp only [ap]
            refine tk (i := 17) ?_
            try simp only [ap]
            refine tk (i := 18) ?_
            try simp only [ap]
            refine wpAnyH_done (by kernel_rfl) ?_ _
            go_wp2_with fail
            go_ret
            exact RetV.mk (by rw [E.out] <;> rfl) rfl (below_drewN hb1 _)
          · rw [hn, Bool.true_and] at E
            have hno := inB_out hn
            obtain ⟨m, rfl⟩ : ∃ m : Nat, n = (m : Int) := Int.eq_ofNat_of_zero_le hno.1
            have hm : m < us.length := by omega
            obtain ⟨b', o', params', regs', blocks', u2', eA, _, _, HL', _, _, _, k0, _, _⟩ := code_get hu1 hm
            injection eA with eA
            injection eA with eb eo
            subst eb
            subst eo
            rw [parOf_at hm HL'.out] at E
            dsimp only at E
            have hmn : (m : Int) < (us.length : Int) := by omega
            have hmi : (0 : Int) ≤ (m : Int) := by omega
            cases hz : decide ((args.length : Int) = params')
            · rw [hz] at E
              have hz' : ((args.length : Int) == params') = false := hz
              replace E := Lib.hid E
              clear hno
              replace hn := Lib.hid hn
              go_wp2_with fail
              refine wp_region_held_drew (S := fun w' => (w'.cell? ⟨w.heap.size + 1, 2, none⟩ = some (.slice Aa args.length pa) ∧ w'.cell? ⟨w.heap.size + 1, 3, none⟩ = some (.int .i64 (m : Int)) ∧ w'.cell? ⟨w.heap.size, 0, none⟩ = some (.slice (some ⟨b, o, none⟩) us.length cap) ∧ w'.cell? ⟨b, o + m * 3, none⟩ = some (.int .i64 params'))) (by kernel_rfl) ?_ (fun hHeld => ?_)
              · exact ⟨y2, y3, yu, k0⟩
              refine tk (i := 0) ?_
              try simp only [ap]
              refine tk (i := 1) ?_
              try simp only [ap]
              refine tk (i := 2) ?_
              try simp only [ap]
              refine tk (i := 3) ?_
              try simp only [ap]
              refine reg_call (i := 4) (by kernel_rfl) rfl (fun K hK => ?_)
              go_simp
              (go_at_call 31; refine (impl_within (m : Int) 0 ((k : Int) - 1) _).mono ?_; rintro e w' ⟨he_, rfl⟩; rw [hn.out] at he_; subst he_)
              refine hK.out _ _ ?_ (fun hHeld => ?_)
              · exact ⟨y2, y3, yu, k0⟩
              clear hK K
              try simp only [ap]
              refine tk (i := 5) ?_
              try simp only [ap]
              refine tk (i := 6) ?_
              try simp only [ap]
              refine tk (i := 7) ?_
              try simp only [ap]
              refine tk (i := 8) ?_
              try simp only [ap]
              refine tk (i := 9) ?_
              try simp only [ap]
              refine tk (i := 10) ?_
              try simp only [ap]
              refine tk (i := 11) ?_
              try simp only [ap]
              refine tk (i := 12) ?_
              try simp only [ap]
              refine tk (i := 13) ?_
              try simp only [ap]
              refine tk (i := 14) ?_
              try simp only [ap]
              refine tk (i := 15) ?_
              try simp only [ap]
              refine tk (i := 16) ?_
              try simp only [ap]
              refine tk (i := 17) ?_
              try simp only [ap]
              refine tk (i := 18) ?_
              try simp only [ap]
              refine wpAnyH_done (by kernel_rfl) ?_ _
              go_wp2_with fail
              go_ret
              exact RetV.mk (by rw [E.out] <;> rfl) rfl (below_drewN hb1 _)
            · rw [hz] at E
              have hz' : ((args.length : Int) == params') = true := hz
              replace E := Lib.hid E
              clear hno
              replace hn := Lib.hid hn
              go_wp2_with fail
              refine wp_region_held_drew (S := fun w' => (w'.cell? ⟨w.heap.size + 1, 2, none⟩ = some (.slice Aa args.length pa) ∧ w'.cell? ⟨w.heap.size + 1, 3, none⟩ = some (.int .i64 (m : Int)) ∧ w'.cell? ⟨w.heap.size, 0, none⟩ = some (.slice (some ⟨b, o, none⟩) us.length cap) ∧ w'.cell? ⟨b, o + m * 3, none⟩ = some (.int .i64 params'))) (by kernel_rfl) ?_ (fun hHeld => ?_)
              · exact ⟨y2, y3, yu, k0⟩
              refine tk (i := 0) ?_
              try simp only [ap]
              refine tk (i := 1) ?_
              try simp only [ap]
              refine tk (i := 2) ?_
              try simp only [ap]
              refine tk (i := 3) ?_
              try simp only [ap]
              refine reg_call (i := 4) (by kernel_rfl) rfl (fun K hK => ?_)
              go_simp
              (go_at_call 31; refine (impl_within (m : Int) 0 ((k : Int) - 1) _).mono ?_; rintro e w' ⟨he_, rfl⟩; rw [hn.out] at he_; subst he_)
              refine hK.out _ _ ?_ (fun hHeld => ?_)
              · exact ⟨y2, y3, yu, k0⟩
              clear hK K
              try simp only [ap]
              refine tk (i := 5) ?_
              try simp only [ap]
              refine tk (i := 6) ?_
              try simp only [ap]
              refine tk (i := 7) ?_
              try simp only [ap]
              refine tk (i := 8) ?_
              try simp only [ap]
              refine tk (i := 9) ?_
              try simp only [ap]
              refine tk (i := 10) ?_
              try simp only [ap]
              refine tk (i := 11) ?_
              try simp only [ap]
              refine tk (i := 12) ?_
              try simp only [ap]
              refine tk (i := 13) ?_
              try simp only [ap]
              refine tk (i := 14) ?_
              try simp only [ap]
              refine tk (i := 15) ?_
              try simp only [ap]
              refine tk (i := 16) ?_
              try simp only [ap]
              refine tk (i := 17) ?_
              try simp only [ap]
              refine tk (i := 18) ?_
              try simp only [ap]
              refine wpAnyH_done (by kernel_rfl) ?_ _
              go_wp2_with fail
              go_ret
              exact RetV.mk (by rw [E.out] <;> rfl) rfl (below_drewN hb1 _)
        · have e14 : (op == 14) = false := by simpa using h14
          rw [if_neg h14] at E
          by_cases hn : n = 0
          · rw [decide_eq_true hn, Bool.true_and] at E
            subst hn
            cases hz : decide ((args.length : Int) = argsN op)
            · rw [hz] at E
              have hz' : ((args.length : Int) == argsN op) = false := hz
              replace E := Lib.hid E
              go_wp2_with fail
              refine wp_region_held_drew (S := fun w' => (w'.cell? ⟨w.heap.size + 1, 0, none⟩ = some (.int .i64 op) ∧ w'.cell? ⟨w.heap.size + 1, 2, none⟩ = some (.slice Aa args.length pa) ∧ w'.cell? ⟨w.heap.size + 1, 3, none⟩ = some (.int .i64 0))) (by kernel_rfl) ?_ (fun hHeld => ?_)
              · exact ⟨y0, y2, y3⟩
              refine tk (i := 0) ?_
              try simp only [ap]
              refine tk (i := 1) ?_
              try simp only [ap]
              refine tk (i := 2) ?_
              try simp only [ap]
              refine tk (i := 3) ?_
              try simp only [ap]
              refine tk (i := 4) ?_
              try simp only [ap]
              refine tk (i := 5) ?_
              try simp only [ap]
              refine tk (i := 6) ?_
              try simp only [ap]
              refine tk (i := 7) ?_
              try simp only [ap]
              refine tk (i := 8) ?_
              try simp only [ap]
              refine reg_call (i := 9) (by kernel_rfl) rfl (fun K hK => ?_)
              go_simp
              (go_at_call 93; refine (impl_insArgs op _).mono ?_; rintro e w' ⟨rfl, rfl⟩)
              refine hK.out _ _ ?_ (fun hHeld => ?_)
              · exact ⟨y0, y2, y3⟩
              clear hK K
              try simp only [ap]
              refine tk (i := 10) ?_
              try simp only [ap]
              refine tk (i := 11) ?_
              try simp only [ap]
              refine tk (i := 12) ?_
              try simp only [ap]
              refine wpAnyH_done (by kernel_rfl) ?_ _
              go_wp2_with fail
              go_ret
              exact RetV.mk (by rw [E.out] <;> rfl) rfl (below_drewN hb1 _)
            · rw [hz] at E
              have hz' : ((args.length : Int) == argsN op) = true := hz
              replace E := Lib.hid E
              go_wp2_with fail
              refine wp_region_held_drew (S := fun w' => (w'.cell? ⟨w.heap.size + 1, 0, none⟩ = some (.int .i64 op) ∧ w'.cell? ⟨w.heap.size + 1, 2, none⟩ = some (.slice Aa args.length pa) ∧ w'.cell? ⟨w.heap.size + 1, 3, none⟩ = some (.int .i64 0))) (by kernel_rfl) ?_ (fun hHeld => ?_)
              · exact ⟨y0, y2, y3⟩
              refine tk (i := 0) ?_
              try simp only [ap]
              refine tk (i := 1) ?_
              try simp only [ap]
              refine tk (i := 2) ?_
              try simp only [ap]
              refine tk (i := 3) ?_
              try simp only [ap]
              refine tk (i := 4) ?_
              try simp only [ap]
              refine tk (i := 5) ?_
              try simp only [ap]
              refine tk (i := 6) ?_
              try simp only [ap]
              refine tk (i := 7) ?_
              try simp only [ap]
              refine tk (i := 8) ?_
              try simp only [ap]
              refine reg_call (i := 9) (by kernel_rfl) rfl (fun K hK => ?_)
              go_simp
              (go_at_call 93; refine (impl_insArgs op _).mono ?_; rintro e w' ⟨rfl, rfl⟩)
              refine hK.out _ _ ?_ (fun hHeld => ?_)
              · exact ⟨y0, y2, y3⟩
              clear hK K
              try simp only [ap]
              refine tk (i := 10) ?_
              try simp only [ap]
              refine tk (i := 11) ?_
              try simp only [ap]
              refine tk (i := 12) ?_
              try simp only [ap]
              refine wpAnyH_done (by kernel_rfl) ?_ _
              go_wp2_with fail
              go_ret
              exact RetV.mk (by rw [E.out] <;> rfl) rfl (below_drewN hb1 _)
          · rw [decide_eq_false hn, Bool.false_and] at E
            have n0 : (n == 0) = false := by simpa using hn
            replace E := Lib.hid E
            go_wp2_with fail
            refine wp_region_held_drew (S := fun w' => (w'.cell? ⟨w.heap.size + 1, 3, none⟩ = some (.int .i64 n))) (by kernel_rfl) ?_ (fun hHeld => ?_)
            · exact y3
            refine tk (i := 0) ?_
            try simp only [ap]
            refine tk (i := 1) ?_
            try simp only [ap]
            refine tk (i := 2) ?_
            try simp only [ap]
            refine tk (i := 3) ?_
            try simp only [ap]
            refine reg_take (i := 4) (v := undef) rfl (by kernel_rfl) (by kernel_rfl) (by kernel_rfl) (fun _ _ _ h => h) (Or.inr ⟨by kernel_rfl, rfl⟩) (by assumption) ?_
            try simp only [ap]
            refine reg_take (i := 5) (v := undef) rfl (by kernel_rfl) (by kernel_rfl) (by kernel_rfl) (fun _ _ _ h => h) (Or.inr ⟨by kernel_rfl, rfl⟩) (by assumption) ?_
            try simp only [ap]
            refine reg_take (i := 6) (v := undef) rfl (by kernel_rfl) (by kernel_rfl) (by kernel_rfl) (fun _ _ _ h => h) (Or.inr ⟨by kernel_rfl, rfl⟩) (by assumption) ?_
            try simp only [ap]
            refine reg_take (i := 7) (v := undef) rfl (by kernel_rfl) (by kernel_rfl) (by kernel_rfl) (fun _ _ _ h => h) (Or.inr ⟨by kernel_rfl, rfl⟩) (by assumption) ?_
            try simp only [ap]
            refine reg_take (i := 8) (v := undef) rfl (by kernel_rfl) (by kernel_rfl) (by kernel_rfl) (fun _ _ _ h => h) (Or.inr ⟨by kernel_rfl, rfl⟩) (by assumption) ?_
            try simp only [ap]
            refine reg_take (i := 9) (v := undef) rfl (by kernel_rfl) (by kernel_rfl) (by kernel_rfl) (fun _ _ _ h => h) (Or.inr ⟨by kernel_rfl, rfl⟩) (by assumption) ?_
            try simp only [ap]
            refine reg_take (i := 10) (v := undef) rfl (by kernel_rfl) (by kernel_rfl) (by kernel_rfl) (fun _ _ _ h => h) (Or.inr ⟨by kernel_rfl, rfl⟩) (by assumption) ?_
            try simp only [ap]
            refine tk (i := 11) ?_
            try simp only [ap]
            refine tk (i := 12) ?_
            try simp only [ap]
            refine wpAnyH_done (by kernel_rfl) ?_ _
            go_wp2_with fail
            go_ret
            exact RetV.mk (by rw [E.out] <;> rfl) rfl (below_drewN hb1 _)
end Go.Proofs.Ytgcjccoglcgcoaa
