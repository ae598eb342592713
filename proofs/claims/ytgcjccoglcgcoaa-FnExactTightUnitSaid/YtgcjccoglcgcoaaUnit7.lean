/-
  impl.codeOk. Condition: the codes read as data, the code's place is one of them.
-/
import Derived.Test.YtgcjccoglcgcoaaRegT
import Derived.Test.YtgcjccoglcgcoaaUnit6
import Derived.Test.YtgcjccoglcgcoaaPreds
namespace Go.Proofs.Ytgcjccoglcgcoaa
open Go.RowKit Go.ChangeShapes Go.WideShapes Go.Deep
set_option linter.unusedVariables false
set_option linter.unusedSimpArgs false
/-- the parts of a valid block, in the program's order -/
theorem blkB_parts (us : List CodeD) (c : CodeD) (k j : Nat) (x : BlkD) : blkB us c k j x = (decide ((x.next.length : Int) = nextN x.jump) && (onB c.regs x && (!x.next.any (fun n => !inB n 1 ((c.blocks.length : Int) - 1)) && (!x.ins.any (insNo us c.regs k) && x.phis.all (phiB c.regs (predsFrom (j : Int) 0 c.blocks).length j))))) := by
  unfold blkB
  congr 2
  congr 1
  · simp [List.all_eq_not_any_not]
  · congr 1
    rw [List.all_eq_not_any_not]
    rfl
theorem blkB_next {us : List CodeD} {c : CodeD} {k j : Nat} {x : BlkD} (h : ((x.next.length : Int) != nextN x.jump) = true) : blkB us c k j x = false := by
  rw [blkB_parts, decide_eq_false (by simpa using h), Bool.false_and]
theorem blkB_on {us : List CodeD} {c : CodeD} {k j : Nat} {x : BlkD} (h : onB c.regs x = false) : blkB us c k j x = false := by
  rw [blkB_parts, h, Bool.false_and, Bool.and_false]
theorem blkB_to {us : List CodeD} {c : CodeD} {k j : Nat} {x : BlkD} (h : x.next.any (fun n => !inB n 1 ((c.blocks.length : Int) - 1)) = true) : blkB us c k j x = false := by
  rw [blkB_parts, h]
  simp
theorem blkB_ins {us : List CodeD} {c : CodeD} {k j : Nat} {x : BlkD} (h : x.ins.any (insNo us c.regs k) = true) : blkB us c k j x = false := by
  rw [blkB_parts, h]
  simp
theorem blkB_rest {us : List CodeD} {c : CodeD} {k j : Nat} {x : BlkD} (h1 : ((x.next.length : Int) != nextN x.jump) = false) (h2 : onB c.regs x = true) (h3 : x.next.any (fun n => !inB n 1 ((c.blocks.length : Int) - 1)) = false) (h4 : x.ins.any (insNo us c.regs k) = false) : blkB us c k j x = x.phis.all (phiB c.regs (predsFrom (j : Int) 0 c.blocks).length j) := by
  rw [blkB_parts, h2, h3, h4, decide_eq_true (by simpa using h1)]
  simp
theorem blksB_at {us : List CodeD} {c : CodeD} {k j : Nat} {l : List BlkD} (h : j < l.length) {x : BlkD} (hx : l[j] = x) : blksB us c k j (l.drop j) = (blkB us c k j x && blksB us c k (j + 1) (l.drop (j + 1))) := by
  rw [drop_cons h hx, blksB]
theorem reg_2w (r params regs : Int) (gc : Nat) (w : World) (hr : 0 ≤ regs ∧ regs ≤ 300) (hc : w.cell? ⟨gc, 1, none⟩ = some (.int .i64 regs)) :
    Calls Try.prog 54 #[.int .i64 r, .pointer (some ⟨gc, 0, none⟩)] w (RetW (.bool (regB regs r)) w) := by
  go_enter Try.func54, Try.ntmps54
  go_wp2_with fail
  refine (impl_within r 0 _ _).mono ?_
  rintro e w1 ⟨rfl, rfl⟩
  go_wp2_with fail
  go_ret
  exact ⟨rfl, rfl⟩
theorem drop_phis {l : List PhiD} {p : PhiD → Bool} {q : Nat} {f : PhiD} (h : q < l.length) (hf : l[q] = f) : (l.drop q).all p = (p f && (l.drop (q + 1)).all p) := by rw [drop_cons h hf, List.all_cons]
theorem codeB_head {us : List CodeD} {k : Nat} {c : CodeD} (h : headB c = false) : codeB us k c = false := by simp [codeB, h]
set_option maxRecDepth 100000 in
set_option maxHeartbeats 4000000 in
theorem impl_codeOk (us : List CodeD) (v0 : Value) (k : Nat) (params regs : Int) (blocks : List BlkD) (w : World) (lo B : Nat) (hB : B ≤ w.heap.size) (hN : us.length ≤ 1048576) (hNb : blocks.length ≤ 1048576) (hu : Sl false (codeS false) w lo B us v0)
    (hk : k < us.length) (hL : us[k] = ⟨params, regs, blocks⟩) :
    Calls Try.prog 32 #[.agg #[v0], .int .i64 k] w (RetV (.bool (codeB us k ⟨params, regs, blocks⟩)) w) := by
  obtain ⟨A, cap, rfl, hlc, hcm⟩ := hu.form
  obtain ⟨b, o, params', regs', blocks', u2, rfl, _, hbB, HL, g0, g1, g2, c0, c1, c2⟩ := code_get hu hk
  have e := HL.out
  rw [hL] at e
  injection e with e1 e2 e3
  subst e1
  subst e2
  subst e3
  clear hL
  obtain ⟨A2, p2, hf, hl2, hm2⟩ := g2.form
  change _ = Value.slice A2 blocks.length p2 at hf
  subst hf
  have hkn : (k : Int) < (us.length : Int) := by omega
  have hki : (0 : Int) ≤ (k : Int) := by omega
  have hbw : b < w.heap.size := by omega
  have d0 := cell_two (o1 := .cells #[.slice (some ⟨b, o, none⟩) us.length cap] 28) (o2 := .cells #[.int .i64 k] 3) c0 hbw
  have d1 := cell_two (o1 := .cells #[.slice (some ⟨b, o, none⟩) us.length cap] 28) (o2 := .cells #[.int .i64 k] 3) c1 hbw
  have d2 := cell_two (o1 := .cells #[.slice (some ⟨b, o, none⟩) us.length cap] 28) (o2 := .cells #[.int .i64 k] 3) c2 hbw
  go_enter Try.func32, Try.ntmps32
  go_wp2_with fail
  obtain ⟨R0, R1, R2, hb, hsz⟩ := boxes3 w #[.slice (some ⟨b, o, none⟩) us.length cap] #[.int .i64 k] #[.int .i64 params, .int .i64 regs, .slice A2 blocks.length p2] 28 3 39
  generalize hW : ((w.alloc (.cells #[.slice (some ⟨b, o, none⟩) us.length cap] 28)).alloc (.cells #[.int .i64 k] 3)).alloc (.cells #[.int .i64 params, .int .i64 regs, .slice A2 blocks.length p2] 39) = wk at R0 R1 R2 hb hsz ⊢
  clear hW d0 d1 d2
  have xc0 : wk.cell? ⟨w.heap.size + 1 + 1, 0, none⟩ = some (.int .i64 params) := R2.cell 0
  have xc1 : wk.cell? ⟨w.heap.size + 1 + 1, 1, none⟩ = some (.int .i64 regs) := R2.cell 1
  have xc2 : wk.cell? ⟨w.heap.size + 1 + 1, 2, none⟩ = some (.slice A2 blocks.length p2) := R2.cell 2
  refine (impl_within regs 0 300 _).mono ?_
  rintro e w' ⟨rfl, rfl⟩
  cases h1 : inB regs 0 300
  · have E : Hid (codeB us k ⟨params, regs, blocks⟩ = false) := codeB_head (by simp [headB, h1])
    clear h1
    go_wp2_with fail
    go_ret
    exact RetV.mk (by rw [E.out] <;> rfl) rfl hb
  have hr := inB_out h1
  replace h1 := Lib.hid h1
  obtain ⟨M, hM⟩ : ∃ M : Int, M = min 3 regs := ⟨_, rfl⟩
  have hmi : (if regs < 3 then regs else 3) = M := by rw [hM]; split <;> omega
  have hmx : ∀ w1 : World, (Builtin.min_ #[3, 3] 3 #[.int .i64 3, .int .i64 regs]).run Try.prog w1 = .ok (.int .i64 M) w1 := fun w1 => by rw [run_min_int2, hmi]
  clear hmi
  replace hM := Lib.hid hM
  go_wp2_with fail
  refine (impl_within params 0 M _).mono ?_
  rintro e w' ⟨rfl, rfl⟩
  clear hmx
  cases h2 : inB params 0 M
  · have E : Hid (codeB us k ⟨params, regs, blocks⟩ = false) := codeB_head (by rw [hM.out] at h2; simp [headB, h2])
    clear h2
    go_wp2_with fail
    go_ret
    exact RetV.mk (by rw [E.out] <;> rfl) rfl hb
  replace h2 := Lib.hid h2
  go_wp2_with fail
  refine (impl_within (blocks.length : Int) 1 160 _).mono ?_
  rintro e w' ⟨rfl, rfl⟩
  cases h3 : inB (blocks.length : Int) 1 160
  · have E : Hid (codeB us k ⟨params, regs, blocks⟩ = false) := codeB_head (by simp [headB, h3])
    clear h3
    go_wp2_with fail
    go_ret
    exact RetV.mk (by rw [E.out] <;> rfl) rfl hb
  have hh : headB ⟨params, regs, blocks⟩ = true := by
    have h2' := h2.out
    rw [hM.out] at h2'
    simp [headB, h1.out, h2', h3]
  replace h3 := Lib.hid h3
  go_wp2_with fail
  have Q0 := R0.alloc (.cells #[.func (.func 54) #[] #[.pointer (some ⟨w.heap.size + 1 + 1, 0, none⟩)]] 70)
  have Q1 := R1.alloc (.cells #[.func (.func 54) #[] #[.pointer (some ⟨w.heap.size + 1 + 1, 0, none⟩)]] 70)
  have Q2 := R2.alloc (.cells #[.func (.func 54) #[] #[.pointer (some ⟨w.heap.size + 1 + 1, 0, none⟩)]] 70)
  have Q3 := Row.new wk 70 #[.func (.func 54) #[] #[.pointer (some ⟨w.heap.size + 1 + 1, 0, none⟩)]]
  have hbf : Below w.heap.size w (wk.alloc (.cells #[.func (.func 54) #[] #[.pointer (some ⟨w.heap.size + 1 + 1, 0, none⟩)]] 70)) := hb.alloc (by omega) _
  have HC : Hid (codeB us k ⟨params, regs, blocks⟩ = blksB us ⟨params, regs, blocks⟩ k 0 (blocks.drop 0)) := by show _ = _; rw [List.drop_zero, codeB, hh, Bool.true_and]
  clear xc0 xc1 xc2 R0 R1 R2 hh
  generalize wk.alloc (.cells #[.func (.func 54) #[] #[.pointer (some ⟨w.heap.size + 1 + 1, 0, none⟩)]] 70) = wl at Q0 Q1 Q2 Q3 hbf ⊢
  rw [hsz] at Q3
  clear hb
  go_loopw [41] (fun i wr => ∃ j : Nat, j ≤ blocks.length ∧ i = .int .i64 j ∧ Hid (codeB us k ⟨params, regs, blocks⟩ = blksB us ⟨params, regs, blocks⟩ k j (blocks.drop j)) ∧ Below w.heap.size w wr ∧ Row wr w.heap.size 28 #[.slice (some ⟨b, o, none⟩) us.length cap] ∧ Row wr (w.heap.size + 1) 3 #[.int .i64 k] ∧ Row wr (w.heap.size + 1 + 1) 39 #[.int .i64 params, .int .i64 regs, .slice A2 blocks.length p2] ∧ Row wr (w.heap.size + 1 + 1 + 1) 70 #[.func (.func 54) #[] #[.pointer (some ⟨w.heap.size + 1 + 1, 0, none⟩)]]) (fun i _ => blocks.length - (intOf i).toNat)
  case atStart => exact ⟨0, by omega, rfl, HC, hbf, Q0, Q1, Q2, Q3⟩
  case round =>
    clear HC hbf Q0 Q1 Q2 Q3
    obtain ⟨j, hj, rfl, HT, hb, Q0, Q1, Q2, Q3⟩ := hrel
    have hsz := hb.size
    by_cases hjl : j < blocks.length
    case neg =>
      have E : Hid (codeB us k ⟨params, regs, blocks⟩ = true) := HT.out.trans (by rw [List.drop_of_length_le (by omega)]; rfl)
      clear HT
      go_wp2_with fail
      go_ret
      exact RetV.mk (by rw [E.out] <;> rfl) rfl hb
    obtain ⟨b5, o5, phis, u0, ins, u1, jump, on, next, u4, rfl, _, hb5, HLb, f0, f1, f2, f3, f4, e0, e1, e2, e3, e4⟩ := blk_get (g2.below hb hB) hjl
    obtain ⟨A4, p4, hf, _, _⟩ := f4.form
    change _ = Value.slice A4 next.length p4 at hf
    subst hf
    obtain ⟨A0, p0, hf, _, _⟩ := f0.form
    change _ = Value.slice A0 phis.length p0 at hf
    subst hf
    obtain ⟨A1, p1, hf, _, _⟩ := f1.form
    change _ = Value.slice A1 ins.length p1 at hf
    subst hf
    have hjn : (j : Int) < (blocks.length : Int) := by omega
    have hji : (0 : Int) ≤ (j : Int) := by omega
    replace HT : Hid (codeB us k ⟨params, regs, blocks⟩ = (blkB us ⟨params, regs, blocks⟩ k j ⟨phis, ins, jump, on, next⟩ && blksB us ⟨params, regs, blocks⟩ k (j + 1) (blocks.drop (j + 1)))) := HT.out.trans (blksB_at hjl HLb.out)
    have NO : blkB us ⟨params, regs, blocks⟩ k j ⟨phis, ins, jump, on, next⟩ = false → codeB us k ⟨params, regs, blocks⟩ = false := fun h => HT.out.trans (by rw [h, Bool.false_and])
    go_wp2_with fail
    have hba : Below w.heap.size w (wr.alloc (.cells #[.slice A0 phis.length p0, .slice A1 ins.length p1, .int .i64 jump, .int .i64 on, .slice A4 next.length p4] 65)) := hb.alloc hsz _
    have X := Row.new wr 65 #[.slice A0 phis.length p0, .slice A1 ins.length p1, .int .i64 jump, .int .i64 on, .slice A4 next.length p4]
    replace Q0 := Q0.alloc (.cells #[.slice A0 phis.length p0, .slice A1 ins.length p1, .int .i64 jump, .int .i64 on, .slice A4 next.length p4] 65)
    replace Q1 := Q1.alloc (.cells #[.slice A0 phis.length p0, .slice A1 ins.length p1, .int .i64 jump, .int .i64 on, .slice A4 next.length p4] 65)
    replace Q2 := Q2.alloc (.cells #[.slice A0 phis.length p0, .slice A1 ins.length p1, .int .i64 jump, .int .i64 on, .slice A4 next.length p4] 65)
    replace Q3 := Q3.alloc (.cells #[.slice A0 phis.length p0, .slice A1 ins.length p1, .int .i64 jump, .int .i64 on, .slice A4 next.length p4] 65)
    have hwx0 : Below wr.heap.size wr (wr.alloc (.cells #[.slice A0 phis.length p0, .slice A1 ins.length p1, .int .i64 jump, .int .i64 on, .slice A4 next.length p4] 65)) := (Below.refl _ _).alloc (Nat.le_refl _) _
    generalize wr.alloc (.cells #[.slice A0 phis.length p0, .slice A1 ins.length p1, .int .i64 jump, .int .i64 on, .slice A4 next.length p4] 65) = wx at hwx0 X Q0 Q1 Q2 Q3 hba ⊢
    have hwx : Below wr.heap.size wr wx.drew := hwx0.drew
    have hBr : B ≤ wr.heap.size := Nat.le_trans hB hsz
    have f0x := f0.below hwx hBr
    have f1x := f1.below hwx hBr
    have f4x := f4.below hwx hBr
    have hux := hu.below (hba.drew) hB
    have g2x := g2.below (hba.drew) hB
    clear hwx hwx0 f0 f1 f4 hBr
    generalize wr.heap.size = gx at X ⊢
    clear e0 e1 e2 e3 e4
    have y2 : wx.cell? ⟨gx, 2, none⟩ = some (.int .i64 jump) := X.cell 2
    have y3 : wx.cell? ⟨gx, 3, none⟩ = some (.int .i64 on) := X.cell 3
    have y4 : wx.cell? ⟨gx, 4, none⟩ = some (.slice A4 next.length p4) := X.cell 4
    have yf : wx.cell? ⟨w.heap.size + 1 + 1 + 1, 0, none⟩ = some (.func (.func 54) #[] #[.pointer (some ⟨w.heap.size + 1 + 1, 0, none⟩)]) := Q3.cell 0
    have yc : wx.cell? ⟨w.heap.size + 1 + 1, 1, none⟩ = some (.int .i64 regs) := Q2.cell 1
    have ycd : wx.drew.cell? ⟨w.heap.size + 1 + 1, 1, none⟩ = some (.int .i64 regs) := yc
    cases hn : ((next.length : Int) != nextN jump)
    case true =>
      have E : Hid (codeB us k ⟨params, regs, blocks⟩ = false) := NO (blkB_next hn)
      clear HT NO
      refine wp_region_held_drew (S := fun w' => (w'.cell? ⟨gx, 2, none⟩ = some (.int .i64 jump) ∧ w'.cell? ⟨gx, 3, none⟩ = some (.int .i64 on) ∧ w'.cell? ⟨gx, 4, none⟩ = some (.slice A4 next.length p4) ∧ w'.cell? ⟨w.heap.size + 1 + 1 + 1, 0, none⟩ = some (.func (.func 54) #[] #[.pointer (some ⟨w.heap.size + 1 + 1, 0, none⟩)]))) (by kernel_rfl) ?_ (fun hHeld => ?_)
      · exact ⟨y2, y3, y4, yf⟩
      refine tk (i := 0) ?_
      try simp only [ap]
      refine tk (i := 1) ?_
      try simp only [ap]
      refine tk (i := 2) ?_
      try simp only [ap]
      refine tk (i := 3) ?_
      try simp only [ap]
      refine tk (i := 4) ?_
      try simp only [ap]
      refine reg_call (i := 5) (by kernel_rfl) rfl (fun K hK => ?_)
      go_simp
      (go_at_call 55; refine (impl_nextCount jump _).mono ?_; rintro e w' ⟨rfl, rfl⟩)
      refine hK.out _ _ ?_ (fun hHeld => ?_)
      · exact ⟨y2, y3, y4, yf⟩
      clear hK K
      try simp only [ap]
      refine tk (i := 6) ?_
      try simp only [ap]
      refine tk (i := 7) ?_
      try simp only [ap]
      refine reg_take (i := 8) (v := undef) rfl (by kernel_rfl) (by kernel_rfl) (by kernel_rfl) (fun _ _ _ h => h) (Or.inr ⟨by kernel_rfl, rfl⟩) (by assumption) ?_
      try simp only [ap]
      refine reg_take (i := 9) (v := undef) rfl (by kernel_rfl) (by kernel_rfl) (by kernel_rfl) (fun _ _ _ h => h) (Or.inr ⟨by kernel_rfl, rfl⟩) (by assumption) ?_
      try simp only [ap]
      refine reg_take (i := 10) (v := undef) rfl (by kernel_rfl) (by kernel_rfl) (by kernel_rfl) (fun _ _ _ h => h) (Or.inr ⟨by kernel_rfl, rfl⟩) (by assumption) ?_
      try simp only [ap]
      refine reg_take (i := 11) (v := undef) rfl (by kernel_rfl) (by kernel_rfl) (by kernel_rfl) (fun _ _ _ h => h) (Or.inr ⟨by kernel_rfl, rfl⟩) (by assumption) ?_
      try simp only [ap]
      refine reg_take (i := 12) (v := undef) rfl (by kernel_rfl) (by kernel_rfl) (by kernel_rfl) (fun _ _ _ h => h) (Or.inr ⟨by kernel_rfl, rfl⟩) (by assumption) ?_
      try simp only [ap]
      refine reg_take (i := 13) (v := undef) rfl (by kernel_rfl) (by kernel_rfl) (by kernel_rfl) (fun _ _ _ h => h) (Or.inr ⟨by kernel_rfl, rfl⟩) (by assumption) ?_
      try simp only [ap]
      refine reg_take (i := 14) (v := undef) rfl (by kernel_rfl) (by kernel_rfl) (by kernel_rfl) (fun _ _ _ h => h) (Or.inr ⟨by kernel_rfl, rfl⟩) (by assumption) ?_
      try simp only [ap]
      refine reg_take (i := 15) (v := undef) rfl (by kernel_rfl) (by kernel_rfl) (by kernel_rfl) (fun _ _ _ h => h) (Or.inr ⟨by kernel_rfl, rfl⟩) (by assumption) ?_
      try simp only [ap]
      refine reg_take (i := 16) (v := undef) rfl (by kernel_rfl) (by kernel_rfl) (by kernel_rfl) (fun _ _ _ h => h) (Or.inr ⟨by kernel_rfl, rfl⟩) (by assumption) ?_
      try simp only [ap]
      refine reg_take (i := 17) (v := undef) rfl (by kernel_rfl) (by kernel_rfl) (by kernel_rfl) (fun _ _ _ h => h) (Or.inr ⟨by kernel_rfl, rfl⟩) (by assumption) ?_
      try simp only [ap]
      refine tk (i := 18) ?_
      try simp only [ap]
      refine tk (i := 19) ?_
      try simp only [ap]
      refine reg_take (i := 20) (v := undef) rfl (by kernel_rfl) (by kernel_rfl) (by kernel_rfl) (fun _ _ _ h => h) (Or.inr ⟨by kernel_rfl, rfl⟩) (by assumption) ?_
      try simp only [ap]
      refine reg_take (i := 21) (v := undef) rfl (by kernel_rfl) (by kernel_rfl) (by kernel_rfl) (fun _ _ _ h => h) (Or.inr ⟨by kernel_rfl, rfl⟩) (by assumption) ?_
      try simp only [ap]
      refine reg_take (i := 22) (v := undef) rfl (by kernel_rfl) (by kernel_rfl) (by kernel_rfl) (fun _ _ _ h => h) (Or.inr ⟨by kernel_rfl, rfl⟩) (by assumption) ?_
      try simp only [ap]
      refine reg_take (i := 23) (v := undef) rfl (by kernel_rfl) (by kernel_rfl) (by kernel_rfl) (fun _ _ _ h => h) (Or.inr ⟨by kernel_rfl, rfl⟩) (by assumption) ?_
      try simp only [ap]
      refine reg_take (i := 24) (v := undef) rfl (by kernel_rfl) (by kernel_rfl) (by kernel_rfl) (fun _ _ _ h => h) (Or.inr ⟨by kernel_rfl, rfl⟩) (by assumption) ?_
      try simp only [ap]
      refine reg_take (i := 25) (v := undef) rfl (by kernel_rfl) (by kernel_rfl) (by kernel_rfl) (fun _ _ _ h => h) (Or.inr ⟨by kernel_rfl, rfl⟩) (by assumption) ?_
      try simp only [ap]
      refine reg_take (i := 26) (v := undef) rfl (by kernel_rfl) (by kernel_rfl) (by kernel_rfl) (fun _ _ _ h => h) (Or.inr ⟨by kernel_rfl, rfl⟩) (by assumption) ?_
      try simp only [ap]
      refine reg_take (i := 27) (v := undef) rfl (by kernel_rfl) (by kernel_rfl) (by kernel_rfl) (fun _ _ _ h => h) (Or.inr ⟨by kernel_rfl, rfl⟩) (by assumption) ?_
      try simp only [ap]
      refine reg_take (i := 28) (v := undef) rfl (by kernel_rfl) (by kernel_rfl) (by kernel_rfl) (fun _ _ _ h => h) (Or.inr ⟨by kernel_rfl, rfl⟩) (by assumption) ?_
      try simp only [ap]
      refine tk (i := 29) ?_
      try simp only [ap]
      refine wpAnyH_done (by kernel_rfl) ?_ _
      go_wp2_with fail
      go_ret
      exact RetV.mk (by rw [E.out] <;> rfl) rfl hba.drew
    have hn0 := Lib.hid hn
    cases hs : usesOnB jump
    · by_cases ho : on = 0
      · have HO : Hid (onB regs ⟨phis, ins, jump, on, next⟩ = true) := by show _ = _; unfold onB; rw [hs]; simp [ho]
        have o0 : (on != 0) = false := by simpa using ho
        replace ho := Lib.hid ho
        replace hs := Lib.hid hs
        refine wp_region_held_drew (S := fun w' => (w'.cell? ⟨gx, 2, none⟩ = some (.int .i64 jump) ∧ w'.cell? ⟨gx, 3, none⟩ = some (.int .i64 on) ∧ w'.cell? ⟨gx, 4, none⟩ = some (.slice A4 next.length p4) ∧ w'.cell? ⟨w.heap.size + 1 + 1 + 1, 0, none⟩ = some (.func (.func 54) #[] #[.pointer (some ⟨w.heap.size + 1 + 1, 0, none⟩)]))) (by kernel_rfl) ?_ (fun hHeld => ?_)
        · exact ⟨y2, y3, y4, yf⟩
        refine tk (i := 0) ?_
        try simp only [ap]
        refine tk (i := 1) ?_
        try simp only [ap]
        refine tk (i := 2) ?_
        try simp only [ap]
        refine tk (i := 3) ?_
        try simp only [ap]
        refine tk (i := 4) ?_
        try simp only [ap]
        refine reg_call (i := 5) (by kernel_rfl) rfl (fun K hK => ?_)
        go_simp
        (go_at_call 55; refine (impl_nextCount jump _).mono ?_; rintro e w' ⟨rfl, rfl⟩)
        refine hK.out _ _ ?_ (fun hHeld => ?_)
        · exact ⟨y2, y3, y4, yf⟩
        clear hK K
        try simp only [ap]
        refine tk (i := 6) ?_
        try simp only [ap]
        refine tk (i := 7) ?_
        try simp only [ap]
        refine tk (i := 8) ?_
        try simp only [ap]
        refine tk (i := 9) ?_
        try simp only [ap]
        refine reg_call (i := 10) (by kernel_rfl) rfl (fun K hK => ?_)
        go_simp
        (go_at_call 56; refine (impl_usesOn jump _).mono ?_; rintro e w' ⟨he_, rfl⟩; rw [hs.out] at he_; subst he_)
        refine hK.out _ _ ?_ (fun hHeld => ?_)
        · exact ⟨y2, y3, y4, yf⟩
        clear hK K
        try simp only [ap]
        refine tk (i := 11) ?_
        try simp only [ap]
        refine reg_take (i := 12) (v := undef) rfl (by kernel_rfl) (by kernel_rfl) (by kernel_rfl) (fun _ _ _ h => h) (Or.inr ⟨by kernel_rfl, rfl⟩) (by assumption) ?_
        try simp only [ap]
        refine reg_take (i := 13) (v := undef) rfl (by kernel_rfl) (by kernel_rfl) (by kernel_rfl) (fun _ _ _ h => h) (Or.inr ⟨by kernel_rfl, rfl⟩) (by assumption) ?_
        try simp only [ap]
        refine reg_take (i := 14) (v := undef) rfl (by kernel_rfl) (by kernel_rfl) (by kernel_rfl) (fun _ _ _ h => h) (Or.inr ⟨by kernel_rfl, rfl⟩) (by assumption) ?_
        try simp only [ap]
        refine reg_take (i := 15) (v := undef) rfl (by kernel_rfl) (by kernel_rfl) (by kernel_rfl) (fun _ _ _ h => h) (Or.inr ⟨by kernel_rfl, rfl⟩) (by assumption) ?_
        try simp only [ap]
        refine reg_take (i := 16) (v := undef) rfl (by kernel_rfl) (by kernel_rfl) (by kernel_rfl) (fun _ _ _ h => h) (Or.inr ⟨by kernel_rfl, rfl⟩) (by assumption) ?_
        try simp only [ap]
        refine tk (i := 17) ?_
        try simp only [ap]
        refine tk (i := 18) ?_
        try simp only [ap]
        refine tk (i := 19) ?_
        try simp only [ap]
        refine tk (i := 20) ?_
        try simp only [ap]
        refine tk (i := 21) ?_
        try simp only [ap]
        refine reg_call (i := 22) (by kernel_rfl) rfl (fun K hK => ?_)
        go_simp
        (go_at_call 56; refine (impl_usesOn jump _).mono ?_; rintro e w' ⟨he_, rfl⟩; rw [hs.out] at he_; subst he_)
        refine hK.out _ _ ?_ (fun hHeld => ?_)
        · exact ⟨y2, y3, y4, yf⟩
        clear hK K
        try simp only [ap]
        refine tk (i := 23) ?_
        try simp only [ap]
        refine tk (i := 24) ?_
        try simp only [ap]
        refine tk (i := 25) ?_
        try simp only [ap]
        refine tk (i := 26) ?_
        try simp only [ap]
        refine tk (i := 27) ?_
        try simp only [ap]
        refine tk (i := 28) ?_
        try simp only [ap]
        refine tk (i := 29) ?_
        try simp only [ap]
        refine wpAnyH_done (by kernel_rfl) ?_ _
        have hby : Below w.heap.size w wx.drew := hba.drew
        replace X : Row wx.drew gx 65 #[.slice A0 phis.length p0, .slice A1 ins.length p1, .int .i64 jump, .int .i64 on, .slice A4 next.length p4] := X
        replace Q0 : Row wx.drew w.heap.size 28 _ := Q0
        replace Q1 : Row wx.drew (w.heap.size + 1) 3 _ := Q1
        replace Q2 : Row wx.drew (w.heap.size + 1 + 1) 39 _ := Q2
        replace Q3 : Row wx.drew (w.heap.size + 1 + 1 + 1) 70 _ := Q3
        clear y2 y3 y4 yf yc ycd hba
        generalize wx.drew = wy at X Q0 Q1 Q2 Q3 hby f0x f1x f4x hux g2x ⊢
        have z4 : wy.cell? ⟨gx, 4, none⟩ = some (.slice A4 next.length p4) := X.cell 4
        go_wp2_with fail
        refine (ints_ContainsFunc_next (w.heap.size + 1 + 1) (fun n => !inB n 1 ((blocks.length : Int) - 1)) next _ wy lo B (Nat.le_trans hB hby.size) f4x (fun wr' a hbr _ => nonext a params regs _ blocks.length p2 (w.heap.size + 1 + 1) wr' hNb ((Q2.below hbr Q2.lt).cell 2))).mono ?_
        rintro e v1 ⟨rfl, b1⟩
        have hb1 : Below w.heap.size w v1 := hby.trans (b1.mono hby.size)
        replace X := X.below b1 X.lt
        replace Q0 := Q0.below b1 Q0.lt
        replace Q1 := Q1.below b1 Q1.lt
        replace Q2 := Q2.below b1 Q2.lt
        replace Q3 := Q3.below b1 Q3.lt
        replace f0x := f0x.below b1 (Nat.le_trans hB hby.size)
        replace f1x := f1x.below b1 (Nat.le_trans hB hby.size)
        replace hux := hux.below b1 (Nat.le_trans hB hby.size)
        replace g2x := g2x.below b1 (Nat.le_trans hB hby.size)
        clear z4 f4x hby b1
        have z1 : v1.cell? ⟨gx, 1, none⟩ = some (.slice A1 ins.length p1) := X.cell 1
        cases hc : next.any (fun n => !inB n 1 ((blocks.length : Int) - 1))
        case true =>
          have E : Hid (codeB us k ⟨params, regs, blocks⟩ = false) := NO (blkB_to hc)
          clear HT NO hc
          go_wp2_with fail
          go_ret
          exact RetV.mk (by rw [E.out] <;> rfl) rfl hb1
        replace hc := Lib.hid hc
        go_wp2_with fail
        refine (inss_ContainsFunc us _ k params regs blocks w.heap.size (w.heap.size + 1) ins _ v1 lo B (Nat.le_trans hB hb1.size) f1x hN hux hk HL hr (Q0.cell 0) (Q1.cell 0) ⟨Q0.lt, Q1.lt⟩).mono ?_
        rintro e v2 ⟨rfl, b2⟩
        have hb2 : Below w.heap.size w v2 := hb1.trans (b2.mono hb1.size)
        replace X := X.below b2 X.lt
        replace Q0 := Q0.below b2 Q0.lt
        replace Q1 := Q1.below b2 Q1.lt
        replace Q2 := Q2.below b2 Q2.lt
        replace Q3 := Q3.below b2 Q3.lt
        replace f0x := f0x.below b2 (Nat.le_trans hB hb1.size)
        replace g2x := g2x.below b2 (Nat.le_trans hB hb1.size)
        clear z1 f1x hux hb1 b2
        have z0 : v2.cell? ⟨w.heap.size + 1 + 1, 0, none⟩ = some (.int .i64 params) := Q2.cell 0
        have z1 : v2.cell? ⟨w.heap.size + 1 + 1, 1, none⟩ = some (.int .i64 regs) := Q2.cell 1
        have z2 : v2.cell? ⟨w.heap.size + 1 + 1, 2, none⟩ = some (.slice (some ⟨b5, o5, none⟩) blocks.length p2) := Q2.cell 2
        cases hi : ins.any (insNo us regs k)
        case true =>
          have E : Hid (codeB us k ⟨params, regs, blocks⟩ = false) := NO (blkB_ins hi)
          clear HT NO hi
          go_wp2_with fail
          go_ret
          exact RetV.mk (by rw [E.out] <;> rfl) rfl hb2
        obtain ⟨NP, hNP⟩ : ∃ NP : Nat, (predsOf blocks (j : Int)).length = NP := ⟨_, rfl⟩
        replace hi := Lib.hid hi
        have HT2 : Hid (codeB us k ⟨params, regs, blocks⟩ = ((phis.drop 0).all (phiB regs NP j) && blksB us ⟨params, regs, blocks⟩ k (j + 1) (blocks.drop (j + 1)))) := by
          have hp : predsOf blocks (j : Int) = predsFrom (j : Int) 0 blocks := by unfold predsOf; rw [if_pos ⟨by omega, by omega⟩]
          rw [hp] at hNP
          have h5 := HT.out
          rw [blkB_rest hn0.out HO.out hc.out hi.out] at h5
          dsimp only at h5
          rw [hNP] at h5
          rw [List.drop_zero]
          exact h5
        replace hNP := Lib.hid hNP
        clear HT NO
        go_wp2_with fail
        refine (impl_PredsOf params regs blocks _ (j : Int) v2 lo B (Nat.le_trans hB hb2.size) hNb g2x ⟨by omega, by omega⟩).mono ?_
        rintro e v3 ⟨pv, rfl, hpv, b3⟩
        obtain ⟨A6, p6, hf, _, _⟩ := (hpv false).form
        rw [hNP.out] at hf
        subst hf
        have hb3 : Below w.heap.size w v3 := hb2.trans (b3.mono hb2.size)
        replace X := X.below b3 X.lt
        replace Q0 := Q0.below b3 Q0.lt
        replace Q1 := Q1.below b3 Q1.lt
        replace Q2 := Q2.below b3 Q2.lt
        replace Q3 := Q3.below b3 Q3.lt
        replace f0x := f0x.below b3 (Nat.le_trans hB hb2.size)
        clear z0 z1 z2 g2x b3
        have z0 : v3.cell? ⟨gx, 0, none⟩ = some (.slice A0 phis.length p0) := X.cell 0
        go_wp2_with fail
        go_loopw [93] (fun i wr => ∃ q : Nat, q ≤ phis.length ∧ i = .int .i64 q ∧ Hid (codeB us k ⟨params, regs, blocks⟩ = ((phis.drop q).all (phiB regs NP j) && blksB us ⟨params, regs, blocks⟩ k (j + 1) (blocks.drop (j + 1)))) ∧ Below v3.heap.size v3 wr ∧ Row wr w.heap.size 28 #[.slice (some ⟨b, o, none⟩) us.length cap] ∧ Row wr (w.heap.size + 1) 3 #[.int .i64 k] ∧ Row wr (w.heap.size + 1 + 1) 39 #[.int .i64 params, .int .i64 regs, .slice (some ⟨b5, o5, none⟩) blocks.length p2] ∧ Row wr (w.heap.size + 1 + 1 + 1) 70 #[.func (.func 54) #[] #[.pointer (some ⟨w.heap.size + 1 + 1, 0, none⟩)]]) (fun i _ => phis.length - (intOf i).toNat)
        case atStart => exact ⟨0, by omega, rfl, HT2, Below.refl _ _, Q0, Q1, Q2, Q3⟩
        case round =>
          clear HT2 Q0 Q1 Q2 Q3 X z0
          obtain ⟨q, hq, rfl, HT, hbq, Q0, Q1, Q2, Q3⟩ := hrel
          have hb := hb3.trans (hbq.mono hb3.size)
          by_cases hql : q < phis.length
          case neg =>
            have E : Hid (codeB us k ⟨params, regs, blocks⟩ = blksB us ⟨params, regs, blocks⟩ k (j + 1) (blocks.drop (j + 1))) := HT.out.trans (by rw [List.drop_of_length_le (by omega)]; rfl)
            clear HT
            go_wp2_with fail
            go_roundw
            case rel => exact ⟨j + 1, by omega, by go_num, E, hb, Q0, Q1, Q2, Q3⟩
            case measure => simp [intOf]; omega
          obtain ⟨b6, o6, to, args, u6, rfl, _, _, HLf, _, fa, t0, t1⟩ := phi_get (f0x.below hbq (Nat.le_trans hB hb3.size)) hql
          obtain ⟨A7, p7, hf, _, _⟩ := fa.form
          change _ = Value.slice A7 args.length p7 at hf
          subst hf
          have hqn : (q : Int) < (phis.length : Int) := by omega
          have hqi : (0 : Int) ≤ (q : Int) := by omega
          replace HT : Hid (codeB us k ⟨params, regs, blocks⟩ = ((phiB regs NP j ⟨to, args⟩ && (phis.drop (q + 1)).all (phiB regs NP j)) && blksB us ⟨params, regs, blocks⟩ k (j + 1) (blocks.drop (j + 1)))) := HT.out.trans (by rw [drop_phis hql HLf.out])
          have NO : phiB regs NP j ⟨to, args⟩ = false → codeB us k ⟨params, regs, blocks⟩ = false := fun h => HT.out.trans (by rw [h]; rfl)
          have GO : phiB regs NP j ⟨to, args⟩ = true → codeB us k ⟨params, regs, blocks⟩ = ((phis.drop (q + 1)).all (phiB regs NP j) && blksB us ⟨params, regs, blocks⟩ k (j + 1) (blocks.drop (j + 1))) := fun h => HT.out.trans (by rw [h]; rfl)
          clear HT
          have hba : Below w.heap.size w (wr.alloc (.cells #[.int .i64 to, .slice A7 args.length p7] 69)) := hb.alloc hb.size _
          have hwa : Below wr.heap.size wr (wr.alloc (.cells #[.int .i64 to, .slice A7 args.length p7] 69)) := (Below.refl _ _).alloc (Nat.le_refl _) _
          have hbz : Below v3.heap.size v3 (wr.alloc (.cells #[.int .i64 to, .slice A7 args.length p7] 69)) := hbq.alloc hbq.size _
          have X := Row.new wr 69 #[.int .i64 to, .slice A7 args.length p7]
          replace Q0 := Q0.alloc (.cells #[.int .i64 to, .slice A7 args.length p7] 69)
          replace Q1 := Q1.alloc (.cells #[.int .i64 to, .slice A7 args.length p7] 69)
          replace Q2 := Q2.alloc (.cells #[.int .i64 to, .slice A7 args.length p7] 69)
          replace Q3 := Q3.alloc (.cells #[.int .i64 to, .slice A7 args.length p7] 69)
          have fax := fa.below hwa (Nat.le_trans hB hb.size)
          have y0 : (wr.alloc (.cells #[.int .i64 to, .slice A7 args.length p7] 69)).cell? ⟨wr.heap.size, 0, none⟩ = some (.int .i64 to) := X.cell 0
          have y1 : (wr.alloc (.cells #[.int .i64 to, .slice A7 args.length p7] 69)).cell? ⟨wr.heap.size, 1, none⟩ = some (.slice A7 args.length p7) := X.cell 1
          have yf : (wr.alloc (.cells #[.int .i64 to, .slice A7 args.length p7] 69)).cell? ⟨w.heap.size + 1 + 1 + 1, 0, none⟩ = some (.func (.func 54) #[] #[.pointer (some ⟨w.heap.size + 1 + 1, 0, none⟩)]) := Q3.cell 0
          have yc : (wr.alloc (.cells #[.int .i64 to, .slice A7 args.length p7] 69)).cell? ⟨w.heap.size + 1 + 1, 1, none⟩ = some (.int .i64 regs) := Q2.cell 1
          by_cases hj0 : j = 0
          · have E : Hid (codeB us k ⟨params, regs, blocks⟩ = false) := NO (by unfold phiB; rw [hj0]; rfl)
            have ej : ((j : Int) == 0) = true := by rw [hj0]; rfl
            replace hj0 := Lib.hid hj0
            clear NO GO
            go_wp2_with fail
            go_ret
            exact RetV.mk (by rw [E.out] <;> rfl) rfl hba
          have ej : ((j : Int) == 0) = false := by simpa using hj0
          have hj1 : ¬ (j : Int) = 0 := by omega
          go_wp2_with fail
          generalize wr.alloc (.cells #[.int .i64 to, .slice A7 args.length p7] 69) = wf at X Q0 Q1 Q2 Q3 hba hbz fax y0 y1 yf yc ⊢
          clear hwa
          refine (reg_2w to params regs (w.heap.size + 1 + 1) _ hr yc).mono ?_
          rintro e w' ⟨rfl, rfl⟩
          cases ht : regB regs to
          case false =>
            have E : Hid (codeB us k ⟨params, regs, blocks⟩ = false) := NO (by unfold phiB; rw [ht]; simp)
            clear NO GO ht
            go_wp2_with fail
            go_ret
            exact RetV.mk (by rw [E.out] <;> rfl) rfl hba
          replace ht := Lib.hid ht
          cases hl : ((args.length : Int) != (NP : Int))
          case true =>
            have hl' : ¬ (args.length : Int) = (NP : Int) := by simpa using hl
            have hl2 : ¬ args.length = NP := by omega
            have E : Hid (codeB us k ⟨params, regs, blocks⟩ = false) := NO (by unfold phiB; simp [hl2])
            clear NO GO
            go_wp2_with fail
            go_ret
            exact RetV.mk (by rw [E.out] <;> rfl) rfl hba
          have hl' : args.length = NP := by
            have h9 : (args.length : Int) = (NP : Int) := by simpa using hl
            omega
          have HE := Lib.hid hl'
          have hl3 : (args.length != NP) = false := by simpa using hl'
          clear hl'
          go_wp2_with fail
          refine (ints_ContainsFunc_phi (w.heap.size + 1 + 1 + 1) (fun r => !regB regs r) args _ wf lo B (Nat.le_trans hB hba.size) fax (fun wr' a hbr _ => noreg_2 63 54 (Or.inr ⟨rfl, rfl⟩) a params regs (.bool false) (w.heap.size + 1 + 1) (w.heap.size + 1 + 1 + 1) wr' hr ((Q2.below hbr Q2.lt).cell 1) ((Q3.below hbr Q3.lt).cell 0))).mono ?_
          rintro e v4 ⟨rfl, b4⟩
          have hb4 : Below w.heap.size w v4 := hba.trans (b4.mono hba.size)
          have hbq4 : Below v3.heap.size v3 v4 := hbz.trans (b4.mono hbz.size)
          replace Q0 := Q0.below b4 Q0.lt
          replace Q1 := Q1.below b4 Q1.lt
          replace Q2 := Q2.below b4 Q2.lt
          replace Q3 := Q3.below b4 Q3.lt
          clear X y0 y1 yf yc hl hl3
          rw [any_notall]
          cases hA : args.all (regB regs)
          · have E : Hid (codeB us k ⟨params, regs, blocks⟩ = false) := NO (by unfold phiB; simp [hA])
            clear NO GO hA
            go_wp2_with fail
            go_ret
            exact RetV.mk (by rw [E.out] <;> rfl) rfl hb4
          · have E := Lib.hid (GO (by unfold phiB; rw [hA, ht.out, decide_eq_true HE.out, decide_eq_true hj0]; rfl))
            clear NO GO hA
            go_wp2_with fail
            go_roundw
            case rel => exact ⟨q + 1, by omega, by go_num, E, hbq4, Q0, Q1, Q2, Q3⟩
            case measure => simp [intOf]; omega
      · have E : Hid (codeB us k ⟨params, regs, blocks⟩ = false) := NO (blkB_on (by unfold onB; rw [hs]; simp [ho]))
        have o0 : (on != 0) = true := by simpa using ho
        clear HT NO
        replace hs := Lib.hid hs
        refine wp_region_held_drew (S := fun w' => (w'.cell? ⟨gx, 2, none⟩ = some (.int .i64 jump) ∧ w'.cell? ⟨gx, 3, none⟩ = some (.int .i64 on) ∧ w'.cell? ⟨gx, 4, none⟩ = some (.slice A4 next.length p4) ∧ w'.cell? ⟨w.heap.size + 1 + 1 + 1, 0, none⟩ = some (.func (.func 54) #[] #[.pointer (some ⟨w.heap.size + 1 + 1, 0, none⟩)]))) (by kernel_rfl) ?_ (fun hHeld => ?_)
        · exact ⟨y2, y3, y4, yf⟩
        refine tk (i := 0) ?_
        try simp only [ap]
        refine tk (i := 1) ?_
        try simp only [ap]
        refine tk (i := 2) ?_
        try simp only [ap]
        refine tk (i := 3) ?_
        try simp only [ap]
        refine tk (i := 4) ?_
        try simp only [ap]
        refine reg_call (i := 5) (by kernel_rfl) rfl (fun K hK => ?_)
        go_simp
        (go_at_call 55; refine (impl_nextCount jump _).mono ?_; rintro e w' ⟨rfl, rfl⟩)
        refine hK.out _ _ ?_ (fun hHeld => ?_)
        · exact ⟨y2, y3, y4, yf⟩
        clear hK K
        try simp only [ap]
        refine tk (i := 6) ?_
        try simp only [ap]
        refine tk (i := 7) ?_
        try simp only [ap]
        refine tk (i := 8) ?_
        try simp only [ap]
        refine tk (i := 9) ?_
        try simp only [ap]
        refine reg_call (i := 10) (by kernel_rfl) rfl (fun K hK => ?_)
        go_simp
        (go_at_call 56; refine (impl_usesOn jump _).mono ?_; rintro e w' ⟨he_, rfl⟩; rw [hs.out] at he_; subst he_)
        refine hK.out _ _ ?_ (fun hHeld => ?_)
        · exact ⟨y2, y3, y4, yf⟩
        clear hK K
        try simp only [ap]
        refine tk (i := 11) ?_
        try simp only [ap]
        refine reg_take (i := 12) (v := undef) rfl (by kernel_rfl) (by kernel_rfl) (by kernel_rfl) (fun _ _ _ h => h) (Or.inr ⟨by kernel_rfl, rfl⟩) (by assumption) ?_
        try simp only [ap]
        refine reg_take (i := 13) (v := undef) rfl (by kernel_rfl) (by kernel_rfl) (by kernel_rfl) (fun _ _ _ h => h) (Or.inr ⟨by kernel_rfl, rfl⟩) (by assumption) ?_
        try simp only [ap]
        refine reg_take (i := 14) (v := undef) rfl (by kernel_rfl) (by kernel_rfl) (by kernel_rfl) (fun _ _ _ h => h) (Or.inr ⟨by kernel_rfl, rfl⟩) (by assumption) ?_
        try simp only [ap]
        refine reg_take (i := 15) (v := undef) rfl (by kernel_rfl) (by kernel_rfl) (by kernel_rfl) (fun _ _ _ h => h) (Or.inr ⟨by kernel_rfl, rfl⟩) (by assumption) ?_
        try simp only [ap]
        refine reg_take (i := 16) (v := undef) rfl (by kernel_rfl) (by kernel_rfl) (by kernel_rfl) (fun _ _ _ h => h) (Or.inr ⟨by kernel_rfl, rfl⟩) (by assumption) ?_
        try simp only [ap]
        refine tk (i := 17) ?_
        try simp only [ap]
        refine tk (i := 18) ?_
        try simp only [ap]
        refine tk (i := 19) ?_
        try simp only [ap]
        refine tk (i := 20) ?_
        try simp only [ap]
        refine tk (i := 21) ?_
        try simp only [ap]
        refine reg_call (i := 22) (by kernel_rfl) rfl (fun K hK => ?_)
        go_simp
        (go_at_call 56; refine (impl_usesOn jump _).mono ?_; rintro e w' ⟨he_, rfl⟩; rw [hs.out] at he_; subst he_)
        refine hK.out _ _ ?_ (fun hHeld => ?_)
        · exact ⟨y2, y3, y4, yf⟩
        clear hK K
        try simp only [ap]
        refine tk (i := 23) ?_
        try simp only [ap]
        refine tk (i := 24) ?_
        try simp only [ap]
        refine tk (i := 25) ?_
        try simp only [ap]
        refine tk (i := 26) ?_
        try simp only [ap]
        refine tk (i := 27) ?_
        try simp only [ap]
        refine tk (i := 28) ?_
        try simp only [ap]
        refine tk (i := 29) ?_
        try simp only [ap]
        refine wpAnyH_done (by kernel_rfl) ?_ _
        go_wp2_with fail
        go_ret
        exact RetV.mk (by rw [E.out] <;> rfl) rfl hba.drew
    · cases ht : regB regs on
      · have E : Hid (codeB us k ⟨params, regs, blocks⟩ = false) := NO (blkB_on (by unfold onB; rw [hs, if_pos rfl]; exact ht))
        clear HT NO
        replace hs := Lib.hid hs
        replace ht := Lib.hid ht
        refine wp_region_held_drew (S := fun w' => (w'.cell? ⟨gx, 2, none⟩ = some (.int .i64 jump) ∧ w'.cell? ⟨gx, 3, none⟩ = some (.int .i64 on) ∧ w'.cell? ⟨gx, 4, none⟩ = some (.slice A4 next.length p4) ∧ w'.cell? ⟨w.heap.size + 1 + 1 + 1, 0, none⟩ = some (.func (.func 54) #[] #[.pointer (some ⟨w.heap.size + 1 + 1, 0, none⟩)]))) (by kernel_rfl) ?_ (fun hHeld => ?_)
        · exact ⟨y2, y3, y4, yf⟩
        refine tk (i := 0) ?_
        try simp only [ap]
        refine tk (i := 1) ?_
        try simp only [ap]
        refine tk (i := 2) ?_
        try simp only [ap]
        refine tk (i := 3) ?_
        try simp only [ap]
        refine tk (i := 4) ?_
        try simp only [ap]
        refine reg_call (i := 5) (by kernel_rfl) rfl (fun K hK => ?_)
        go_simp
        (go_at_call 55; refine (impl_nextCount jump _).mono ?_; rintro e w' ⟨rfl, rfl⟩)
        refine hK.out _ _ ?_ (fun hHeld => ?_)
        · exact ⟨y2, y3, y4, yf⟩
        clear hK K
        try simp only [ap]
        refine tk (i := 6) ?_
        try simp only [ap]
        refine tk (i := 7) ?_
        try simp only [ap]
        refine tk (i := 8) ?_
        try simp only [ap]
        refine tk (i := 9) ?_
        try simp only [ap]
        refine reg_call (i := 10) (by kernel_rfl) rfl (fun K hK => ?_)
        go_simp
        (go_at_call 56; refine (impl_usesOn jump _).mono ?_; rintro e w' ⟨he_, rfl⟩; rw [hs.out] at he_; subst he_)
        refine hK.out _ _ ?_ (fun hHeld => ?_)
        · exact ⟨y2, y3, y4, yf⟩
        clear hK K
        try simp only [ap]
        refine tk (i := 11) ?_
        try simp only [ap]
        refine tk (i := 12) ?_
        try simp only [ap]
        refine tk (i := 13) ?_
        try simp only [ap]
        refine tk (i := 14) ?_
        try simp only [ap]
        refine reg_call (i := 15) (by kernel_rfl) rfl (fun K hK => ?_)
        go_simp
        (go_at_call 54; refine (reg_2w on params regs (w.heap.size + 1 + 1) _ hr ycd).mono ?_; rintro e w' ⟨he_, rfl⟩; rw [ht.out] at he_; subst he_)
        refine hK.out _ _ ?_ (fun hHeld => ?_)
        · exact ⟨y2, y3, y4, yf⟩
        clear hK K
        try simp only [ap]
        refine tk (i := 16) ?_
        try simp only [ap]
        refine tk (i := 17) ?_
        try simp only [ap]
        refine tk (i := 18) ?_
        try simp only [ap]
        refine tk (i := 19) ?_
        try simp only [ap]
        refine reg_take (i := 20) (v := undef) rfl (by kernel_rfl) (by kernel_rfl) (by kernel_rfl) (fun _ _ _ h => h) (Or.inr ⟨by kernel_rfl, rfl⟩) (by assumption) ?_
        try simp only [ap]
        refine reg_take (i := 21) (v := undef) rfl (by kernel_rfl) (by kernel_rfl) (by kernel_rfl) (fun _ _ _ h => h) (Or.inr ⟨by kernel_rfl, rfl⟩) (by assumption) ?_
        try simp only [ap]
        refine reg_take (i := 22) (v := undef) rfl (by kernel_rfl) (by kernel_rfl) (by kernel_rfl) (fun _ _ _ h => h) (Or.inr ⟨by kernel_rfl, rfl⟩) (by assumption) ?_
        try simp only [ap]
        refine reg_take (i := 23) (v := undef) rfl (by kernel_rfl) (by kernel_rfl) (by kernel_rfl) (fun _ _ _ h => h) (Or.inr ⟨by kernel_rfl, rfl⟩) (by assumption) ?_
        try simp only [ap]
        refine reg_take (i := 24) (v := undef) rfl (by kernel_rfl) (by kernel_rfl) (by kernel_rfl) (fun _ _ _ h => h) (Or.inr ⟨by kernel_rfl, rfl⟩) (by assumption) ?_
        try simp only [ap]
        refine reg_take (i := 25) (v := undef) rfl (by kernel_rfl) (by kernel_rfl) (by kernel_rfl) (fun _ _ _ h => h) (Or.inr ⟨by kernel_rfl, rfl⟩) (by assumption) ?_
        try simp only [ap]
        refine reg_take (i := 26) (v := undef) rfl (by kernel_rfl) (by kernel_rfl) (by kernel_rfl) (fun _ _ _ h => h) (Or.inr ⟨by kernel_rfl, rfl⟩) (by assumption) ?_
        try simp only [ap]
        refine reg_take (i := 27) (v := undef) rfl (by kernel_rfl) (by kernel_rfl) (by kernel_rfl) (fun _ _ _ h => h) (Or.inr ⟨by kernel_rfl, rfl⟩) (by assumption) ?_
        try simp only [ap]
        refine reg_take (i := 28) (v := undef) rfl (by kernel_rfl) (by kernel_rfl) (by kernel_rfl) (fun _ _ _ h => h) (Or.inr ⟨by kernel_rfl, rfl⟩) (by assumption) ?_
        try simp only [ap]
        refine tk (i := 29) ?_
        try simp only [ap]
        refine wpAnyH_done (by kernel_rfl) ?_ _
        go_wp2_with fail
        go_ret
        exact RetV.mk (by rw [E.out] <;> rfl) rfl hba.drew
      · have HO : Hid (onB regs ⟨phis, ins, jump, on, next⟩ = true) := by show _ = _; unfold onB; rw [hs, if_pos rfl]; exact ht
        replace hs := Lib.hid hs
        replace ht := Lib.hid ht
        refine wp_region_held_drew (S := fun w' => (w'.cell? ⟨gx, 2, none⟩ = some (.int .i64 jump) ∧ w'.cell? ⟨gx, 3, none⟩ = some (.int .i64 on) ∧ w'.cell? ⟨gx, 4, none⟩ = some (.slice A4 next.length p4) ∧ w'.cell? ⟨w.heap.size + 1 + 1 + 1, 0, none⟩ = some (.func (.func 54) #[] #[.pointer (some ⟨w.heap.size + 1 + 1, 0, none⟩)]))) (by kernel_rfl) ?_ (fun hHeld => ?_)
        · exact ⟨y2, y3, y4, yf⟩
        refine tk (i := 0) ?_
        try simp only [ap]
        refine tk (i := 1) ?_
        try simp only [ap]
        refine tk (i := 2) ?_
        try simp only [ap]
        refine tk (i := 3) ?_
        try simp only [ap]
        refine tk (i := 4) ?_
        try simp only [ap]
        refine reg_call (i := 5) (by kernel_rfl) rfl (fun K hK => ?_)
        go_simp
        (go_at_call 55; refine (impl_nextCount jump _).mono ?_; rintro e w' ⟨rfl, rfl⟩)
        refine hK.out _ _ ?_ (fun hHeld => ?_)
        · exact ⟨y2, y3, y4, yf⟩
        clear hK K
        try simp only [ap]
        refine tk (i := 6) ?_
        try simp only [ap]
        refine tk (i := 7) ?_
        try simp only [ap]
        refine tk (i := 8) ?_
        try simp only [ap]
        refine tk (i := 9) ?_
        try simp only [ap]
        refine reg_call (i := 10) (by kernel_rfl) rfl (fun K hK => ?_)
        go_simp
        (go_at_call 56; refine (impl_usesOn jump _).mono ?_; rintro e w' ⟨he_, rfl⟩; rw [hs.out] at he_; subst he_)
        refine hK.out _ _ ?_ (fun hHeld => ?_)
        · exact ⟨y2, y3, y4, yf⟩
        clear hK K
        try simp only [ap]
        refine tk (i := 11) ?_
        try simp only [ap]
        refine tk (i := 12) ?_
        try simp only [ap]
        refine tk (i := 13) ?_
        try simp only [ap]
        refine tk (i := 14) ?_
        try simp only [ap]
        refine reg_call (i := 15) (by kernel_rfl) rfl (fun K hK => ?_)
        go_simp
        (go_at_call 54; refine (reg_2w on params regs (w.heap.size + 1 + 1) _ hr ycd).mono ?_; rintro e w' ⟨he_, rfl⟩; rw [ht.out] at he_; subst he_)
        refine hK.out _ _ ?_ (fun hHeld => ?_)
        · exact ⟨y2, y3, y4, yf⟩
        clear hK K
        try simp only [ap]
        refine tk (i := 16) ?_
        try simp only [ap]
        refine tk (i := 17) ?_
        try simp only [ap]
        refine tk (i := 18) ?_
        try simp only [ap]
        refine tk (i := 19) ?_
        try simp only [ap]
        refine tk (i := 20) ?_
        try simp only [ap]
        refine tk (i := 21) ?_
        try simp only [ap]
        refine reg_call (i := 22) (by kernel_rfl) rfl (fun K hK => ?_)
        go_simp
        (go_at_call 56; refine (impl_usesOn jump _).mono ?_; rintro e w' ⟨he_, rfl⟩; rw [hs.out] at he_; subst he_)
        refine hK.out _ _ ?_ (fun hHeld => ?_)
        · exact ⟨y2, y3, y4, yf⟩
        clear hK K
        try simp only [ap]
        refine tk (i := 23) ?_
        try simp only [ap]
        refine tk (i := 24) ?_
        try simp only [ap]
        refine reg_take (i := 25) (v := undef) rfl (by kernel_rfl) (by kernel_rfl) (by kernel_rfl) (fun _ _ _ h => h) (Or.inr ⟨by kernel_rfl, rfl⟩) (by assumption) ?_
        try simp only [ap]
        refine reg_take (i := 26) (v := undef) rfl (by kernel_rfl) (by kernel_rfl) (by kernel_rfl) (fun _ _ _ h => h) (Or.inr ⟨by kernel_rfl, rfl⟩) (by assumption) ?_
        try simp only [ap]
        refine reg_take (i := 27) (v := undef) rfl (by kernel_rfl) (by kernel_rfl) (by kernel_rfl) (fun _ _ _ h => h) (Or.inr ⟨by kernel_rfl, rfl⟩) (by assumption) ?_
        try simp only [ap]
        refine tk (i := 28) ?_
        try simp only [ap]
        refine tk (i := 29) ?_
        try simp only [ap]
        refine wpAnyH_done (by kernel_rfl) ?_ _
        have hby : Below w.heap.size w wx.drew := hba.drew
        replace X : Row wx.drew gx 65 #[.slice A0 phis.length p0, .slice A1 ins.length p1, .int .i64 jump, .int .i64 on, .slice A4 next.length p4] := X
        replace Q0 : Row wx.drew w.heap.size 28 _ := Q0
        replace Q1 : Row wx.drew (w.heap.size + 1) 3 _ := Q1
        replace Q2 : Row wx.drew (w.heap.size + 1 + 1) 39 _ := Q2
        replace Q3 : Row wx.drew (w.heap.size + 1 + 1 + 1) 70 _ := Q3
        clear y2 y3 y4 yf yc ycd hba
        generalize wx.drew = wy at X Q0 Q1 Q2 Q3 hby f0x f1x f4x hux g2x ⊢
        have z4 : wy.cell? ⟨gx, 4, none⟩ = some (.slice A4 next.length p4) := X.cell 4
        go_wp2_with fail
        refine (ints_ContainsFunc_next (w.heap.size + 1 + 1) (fun n => !inB n 1 ((blocks.length : Int) - 1)) next _ wy lo B (Nat.le_trans hB hby.size) f4x (fun wr' a hbr _ => nonext a params regs _ blocks.length p2 (w.heap.size + 1 + 1) wr' hNb ((Q2.below hbr Q2.lt).cell 2))).mono ?_
        rintro e v1 ⟨rfl, b1⟩
        have hb1 : Below w.heap.size w v1 := hby.trans (b1.mono hby.size)
        replace X := X.below b1 X.lt
        replace Q0 := Q0.below b1 Q0.lt
        replace Q1 := Q1.below b1 Q1.lt
        replace Q2 := Q2.below b1 Q2.lt
        replace Q3 := Q3.below b1 Q3.lt
        replace f0x := f0x.below b1 (Nat.le_trans hB hby.size)
        replace f1x := f1x.below b1 (Nat.le_trans hB hby.size)
        replace hux := hux.below b1 (Nat.le_trans hB hby.size)
        replace g2x := g2x.below b1 (Nat.le_trans hB hby.size)
        clear z4 f4x hby b1
        have z1 : v1.cell? ⟨gx, 1, none⟩ = some (.slice A1 ins.length p1) := X.cell 1
        cases hc : next.any (fun n => !inB n 1 ((blocks.length : Int) - 1))
        case true =>
          have E : Hid (codeB us k ⟨params, regs, blocks⟩ = false) := NO (blkB_to hc)
          clear HT NO hc
          go_wp2_with fail
          go_ret
          exact RetV.mk (by rw [E.out] <;> rfl) rfl hb1
        replace hc := Lib.hid hc
        go_wp2_with fail
        refine (inss_ContainsFunc us _ k params regs blocks w.heap.size (w.heap.size + 1) ins _ v1 lo B (Nat.le_trans hB hb1.size) f1x hN hux hk HL hr (Q0.cell 0) (Q1.cell 0) ⟨Q0.lt, Q1.lt⟩).mono ?_
        rintro e v2 ⟨rfl, b2⟩
        have hb2 : Below w.heap.size w v2 := hb1.trans (b2.mono hb1.size)
        replace X := X.below b2 X.lt
        replace Q0 := Q0.below b2 Q0.lt
        replace Q1 := Q1.below b2 Q1.lt
        replace Q2 := Q2.below b2 Q2.lt
        replace Q3 := Q3.below b2 Q3.lt
        replace f0x := f0x.below b2 (Nat.le_trans hB hb1.size)
        replace g2x := g2x.below b2 (Nat.le_trans hB hb1.size)
        clear z1 f1x hux hb1 b2
        have z0 : v2.cell? ⟨w.heap.size + 1 + 1, 0, none⟩ = some (.int .i64 params) := Q2.cell 0
        have z1 : v2.cell? ⟨w.heap.size + 1 + 1, 1, none⟩ = some (.int .i64 regs) := Q2.cell 1
        have z2 : v2.cell? ⟨w.heap.size + 1 + 1, 2, none⟩ = some (.slice (some ⟨b5, o5, none⟩) blocks.length p2) := Q2.cell 2
        cases hi : ins.any (insNo us regs k)
        case true =>
          have E : Hid (codeB us k ⟨params, regs, blocks⟩ = false) := NO (blkB_ins hi)
          clear HT NO hi
          go_wp2_with fail
          go_ret
          exact RetV.mk (by rw [E.out] <;> rfl) rfl hb2
        obtain ⟨NP, hNP⟩ : ∃ NP : Nat, (predsOf blocks (j : Int)).length = NP := ⟨_, rfl⟩
        replace hi := Lib.hid hi
        have HT2 : Hid (codeB us k ⟨params, regs, blocks⟩ = ((phis.drop 0).all (phiB regs NP j) && blksB us ⟨params, regs, blocks⟩ k (j + 1) (blocks.drop (j + 1)))) := by
          have hp : predsOf blocks (j : Int) = predsFrom (j : Int) 0 blocks := by unfold predsOf; rw [if_pos ⟨by omega, by omega⟩]
          rw [hp] at hNP
          have h5 := HT.out
          rw [blkB_rest hn0.out HO.out hc.out hi.out] at h5
          dsimp only at h5
          rw [hNP] at h5
          rw [List.drop_zero]
          exact h5
        replace hNP := Lib.hid hNP
        clear HT NO
        go_wp2_with fail
        refine (impl_PredsOf params regs blocks _ (j : Int) v2 lo B (Nat.le_trans hB hb2.size) hNb g2x ⟨by omega, by omega⟩).mono ?_
        rintro e v3 ⟨pv, rfl, hpv, b3⟩
        obtain ⟨A6, p6, hf, _, _⟩ := (hpv false).form
        rw [hNP.out] at hf
        subst hf
        have hb3 : Below w.heap.size w v3 := hb2.trans (b3.mono hb2.size)
        replace X := X.below b3 X.lt
        replace Q0 := Q0.below b3 Q0.lt
        replace Q1 := Q1.below b3 Q1.lt
        replace Q2 := Q2.below b3 Q2.lt
        replace Q3 := Q3.below b3 Q3.lt
        replace f0x := f0x.below b3 (Nat.le_trans hB hb2.size)
        clear z0 z1 z2 g2x b3
        have z0 : v3.cell? ⟨gx, 0, none⟩ = some (.slice A0 phis.length p0) := X.cell 0
        go_wp2_with fail
        go_loopw [93] (fun i wr => ∃ q : Nat, q ≤ phis.length ∧ i = .int .i64 q ∧ Hid (codeB us k ⟨params, regs, blocks⟩ = ((phis.drop q).all (phiB regs NP j) && blksB us ⟨params, regs, blocks⟩ k (j + 1) (blocks.drop (j + 1)))) ∧ Below v3.heap.size v3 wr ∧ Row wr w.heap.size 28 #[.slice (some ⟨b, o, none⟩) us.length cap] ∧ Row wr (w.heap.size + 1) 3 #[.int .i64 k] ∧ Row wr (w.heap.size + 1 + 1) 39 #[.int .i64 params, .int .i64 regs, .slice (some ⟨b5, o5, none⟩) blocks.length p2] ∧ Row wr (w.heap.size + 1 + 1 + 1) 70 #[.func (.func 54) #[] #[.pointer (some ⟨w.heap.size + 1 + 1, 0, none⟩)]]) (fun i _ => phis.length - (intOf i).toNat)
        case atStart => exact ⟨0, by omega, rfl, HT2, Below.refl _ _, Q0, Q1, Q2, Q3⟩
        case round =>
          clear HT2 Q0 Q1 Q2 Q3 X z0
          obtain ⟨q, hq, rfl, HT, hbq, Q0, Q1, Q2, Q3⟩ := hrel
          have hb := hb3.trans (hbq.mono hb3.size)
          by_cases hql : q < phis.length
          case neg =>
            have E : Hid (codeB us k ⟨params, regs, blocks⟩ = blksB us ⟨params, regs, blocks⟩ k (j + 1) (blocks.drop (j + 1))) := HT.out.trans (by rw [List.drop_of_length_le (by omega)]; rfl)
            clear HT
            go_wp2_with fail
            go_roundw
            case rel => exact ⟨j + 1, by omega, by go_num, E, hb, Q0, Q1, Q2, Q3⟩
            case measure => simp [intOf]; omega
          obtain ⟨b6, o6, to, args, u6, rfl, _, _, HLf, _, fa, t0, t1⟩ := phi_get (f0x.below hbq (Nat.le_trans hB hb3.size)) hql
          obtain ⟨A7, p7, hf, _, _⟩ := fa.form
          change _ = Value.slice A7 args.length p7 at hf
          subst hf
          have hqn : (q : Int) < (phis.length : Int) := by omega
          have hqi : (0 : Int) ≤ (q : Int) := by omega
          replace HT : Hid (codeB us k ⟨params, regs, blocks⟩ = ((phiB regs NP j ⟨to, args⟩ && (phis.drop (q + 1)).all (phiB regs NP j)) && blksB us ⟨params, regs, blocks⟩ k (j + 1) (blocks.drop (j + 1)))) := HT.out.trans (by rw [drop_phis hql HLf.out])
          have NO : phiB regs NP j ⟨to, args⟩ = false → codeB us k ⟨params, regs, blocks⟩ = false := fun h => HT.out.trans (by rw [h]; rfl)
          have GO : phiB regs NP j ⟨to, args⟩ = true → codeB us k ⟨params, regs, blocks⟩ = ((phis.drop (q + 1)).all (phiB regs NP j) && blksB us ⟨params, regs, blocks⟩ k (j + 1) (blocks.drop (j + 1))) := fun h => HT.out.trans (by rw [h]; rfl)
          clear HT
          have hba : Below w.heap.size w (wr.alloc (.cells #[.int .i64 to, .slice A7 args.length p7] 69)) := hb.alloc hb.size _
          have hwa : Below wr.heap.size wr (wr.alloc (.cells #[.int .i64 to, .slice A7 args.length p7] 69)) := (Below.refl _ _).alloc (Nat.le_refl _) _
          have hbz : Below v3.heap.size v3 (wr.alloc (.cells #[.int .i64 to, .slice A7 args.length p7] 69)) := hbq.alloc hbq.size _
          have X := Row.new wr 69 #[.int .i64 to, .slice A7 args.length p7]
          replace Q0 := Q0.alloc (.cells #[.int .i64 to, .slice A7 args.length p7] 69)
          replace Q1 := Q1.alloc (.cells #[.int .i64 to, .slice A7 args.length p7] 69)
          replace Q2 := Q2.alloc (.cells #[.int .i64 to, .slice A7 args.length p7] 69)
          replace Q3 := Q3.alloc (.cells #[.int .i64 to, .slice A7 args.length p7] 69)
          have fax := fa.below hwa (Nat.le_trans hB hb.size)
          have y0 : (wr.alloc (.cells #[.int .i64 to, .slice A7 args.length p7] 69)).cell? ⟨wr.heap.size, 0, none⟩ = some (.int .i64 to) := X.cell 0
          have y1 : (wr.alloc (.cells #[.int .i64 to, .slice A7 args.length p7] 69)).cell? ⟨wr.heap.size, 1, none⟩ = some (.slice A7 args.length p7) := X.cell 1
          have yf : (wr.alloc (.cells #[.int .i64 to, .slice A7 args.length p7] 69)).cell? ⟨w.heap.size + 1 + 1 + 1, 0, none⟩ = some (.func (.func 54) #[] #[.pointer (some ⟨w.heap.size + 1 + 1, 0, none⟩)]) := Q3.cell 0
          have yc : (wr.alloc (.cells #[.int .i64 to, .slice A7 args.length p7] 69)).cell? ⟨w.heap.size + 1 + 1, 1, none⟩ = some (.int .i64 regs) := Q2.cell 1
          by_cases hj0 : j = 0
          · have E : Hid (codeB us k ⟨params, regs, blocks⟩ = false) := NO (by unfold phiB; rw [hj0]; rfl)
            have ej : ((j : Int) == 0) = true := by rw [hj0]; rfl
            replace hj0 := Lib.hid hj0
            clear NO GO
            go_wp2_with fail
            go_ret
            exact RetV.mk (by rw [E.out] <;> rfl) rfl hba
          have ej : ((j : Int) == 0) = false := by simpa using hj0
          have hj1 : ¬ (j : Int) = 0 := by omega
          go_wp2_with fail
          generalize wr.alloc (.cells #[.int .i64 to, .slice A7 args.length p7] 69) = wf at X Q0 Q1 Q2 Q3 hba hbz fax y0 y1 yf yc ⊢
          clear hwa
          refine (reg_2w to params regs (w.heap.size + 1 + 1) _ hr yc).mono ?_
          rintro e w' ⟨rfl, rfl⟩
          cases ht : regB regs to
          case false =>
            have E : Hid (codeB us k ⟨params, regs, blocks⟩ = false) := NO (by unfold phiB; rw [ht]; simp)
            clear NO GO ht
            go_wp2_with fail
            go_ret
            exact RetV.mk (by rw [E.out] <;> rfl) rfl hba
          replace ht := Lib.hid ht
          cases hl : ((args.length : Int) != (NP : Int))
          case true =>
            have hl' : ¬ (args.length : Int) = (NP : Int) := by simpa using hl
            have hl2 : ¬ args.length = NP := by omega
            have E : Hid (codeB us k ⟨params, regs, blocks⟩ = false) := NO (by unfold phiB; simp [hl2])
            clear NO GO
            go_wp2_with fail
            go_ret
            exact RetV.mk (by rw [E.out] <;> rfl) rfl hba
          have hl' : args.length = NP := by
            have h9 : (args.length : Int) = (NP : Int) := by simpa using hl
            omega
          have HE := Lib.hid hl'
          have hl3 : (args.length != NP) = false := by simpa using hl'
          clear hl'
          go_wp2_with fail
          refine (ints_ContainsFunc_phi (w.heap.size + 1 + 1 + 1) (fun r => !regB regs r) args _ wf lo B (Nat.le_trans hB hba.size) fax (fun wr' a hbr _ => noreg_2 63 54 (Or.inr ⟨rfl, rfl⟩) a params regs (.bool false) (w.heap.size + 1 + 1) (w.heap.size + 1 + 1 + 1) wr' hr ((Q2.below hbr Q2.lt).cell 1) ((Q3.below hbr Q3.lt).cell 0))).mono ?_
          rintro e v4 ⟨rfl, b4⟩
          have hb4 : Below w.heap.size w v4 := hba.trans (b4.mono hba.size)
          have hbq4 : Below v3.heap.size v3 v4 := hbz.trans (b4.mono hbz.size)
          replace Q0 := Q0.below b4 Q0.lt
          replace Q1 := Q1.below b4 Q1.lt
          replace Q2 := Q2.below b4 Q2.lt
          replace Q3 := Q3.below b4 Q3.lt
          clear X y0 y1 yf yc hl hl3
          rw [any_notall]
          cases hA : args.all (regB regs)
          · have E : Hid (codeB us k ⟨params, regs, blocks⟩ = false) := NO (by unfold phiB; simp [hA])
            clear NO GO hA
            go_wp2_with fail
            go_ret
            exact RetV.mk (by rw [E.out] <;> rfl) rfl hb4
          · have E := Lib.hid (GO (by unfold phiB; rw [hA, ht.out, decide_eq_true HE.out, decide_eq_true hj0]; rfl))
            clear NO GO hA
            go_wp2_with fail
            go_roundw
            case rel => exact ⟨q + 1, by omega, by go_num, E, hbq4, Q0, Q1, Q2, Q3⟩
            case measure => simp [intOf]; omega
end Go.Proofs.Ytgcjccoglcgcoaa
