/-
  spec.l7Ins. Condition: the codes read as data, the code's place is one of them, its registers are at most 300.
-/
import Derived.Test.YtgcjccoglcgcoaaRegT
import Derived.Test.YtgcjccoglcgcoaaUnit4
namespace Go.Proofs.Ytgcjccoglcgcoaa
open Go.RowKit Go.ChangeShapes Go.WideShapes Go.Deep
set_option linter.unusedVariables false
set_option linter.unusedSimpArgs false
theorem boxes3 (w : World) (c0 c1 c2 : Array Value) (t0 t1 t2 : TypeId) : Row (((w.alloc (.cells c0 t0)).alloc (.cells c1 t1)).alloc (.cells c2 t2)) w.heap.size t0 c0 ∧
    Row (((w.alloc (.cells c0 t0)).alloc (.cells c1 t1)).alloc (.cells c2 t2)) (w.heap.size + 1) t1 c1 ∧
    Row (((w.alloc (.cells c0 t0)).alloc (.cells c1 t1)).alloc (.cells c2 t2)) (w.heap.size + 1 + 1) t2 c2 ∧
    Below w.heap.size w (((w.alloc (.cells c0 t0)).alloc (.cells c1 t1)).alloc (.cells c2 t2)) ∧
    (((w.alloc (.cells c0 t0)).alloc (.cells c1 t1)).alloc (.cells c2 t2)).heap.size = w.heap.size + 1 + 1 + 1 := by
  have e1 : (w.alloc (.cells c0 t0)).heap.size = w.heap.size + 1 := by simp
  have e2 : ((w.alloc (.cells c0 t0)).alloc (.cells c1 t1)).heap.size = w.heap.size + 1 + 1 := by simp
  have n1 := Row.new (w.alloc (.cells c0 t0)) t1 c1
  have n2 := Row.new ((w.alloc (.cells c0 t0)).alloc (.cells c1 t1)) t2 c2
  rw [e1] at n1
  rw [e2] at n2
  exact ⟨((Row.new w t0 c0).alloc _).alloc _, n1.alloc _, n2, (((Below.refl _ _).alloc (Nat.le_refl _) _).alloc (by simp) _).alloc (by simp; omega) _, by simp⟩
set_option maxRecDepth 100000 in
set_option maxHeartbeats 4000000 in
theorem spec_l7Ins (us : List CodeD) (v0 : Value) (k : Nat) (op to n : Int) (args : List Int) (va : Value) (params regs : Int) (blocks : List BlkD) (w : World) (lo B : Nat) (hB : B ≤ w.heap.size) (hN : us.length ≤ 1048576) (hu : Sl false (codeS false) w lo B us v0) (ha : Sl false (intS false) w lo B args va)
    (hk : k < us.length) (hL : us[k] = ⟨params, regs, blocks⟩) (hr : 0 ≤ regs ∧ regs ≤ 300) :
    Calls Try.prog 65 #[.agg #[v0], .int .i64 k, .agg #[.int .i64 op, .int .i64 to, va, .int .i64 n]] w (RetV (.bool (insB us regs k ⟨op, to, args, n⟩)) w) := by
  obtain ⟨A, cap, rfl, hlc, hcm⟩ := hu.form
  obtain ⟨Aa, pa, hf, hla, hma⟩ := ha.form
  change _ = Value.slice Aa args.length pa at hf
  subst hf
  obtain ⟨b, o, params', regs', blocks', u2, rfl, _, hbB, HL, g0, g1, g2, c0, c1, c2⟩ := code_get hu hk
  have e := HL.out
  rw [hL] at e
  injection e with e1 e2 e3
  subst e1
  subst e2
  subst e3
  clear hL
  obtain ⟨A2, p2, hf, _, _⟩ := g2.form
  change _ = Value.slice A2 blocks.length p2 at hf
  subst hf
  have hkn : (k : Int) < (us.length : Int) := by omega
  have hki : (0 : Int) ≤ (k : Int) := by omega
  have hbw : b < w.heap.size := by omega
  have d0 := cell_two (o1 := .cells #[.slice (some ⟨b, o, none⟩) us.length cap] 28) (o2 := .cells #[.int .i64 op, .int .i64 to, .slice Aa args.length pa, .int .i64 n] 72) c0 hbw
  have d1 := cell_two (o1 := .cells #[.slice (some ⟨b, o, none⟩) us.length cap] 28) (o2 := .cells #[.int .i64 op, .int .i64 to, .slice Aa args.length pa, .int .i64 n] 72) c1 hbw
  have d2 := cell_two (o1 := .cells #[.slice (some ⟨b, o, none⟩) us.length cap] 28) (o2 := .cells #[.int .i64 op, .int .i64 to, .slice Aa args.length pa, .int .i64 n] 72) c2 hbw
  go_enter Try.func65, Try.ntmps65
  go_wp2_with fail
  obtain ⟨R0, R1, R2, hb, hsz⟩ := boxes3 w #[.slice (some ⟨b, o, none⟩) us.length cap] #[.int .i64 op, .int .i64 to, .slice Aa args.length pa, .int .i64 n] #[.int .i64 params, .int .i64 regs, .slice A2 blocks.length p2] 28 72 39
  generalize hW : ((w.alloc (.cells #[.slice (some ⟨b, o, none⟩) us.length cap] 28)).alloc (.cells #[.int .i64 op, .int .i64 to, .slice Aa args.length pa, .int .i64 n] 72)).alloc (.cells #[.int .i64 params, .int .i64 regs, .slice A2 blocks.length p2] 39) = wk at R0 R1 R2 hb hsz ⊢
  clear hW d0 d1 d2
  have x2 : wk.cell? ⟨w.heap.size + 1, 2, none⟩ = some (.slice Aa args.length pa) := R1.cell 2
  have xc0 : wk.cell? ⟨w.heap.size + 1 + 1, 0, none⟩ = some (.int .i64 params) := R2.cell 0
  have xc1 : wk.cell? ⟨w.heap.size + 1 + 1, 1, none⟩ = some (.int .i64 regs) := R2.cell 1
  have xc2 : wk.cell? ⟨w.heap.size + 1 + 1, 2, none⟩ = some (.slice A2 blocks.length p2) := R2.cell 2
  refine (spec_l1In op 1 14 _).mono ?_
  rintro e w' ⟨rfl, rfl⟩
  cases hi : inB op 1 14
  · have E : Hid (insB us regs k ⟨op, to, args, n⟩ = false) := insB_op hi
    clear hi
    go_wp2_with fail
    go_ret
    exact RetV.mk (by rw [E.out] <;> rfl) rfl hb
  replace hi := Lib.hid hi
  go_wp2_with fail
  refine (spec_l7Regs params regs (.slice A2 blocks.length p2) args (.slice Aa args.length pa) wk lo B (Nat.le_trans hB hb.size) hr (ha.below hb hB)).mono ?_
  rintro e w1 ⟨rfl, b1⟩
  have hb1 := hb.trans (b1.mono hb.size)
  have y0 : w1.cell? ⟨w.heap.size + 1, 0, none⟩ = some (.int .i64 op) := (R1.below b1 R1.lt).cell 0
  have y1 : w1.cell? ⟨w.heap.size + 1, 1, none⟩ = some (.int .i64 to) := (R1.below b1 R1.lt).cell 1
  have y2 : w1.cell? ⟨w.heap.size + 1, 2, none⟩ = some (.slice Aa args.length pa) := (R1.below b1 R1.lt).cell 2
  have y3 : w1.cell? ⟨w.heap.size + 1, 3, none⟩ = some (.int .i64 n) := (R1.below b1 R1.lt).cell 3
  have yu : w1.cell? ⟨w.heap.size, 0, none⟩ = some (.slice (some ⟨b, o, none⟩) us.length cap) := (R0.below b1 R0.lt).cell 0
  have yc : w1.cell? ⟨w.heap.size + 1 + 1, 1, none⟩ = some (.int .i64 regs) := (R2.below b1 R2.lt).cell 1
  clear x2 xc0 xc1 xc2
  cases hA : args.all (regB regs)
  · have E : Hid (insB us regs k ⟨op, to, args, n⟩ = false) := insB_args hA
    clear hA
    go_wp2_with fail
    go_ret
    exact RetV.mk (by rw [E.out] <;> rfl) rfl hb1
  replace hA := Lib.hid hA
  have hwr : IntKind.i64.wrap (regs - 1) = regs - 1 := IntWalk.i64_in _ (by omega)
  obtain ⟨T, hT⟩ : ∃ T, T = toB regs op to := ⟨_, rfl⟩
  have step : T = false → insB us regs k ⟨op, to, args, n⟩ = false := fun h => insB_to (hT.symm.trans h)
  have go : T = true → insB us regs k ⟨op, to, args, n⟩ = if op = 1 then decide ((args.length : Int) = 0) && inB n 0 255 else if op = 14 then inB n 0 ((k : Int) - 1) && decide ((args.length : Int) = parOf us n) else decide (n = 0) && decide ((args.length : Int) = argsN op) := fun h => insB_rest hi.out hA.out (hT.symm.trans h)
  go_wp2_with fail
  cases hs : setsB op
  · cases ht : inB to 0 (regs - 1)
    · by_cases h1 : to = -1
      · have eT : T = true := by rw [hT]; unfold toB; rw [hs]; simp [h1]
        have E := Lib.hid (go eT)
        clear step go hT eT
        replace hs := Lib.hid hs
        replace ht := Lib.hid ht
        have hto : (to != -1) = false := by simpa using h1
        replace h1 := Lib.hid h1
        refine wp_region_held_drew (S := fun w' => (w'.cell? ⟨w.heap.size + 1, 0, none⟩ = some (.int .i64 op) ∧ w'.cell? ⟨w.heap.size + 1, 1, none⟩ = some (.int .i64 to) ∧ w'.cell? ⟨w.heap.size + 1 + 1, 1, none⟩ = some (.int .i64 regs))) (by kernel_rfl) ?_ (fun hHeld => ?_)
        · exact ⟨y0, y1, yc⟩
        refine tk (i := 0) ?_
        try simp only [ap]
        refine tk (i := 1) ?_
        try simp only [ap]
        refine tk (i := 3) ?_
        try simp only [ap]
        refine tk (i := 4) ?_
        try simp only [ap]
        refine tk (i := 5) ?_
        try simp only [ap]
        refine tk (i := 6) ?_
        try simp only [ap]
        refine tk (i := 7) ?_
        try simp only [ap]
        refine reg_call (i := 2) (by kernel_rfl) rfl (fun K hK => ?_)
        go_simp
        (go_at_call 38; refine (spec_l7Makes op _).mono ?_; rintro e w' ⟨he_, rfl⟩; rw [hs.out] at he_; subst he_)
        refine hK.out _ _ ?_ (fun hHeld => ?_)
        · exact ⟨y0, y1, yc⟩
        clear hK K
        try simp only [ap]
        refine reg_call (i := 8) (by kernel_rfl) rfl (fun K hK => ?_)
        go_simp
        (go_at_call 35; refine (spec_l1In to 0 (regs - 1) _).mono ?_; rintro e w' ⟨he_, rfl⟩; rw [ht.out] at he_; subst he_)
        refine hK.out _ _ ?_ (fun hHeld => ?_)
        · exact ⟨y0, y1, yc⟩
        clear hK K
        try simp only [ap]
        refine tk (i := 9) ?_
        try simp only [ap]
        refine tk (i := 10) ?_
        try simp only [ap]
        refine tk (i := 11) ?_
        try simp only [ap]
        refine tk (i := 12) ?_
        try simp only [ap]
        refine reg_call (i := 13) (by kernel_rfl) rfl (fun K hK => ?_)
        go_simp
        (go_at_call 38; refine (spec_l7Makes op _).mono ?_; rintro e w' ⟨he_, rfl⟩; rw [hs.out] at he_; subst he_)
        refine hK.out _ _ ?_ (fun hHeld => ?_)
        · exact ⟨y0, y1, yc⟩
        clear hK K
        try simp only [ap]
        refine tk (i := 14) ?_
        try simp only [ap]
        refine tk (i := 15) ?_
        try simp only [ap]
        refine tk (i := 16) ?_
        try simp only [ap]
        refine tk (i := 17) ?_
        try simp only [ap]
        refine tk (i := 18) ?_
        try simp only [ap]
        refine tk (i := 19) ?_
        try simp only [ap]
        refine tk (i := 20) ?_
        try simp only [ap]
        refine wpAnyH_done (by kernel_rfl) ?_ _
        have hb2 : Below w.heap.size w w1.drew := hb1.drew
        have hu2 := hu.below hb2 hB
        replace y0 : w1.drew.cell? ⟨w.heap.size + 1, 0, none⟩ = some (.int .i64 op) := y0
        replace y2 : w1.drew.cell? ⟨w.heap.size + 1, 2, none⟩ = some (.slice Aa args.length pa) := y2
        replace y3 : w1.drew.cell? ⟨w.heap.size + 1, 3, none⟩ = some (.int .i64 n) := y3
        replace yu : w1.drew.cell? ⟨w.heap.size, 0, none⟩ = some (.slice (some ⟨b, o, none⟩) us.length cap) := yu
        generalize w1.drew = w2 at y0 y2 y3 yu hb2 hu2 ⊢
        replace E := E.out
        by_cases h14 : op = 14
        · subst h14
          rw [if_neg (by decide), if_pos rfl] at E
          have hw : IntKind.i64.wrap ((k : Int) - 1) = (k : Int) - 1 := IntWalk.i64_in _ (by omega)
          cases hn : inB n 0 ((k : Int) - 1)
          · rw [hn, Bool.false_and] at E
            replace E := Lib.hid E
            replace hn := Lib.hid hn
            go_wp2_with fail
            refine wp_region_held_drew (S := fun w' => (w'.cell? ⟨w.heap.size + 1, 3, none⟩ = some (.int .i64 n))) (by kernel_rfl) ?_ (fun hHeld => ?_)
            · exact y3
            refine tk (i := 0) ?_
            try simp only [ap]
            refine tk (i := 1) ?_
            try simp only [ap]
            refine tk (i := 2) ?_
            try simp only [ap]
            refine tk (i := 3) ?_
            try simp only [ap]
            refine reg_call (i := 4) (by kernel_rfl) rfl (fun K hK => ?_)
            go_simp
            (go_at_call 35; refine (spec_l1In n 0 ((k : Int) - 1) _).mono ?_; rintro e w' ⟨he_, rfl⟩; rw [hn.out] at he_; subst he_)
            refine hK.out _ _ ?_ (fun hHeld => ?_)
            · exact y3
            clear hK K
            try simp only [ap]
            refine tk (i := 5) ?_
            try simp only [ap]
            refine reg_take (i := 6) (v := undef) rfl (by kernel_rfl) (by kernel_rfl) (by kernel_rfl) (fun _ _ _ h => h) (Or.inr ⟨by kernel_rfl, rfl⟩) (by assumption) ?_
            try simp only [ap]
            refine reg_take (i := 7) (v := undef) rfl (by kernel_rfl) (by kernel_rfl) (by kernel_rfl) (fun _ _ _ h => h) (Or.inr ⟨by kernel_rfl, rfl⟩) (by assumption) ?_
            try simp only [ap]
            refine reg_take (i := 8) (v := undef) rfl (by kernel_rfl) (by kernel_rfl) (by kernel_rfl) (fun _ _ _ h => h) (Or.inr ⟨by kernel_rfl, rfl⟩) (by assumption) ?_
            try simp only [ap]
            refine reg_take (i := 9) (v := undef) rfl (by kernel_rfl) (by kernel_rfl) (by kernel_rfl) (fun _ _ _ h => h) (Or.inr ⟨by kernel_rfl, rfl⟩) (by assumption) ?_
            try simp only [ap]
            refine reg_take (i := 10) (v := undef) rfl (by kernel_rfl) (by kernel_rfl) (by kernel_rfl) (fun _ _ _ h => h) (Or.inr ⟨by kernel_rfl, rfl⟩) (by assumption) ?_
            try simp only [ap]
            refine reg_take (i := 11) (v := undef) rfl (by kernel_rfl) (by kernel_rfl) (by kernel_rfl) (fun _ _ _ h => h) (Or.inr ⟨by kernel_rfl, rfl⟩) (by assumption) ?_
            try simp only [ap]
            refine reg_take (i := 12) (v := undef) rfl (by kernel_rfl) (by kernel_rfl) (by kernel_rfl) (fun _ _ _ h => h) (Or.inr ⟨by kernel_rfl, rfl⟩) (by assumption) ?_
            try simp only [ap]
            refine reg_take (i := 13) (v := undef) rfl (by kernel_rfl) (by kernel_rfl) (by kernel_rfl) (fun _ _ _ h => h) (Or.inr ⟨by kernel_rfl, rfl⟩) (by assumption) ?_
            try simp only [ap]
            refine reg_take (i := 14) (v := undef) rfl (by kernel_rfl) (by kernel_rfl) (by kernel_rfl) (fun _ _ _ h => h) (Or.inr ⟨by kernel_rfl, rfl⟩) (by assumption) ?_
            try simp only [ap]
            refine reg_take (i := 15) (v := undef) rfl (by kernel_rfl) (by kernel_rfl) (by kernel_rfl) (fun _ _ _ h => h) (Or.inr ⟨by kernel_rfl, rfl⟩) (by assumption) ?_
            try simp only [ap]
            refine reg_take (i := 16) (v := undef) rfl (by kernel_rfl) (by kernel_rfl) (by kernel_rfl) (fun _ _ _ h => h) (Or.inr ⟨by kernel_rfl, rfl⟩) (by assumption) ?_
            try simp only [ap]
            refine tk (i := 17) ?_
            try simp only [ap]
            refine tk (i := 18) ?_
            try simp only [ap]
            refine wpAnyH_done (by kernel_rfl) ?_ _
            go_wp2_with fail
            go_ret
            exact RetV.mk (by rw [E.out] <;> rfl) rfl hb2.drew
          · rw [hn, Bool.true_and] at E
            have hno := inB_out hn
            obtain ⟨m, rfl⟩ : ∃ m : Nat, n = (m : Int) := Int.eq_ofNat_of_zero_le hno.1
            have hm : m < us.length := by omega
            obtain ⟨b', o', params', regs', blocks', u2', eA, _, _, HL', _, _, _, k0, _, _⟩ := code_get hu2 hm
            injection eA with eA
            injection eA with eb eo
            subst eb
            subst eo
            rw [parOf_at hm HL'.out] at E
            dsimp only at E
            have hmn : (m : Int) < (us.length : Int) := by omega
            have hmi : (0 : Int) ≤ (m : Int) := by omega
            replace hn := Lib.hid hn
            clear hno
            cases hz : decide ((args.length : Int) = params')
            · rw [hz] at E
              have hz' : ((args.length : Int) == params') = false := hz
              replace E := Lib.hid E
              go_wp2_with fail
              refine wp_region_held_drew (S := fun w' => (w'.cell? ⟨w.heap.size + 1, 2, none⟩ = some (.slice Aa args.length pa) ∧ w'.cell? ⟨w.heap.size + 1, 3, none⟩ = some (.int .i64 (m : Int)) ∧ w'.cell? ⟨w.heap.size, 0, none⟩ = some (.slice (some ⟨b, o, none⟩) us.length cap) ∧ w'.cell? ⟨b, o + m * 3, none⟩ = some (.int .i64 params'))) (by kernel_rfl) ?_ (fun hHeld => ?_)
              · exact ⟨y2, y3, yu, k0⟩
              refine tk (i := 0) ?_
              try simp only [ap]
              refine tk (i := 1) ?_
              try simp only [ap]
              refine tk (i := 2) ?_
              try simp only [ap]
              refine tk (i := 3) ?_
              try simp only [ap]
              refine reg_call (i := 4) (by kernel_rfl) rfl (fun K hK => ?_)
              go_simp
              (go_at_call 35; refine (spec_l1In (m : Int) 0 ((k : Int) - 1) _).mono ?_; rintro e w' ⟨he_, rfl⟩; rw [hn.out] at he_; subst he_)
              refine hK.out _ _ ?_ (fun hHeld => ?_)
              · exact ⟨y2, y3, yu, k0⟩
              clear hK K
              try simp only [ap]
              refine tk (i := 5) ?_
              try simp only [ap]
              refine tk (i := 6) ?_
              try simp only [ap]
              refine tk (i := 7) ?_
              try simp only [ap]
              refine tk (i := 8) ?_
              try simp only [ap]
              refine tk (i := 9) ?_
              try simp only [ap]
              refine tk (i := 10) ?_
              try simp only [ap]
              refine tk (i := 11) ?_
              try simp only [ap]
              refine tk (i := 12) ?_
              try simp only [ap]
              refine tk (i := 13) ?_
              try simp only [ap]
              refine tk (i := 14) ?_
              try simp only [ap]
              refine tk (i := 15) ?_
              try simp only [ap]
              refine tk (i := 16) ?_
              try simp only [ap]
              refine tk (i := 17) ?_
              try simp only [ap]
              refine tk (i := 18) ?_
              try simp only [ap]
              refine wpAnyH_done (by kernel_rfl) ?_ _
              go_wp2_with fail
              go_ret
              exact RetV.mk (by rw [E.out] <;> rfl) rfl hb2.drew
            · rw [hz] at E
              have hz' : ((args.length : Int) == params') = true := hz
              replace E := Lib.hid E
              go_wp2_with fail
              refine wp_region_held_drew (S := fun w' => (w'.cell? ⟨w.heap.size + 1, 2, none⟩ = some (.slice Aa args.length pa) ∧ w'.cell? ⟨w.heap.size + 1, 3, none⟩ = some (.int .i64 (m : Int)) ∧ w'.cell? ⟨w.heap.size, 0, none⟩ = some (.slice (some ⟨b, o, none⟩) us.length cap) ∧ w'.cell? ⟨b, o + m * 3, none⟩ = some (.int .i64 params'))) (by kernel_rfl) ?_ (fun hHeld => ?_)
              · exact ⟨y2, y3, yu, k0⟩
              refine tk (i := 0) ?_
              try simp only [ap]
              refine tk (i := 1) ?_
              try simp only [ap]
              refine tk (i := 2) ?_
              try simp only [ap]
              refine tk (i := 3) ?_
              try simp only [ap]
              refine reg_call (i := 4) (by kernel_rfl) rfl (fun K hK => ?_)
              go_simp
              (go_at_call 35; refine (spec_l1In (m : Int) 0 ((k : Int) - 1) _).mono ?_; rintro e w' ⟨he_, rfl⟩; rw [hn.out] at he_; subst he_)
              refine hK.out _ _ ?_ (fun hHeld => ?_)
              · exact ⟨y2, y3, yu, k0⟩
              clear hK K
              try simp only [ap]
              refine tk (i := 5) ?_
              try simp only [ap]
              refine tk (i := 6) ?_
              try simp only [ap]
              refine tk (i := 7) ?_
              try simp only [ap]
              refine tk (i := 8) ?_
              try simp only [ap]
              refine tk (i := 9) ?_
              try simp only [ap]
              refine tk (i := 10) ?_
              try simp only [ap]
              refine tk (i := 11) ?_
              try simp only [ap]
              refine tk (i := 12) ?_
              try simp only [ap]
              refine tk (i := 13) ?_
              try simp only [ap]
              refine tk (i := 14) ?_
              try simp only [ap]
              refine tk (i := 15) ?_
              try simp only [ap]
              refine tk (i := 16) ?_
              try simp only [ap]
              refine tk (i := 17) ?_
              try simp only [ap]
              refine tk (i := 18) ?_
              try simp only [ap]
              refine wpAnyH_done (by kernel_rfl) ?_ _
              go_wp2_with fail
              go_ret
              exact RetV.mk (by rw [E.out] <;> rfl) rfl hb2.drew
        · have e14 : (op == 14) = false := by simpa using h14
          obtain ⟨Z, hZ⟩ : ∃ Z : Bool, Z = decide ((args.length : Int) = argsN op) := ⟨_, rfl⟩
          have E2 : insB us regs k ⟨op, to, args, n⟩ = (Z && (inB n 0 255 && (decide (n = 0) || decide (op = 1)))) := by
            rw [E, hZ]
            by_cases h1 : op = 1
            · subst h1
              rw [if_pos rfl, show argsN 1 = 0 from rfl]
              simp
            · rw [if_neg h1, if_neg h14, decide_eq_false h1, Bool.or_false]
              by_cases h0 : n = 0
              · subst h0
                simp [inB]
              · simp [h0]
          clear E
          cases Z
          · have E := Lib.hid E2
            have hz' : ((args.length : Int) == argsN op) = false := hZ.symm
            clear E2 hZ
            go_wp2_with fail
            refine wp_region_held_drew (S := fun w' => (w'.cell? ⟨w.heap.size + 1, 0, none⟩ = some (.int .i64 op) ∧ w'.cell? ⟨w.heap.size + 1, 2, none⟩ = some (.slice Aa args.length pa) ∧ w'.cell? ⟨w.heap.size + 1, 3, none⟩ = some (.int .i64 n))) (by kernel_rfl) ?_ (fun hHeld => ?_)
            · exact ⟨y0, y2, y3⟩
            refine tk (i := 0) ?_
            try simp only [ap]
            refine tk (i := 1) ?_
            try simp only [ap]
            refine tk (i := 2) ?_
            try simp only [ap]
            refine tk (i := 3) ?_
            try simp only [ap]
            refine tk (i := 4) ?_
            try simp only [ap]
            refine reg_call (i := 5) (by kernel_rfl) rfl (fun K hK => ?_)
            go_simp
            (go_at_call 96; refine (spec_l7Args op hi.out h14 _).mono ?_; rintro e w' ⟨rfl, rfl⟩)
            refine hK.out _ _ ?_ (fun hHeld => ?_)
            · exact ⟨y0, y2, y3⟩
            clear hK K
            try simp only [ap]
            refine tk (i := 6) ?_
            try simp only [ap]
            refine tk (i := 7) ?_
            try simp only [ap]
            refine reg_take (i := 8) (v := undef) rfl (by kernel_rfl) (by kernel_rfl) (by kernel_rfl) (fun _ _ _ h => h) (Or.inr ⟨by kernel_rfl, rfl⟩) (by assumption) ?_
            try simp only [ap]
            refine reg_take (i := 9) (v := undef) rfl (by kernel_rfl) (by kernel_rfl) (by kernel_rfl) (fun _ _ _ h => h) (Or.inr ⟨by kernel_rfl, rfl⟩) (by assumption) ?_
            try simp only [ap]
            refine reg_take (i := 10) (v := undef) rfl (by kernel_rfl) (by kernel_rfl) (by kernel_rfl) (fun _ _ _ h => h) (Or.inr ⟨by kernel_rfl, rfl⟩) (by assumption) ?_
            try simp only [ap]
            refine tk (i := 11) ?_
            try simp only [ap]
            refine tk (i := 12) ?_
            try simp only [ap]
            refine reg_take (i := 13) (v := undef) rfl (by kernel_rfl) (by kernel_rfl) (by kernel_rfl) (fun _ _ _ h => h) (Or.inr ⟨by kernel_rfl, rfl⟩) (by assumption) ?_
            try simp only [ap]
            refine reg_take (i := 14) (v := undef) rfl (by kernel_rfl) (by kernel_rfl) (by kernel_rfl) (fun _ _ _ h => h) (Or.inr ⟨by kernel_rfl, rfl⟩) (by assumption) ?_
            try simp only [ap]
            refine reg_take (i := 15) (v := undef) rfl (by kernel_rfl) (by kernel_rfl) (by kernel_rfl) (fun _ _ _ h => h) (Or.inr ⟨by kernel_rfl, rfl⟩) (by assumption) ?_
            try simp only [ap]
            refine reg_take (i := 16) (v := undef) rfl (by kernel_rfl) (by kernel_rfl) (by kernel_rfl) (fun _ _ _ h => h) (Or.inr ⟨by kernel_rfl, rfl⟩) (by assumption) ?_
            try simp only [ap]
            refine reg_take (i := 17) (v := undef) rfl (by kernel_rfl) (by kernel_rfl) (by kernel_rfl) (fun _ _ _ h => h) (Or.inr ⟨by kernel_rfl, rfl⟩) (by assumption) ?_
            try simp only [ap]
            refine reg_take (i := 18) (v := undef) rfl (by kernel_rfl) (by kernel_rfl) (by kernel_rfl) (fun _ _ _ h => h) (Or.inr ⟨by kernel_rfl, rfl⟩) (by assumption) ?_
            try simp only [ap]
            refine reg_take (i := 19) (v := undef) rfl (by kernel_rfl) (by kernel_rfl) (by kernel_rfl) (fun _ _ _ h => h) (Or.inr ⟨by kernel_rfl, rfl⟩) (by assumption) ?_
            try simp only [ap]
            refine reg_take (i := 20) (v := undef) rfl (by kernel_rfl) (by kernel_rfl) (by kernel_rfl) (fun _ _ _ h => h) (Or.inr ⟨by kernel_rfl, rfl⟩) (by assumption) ?_
            try simp only [ap]
            refine tk (i := 21) ?_
            try simp only [ap]
            refine tk (i := 22) ?_
            try simp only [ap]
            refine wpAnyH_done (by kernel_rfl) ?_ _
            go_wp2_with fail
            go_ret
            exact RetV.mk (by rw [E.out] <;> rfl) rfl hb2.drew
          · have hz' : ((args.length : Int) == argsN op) = true := hZ.symm
            clear hZ
            rw [Bool.true_and] at E2
            cases hn : inB n 0 255
            · rw [hn, Bool.false_and] at E2
              have E := Lib.hid E2
              replace hn := Lib.hid hn
              clear E2
              go_wp2_with fail
              refine wp_region_held_drew (S := fun w' => (w'.cell? ⟨w.heap.size + 1, 0, none⟩ = some (.int .i64 op) ∧ w'.cell? ⟨w.heap.size + 1, 2, none⟩ = some (.slice Aa args.length pa) ∧ w'.cell? ⟨w.heap.size + 1, 3, none⟩ = some (.int .i64 n))) (by kernel_rfl) ?_ (fun hHeld => ?_)
              · exact ⟨y0, y2, y3⟩
              refine tk (i := 0) ?_
              try simp only [ap]
              refine tk (i := 1) ?_
              try simp only [ap]
              refine tk (i := 2) ?_
              try simp only [ap]
              refine tk (i := 3) ?_
              try simp only [ap]
              refine tk (i := 4) ?_
              try simp only [ap]
              refine reg_call (i := 5) (by kernel_rfl) rfl (fun K hK => ?_)
              go_simp
              (go_at_call 96; refine (spec_l7Args op hi.out h14 _).mono ?_; rintro e w' ⟨rfl, rfl⟩)
              refine hK.out _ _ ?_ (fun hHeld => ?_)
              · exact ⟨y0, y2, y3⟩
              clear hK K
              try simp only [ap]
              refine tk (i := 6) ?_
              try simp only [ap]
              refine tk (i := 7) ?_
              try simp only [ap]
              refine tk (i := 8) ?_
              try simp only [ap]
              refine tk (i := 9) ?_
              try simp only [ap]
              refine reg_call (i := 10) (by kernel_rfl) rfl (fun K hK => ?_)
              go_simp
              (go_at_call 35; refine (spec_l1In n 0 255 _).mono ?_; rintro e w' ⟨he_, rfl⟩; rw [hn.out] at he_; subst he_)
              refine hK.out _ _ ?_ (fun hHeld => ?_)
              · exact ⟨y0, y2, y3⟩
              clear hK K
              try simp only [ap]
              refine tk (i := 11) ?_
              try simp only [ap]
              refine tk (i := 12) ?_
              try simp only [ap]
              refine reg_take (i := 13) (v := undef) rfl (by kernel_rfl) (by kernel_rfl) (by kernel_rfl) (fun _ _ _ h => h) (Or.inr ⟨by kernel_rfl, rfl⟩) (by assumption) ?_
              try simp only [ap]
              refine reg_take (i := 14) (v := undef) rfl (by kernel_rfl) (by kernel_rfl) (by kernel_rfl) (fun _ _ _ h => h) (Or.inr ⟨by kernel_rfl, rfl⟩) (by assumption) ?_
              try simp only [ap]
              refine reg_take (i := 15) (v := undef) rfl (by kernel_rfl) (by kernel_rfl) (by kernel_rfl) (fun _ _ _ h => h) (Or.inr ⟨by kernel_rfl, rfl⟩) (by assumption) ?_
              try simp only [ap]
              refine reg_take (i := 16) (v := undef) rfl (by kernel_rfl) (by kernel_rfl) (by kernel_rfl) (fun _ _ _ h => h) (Or.inr ⟨by kernel_rfl, rfl⟩) (by assumption) ?_
              try simp only [ap]
              refine reg_take (i := 17) (v := undef) rfl (by kernel_rfl) (by kernel_rfl) (by kernel_rfl) (fun _ _ _ h => h) (Or.inr ⟨by kernel_rfl, rfl⟩) (by assumption) ?_
              try simp only [ap]
              refine reg_take (i := 18) (v := undef) rfl (by kernel_rfl) (by kernel_rfl) (by kernel_rfl) (fun _ _ _ h => h) (Or.inr ⟨by kernel_rfl, rfl⟩) (by assumption) ?_
              try simp only [ap]
              refine reg_take (i := 19) (v := undef) rfl (by kernel_rfl) (by kernel_rfl) (by kernel_rfl) (fun _ _ _ h => h) (Or.inr ⟨by kernel_rfl, rfl⟩) (by assumption) ?_
              try simp only [ap]
              refine reg_take (i := 20) (v := undef) rfl (by kernel_rfl) (by kernel_rfl) (by kernel_rfl) (fun _ _ _ h => h) (Or.inr ⟨by kernel_rfl, rfl⟩) (by assumption) ?_
              try simp only [ap]
              refine tk (i := 21) ?_
              try simp only [ap]
              refine tk (i := 22) ?_
              try simp only [ap]
              refine wpAnyH_done (by kernel_rfl) ?_ _
              go_wp2_with fail
              go_ret
              exact RetV.mk (by rw [E.out] <;> rfl) rfl hb2.drew
            · rw [hn, Bool.true_and] at E2
              by_cases h0 : n = 0
              · subst h0
                rw [decide_eq_true rfl, Bool.true_or] at E2
                have E := Lib.hid E2
                replace hn := Lib.hid hn
                clear E2
                go_wp2_with fail
                refine wp_region_held_drew (S := fun w' => (w'.cell? ⟨w.heap.size + 1, 0, none⟩ = some (.int .i64 op) ∧ w'.cell? ⟨w.heap.size + 1, 2, none⟩ = some (.slice Aa args.length pa) ∧ w'.cell? ⟨w.heap.size + 1, 3, none⟩ = some (.int .i64 0))) (by kernel_rfl) ?_ (fun hHeld => ?_)
                · exact ⟨y0, y2, y3⟩
                refine tk (i := 0) ?_
                try simp only [ap]
                refine tk (i := 1) ?_
                try simp only [ap]
                refine tk (i := 2) ?_
                try simp only [ap]
                refine tk (i := 3) ?_
                try simp only [ap]
                refine tk (i := 4) ?_
                try simp only [ap]
                refine reg_call (i := 5) (by kernel_rfl) rfl (fun K hK => ?_)
                go_simp
                (go_at_call 96; refine (spec_l7Args op hi.out h14 _).mono ?_; rintro e w' ⟨rfl, rfl⟩)
                refine hK.out _ _ ?_ (fun hHeld => ?_)
                · exact ⟨y0, y2, y3⟩
                clear hK K
                try simp only [ap]
                refine tk (i := 6) ?_
                try simp only [ap]
                refine tk (i := 7) ?_
                try simp only [ap]
                refine tk (i := 8) ?_
                try simp only [ap]
                refine tk (i := 9) ?_
                try simp only [ap]
                refine reg_call (i := 10) (by kernel_rfl) rfl (fun K hK => ?_)
                go_simp
                (go_at_call 35; refine (spec_l1In 0 0 255 _).mono ?_; rintro e w' ⟨he_, rfl⟩; rw [hn.out] at he_; subst he_)
                refine hK.out _ _ ?_ (fun hHeld => ?_)
                · exact ⟨y0, y2, y3⟩
                clear hK K
                try simp only [ap]
                refine tk (i := 11) ?_
                try simp only [ap]
                refine tk (i := 12) ?_
                try simp only [ap]
                refine tk (i := 13) ?_
                try simp only [ap]
                refine tk (i := 14) ?_
                try simp only [ap]
                refine tk (i := 15) ?_
                try simp only [ap]
                refine tk (i := 16) ?_
                try simp only [ap]
                refine reg_take (i := 17) (v := undef) rfl (by kernel_rfl) (by kernel_rfl) (by kernel_rfl) (fun _ _ _ h => h) (Or.inr ⟨by kernel_rfl, rfl⟩) (by assumption) ?_
                try simp only [ap]
                refine reg_take (i := 18) (v := undef) rfl (by kernel_rfl) (by kernel_rfl) (by kernel_rfl) (fun _ _ _ h => h) (Or.inr ⟨by kernel_rfl, rfl⟩) (by assumption) ?_
                try simp only [ap]
                refine reg_take (i := 19) (v := undef) rfl (by kernel_rfl) (by kernel_rfl) (by kernel_rfl) (fun _ _ _ h => h) (Or.inr ⟨by kernel_rfl, rfl⟩) (by assumption) ?_
                try simp only [ap]
                refine tk (i := 20) ?_
                try simp only [ap]
                refine tk (i := 21) ?_
                try simp only [ap]
                refine tk (i := 22) ?_
                try simp only [ap]
                refine wpAnyH_done (by kernel_rfl) ?_ _
                go_wp2_with fail
                go_ret
                exact RetV.mk (by rw [E.out] <;> rfl) rfl hb2.drew
              · have n0 : (n == 0) = false := by simpa using h0
                rw [decide_eq_false h0, Bool.false_or] at E2
                by_cases h1 : op = 1
                · subst h1
                  rw [decide_eq_true rfl] at E2
                  have E := Lib.hid E2
                  replace hn := Lib.hid hn
                  clear E2
                  go_wp2_with fail
                  refine wp_region_held_drew (S := fun w' => (w'.cell? ⟨w.heap.size + 1, 0, none⟩ = some (.int .i64 1) ∧ w'.cell? ⟨w.heap.size + 1, 2, none⟩ = some (.slice Aa args.length pa) ∧ w'.cell? ⟨w.heap.size + 1, 3, none⟩ = some (.int .i64 n))) (by kernel_rfl) ?_ (fun hHeld => ?_)
                  · exact ⟨y0, y2, y3⟩
                  refine tk (i := 0) ?_
                  try simp only [ap]
                  refine tk (i := 1) ?_
                  try simp only [ap]
                  refine tk (i := 2) ?_
                  try simp only [ap]
                  refine tk (i := 3) ?_
                  try simp only [ap]
                  refine tk (i := 4) ?_
                  try simp only [ap]
                  refine reg_call (i := 5) (by kernel_rfl) rfl (fun K hK => ?_)
                  go_simp
                  (go_at_call 96; refine (spec_l7Args 1 hi.out h14 _).mono ?_; rintro e w' ⟨rfl, rfl⟩)
                  refine hK.out _ _ ?_ (fun hHeld => ?_)
                  · exact ⟨y0, y2, y3⟩
                  clear hK K
                  try simp only [ap]
                  refine tk (i := 6) ?_
                  try simp only [ap]
                  refine tk (i := 7) ?_
                  try simp only [ap]
                  refine tk (i := 8) ?_
                  try simp only [ap]
                  refine tk (i := 9) ?_
                  try simp only [ap]
                  refine reg_call (i := 10) (by kernel_rfl) rfl (fun K hK => ?_)
                  go_simp
                  (go_at_call 35; refine (spec_l1In n 0 255 _).mono ?_; rintro e w' ⟨he_, rfl⟩; rw [hn.out] at he_; subst he_)
                  refine hK.out _ _ ?_ (fun hHeld => ?_)
                  · exact ⟨y0, y2, y3⟩
                  clear hK K
                  try simp only [ap]
                  refine tk (i := 11) ?_
                  try simp only [ap]
                  refine tk (i := 12) ?_
                  try simp only [ap]
                  refine tk (i := 13) ?_
                  try simp only [ap]
                  refine tk (i := 14) ?_
                  try simp only [ap]
                  refine tk (i := 15) ?_
                  try simp only [ap]
                  refine tk (i := 16) ?_
                  try simp only [ap]
                  refine tk (i := 17) ?_
                  try simp only [ap]
                  refine tk (i := 18) ?_
                  try simp only [ap]
                  refine tk (i := 19) ?_
                  try simp only [ap]
                  refine tk (i := 20) ?_
                  try simp only [ap]
                  refine tk (i := 21) ?_
                  try simp only [ap]
                  refine tk (i := 22) ?_
                  try simp only [ap]
                  refine wpAnyH_done (by kernel_rfl) ?_ _
                  go_wp2_with fail
                  go_ret
                  exact RetV.mk (by rw [E.out] <;> rfl) rfl hb2.drew
                · rw [decide_eq_false h1] at E2
                  have e1 : (op == 1) = false := by simpa using h1
                  have E := Lib.hid E2
                  replace hn := Lib.hid hn
                  clear E2
                  go_wp2_with fail
                  refine wp_region_held_drew (S := fun w' => (w'.cell? ⟨w.heap.size + 1, 0, none⟩ = some (.int .i64 op) ∧ w'.cell? ⟨w.heap.size + 1, 2, none⟩ = some (.slice Aa args.length pa) ∧ w'.cell? ⟨w.heap.size + 1, 3, none⟩ = some (.int .i64 n))) (by kernel_rfl) ?_ (fun hHeld => ?_)
                  · exact ⟨y0, y2, y3⟩
                  refine tk (i := 0) ?_
                  try simp only [ap]
                  refine tk (i := 1) ?_
                  try simp only [ap]
                  refine tk (i := 2) ?_
                  try simp only [ap]
                  refine tk (i := 3) ?_
                  try simp only [ap]
                  refine tk (i := 4) ?_
                  try simp only [ap]
                  refine reg_call (i := 5) (by kernel_rfl) rfl (fun K hK => ?_)
                  go_simp
                  (go_at_call 96; refine (spec_l7Args op hi.out h14 _).mono ?_; rintro e w' ⟨rfl, rfl⟩)
                  refine hK.out _ _ ?_ (fun hHeld => ?_)
                  · exact ⟨y0, y2, y3⟩
                  clear hK K
                  try simp only [ap]
                  refine tk (i := 6) ?_
                  try simp only [ap]
                  refine tk (i := 7) ?_
                  try simp only [ap]
                  refine tk (i := 8) ?_
                  try simp only [ap]
                  refine tk (i := 9) ?_
                  try simp only [ap]
                  refine reg_call (i := 10) (by kernel_rfl) rfl (fun K hK => ?_)
                  go_simp
                  (go_at_call 35; refine (spec_l1In n 0 255 _).mono ?_; rintro e w' ⟨he_, rfl⟩; rw [hn.out] at he_; subst he_)
                  refine hK.out _ _ ?_ (fun hHeld => ?_)
                  · exact ⟨y0, y2, y3⟩
                  clear hK K
                  try simp only [ap]
                  refine tk (i := 11) ?_
                  try simp only [ap]
                  refine tk (i := 12) ?_
                  try simp only [ap]
                  refine tk (i := 13) ?_
                  try simp only [ap]
                  refine tk (i := 14) ?_
                  try simp only [ap]
                  refine tk (i := 15) ?_
                  try simp only [ap]
                  refine tk (i := 16) ?_
                  try simp only [ap]
                  refine tk (i := 17) ?_
                  try simp only [ap]
                  refine tk (i := 18) ?_
                  try simp only [ap]
                  refine tk (i := 19) ?_
                  try simp only [ap]
                  refine tk (i := 20) ?_
                  try simp only [ap]
                  refine tk (i := 21) ?_
                  try simp only [ap]
                  refine tk (i := 22) ?_
                  try simp only [ap]
                  refine wpAnyH_done (by kernel_rfl) ?_ _
                  go_wp2_with fail
                  go_ret
                  exact RetV.mk (by rw [E.out] <;> rfl) rfl hb2.drew
      · have eT : T = false := by rw [hT]; unfold toB; rw [hs]; simp [h1]
        have E := Lib.hid (step eT)
        have hto : (to != -1) = true := by simpa using h1
        clear step go hT eT
        replace hs := Lib.hid hs
        replace ht := Lib.hid ht
        refine wp_region_held_drew (S := fun w' => (w'.cell? ⟨w.heap.size + 1, 0, none⟩ = some (.int .i64 op) ∧ w'.cell? ⟨w.heap.size + 1, 1, none⟩ = some (.int .i64 to) ∧ w'.cell? ⟨w.heap.size + 1 + 1, 1, none⟩ = some (.int .i64 regs))) (by kernel_rfl) ?_ (fun hHeld => ?_)
        · exact ⟨y0, y1, yc⟩
        refine tk (i := 0) ?_
        try simp only [ap]
        refine tk (i := 1) ?_
        try simp only [ap]
        refine tk (i := 3) ?_
        try simp only [ap]
        refine tk (i := 4) ?_
        try simp only [ap]
        refine tk (i := 5) ?_
        try simp only [ap]
        refine tk (i := 6) ?_
        try simp only [ap]
        refine tk (i := 7) ?_
        try simp only [ap]
        refine reg_call (i := 2) (by kernel_rfl) rfl (fun K hK => ?_)
        go_simp
        (go_at_call 38; refine (spec_l7Makes op _).mono ?_; rintro e w' ⟨he_, rfl⟩; rw [hs.out] at he_; subst he_)
        refine hK.out _ _ ?_ (fun hHeld => ?_)
        · exact ⟨y0, y1, yc⟩
        clear hK K
        try simp only [ap]
        refine reg_call (i := 8) (by kernel_rfl) rfl (fun K hK => ?_)
        go_simp
        (go_at_call 35; refine (spec_l1In to 0 (regs - 1) _).mono ?_; rintro e w' ⟨he_, rfl⟩; rw [ht.out] at he_; subst he_)
        refine hK.out _ _ ?_ (fun hHeld => ?_)
        · exact ⟨y0, y1, yc⟩
        clear hK K
        try simp only [ap]
        refine tk (i := 9) ?_
        try simp only [ap]
        refine tk (i := 10) ?_
        try simp only [ap]
        refine tk (i := 11) ?_
        try simp only [ap]
        refine tk (i := 12) ?_
        try simp only [ap]
        refine reg_call (i := 13) (by kernel_rfl) rfl (fun K hK => ?_)
        go_simp
        (go_at_call 38; refine (spec_l7Makes op _).mono ?_; rintro e w' ⟨he_, rfl⟩; rw [hs.out] at he_; subst he_)
        refine hK.out _ _ ?_ (fun hHeld => ?_)
        · exact ⟨y0, y1, yc⟩
        clear hK K
        try simp only [ap]
        refine tk (i := 14) ?_
        try simp only [ap]
        refine tk (i := 15) ?_
        try simp only [ap]
        refine tk (i := 16) ?_
        try simp only [ap]
        refine tk (i := 17) ?_
        try simp only [ap]
        refine tk (i := 18) ?_
        try simp only [ap]
        refine tk (i := 19) ?_
        try simp only [ap]
        refine tk (i := 20) ?_
        try simp only [ap]
        refine wpAnyH_done (by kernel_rfl) ?_ _
        go_wp2_with fail
        go_ret
        exact RetV.mk (by rw [E.out] <;> rfl) rfl hb1.drew
    · have eT : T = false := by
        have := inB_out ht
        rw [hT]
        unfold toB
        rw [hs]
        simp
        omega
      have E := Lib.hid (step eT)
      clear step go hT eT
      replace hs := Lib.hid hs
      replace ht := Lib.hid ht
      refine wp_region_held_drew (S := fun w' => (w'.cell? ⟨w.heap.size + 1, 0, none⟩ = some (.int .i64 op) ∧ w'.cell? ⟨w.heap.size + 1, 1, none⟩ = some (.int .i64 to) ∧ w'.cell? ⟨w.heap.size + 1 + 1, 1, none⟩ = some (.int .i64 regs))) (by kernel_rfl) ?_ (fun hHeld => ?_)
      · exact ⟨y0, y1, yc⟩
      refine tk (i := 0) ?_
      try simp only [ap]
      refine tk (i := 1) ?_
      try simp only [ap]
      refine tk (i := 3) ?_
      try simp only [ap]
      refine tk (i := 4) ?_
      try simp only [ap]
      refine tk (i := 5) ?_
      try simp only [ap]
      refine tk (i := 6) ?_
      try simp only [ap]
      refine tk (i := 7) ?_
      try simp only [ap]
      refine reg_call (i := 2) (by kernel_rfl) rfl (fun K hK => ?_)
      go_simp
      (go_at_call 38; refine (spec_l7Makes op _).mono ?_; rintro e w' ⟨he_, rfl⟩; rw [hs.out] at he_; subst he_)
      refine hK.out _ _ ?_ (fun hHeld => ?_)
      · exact ⟨y0, y1, yc⟩
      clear hK K
      try simp only [ap]
      refine reg_call (i := 8) (by kernel_rfl) rfl (fun K hK => ?_)
      go_simp
      (go_at_call 35; refine (spec_l1In to 0 (regs - 1) _).mono ?_; rintro e w' ⟨he_, rfl⟩; rw [ht.out] at he_; subst he_)
      refine hK.out _ _ ?_ (fun hHeld => ?_)
      · exact ⟨y0, y1, yc⟩
      clear hK K
      try simp only [ap]
      refine tk (i := 9) ?_
      try simp only [ap]
      refine tk (i := 10) ?_
      try simp only [ap]
      refine reg_take (i := 11) (v := undef) rfl (by kernel_rfl) (by kernel_rfl) (by kernel_rfl) (fun _ _ _ h => h) (Or.inr ⟨by kernel_rfl, rfl⟩) (by assumption) ?_
      try simp only [ap]
      refine reg_take (i := 12) (v := undef) rfl (by kernel_rfl) (by kernel_rfl) (by kernel_rfl) (fun _ _ _ h => h) (Or.inr ⟨by kernel_rfl, rfl⟩) (by assumption) ?_
      try simp only [ap]
      refine reg_take (i := 13) (v := undef) rfl (by kernel_rfl) (by kernel_rfl) (by kernel_rfl) (fun _ _ _ h => h) (Or.inr ⟨by kernel_rfl, rfl⟩) (by assumption) ?_
      try simp only [ap]
      refine reg_take (i := 14) (v := undef) rfl (by kernel_rfl) (by kernel_rfl) (by kernel_rfl) (fun _ _ _ h => h) (Or.inr ⟨by kernel_rfl, rfl⟩) (by assumption) ?_
      try simp only [ap]
      refine reg_take (i := 15) (v := undef) rfl (by kernel_rfl) (by kernel_rfl) (by kernel_rfl) (fun _ _ _ h => h) (Or.inr ⟨by kernel_rfl, rfl⟩) (by assumption) ?_
      try simp only [ap]
      refine reg_take (i := 16) (v := undef) rfl (by kernel_rfl) (by kernel_rfl) (by kernel_rfl) (fun _ _ _ h => h) (Or.inr ⟨by kernel_rfl, rfl⟩) (by assumption) ?_
      try simp only [ap]
      refine reg_take (i := 17) (v := undef) rfl (by kernel_rfl) (by kernel_rfl) (by kernel_rfl) (fun _ _ _ h => h) (Or.inr ⟨by kernel_rfl, rfl⟩) (by assumption) ?_
      try simp only [ap]
      refine reg_take (i := 18) (v := undef) rfl (by kernel_rfl) (by kernel_rfl) (by kernel_rfl) (fun _ _ _ h => h) (Or.inr ⟨by kernel_rfl, rfl⟩) (by assumption) ?_
      try simp only [ap]
      refine reg_take (i := 19) (v := undef) rfl (by kernel_rfl) (by kernel_rfl) (by kernel_rfl) (fun _ _ _ h => h) (Or.inr ⟨by kernel_rfl, rfl⟩) (by assumption) ?_
      try simp only [ap]
      refine tk (i := 20) ?_
      try simp only [ap]
      refine wpAnyH_done (by kernel_rfl) ?_ _
      go_wp2_with fail
      go_ret
      exact RetV.mk (by rw [E.out] <;> rfl) rfl hb1.drew
  · cases ht : inB to 0 (regs - 1)
    · have eT : T = false := by rw [hT]; unfold toB; rw [hs, if_pos rfl]; exact ht
      have E := Lib.hid (step eT)
      clear step go hT eT
      replace hs := Lib.hid hs
      replace ht := Lib.hid ht
      refine wp_region_held_drew (S := fun w' => (w'.cell? ⟨w.heap.size + 1, 0, none⟩ = some (.int .i64 op) ∧ w'.cell? ⟨w.heap.size + 1, 1, none⟩ = some (.int .i64 to) ∧ w'.cell? ⟨w.heap.size + 1 + 1, 1, none⟩ = some (.int .i64 regs))) (by kernel_rfl) ?_ (fun hHeld => ?_)
      · exact ⟨y0, y1, yc⟩
      refine tk (i := 0) ?_
      try simp only [ap]
      refine tk (i := 1) ?_
      try simp only [ap]
      refine tk (i := 3) ?_
      try simp only [ap]
      refine tk (i := 4) ?_
      try simp only [ap]
      refine tk (i := 5) ?_
      try simp only [ap]
      refine tk (i := 6) ?_
      try simp only [ap]
      refine tk (i := 7) ?_
      try simp only [ap]
      refine reg_call (i := 2) (by kernel_rfl) rfl (fun K hK => ?_)
      go_simp
      (go_at_call 38; refine (spec_l7Makes op _).mono ?_; rintro e w' ⟨he_, rfl⟩; rw [hs.out] at he_; subst he_)
      refine hK.out _ _ ?_ (fun hHeld => ?_)
      · exact ⟨y0, y1, yc⟩
      clear hK K
      try simp only [ap]
      refine reg_call (i := 8) (by kernel_rfl) rfl (fun K hK => ?_)
      go_simp
      (go_at_call 35; refine (spec_l1In to 0 (regs - 1) _).mono ?_; rintro e w' ⟨he_, rfl⟩; rw [ht.out] at he_; subst he_)
      refine hK.out _ _ ?_ (fun hHeld => ?_)
      · exact ⟨y0, y1, yc⟩
      clear hK K
      try simp only [ap]
      refine tk (i := 9) ?_
      try simp only [ap]
      refine tk (i := 10) ?_
      try simp only [ap]
      refine reg_take (i := 11) (v := undef) rfl (by kernel_rfl) (by kernel_rfl) (by kernel_rfl) (fun _ _ _ h => h) (Or.inr ⟨by kernel_rfl, rfl⟩) (by assumption) ?_
      try simp only [ap]
      refine reg_take (i := 12) (v := undef) rfl (by kernel_rfl) (by kernel_rfl) (by kernel_rfl) (fun _ _ _ h => h) (Or.inr ⟨by kernel_rfl, rfl⟩) (by assumption) ?_
      try simp only [ap]
      refine reg_take (i := 13) (v := undef) rfl (by kernel_rfl) (by kernel_rfl) (by kernel_rfl) (fun _ _ _ h => h) (Or.inr ⟨by kernel_rfl, rfl⟩) (by assumption) ?_
      try simp only [ap]
      refine reg_take (i := 14) (v := undef) rfl (by kernel_rfl) (by kernel_rfl) (by kernel_rfl) (fun _ _ _ h => h) (Or.inr ⟨by kernel_rfl, rfl⟩) (by assumption) ?_
      try simp only [ap]
      refine reg_take (i := 15) (v := undef) rfl (by kernel_rfl) (by kernel_rfl) (by kernel_rfl) (fun _ _ _ h => h) (Or.inr ⟨by kernel_rfl, rfl⟩) (by assumption) ?_
      try simp only [ap]
      refine reg_take (i := 16) (v := undef) rfl (by kernel_rfl) (by kernel_rfl) (by kernel_rfl) (fun _ _ _ h => h) (Or.inr ⟨by kernel_rfl, rfl⟩) (by assumption) ?_
      try simp only [ap]
      refine reg_take (i := 17) (v := undef) rfl (by kernel_rfl) (by kernel_rfl) (by kernel_rfl) (fun _ _ _ h => h) (Or.inr ⟨by kernel_rfl, rfl⟩) (by assumption) ?_
      try simp only [ap]
      refine reg_take (i := 18) (v := undef) rfl (by kernel_rfl) (by kernel_rfl) (by kernel_rfl) (fun _ _ _ h => h) (Or.inr ⟨by kernel_rfl, rfl⟩) (by assumption) ?_
      try simp only [ap]
      refine reg_take (i := 19) (v := undef) rfl (by kernel_rfl) (by kernel_rfl) (by kernel_rfl) (fun _ _ _ h => h) (Or.inr ⟨by kernel_rfl, rfl⟩) (by assumption) ?_
      try simp only [ap]
      refine tk (i := 20) ?_
      try simp only [ap]
      refine wpAnyH_done (by kernel_rfl) ?_ _
      go_wp2_with fail
      go_ret
      exact RetV.mk (by rw [E.out] <;> rfl) rfl hb1.drew
    · have eT : T = true := by rw [hT]; unfold toB; rw [hs, if_pos rfl]; exact ht
      have E := Lib.hid (go eT)
      clear step go hT eT
      replace hs := Lib.hid hs
      replace ht := Lib.hid ht
      refine wp_region_held_drew (S := fun w' => (w'.cell? ⟨w.heap.size + 1, 0, none⟩ = some (.int .i64 op) ∧ w'.cell? ⟨w.heap.size + 1, 1, none⟩ = some (.int .i64 to) ∧ w'.cell? ⟨w.heap.size + 1 + 1, 1, none⟩ = some (.int .i64 regs))) (by kernel_rfl) ?_ (fun hHeld => ?_)
      · exact ⟨y0, y1, yc⟩
      refine tk (i := 0) ?_
      try simp only [ap]
      refine tk (i := 1) ?_
      try simp only [ap]
      refine tk (i := 3) ?_
      try simp only [ap]
      refine tk (i := 4) ?_
      try simp only [ap]
      refine tk (i := 5) ?_
      try simp only [ap]
      refine tk (i := 6) ?_
      try simp only [ap]
      refine tk (i := 7) ?_
      try simp only [ap]
      refine reg_call (i := 2) (by kernel_rfl) rfl (fun K hK => ?_)
      go_simp
      (go_at_call 38; refine (spec_l7Makes op _).mono ?_; rintro e w' ⟨he_, rfl⟩; rw [hs.out] at he_; subst he_)
      refine hK.out _ _ ?_ (fun hHeld => ?_)
      · exact ⟨y0, y1, yc⟩
      clear hK K
      try simp only [ap]
      refine reg_call (i := 8) (by kernel_rfl) rfl (fun K hK => ?_)
      go_simp
      (go_at_call 35; refine (spec_l1In to 0 (regs - 1) _).mono ?_; rintro e w' ⟨he_, rfl⟩; rw [ht.out] at he_; subst he_)
      refine hK.out _ _ ?_ (fun hHeld => ?_)
      · exact ⟨y0, y1, yc⟩
      clear hK K
      try simp only [ap]
      refine tk (i := 9) ?_
      try simp only [ap]
      refine tk (i := 10) ?_
      try simp only [ap]
      refine tk (i := 11) ?_
      try simp only [ap]
      refine tk (i := 12) ?_
      try simp only [ap]
      refine reg_call (i := 13) (by kernel_rfl) rfl (fun K hK => ?_)
      go_simp
      (go_at_call 38; refine (spec_l7Makes op _).mono ?_; rintro e w' ⟨he_, rfl⟩; rw [hs.out] at he_; subst he_)
      refine hK.out _ _ ?_ (fun hHeld => ?_)
      · exact ⟨y0, y1, yc⟩
      clear hK K
      try simp only [ap]
      refine tk (i := 14) ?_
      try simp only [ap]
      refine tk (i := 15) ?_
      try simp only [ap]
      refine reg_take (i := 16) (v := undef) rfl (by kernel_rfl) (by kernel_rfl) (by kernel_rfl) (fun _ _ _ h => h) (Or.inr ⟨by kernel_rfl, rfl⟩) (by assumption) ?_
      try simp only [ap]
      refine reg_take (i := 17) (v := undef) rfl (by kernel_rfl) (by kernel_rfl) (by kernel_rfl) (fun _ _ _ h => h) (Or.inr ⟨by kernel_rfl, rfl⟩) (by assumption) ?_
      try simp only [ap]
      refine reg_take (i := 18) (v := undef) rfl (by kernel_rfl) (by kernel_rfl) (by kernel_rfl) (fun _ _ _ h => h) (Or.inr ⟨by kernel_rfl, rfl⟩) (by assumption) ?_
      try simp only [ap]
      refine tk (i := 19) ?_
      try simp only [ap]
      refine tk (i := 20) ?_
      try simp only [ap]
      refine wpAnyH_done (by kernel_rfl) ?_ _
      have hb2 : Below w.heap.size w w1.drew := hb1.drew
      have hu2 := hu.below hb2 hB
      replace y0 : w1.drew.cell? ⟨w.heap.size + 1, 0, none⟩ = some (.int .i64 op) := y0
      replace y2 : w1.drew.cell? ⟨w.heap.size + 1, 2, none⟩ = some (.slice Aa args.length pa) := y2
      replace y3 : w1.drew.cell? ⟨w.heap.size + 1, 3, none⟩ = some (.int .i64 n) := y3
      replace yu : w1.drew.cell? ⟨w.heap.size, 0, none⟩ = some (.slice (some ⟨b, o, none⟩) us.length cap) := yu
      generalize w1.drew = w2 at y0 y2 y3 yu hb2 hu2 ⊢
      replace E := E.out
      by_cases h14 : op = 14
      · subst h14
        rw [if_neg (by decide), if_pos rfl] at E
        have hw : IntKind.i64.wrap ((k : Int) - 1) = (k : Int) - 1 := IntWalk.i64_in _ (by omega)
        cases hn : inB n 0 ((k : Int) - 1)
        · rw [hn, Bool.false_and] at E
          replace E := Lib.hid E
          replace hn := Lib.hid hn
          go_wp2_with fail
          refine wp_region_held_drew (S := fun w' => (w'.cell? ⟨w.heap.size + 1, 3, none⟩ = some (.int .i64 n))) (by kernel_rfl) ?_ (fun hHeld => ?_)
          · exact y3
          refine tk (i := 0) ?_
          try simp only [ap]
          refine tk (i := 1) ?_
          try simp only [ap]
          refine tk (i := 2) ?_
          try simp only [ap]
          refine tk (i := 3) ?_
          try simp only [ap]
          refine reg_call (i := 4) (by kernel_rfl) rfl (fun K hK => ?_)
          go_simp
          (go_at_call 35; refine (spec_l1In n 0 ((k : Int) - 1) _).mono ?_; rintro e w' ⟨he_, rfl⟩; rw [hn.out] at he_; subst he_)
          refine hK.out _ _ ?_ (fun hHeld => ?_)
          · exact y3
          clear hK K
          try simp only [ap]
          refine tk (i := 5) ?_
          try simp only [ap]
          refine reg_take (i := 6) (v := undef) rfl (by kernel_rfl) (by kernel_rfl) (by kernel_rfl) (fun _ _ _ h => h) (Or.inr ⟨by kernel_rfl, rfl⟩) (by assumption) ?_
          try simp only [ap]
          refine reg_take (i := 7) (v := undef) rfl (by kernel_rfl) (by kernel_rfl) (by kernel_rfl) (fun _ _ _ h => h) (Or.inr ⟨by kernel_rfl, rfl⟩) (by assumption) ?_
          try simp only [ap]
          refine reg_take (i := 8) (v := undef) rfl (by kernel_rfl) (by kernel_rfl) (by kernel_rfl) (fun _ _ _ h => h) (Or.inr ⟨by kernel_rfl, rfl⟩) (by assumption) ?_
          try simp only [ap]
          refine reg_take (i := 9) (v := undef) rfl (by kernel_rfl) (by kernel_rfl) (by kernel_rfl) (fun _ _ _ h => h) (Or.inr ⟨by kernel_rfl, rfl⟩) (by assumption) ?_
          try simp only [ap]
          refine reg_take (i := 10) (v := undef) rfl (by kernel_rfl) (by kernel_rfl) (by kernel_rfl) (fun _ _ _ h => h) (Or.inr ⟨by kernel_rfl, rfl⟩) (by assumption) ?_
          try simp only [ap]
          refine reg_take (i := 11) (v := undef) rfl (by kernel_rfl) (by kernel_rfl) (by kernel_rfl) (fun _ _ _ h => h) (Or.inr ⟨by kernel_rfl, rfl⟩) (by assumption) ?_
          try simp only [ap]
          refine reg_take (i := 12) (v := undef) rfl (by kernel_rfl) (by kernel_rfl) (by kernel_rfl) (fun _ _ _ h => h) (Or.inr ⟨by kernel_rfl, rfl⟩) (by assumption) ?_
          try simp only [ap]
          refine reg_take (i := 13) (v := undef) rfl (by kernel_rfl) (by kernel_rfl) (by kernel_rfl) (fun _ _ _ h => h) (Or.inr ⟨by kernel_rfl, rfl⟩) (by assumption) ?_
          try simp only [ap]
          refine reg_take (i := 14) (v := undef) rfl (by kernel_rfl) (by kernel_rfl) (by kernel_rfl) (fun _ _ _ h => h) (Or.inr ⟨by kernel_rfl, rfl⟩) (by assumption) ?_
          try simp only [ap]
          refine reg_take (i := 15) (v := undef) rfl (by kernel_rfl) (by kernel_rfl) (by kernel_rfl) (fun _ _ _ h => h) (Or.inr ⟨by kernel_rfl, rfl⟩) (by assumption) ?_
          try simp only [ap]
          refine reg_take (i := 16) (v := undef) rfl (by kernel_rfl) (by kernel_rfl) (by kernel_rfl) (fun _ _ _ h => h) (Or.inr ⟨by kernel_rfl, rfl⟩) (by assumption) ?_
          try simp only [ap]
          refine tk (i := 17) ?_
          try simp only [ap]
          refine tk (i := 18) ?_
          try simp only [ap]
          refine wpAnyH_done (by kernel_rfl) ?_ _
          go_wp2_with fail
          go_ret
          exact RetV.mk (by rw [E.out] <;> rfl) rfl hb2.drew
        · rw [hn, Bool.true_and] at E
          have hno := inB_out hn
          obtain ⟨m, rfl⟩ : ∃ m : Nat, n = (m : Int) := Int.eq_ofNat_of_zero_le hno.1
          have hm : m < us.length := by omega
          obtain ⟨b', o', params', regs', blocks', u2', eA, _, _, HL', _, _, _, k0, _, _⟩ := code_get hu2 hm
          injection eA with eA
          injection eA with eb eo
          subst eb
          subst eo
          rw [parOf_at hm HL'.out] at E
          dsimp only at E
          have hmn : (m : Int) < (us.length : Int) := by omega
          have hmi : (0 : Int) ≤ (m : Int) := by omega
          replace hn := Lib.hid hn
          clear hno
          cases hz : decide ((args.length : Int) = params')
          · rw [hz] at E
            have hz' : ((args.length : Int) == params') = false := hz
            replace E := Lib.hid E
            go_wp2_with fail
            refine wp_region_held_drew (S := fun w' => (w'.cell? ⟨w.heap.size + 1, 2, none⟩ = some (.slice Aa args.length pa) ∧ w'.cell? ⟨w.heap.size + 1, 3, none⟩ = some (.int .i64 (m : Int)) ∧ w'.cell? ⟨w.heap.size, 0, none⟩ = some (.slice (some ⟨b, o, none⟩) us.length cap) ∧ w'.cell? ⟨b, o + m * 3, none⟩ = some (.int .i64 params'))) (by kernel_rfl) ?_ (fun hHeld => ?_)
            · exact ⟨y2, y3, yu, k0⟩
            refine tk (i := 0) ?_
            try simp only [ap]
            refine tk (i := 1) ?_
            try simp only [ap]
            refine tk (i := 2) ?_
            try simp only [ap]
            refine tk (i := 3) ?_
            try simp only [ap]
            refine reg_call (i := 4) (by kernel_rfl) rfl (fun K hK => ?_)
            go_simp
            (go_at_call 35; refine (spec_l1In (m : Int) 0 ((k : Int) - 1) _).mono ?_; rintro e w' ⟨he_, rfl⟩; rw [hn.out] at he_; subst he_)
            refine hK.out _ _ ?_ (fun hHeld => ?_)
            · exact ⟨y2, y3, yu, k0⟩
            clear hK K
            try simp only [ap]
            refine tk (i := 5) ?_
            try simp only [ap]
            refine tk (i := 6) ?_
            try simp only [ap]
            refine tk (i := 7) ?_
            try simp only [ap]
            refine tk (i := 8) ?_
            try simp only [ap]
            refine tk (i := 9) ?_
            try simp only [ap]
            refine tk (i := 10) ?_
            try simp only [ap]
            refine tk (i := 11) ?_
            try simp only [ap]
            refine tk (i := 12) ?_
            try simp only [ap]
            refine tk (i := 13) ?_
            try simp only [ap]
            refine tk (i := 14) ?_
            try simp only [ap]
            refine tk (i := 15) ?_
            try simp only [ap]
            refine tk (i := 16) ?_
            try simp only [ap]
            refine tk (i := 17) ?_
            try simp only [ap]
            refine tk (i := 18) ?_
            try simp only [ap]
            refine wpAnyH_done (by kernel_rfl) ?_ _
            go_wp2_with fail
            go_ret
            exact RetV.mk (by rw [E.out] <;> rfl) rfl hb2.drew
          · rw [hz] at E
            have hz' : ((args.length : Int) == params') = true := hz
            replace E := Lib.hid E
            go_wp2_with fail
            refine wp_region_held_drew (S := fun w' => (w'.cell? ⟨w.heap.size + 1, 2, none⟩ = some (.slice Aa args.length pa) ∧ w'.cell? ⟨w.heap.size + 1, 3, none⟩ = some (.int .i64 (m : Int)) ∧ w'.cell? ⟨w.heap.size, 0, none⟩ = some (.slice (some ⟨b, o, none⟩) us.length cap) ∧ w'.cell? ⟨b, o + m * 3, none⟩ = some (.int .i64 params'))) (by kernel_rfl) ?_ (fun hHeld => ?_)
            · exact ⟨y2, y3, yu, k0⟩
            refine tk (i := 0) ?_
            try simp only [ap]
            refine tk (i := 1) ?_
            try simp only [ap]
            refine tk (i := 2) ?_
            try simp only [ap]
            refine tk (i := 3) ?_
            try simp only [ap]
            refine reg_call (i := 4) (by kernel_rfl) rfl (fun K hK => ?_)
            go_simp
            (go_at_call 35; refine (spec_l1In (m : Int) 0 ((k : Int) - 1) _).mono ?_; rintro e w' ⟨he_, rfl⟩; rw [hn.out] at he_; subst he_)
            refine hK.out _ _ ?_ (fun hHeld => ?_)
            · exact ⟨y2, y3, yu, k0⟩
            clear hK K
            try simp only [ap]
            refine tk (i := 5) ?_
            try simp only [ap]
            refine tk (i := 6) ?_
            try simp only [ap]
            refine tk (i := 7) ?_
            try simp only [ap]
            refine tk (i := 8) ?_
            try simp only [ap]
            refine tk (i := 9) ?_
            try simp only [ap]
            refine tk (i := 10) ?_
            try simp only [ap]
            refine tk (i := 11) ?_
            try simp only [ap]
            refine tk (i := 12) ?_
            try simp only [ap]
            refine tk (i := 13) ?_
            try simp only [ap]
            refine tk (i := 14) ?_
            try simp only [ap]
            refine tk (i := 15) ?_
            try simp only [ap]
            refine tk (i := 16) ?_
            try simp only [ap]
            refine tk (i := 17) ?_
            try simp only [ap]
            refine tk (i := 18) ?_
            try simp only [ap]
            refine wpAnyH_done (by kernel_rfl) ?_ _
            go_wp2_with fail
            go_ret
            exact RetV.mk (by rw [E.out] <;> rfl) rfl hb2.drew
      · have e14 : (op == 14) = false := by simpa using h14
        obtain ⟨Z, hZ⟩ : ∃ Z : Bool, Z = decide ((args.length : Int) = argsN op) := ⟨_, rfl⟩
        have E2 : insB us regs k ⟨op, to, args, n⟩ = (Z && (inB n 0 255 && (decide (n = 0) || decide (op = 1)))) := by
          rw [E, hZ]
          by_cases h1 : op = 1
          · subst h1
            rw [if_pos rfl, show argsN 1 = 0 from rfl]
            simp
          · rw [if_neg h1, if_neg h14, decide_eq_false h1, Bool.or_false]
            by_cases h0 : n = 0
            · subst h0
              simp [inB]
            · simp [h0]
        clear E
        cases Z
        · have E := Lib.hid E2
          have hz' : ((args.length : Int) == argsN op) = false := hZ.symm
          clear E2 hZ
          go_wp2_with fail
          refine wp_region_held_drew (S := fun w' => (w'.cell? ⟨w.heap.size + 1, 0, none⟩ = some (.int .i64 op) ∧ w'.cell? ⟨w.heap.size + 1, 2, none⟩ = some (.slice Aa args.length pa) ∧ w'.cell? ⟨w.heap.size + 1, 3, none⟩ = some (.int .i64 n))) (by kernel_rfl) ?_ (fun hHeld => ?_)
          · exact ⟨y0, y2, y3⟩
          refine tk (i := 0) ?_
          try simp only [ap]
          refine tk (i := 1) ?_
          try simp only [ap]
          refine tk (i := 2) ?_
          try simp only [ap]
          refine tk (i := 3) ?_
          try simp only [ap]
          refine tk (i := 4) ?_
          try simp only [ap]
          refine reg_call (i := 5) (by kernel_rfl) rfl (fun K hK => ?_)
          go_simp
          (go_at_call 96; refine (spec_l7Args op hi.out h14 _).mono ?_; rintro e w' ⟨rfl, rfl⟩)
          refine hK.out _ _ ?_ (fun hHeld => ?_)
          · exact ⟨y0, y2, y3⟩
          clear hK K
          try simp only [ap]
          refine tk (i := 6) ?_
          try simp only [ap]
          refine tk (i := 7) ?_
          try simp only [ap]
          refine reg_take (i := 8) (v := undef) rfl (by kernel_rfl) (by kernel_rfl) (by kernel_rfl) (fun _ _ _ h => h) (Or.inr ⟨by kernel_rfl, rfl⟩) (by assumption) ?_
          try simp only [ap]
          refine reg_take (i := 9) (v := undef) rfl (by kernel_rfl) (by kernel_rfl) (by kernel_rfl) (fun _ _ _ h => h) (Or.inr ⟨by kernel_rfl, rfl⟩) (by assumption) ?_
          try simp only [ap]
          refine reg_take (i := 10) (v := undef) rfl (by kernel_rfl) (by kernel_rfl) (by kernel_rfl) (fun _ _ _ h => h) (Or.inr ⟨by kernel_rfl, rfl⟩) (by assumption) ?_
          try simp only [ap]
          refine tk (i := 11) ?_
          try simp only [ap]
          refine tk (i := 12) ?_
          try simp only [ap]
          refine reg_take (i := 13) (v := undef) rfl (by kernel_rfl) (by kernel_rfl) (by kernel_rfl) (fun _ _ _ h => h) (Or.inr ⟨by kernel_rfl, rfl⟩) (by assumption) ?_
          try simp only [ap]
          refine reg_take (i := 14) (v := undef) rfl (by kernel_rfl) (by kernel_rfl) (by kernel_rfl) (fun _ _ _ h => h) (Or.inr ⟨by kernel_rfl, rfl⟩) (by assumption) ?_
          try simp only [ap]
          refine reg_take (i := 15) (v := undef) rfl (by kernel_rfl) (by kernel_rfl) (by kernel_rfl) (fun _ _ _ h => h) (Or.inr ⟨by kernel_rfl, rfl⟩) (by assumption) ?_
          try simp only [ap]
          refine reg_take (i := 16) (v := undef) rfl (by kernel_rfl) (by kernel_rfl) (by kernel_rfl) (fun _ _ _ h => h) (Or.inr ⟨by kernel_rfl, rfl⟩) (by assumption) ?_
          try simp only [ap]
          refine reg_take (i := 17) (v := undef) rfl (by kernel_rfl) (by kernel_rfl) (by kernel_rfl) (fun _ _ _ h => h) (Or.inr ⟨by kernel_rfl, rfl⟩) (by assumption) ?_
          try simp only [ap]
          refine reg_take (i := 18) (v := undef) rfl (by kernel_rfl) (by kernel_rfl) (by kernel_rfl) (fun _ _ _ h => h) (Or.inr ⟨by kernel_rfl, rfl⟩) (by assumption) ?_
          try simp only [ap]
          refine reg_take (i := 19) (v := undef) rfl (by kernel_rfl) (by kernel_rfl) (by kernel_rfl) (fun _ _ _ h => h) (Or.inr ⟨by kernel_rfl, rfl⟩) (by assumption) ?_
          try simp only [ap]
          refine reg_take (i := 20) (v := undef) rfl (by kernel_rfl) (by kernel_rfl) (by kernel_rfl) (fun _ _ _ h => h) (Or.inr ⟨by kernel_rfl, rfl⟩) (by assumption) ?_
          try simp only [ap]
          refine tk (i := 21) ?_
          try simp only [ap]
          refine tk (i := 22) ?_
          try simp only [ap]
          refine wpAnyH_done (by kernel_rfl) ?_ _
          go_wp2_with fail
          go_ret
          exact RetV.mk (by rw [E.out] <;> rfl) rfl hb2.drew
        · have hz' : ((args.length : Int) == argsN op) = true := hZ.symm
          clear hZ
          rw [Bool.true_and] at E2
          cases hn : inB n 0 255
          · rw [hn, Bool.false_and] at E2
            have E := Lib.hid E2
            replace hn := Lib.hid hn
            clear E2
            go_wp2_with fail
            refine wp_region_held_drew (S := fun w' => (w'.cell? ⟨w.heap.size + 1, 0, none⟩ = some (.int .i64 op) ∧ w'.cell? ⟨w.heap.size + 1, 2, none⟩ = some (.slice Aa args.length pa) ∧ w'.cell? ⟨w.heap.size + 1, 3, none⟩ = some (.int .i64 n))) (by kernel_rfl) ?_ (fun hHeld => ?_)
            · exact ⟨y0, y2, y3⟩
            refine tk (i := 0) ?_
            try simp only [ap]
            refine tk (i := 1) ?_
            try simp only [ap]
            refine tk (i := 2) ?_
            try simp only [ap]
            refine tk (i := 3) ?_
            try simp only [ap]
            refine tk (i := 4) ?_
            try simp only [ap]
            refine reg_call (i := 5) (by kernel_rfl) rfl (fun K hK => ?_)
            go_simp
            (go_at_call 96; refine (spec_l7Args op hi.out h14 _).mono ?_; rintro e w' ⟨rfl, rfl⟩)
            refine hK.out _ _ ?_ (fun hHeld => ?_)
            · exact ⟨y0, y2, y3⟩
            clear hK K
            try simp only [ap]
            refine tk (i := 6) ?_
            try simp only [ap]
            refine tk (i := 7) ?_
            try simp only [ap]
            refine tk (i := 8) ?_
            try simp only [ap]
            refine tk (i := 9) ?_
            try simp only [ap]
            refine reg_call (i := 10) (by kernel_rfl) rfl (fun K hK => ?_)
            go_simp
            (go_at_call 35; refine (spec_l1In n 0 255 _).mono ?_; rintro e w' ⟨he_, rfl⟩; rw [hn.out] at he_; subst he_)
            refine hK.out _ _ ?_ (fun hHeld => ?_)
            · exact ⟨y0, y2, y3⟩
            clear hK K
            try simp only [ap]
            refine tk (i := 11) ?_
            try simp only [ap]
            refine tk (i := 12) ?_
            try simp only [ap]
            refine reg_take (i := 13) (v := undef) rfl (by kernel_rfl) (by kernel_rfl) (by kernel_rfl) (fun _ _ _ h => h) (Or.inr ⟨by kernel_rfl, rfl⟩) (by assumption) ?_
            try simp only [ap]
            refine reg_take (i := 14) (v := undef) rfl (by kernel_rfl) (by kernel_rfl) (by kernel_rfl) (fun _ _ _ h => h) (Or.inr ⟨by kernel_rfl, rfl⟩) (by assumption) ?_
            try simp only [ap]
            refine reg_take (i := 15) (v := undef) rfl (by kernel_rfl) (by kernel_rfl) (by kernel_rfl) (fun _ _ _ h => h) (Or.inr ⟨by kernel_rfl, rfl⟩) (by assumption) ?_
            try simp only [ap]
            refine reg_take (i := 16) (v := undef) rfl (by kernel_rfl) (by kernel_rfl) (by kernel_rfl) (fun _ _ _ h => h) (Or.inr ⟨by kernel_rfl, rfl⟩) (by assumption) ?_
            try simp only [ap]
            refine reg_take (i := 17) (v := undef) rfl (by kernel_rfl) (by kernel_rfl) (by kernel_rfl) (fun _ _ _ h => h) (Or.inr ⟨by kernel_rfl, rfl⟩) (by assumption) ?_
            try simp only [ap]
            refine reg_take (i := 18) (v := undef) rfl (by kernel_rfl) (by kernel_rfl) (by kernel_rfl) (fun _ _ _ h => h) (Or.inr ⟨by kernel_rfl, rfl⟩) (by assumption) ?_
            try simp only [ap]
            refine reg_take (i := 19) (v := undef) rfl (by kernel_rfl) (by kernel_rfl) (by kernel_rfl) (fun _ _ _ h => h) (Or.inr ⟨by kernel_rfl, rfl⟩) (by assumption) ?_
            try simp only [ap]
            refine reg_take (i := 20) (v := undef) rfl (by kernel_rfl) (by kernel_rfl) (by kernel_rfl) (fun _ _ _ h => h) (Or.inr ⟨by kernel_rfl, rfl⟩) (by assumption) ?_
            try simp only [ap]
            refine tk (i := 21) ?_
            try simp only [ap]
            refine tk (i := 22) ?_
            try simp only [ap]
            refine wpAnyH_done (by kernel_rfl) ?_ _
            go_wp2_with fail
            go_ret
            exact RetV.mk (by rw [E.out] <;> rfl) rfl hb2.drew
          · rw [hn, Bool.true_and] at E2
            by_cases h0 : n = 0
            · subst h0
              rw [decide_eq_true rfl, Bool.true_or] at E2
              have E := Lib.hid E2
              replace hn := Lib.hid hn
              clear E2
              go_wp2_with fail
              refine wp_region_held_drew (S := fun w' => (w'.cell? ⟨w.heap.size + 1, 0, none⟩ = some (.int .i64 op) ∧ w'.cell? ⟨w.heap.size + 1, 2, none⟩ = some (.slice Aa args.length pa) ∧ w'.cell? ⟨w.heap.size + 1, 3, none⟩ = some (.int .i64 0))) (by kernel_rfl) ?_ (fun hHeld => ?_)
              · exact ⟨y0, y2, y3⟩
              refine tk (i := 0) ?_
              try simp only [ap]
              refine tk (i := 1) ?_
              try simp only [ap]
              refine tk (i := 2) ?_
              try simp only [ap]
              refine tk (i := 3) ?_
              try simp only [ap]
              refine tk (i := 4) ?_
              try simp only [ap]
              refine reg_call (i := 5) (by kernel_rfl) rfl (fun K hK => ?_)
              go_simp
              (go_at_call 96; refine (spec_l7Args op hi.out h14 _).mono ?_; rintro e w' ⟨rfl, rfl⟩)
              refine hK.out _ _ ?_ (fun hHeld => ?_)
              · exact ⟨y0, y2, y3⟩
              clear hK K
              try simp only [ap]
              refine tk (i := 6) ?_
              try simp only [ap]
              refine tk (i := 7) ?_
              try simp only [ap]
              refine tk (i := 8) ?_
              try simp only [ap]
              refine tk (i := 9) ?_
              try simp only [ap]
              refine reg_call (i := 10) (by kernel_rfl) rfl (fun K hK => ?_)
              go_simp
              (go_at_call 35; refine (spec_l1In 0 0 255 _).mono ?_; rintro e w' ⟨he_, rfl⟩; rw [hn.out] at he_; subst he_)
              refine hK.out _ _ ?_ (fun hHeld => ?_)
              · exact ⟨y0, y2, y3⟩
              clear hK K
              try simp only [ap]
              refine tk (i := 11) ?_
              try simp only [ap]
              refine tk (i := 12) ?_
              try simp only [ap]
              refine tk (i := 13) ?_
              try simp only [ap]
              refine tk (i := 14) ?_
              try simp only [ap]
              refine tk (i := 15) ?_
              try simp only [ap]
              refine tk (i := 16) ?_
              try simp only [ap]
              refine reg_take (i := 17) (v := undef) rfl (by kernel_rfl) (by kernel_rfl) (by kernel_rfl) (fun _ _ _ h => h) (Or.inr ⟨by kernel_rfl, rfl⟩) (by assumption) ?_
              try simp only [ap]
              refine reg_take (i := 18) (v := undef) rfl (by kernel_rfl) (by kernel_rfl) (by kernel_rfl) (fun _ _ _ h => h) (Or.inr ⟨by kernel_rfl, rfl⟩) (by assumption) ?_
              try simp only [ap]
              refine reg_take (i := 19) (v := undef) rfl (by kernel_rfl) (by kernel_rfl) (by kernel_rfl) (fun _ _ _ h => h) (Or.inr ⟨by kernel_rfl, rfl⟩) (by assumption) ?_
              try simp only [ap]
              refine tk (i := 20) ?_
              try simp only [ap]
              refine tk (i := 21) ?_
              try simp only [ap]
              refine tk (i := 22) ?_
              try simp only [ap]
              refine wpAnyH_done (by kernel_rfl) ?_ _
              go_wp2_with fail
              go_ret
              exact RetV.mk (by rw [E.out] <;> rfl) rfl hb2.drew
            · have n0 : (n == 0) = false := by simpa using h0
              rw [decide_eq_false h0, Bool.false_or] at E2
              by_cases h1 : op = 1
              · subst h1
                rw [decide_eq_true rfl] at E2
                have E := Lib.hid E2
                replace hn := Lib.hid hn
                clear E2
                go_wp2_with fail
                refine wp_region_held_drew (S := fun w' => (w'.cell? ⟨w.heap.size + 1, 0, none⟩ = some (.int .i64 1) ∧ w'.cell? ⟨w.heap.size + 1, 2, none⟩ = some (.slice Aa args.length pa) ∧ w'.cell? ⟨w.heap.size + 1, 3, none⟩ = some (.int .i64 n))) (by kernel_rfl) ?_ (fun hHeld => ?_)
                · exact ⟨y0, y2, y3⟩
                refine tk (i := 0) ?_
                try simp only [ap]
                refine tk (i := 1) ?_
                try simp only [ap]
                refine tk (i := 2) ?_
                try simp only [ap]
                refine tk (i := 3) ?_
                try simp only [ap]
                refine tk (i := 4) ?_
                try simp only [ap]
                refine reg_call (i := 5) (by kernel_rfl) rfl (fun K hK => ?_)
                go_simp
                (go_at_call 96; refine (spec_l7Args 1 hi.out h14 _).mono ?_; rintro e w' ⟨rfl, rfl⟩)
                refine hK.out _ _ ?_ (fun hHeld => ?_)
                · exact ⟨y0, y2, y3⟩
                clear hK K
                try simp only [ap]
                refine tk (i := 6) ?_
                try simp only [ap]
                refine tk (i := 7) ?_
                try simp only [ap]
                refine tk (i := 8) ?_
                try simp only [ap]
                refine tk (i := 9) ?_
                try simp only [ap]
                refine reg_call (i := 10) (by kernel_rfl) rfl (fun K hK => ?_)
                go_simp
                (go_at_call 35; refine (spec_l1In n 0 255 _).mono ?_; rintro e w' ⟨he_, rfl⟩; rw [hn.out] at he_; subst he_)
                refine hK.out _ _ ?_ (fun hHeld => ?_)
                · exact ⟨y0, y2, y3⟩
                clear hK K
                try simp only [ap]
                refine tk (i := 11) ?_
                try simp only [ap]
                refine tk (i := 12) ?_
                try simp only [ap]
                refine tk (i := 13) ?_
                try simp only [ap]
                refine tk (i := 14) ?_
                try simp only [ap]
                refine tk (i := 15) ?_
                try simp only [ap]
                refine tk (i := 16) ?_
                try simp only [ap]
                refine tk (i := 17) ?_
                try simp only [ap]
                refine tk (i := 18) ?_
                try simp only [ap]
                refine tk (i := 19) ?_
                try simp only [ap]
                refine tk (i := 20) ?_
                try simp only [ap]
                refine tk (i := 21) ?_
                try simp only [ap]
                refine tk (i := 22) ?_
                try simp only [ap]
                refine wpAnyH_done (by kernel_rfl) ?_ _
                go_wp2_with fail
                go_ret
                exact RetV.mk (by rw [E.out] <;> rfl) rfl hb2.drew
              · rw [decide_eq_false h1] at E2
                have e1 : (op == 1) = false := by simpa using h1
                have E := Lib.hid E2
                replace hn := Lib.hid hn
                clear E2
                go_wp2_with fail
                refine wp_region_held_drew (S := fun w' => (w'.cell? ⟨w.heap.size + 1, 0, none⟩ = some (.int .i64 op) ∧ w'.cell? ⟨w.heap.size + 1, 2, none⟩ = some (.slice Aa args.length pa) ∧ w'.cell? ⟨w.heap.size + 1, 3, none⟩ = some (.int .i64 n))) (by kernel_rfl) ?_ (fun hHeld => ?_)
                · exact ⟨y0, y2, y3⟩
                refine tk (i := 0) ?_
                try simp only [ap]
                refine tk (i := 1) ?_
                try simp only [ap]
                refine tk (i := 2) ?_
                try simp only [ap]
                refine tk (i := 3) ?_
                try simp only [ap]
                refine tk (i := 4) ?_
                try simp only [ap]
                refine reg_call (i := 5) (by kernel_rfl) rfl (fun K hK => ?_)
                go_simp
                (go_at_call 96; refine (spec_l7Args op hi.out h14 _).mono ?_; rintro e w' ⟨rfl, rfl⟩)
                refine hK.out _ _ ?_ (fun hHeld => ?_)
                · exact ⟨y0, y2, y3⟩
                clear hK K
                try simp only [ap]
                refine tk (i := 6) ?_
                try simp only [ap]
                refine tk (i := 7) ?_
                try simp only [ap]
                refine tk (i := 8) ?_
                try simp only [ap]
                refine tk (i := 9) ?_
                try simp only [ap]
                refine reg_call (i := 10) (by kernel_rfl) rfl (fun K hK => ?_)
                go_simp
                (go_at_call 35; refine (spec_l1In n 0 255 _).mono ?_; rintro e w' ⟨he_, rfl⟩; rw [hn.out] at he_; subst he_)
                refine hK.out _ _ ?_ (fun hHeld => ?_)
                · exact ⟨y0, y2, y3⟩
                clear hK K
                try simp only [ap]
                refine tk (i := 11) ?_
                try simp only [ap]
                refine tk (i := 12) ?_
                try simp only [ap]
                refine tk (i := 13) ?_
                try simp only [ap]
                refine tk (i := 14) ?_
                try simp only [ap]
                refine tk (i := 15) ?_
                try simp only [ap]
                refine tk (i := 16) ?_
                try simp only [ap]
                refine tk (i := 17) ?_
                try simp only [ap]
                refine tk (i := 18) ?_
                try simp only [ap]
                refine tk (i := 19) ?_
                try simp only [ap]
                refine tk (i := 20) ?_
                try simp only [ap]
                refine tk (i := 21) ?_
                try simp only [ap]
                refine tk (i := 22) ?_
                try simp only [ap]
                refine wpAnyH_done (by kernel_rfl) ?_ _
                go_wp2_with fail
                go_ret
                exact RetV.mk (by rw [E.out] <;> rfl) rfl hb2.drew
end Go.Proofs.Ytgcjccoglcgcoaa
