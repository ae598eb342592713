/-
  The sz.. functions: they answer what is left of a size. Conditions: the arguments read as data.
-/
import Derived.Test.YtgcjccoglcgcoaaTypes
import Derived.Lib.Hide
namespace Go.Proofs.Ytgcjccoglcgcoaa
open Go.RowKit Go.ChangeShapes Go.WideShapes Go.Deep

/-- what a sz.. function answers: what is left, or -1 -/
def SzP (left : Int) (n : Nat) (w : World) (e : Ending) (w' : World) : Prop :=
  ∃ r : Int, e = .returned (.int .i64 r) ∧ -1 ≤ r ∧ r ≤ left ∧ (0 ≤ r → r = left - n) ∧ Below w.heap.size w w'
theorem sumBy_take {α : Type} (f : α → Nat) (l : List α) {k : Nat} (h : k < l.length) : sumBy f (l.take (k + 1)) = sumBy f (l.take k) + f l[k] := by
  unfold sumBy
  rw [List.take_succ_eq_append_getElem h, List.map_append, List.sum_append]
  simp
theorem sumBy_all {α : Type} (f : α → Nat) (l : List α) {k : Nat} (h : l.length ≤ k) : sumBy f (l.take k) = sumBy f l := by rw [List.take_of_length_le h]
theorem sumBy_mem {α : Type} (f : α → Nat) {l : List α} {a : α} (h : a ∈ l) : f a ≤ sumBy f l := by
  unfold sumBy
  induction l with
  | nil => cases h
  | cons x r ih =>
    simp only [List.map_cons, List.sum_cons]
    cases List.mem_cons.1 h with
    | inl e => subst e; omega
    | inr e => have := ih e; omega

theorem int_get {w : World} {lo B : Nat} {l : List Int} {A : Option Addr} {n cap : Nat} (h : Sl false (intS false) w lo B l (.slice A n cap)) {i : Nat} (hi : i < l.length) :
    ∃ (b o : Nat) (a : Int), A = some ⟨b, o, none⟩ ∧ lo ≤ b ∧ b < B ∧ Hid (l[i] = a) ∧ I64 a ∧ w.cell? ⟨b, o + i, none⟩ = some (.int .i64 a) := by
  obtain ⟨b, o, cs, rfl, hlb, hb, _, hr, hc⟩ := h.at_ hi
  obtain ⟨rfl, hg⟩ := int_rep hr
  exact ⟨b, o, _, rfl, hlb, hb, rfl, hg, by simpa [intS] using hc 0 _ rfl⟩

theorem phi_get {w : World} {lo B : Nat} {l : List PhiD} {A : Option Addr} {n cap : Nat} (h : Sl false (phiS false) w lo B l (.slice A n cap)) {i : Nat} (hi : i < l.length) :
    ∃ (b o : Nat) (to : Int) (args : List Int) (v1 : Value), A = some ⟨b, o, none⟩ ∧ lo ≤ b ∧ b < B ∧ Hid (l[i] = ⟨to, args⟩) ∧ I64 to ∧ Sl false (intS false) w lo B args v1 ∧ w.cell? ⟨b, o + i * 2, none⟩ = some (.int .i64 to) ∧ w.cell? ⟨b, o + i * 2 + 1, none⟩ = some (v1) := by
  obtain ⟨b, o, cs, rfl, hlb, hb, _, hr, hc⟩ := h.at_ hi
  obtain ⟨e, hl⟩ : ∃ e, l[i] = e := ⟨_, rfl⟩
  rw [hl] at hr ⊢
  obtain ⟨v1, rfl, g0, g1⟩ := phi_open hr
  obtain ⟨to, args⟩ := e
  exact ⟨b, o, to, args, v1, rfl, hlb, hb, rfl, g0, g1, hc 0 _ rfl, hc 1 _ rfl⟩

theorem ins_get {w : World} {lo B : Nat} {l : List InsD} {A : Option Addr} {n cap : Nat} (h : Sl false (insS false) w lo B l (.slice A n cap)) {i : Nat} (hi : i < l.length) :
    ∃ (b o : Nat) (op : Int) (to : Int) (args : List Int) (v2 : Value) (n : Int), A = some ⟨b, o, none⟩ ∧ lo ≤ b ∧ b < B ∧ Hid (l[i] = ⟨op, to, args, n⟩) ∧ I64 op ∧ I64 to ∧ Sl false (intS false) w lo B args v2 ∧ I64 n ∧ w.cell? ⟨b, o + i * 4, none⟩ = some (.int .i64 op) ∧ w.cell? ⟨b, o + i * 4 + 1, none⟩ = some (.int .i64 to) ∧ w.cell? ⟨b, o + i * 4 + 2, none⟩ = some (v2) ∧ w.cell? ⟨b, o + i * 4 + 3, none⟩ = some (.int .i64 n) := by
  obtain ⟨b, o, cs, rfl, hlb, hb, _, hr, hc⟩ := h.at_ hi
  obtain ⟨e, hl⟩ : ∃ e, l[i] = e := ⟨_, rfl⟩
  rw [hl] at hr ⊢
  obtain ⟨v2, rfl, g0, g1, g2, g3⟩ := ins_open hr
  obtain ⟨op, to, args, n⟩ := e
  exact ⟨b, o, op, to, args, v2, n, rfl, hlb, hb, rfl, g0, g1, g2, g3, hc 0 _ rfl, hc 1 _ rfl, hc 2 _ rfl, hc 3 _ rfl⟩

theorem blk_get {w : World} {lo B : Nat} {l : List BlkD} {A : Option Addr} {n cap : Nat} (h : Sl false (blkS false) w lo B l (.slice A n cap)) {i : Nat} (hi : i < l.length) :
    ∃ (b o : Nat) (phis : List PhiD) (v0 : Value) (ins : List InsD) (v1 : Value) (jump : Int) (on : Int) (next : List Int) (v4 : Value), A = some ⟨b, o, none⟩ ∧ lo ≤ b ∧ b < B ∧ Hid (l[i] = ⟨phis, ins, jump, on, next⟩) ∧ Sl false (phiS false) w lo B phis v0 ∧ Sl false (insS false) w lo B ins v1 ∧ I64 jump ∧ I64 on ∧ Sl false (intS false) w lo B next v4 ∧ w.cell? ⟨b, o + i * 5, none⟩ = some (v0) ∧ w.cell? ⟨b, o + i * 5 + 1, none⟩ = some (v1) ∧ w.cell? ⟨b, o + i * 5 + 2, none⟩ = some (.int .i64 jump) ∧ w.cell? ⟨b, o + i * 5 + 3, none⟩ = some (.int .i64 on) ∧ w.cell? ⟨b, o + i * 5 + 4, none⟩ = some (v4) := by
  obtain ⟨b, o, cs, rfl, hlb, hb, _, hr, hc⟩ := h.at_ hi
  obtain ⟨e, hl⟩ : ∃ e, l[i] = e := ⟨_, rfl⟩
  rw [hl] at hr ⊢
  obtain ⟨v0, v1, v4, rfl, g0, g1, g2, g3, g4⟩ := blk_open hr
  obtain ⟨phis, ins, jump, on, next⟩ := e
  exact ⟨b, o, phis, v0, ins, v1, jump, on, next, v4, rfl, hlb, hb, rfl, g0, g1, g2, g3, g4, hc 0 _ rfl, hc 1 _ rfl, hc 2 _ rfl, hc 3 _ rfl, hc 4 _ rfl⟩

theorem code_get {w : World} {lo B : Nat} {l : List CodeD} {A : Option Addr} {n cap : Nat} (h : Sl false (codeS false) w lo B l (.slice A n cap)) {i : Nat} (hi : i < l.length) :
    ∃ (b o : Nat) (params : Int) (regs : Int) (blocks : List BlkD) (v2 : Value), A = some ⟨b, o, none⟩ ∧ lo ≤ b ∧ b < B ∧ Hid (l[i] = ⟨params, regs, blocks⟩) ∧ I64 params ∧ I64 regs ∧ Sl false (blkS false) w lo B blocks v2 ∧ w.cell? ⟨b, o + i * 3, none⟩ = some (.int .i64 params) ∧ w.cell? ⟨b, o + i * 3 + 1, none⟩ = some (.int .i64 regs) ∧ w.cell? ⟨b, o + i * 3 + 2, none⟩ = some (v2) := by
  obtain ⟨b, o, cs, rfl, hlb, hb, _, hr, hc⟩ := h.at_ hi
  obtain ⟨e, hl⟩ : ∃ e, l[i] = e := ⟨_, rfl⟩
  rw [hl] at hr ⊢
  obtain ⟨v2, rfl, g0, g1, g2⟩ := code_open hr
  obtain ⟨params, regs, blocks⟩ := e
  exact ⟨b, o, params, regs, blocks, v2, rfl, hlb, hb, rfl, g0, g1, g2, hc 0 _ rfl, hc 1 _ rfl, hc 2 _ rfl⟩

theorem sz_IntS (l : List Int) (v : Value) (left : Int) (w : World) (lo B : Nat) (hl : left ≤ 1048576) (l0 : 0 ≤ left) (_hB : B ≤ w.heap.size) (hv : Sl false (intS false) w lo B l v) :
    Calls Try.prog 110 #[v, .int .i64 left] w (SzP left l.length w) := by
  obtain ⟨A, cap, rfl, hlc, hcm⟩ := hv.form
  by_cases hlt : left < l.length
  · go_enter Try.func110, Try.ntmps110
    go_wp2_with fail
    go_ret
    exact ⟨-1, rfl, by omega, by omega, fun h => by omega, Below.refl _ _⟩
  · go_enter Try.func110, Try.ntmps110
    go_wp2_with fail
    go_ret
    exact ⟨_, rfl, by omega, by omega, fun _ => by omega, Below.refl _ _⟩

theorem sz_Phi (to : Int) (args : List Int) (v1 : Value) (left : Int) (w : World) (lo B : Nat) (hl : left ≤ 1048576) (l0 : 0 ≤ left) (hB : B ≤ w.heap.size) (_h0 : I64 to) (h1 : Sl false (intS false) w lo B args v1) :
    Calls Try.prog 117 #[.agg #[.int .i64 to, v1], .int .i64 left] w (SzP left (args.length) w) := by
  have hb0 : Below w.heap.size w (w.alloc (.cells #[.int .i64 to, v1] 133)) := (Below.refl _ _).alloc (Nat.le_refl _) _
  go_enter Try.func117, Try.ntmps117
  go_wp2_with fail
  refine (sz_IntS args v1 _ _ lo B (by omega) (by omega) (Nat.le_trans hB hb0.size) (h1.below hb0 hB)).mono ?_
  rintro e w1 ⟨r1, rfl, a1, b1, c1, e1⟩
  have hb1 : Below w.heap.size w w1 := hb0.trans (e1.mono hb0.size)
  have R1 : Row w1 w.heap.size 133 #[.int .i64 to, v1] := (Row.new w _ _).below e1 (by simp)
  have C1 := Lib.hid c1
  clear c1
  by_cases hr1 : r1 < 0
  · go_wp2_with fail
    go_ret
    exact ⟨-1, rfl, by omega, by omega, fun h => by omega, hb1⟩
  · have t1 : 0 ≤ r1 := by omega
    go_wp2_with fail
    go_ret
    refine ⟨_, rfl, by omega, by omega, fun _ => ?_, hb1⟩
    have f1 := C1.out t1
    omega

theorem sz_PhiS (l : List PhiD) (v : Value) (left : Int) (w : World) (lo B : Nat) (hl : left ≤ 1048576) (l0 : 0 ≤ left) (hB : B ≤ w.heap.size) (hv : Sl false (phiS false) w lo B l v) :
    Calls Try.prog 108 #[v, .int .i64 left] w (SzP left (l.length + sumBy phiN l) w) := by
  obtain ⟨A, cap, rfl, hlc, hcm⟩ := hv.form
  by_cases hlt : left < l.length
  · go_enter Try.func108, Try.ntmps108
    go_wp2_with fail
    go_ret
    exact ⟨-1, rfl, by omega, by omega, fun h => by omega, Below.refl _ _⟩
  · go_enter Try.func108, Try.ntmps108
    go_wp2_with fail
    go_loopw [1, 5] (fun t i wr => ∃ (k : Nat) (r : Int), k ≤ l.length ∧ i = .int .i64 k ∧ t = .int .i64 r ∧ 0 ≤ r ∧ r ≤ left - l.length ∧ Hid (r = left - l.length - (sumBy phiN (l.take k) : Nat)) ∧ Below w.heap.size w wr) (fun _ i _ => l.length - (intOf i).toNat)
    case atStart => exact ⟨0, _, by omega, rfl, rfl, by omega, by omega, (show _ = _ by simp [sumBy]), Below.refl _ _⟩
    case round =>
      obtain ⟨k, r, hk, rfl, rfl, hr0, hr1, HR, hb⟩ := hrel
      have hsz := hb.size
      by_cases hkl : k < l.length
      · obtain ⟨b, o, to, args, v1, rfl, _, _, HL, g0, g1, c0, c1⟩ := phi_get (hv.below hb hB) hkl
        have HS : Hid (sumBy phiN (l.take (k + 1)) = sumBy phiN (l.take k) + (args.length)) := by
          have h1 := sumBy_take phiN l hkl
          rw [HL.out] at h1
          exact h1
        go_wp2_with fail
        refine (sz_Phi to args v1 _ _ lo B (by omega) (by omega) (by omega) g0 g1).mono ?_
        rintro e w1 ⟨r1, rfl, a1, b1, c1, e1⟩
        have hb1 : Below w.heap.size w w1 := hb.trans (e1.mono hb.size)
        have C1 := Lib.hid c1
        clear c1
        by_cases hneg : r1 < 0
        · go_wp2_with fail
          go_ret
          exact ⟨-1, rfl, by omega, by omega, fun h => by omega, hb1⟩
        · have t1 : 0 ≤ r1 := by omega
          go_wp2_with fail
          go_roundw
          case rel => exact ⟨k + 1, _, by omega, by go_num, rfl, by omega, by omega, (by have h1 := HR.out; have h2 := HS.out; have h3 := C1.out t1; show _ = _; rw [h2]; omega), hb1⟩
          case measure => simp [intOf]; omega
      · obtain rfl : k = l.length := by omega
        have h1 := sumBy_all phiN l (Nat.le_refl _)
        have H1 : Hid (r = left - ((l.length + sumBy phiN l : Nat) : Int)) := by
          have h2 := HR.out
          rw [h1] at h2
          show _ = _
          omega
        clear h1 HR
        go_wp2_with fail
        go_ret
        exact ⟨_, rfl, by omega, by omega, fun _ => H1.out, hb⟩

theorem sz_Ins (op : Int) (to : Int) (args : List Int) (v2 : Value) (n : Int) (left : Int) (w : World) (lo B : Nat) (hl : left ≤ 1048576) (l0 : 0 ≤ left) (hB : B ≤ w.heap.size) (_h0 : I64 op) (_h1 : I64 to) (h2 : Sl false (intS false) w lo B args v2) (_h3 : I64 n) :
    Calls Try.prog 118 #[.agg #[.int .i64 op, .int .i64 to, v2, .int .i64 n], .int .i64 left] w (SzP left (args.length) w) := by
  have hb0 : Below w.heap.size w (w.alloc (.cells #[.int .i64 op, .int .i64 to, v2, .int .i64 n] 135)) := (Below.refl _ _).alloc (Nat.le_refl _) _
  go_enter Try.func118, Try.ntmps118
  go_wp2_with fail
  refine (sz_IntS args v2 _ _ lo B (by omega) (by omega) (Nat.le_trans hB hb0.size) (h2.below hb0 hB)).mono ?_
  rintro e w1 ⟨r1, rfl, a1, b1, c1, e1⟩
  have hb1 : Below w.heap.size w w1 := hb0.trans (e1.mono hb0.size)
  have R1 : Row w1 w.heap.size 135 #[.int .i64 op, .int .i64 to, v2, .int .i64 n] := (Row.new w _ _).below e1 (by simp)
  have C1 := Lib.hid c1
  clear c1
  by_cases hr1 : r1 < 0
  · go_wp2_with fail
    go_ret
    exact ⟨-1, rfl, by omega, by omega, fun h => by omega, hb1⟩
  · have t1 : 0 ≤ r1 := by omega
    go_wp2_with fail
    go_ret
    refine ⟨_, rfl, by omega, by omega, fun _ => ?_, hb1⟩
    have f1 := C1.out t1
    omega

theorem sz_InsS (l : List InsD) (v : Value) (left : Int) (w : World) (lo B : Nat) (hl : left ≤ 1048576) (l0 : 0 ≤ left) (hB : B ≤ w.heap.size) (hv : Sl false (insS false) w lo B l v) :
    Calls Try.prog 109 #[v, .int .i64 left] w (SzP left (l.length + sumBy insN l) w) := by
  obtain ⟨A, cap, rfl, hlc, hcm⟩ := hv.form
  by_cases hlt : left < l.length
  · go_enter Try.func109, Try.ntmps109
    go_wp2_with fail
    go_ret
    exact ⟨-1, rfl, by omega, by omega, fun h => by omega, Below.refl _ _⟩
  · go_enter Try.func109, Try.ntmps109
    go_wp2_with fail
    go_loopw [1, 5] (fun t i wr => ∃ (k : Nat) (r : Int), k ≤ l.length ∧ i = .int .i64 k ∧ t = .int .i64 r ∧ 0 ≤ r ∧ r ≤ left - l.length ∧ Hid (r = left - l.length - (sumBy insN (l.take k) : Nat)) ∧ Below w.heap.size w wr) (fun _ i _ => l.length - (intOf i).toNat)
    case atStart => exact ⟨0, _, by omega, rfl, rfl, by omega, by omega, (show _ = _ by simp [sumBy]), Below.refl _ _⟩
    case round =>
      obtain ⟨k, r, hk, rfl, rfl, hr0, hr1, HR, hb⟩ := hrel
      have hsz := hb.size
      by_cases hkl : k < l.length
      · obtain ⟨b, o, op, to, args, v2, n, rfl, _, _, HL, g0, g1, g2, g3, c0, c1, c2, c3⟩ := ins_get (hv.below hb hB) hkl
        have HS : Hid (sumBy insN (l.take (k + 1)) = sumBy insN (l.take k) + (args.length)) := by
          have h1 := sumBy_take insN l hkl
          rw [HL.out] at h1
          exact h1
        go_wp2_with fail
        refine (sz_Ins op to args v2 n _ _ lo B (by omega) (by omega) (by omega) g0 g1 g2 g3).mono ?_
        rintro e w1 ⟨r1, rfl, a1, b1, c1, e1⟩
        have hb1 : Below w.heap.size w w1 := hb.trans (e1.mono hb.size)
        have C1 := Lib.hid c1
        clear c1
        by_cases hneg : r1 < 0
        · go_wp2_with fail
          go_ret
          exact ⟨-1, rfl, by omega, by omega, fun h => by omega, hb1⟩
        · have t1 : 0 ≤ r1 := by omega
          go_wp2_with fail
          go_roundw
          case rel => exact ⟨k + 1, _, by omega, by go_num, rfl, by omega, by omega, (by have h1 := HR.out; have h2 := HS.out; have h3 := C1.out t1; show _ = _; rw [h2]; omega), hb1⟩
          case measure => simp [intOf]; omega
      · obtain rfl : k = l.length := by omega
        have h1 := sumBy_all insN l (Nat.le_refl _)
        have H1 : Hid (r = left - ((l.length + sumBy insN l : Nat) : Int)) := by
          have h2 := HR.out
          rw [h1] at h2
          show _ = _
          omega
        clear h1 HR
        go_wp2_with fail
        go_ret
        exact ⟨_, rfl, by omega, by omega, fun _ => H1.out, hb⟩

theorem sz_Block (phis : List PhiD) (v0 : Value) (ins : List InsD) (v1 : Value) (jump : Int) (on : Int) (next : List Int) (v4 : Value) (left : Int) (w : World) (lo B : Nat) (hl : left ≤ 1048576) (l0 : 0 ≤ left) (hB : B ≤ w.heap.size) (h0 : Sl false (phiS false) w lo B phis v0) (h1 : Sl false (insS false) w lo B ins v1) (_h2 : I64 jump) (_h3 : I64 on) (h4 : Sl false (intS false) w lo B next v4) :
    Calls Try.prog 95 #[.agg #[v0, v1, .int .i64 jump, .int .i64 on, v4], .int .i64 left] w (SzP left ((phis.length + sumBy phiN phis) + (ins.length + sumBy insN ins) + next.length) w) := by
  have hb0 : Below w.heap.size w (w.alloc (.cells #[v0, v1, .int .i64 jump, .int .i64 on, v4] 117)) := (Below.refl _ _).alloc (Nat.le_refl _) _
  go_enter Try.func95, Try.ntmps95
  go_wp2_with fail
  refine (sz_PhiS phis v0 _ _ lo B (by omega) (by omega) (Nat.le_trans hB hb0.size) (h0.below hb0 hB)).mono ?_
  rintro e w1 ⟨r1, rfl, a1, b1, c1, e1⟩
  have hb1 : Below w.heap.size w w1 := hb0.trans (e1.mono hb0.size)
  have R1 : Row w1 w.heap.size 117 #[v0, v1, .int .i64 jump, .int .i64 on, v4] := (Row.new w _ _).below e1 (by simp)
  have y1_1 : w1.cell? ⟨w.heap.size, 1, none⟩ = some (v1) := R1.cell 1
  have y1_4 : w1.cell? ⟨w.heap.size, 4, none⟩ = some (v4) := R1.cell 4
  have C1 := Lib.hid c1
  clear c1
  by_cases hr1 : r1 < 0
  · go_wp2_with fail
    go_ret
    exact ⟨-1, rfl, by omega, by omega, fun h => by omega, hb1⟩
  · have t1 : 0 ≤ r1 := by omega
    go_wp2_with fail
    refine (sz_InsS ins v1 _ _ lo B (by omega) (by omega) (Nat.le_trans hB hb1.size) (h1.below hb1 hB)).mono ?_
    rintro e w2 ⟨r2, rfl, a2, b2, c2, e2⟩
    have hb2 : Below w.heap.size w w2 := hb1.trans (e2.mono hb1.size)
    have R2 : Row w2 w.heap.size 117 #[v0, v1, .int .i64 jump, .int .i64 on, v4] := R1.below e2 R1.lt
    have y2_4 : w2.cell? ⟨w.heap.size, 4, none⟩ = some (v4) := R2.cell 4
    have C2 := Lib.hid c2
    clear c2
    by_cases hr2 : r2 < 0
    · go_wp2_with fail
      go_ret
      exact ⟨-1, rfl, by omega, by omega, fun h => by omega, hb2⟩
    · have t2 : 0 ≤ r2 := by omega
      go_wp2_with fail
      refine (sz_IntS next v4 _ _ lo B (by omega) (by omega) (Nat.le_trans hB hb2.size) (h4.below hb2 hB)).mono ?_
      rintro e w3 ⟨r3, rfl, a3, b3, c3, e3⟩
      have hb3 : Below w.heap.size w w3 := hb2.trans (e3.mono hb2.size)
      have R3 : Row w3 w.heap.size 117 #[v0, v1, .int .i64 jump, .int .i64 on, v4] := R2.below e3 R2.lt
      have C3 := Lib.hid c3
      clear c3
      by_cases hr3 : r3 < 0
      · go_wp2_with fail
        go_ret
        exact ⟨-1, rfl, by omega, by omega, fun h => by omega, hb3⟩
      · have t3 : 0 ≤ r3 := by omega
        go_wp2_with fail
        go_ret
        refine ⟨_, rfl, by omega, by omega, fun _ => ?_, hb3⟩
        have f1 := C1.out t1
        have f2 := C2.out t2
        have f3 := C3.out t3
        omega

theorem sz_BlockS (l : List BlkD) (v : Value) (left : Int) (w : World) (lo B : Nat) (hl : left ≤ 1048576) (l0 : 0 ≤ left) (hB : B ≤ w.heap.size) (hv : Sl false (blkS false) w lo B l v) :
    Calls Try.prog 64 #[v, .int .i64 left] w (SzP left (l.length + sumBy blkN l) w) := by
  obtain ⟨A, cap, rfl, hlc, hcm⟩ := hv.form
  by_cases hlt : left < l.length
  · go_enter Try.func64, Try.ntmps64
    go_wp2_with fail
    go_ret
    exact ⟨-1, rfl, by omega, by omega, fun h => by omega, Below.refl _ _⟩
  · go_enter Try.func64, Try.ntmps64
    go_wp2_with fail
    go_loopw [1, 5] (fun t i wr => ∃ (k : Nat) (r : Int), k ≤ l.length ∧ i = .int .i64 k ∧ t = .int .i64 r ∧ 0 ≤ r ∧ r ≤ left - l.length ∧ Hid (r = left - l.length - (sumBy blkN (l.take k) : Nat)) ∧ Below w.heap.size w wr) (fun _ i _ => l.length - (intOf i).toNat)
    case atStart => exact ⟨0, _, by omega, rfl, rfl, by omega, by omega, (show _ = _ by simp [sumBy]), Below.refl _ _⟩
    case round =>
      obtain ⟨k, r, hk, rfl, rfl, hr0, hr1, HR, hb⟩ := hrel
      have hsz := hb.size
      by_cases hkl : k < l.length
      · obtain ⟨b, o, phis, v0, ins, v1, jump, on, next, v4, rfl, _, _, HL, g0, g1, g2, g3, g4, c0, c1, c2, c3, c4⟩ := blk_get (hv.below hb hB) hkl
        have HS : Hid (sumBy blkN (l.take (k + 1)) = sumBy blkN (l.take k) + ((phis.length + sumBy phiN phis) + (ins.length + sumBy insN ins) + next.length)) := by
          have h1 := sumBy_take blkN l hkl
          rw [HL.out] at h1
          exact h1
        go_wp2_with fail
        refine (sz_Block phis v0 ins v1 jump on next v4 _ _ lo B (by omega) (by omega) (by omega) g0 g1 g2 g3 g4).mono ?_
        rintro e w1 ⟨r1, rfl, a1, b1, c1, e1⟩
        have hb1 : Below w.heap.size w w1 := hb.trans (e1.mono hb.size)
        have C1 := Lib.hid c1
        clear c1
        by_cases hneg : r1 < 0
        · go_wp2_with fail
          go_ret
          exact ⟨-1, rfl, by omega, by omega, fun h => by omega, hb1⟩
        · have t1 : 0 ≤ r1 := by omega
          go_wp2_with fail
          go_roundw
          case rel => exact ⟨k + 1, _, by omega, by go_num, rfl, by omega, by omega, (by have h1 := HR.out; have h2 := HS.out; have h3 := C1.out t1; show _ = _; rw [h2]; omega), hb1⟩
          case measure => simp [intOf]; omega
      · obtain rfl : k = l.length := by omega
        have h1 := sumBy_all blkN l (Nat.le_refl _)
        have H1 : Hid (r = left - ((l.length + sumBy blkN l : Nat) : Int)) := by
          have h2 := HR.out
          rw [h1] at h2
          show _ = _
          omega
        clear h1 HR
        go_wp2_with fail
        go_ret
        exact ⟨_, rfl, by omega, by omega, fun _ => H1.out, hb⟩

theorem sz_Code (params : Int) (regs : Int) (blocks : List BlkD) (v2 : Value) (left : Int) (w : World) (lo B : Nat) (hl : left ≤ 1048576) (l0 : 0 ≤ left) (hB : B ≤ w.heap.size) (_h0 : I64 params) (_h1 : I64 regs) (h2 : Sl false (blkS false) w lo B blocks v2) :
    Calls Try.prog 34 #[.agg #[.int .i64 params, .int .i64 regs, v2], .int .i64 left] w (SzP left ((blocks.length + sumBy blkN blocks)) w) := by
  have hb0 : Below w.heap.size w (w.alloc (.cells #[.int .i64 params, .int .i64 regs, v2] 60)) := (Below.refl _ _).alloc (Nat.le_refl _) _
  go_enter Try.func34, Try.ntmps34
  go_wp2_with fail
  refine (sz_BlockS blocks v2 _ _ lo B (by omega) (by omega) (Nat.le_trans hB hb0.size) (h2.below hb0 hB)).mono ?_
  rintro e w1 ⟨r1, rfl, a1, b1, c1, e1⟩
  have hb1 : Below w.heap.size w w1 := hb0.trans (e1.mono hb0.size)
  have R1 : Row w1 w.heap.size 60 #[.int .i64 params, .int .i64 regs, v2] := (Row.new w _ _).below e1 (by simp)
  have C1 := Lib.hid c1
  clear c1
  by_cases hr1 : r1 < 0
  · go_wp2_with fail
    go_ret
    exact ⟨-1, rfl, by omega, by omega, fun h => by omega, hb1⟩
  · have t1 : 0 ≤ r1 := by omega
    go_wp2_with fail
    go_ret
    refine ⟨_, rfl, by omega, by omega, fun _ => ?_, hb1⟩
    have f1 := C1.out t1
    omega

theorem sz_CodeS (l : List CodeD) (v : Value) (left : Int) (w : World) (lo B : Nat) (hl : left ≤ 1048576) (l0 : 0 ≤ left) (hB : B ≤ w.heap.size) (hv : Sl false (codeS false) w lo B l v) :
    Calls Try.prog 17 #[v, .int .i64 left] w (SzP left (l.length + sumBy codeN l) w) := by
  obtain ⟨A, cap, rfl, hlc, hcm⟩ := hv.form
  by_cases hlt : left < l.length
  · go_enter Try.func17, Try.ntmps17
    go_wp2_with fail
    go_ret
    exact ⟨-1, rfl, by omega, by omega, fun h => by omega, Below.refl _ _⟩
  · go_enter Try.func17, Try.ntmps17
    go_wp2_with fail
    go_loopw [1, 5] (fun t i wr => ∃ (k : Nat) (r : Int), k ≤ l.length ∧ i = .int .i64 k ∧ t = .int .i64 r ∧ 0 ≤ r ∧ r ≤ left - l.length ∧ Hid (r = left - l.length - (sumBy codeN (l.take k) : Nat)) ∧ Below w.heap.size w wr) (fun _ i _ => l.length - (intOf i).toNat)
    case atStart => exact ⟨0, _, by omega, rfl, rfl, by omega, by omega, (show _ = _ by simp [sumBy]), Below.refl _ _⟩
    case round =>
      obtain ⟨k, r, hk, rfl, rfl, hr0, hr1, HR, hb⟩ := hrel
      have hsz := hb.size
      by_cases hkl : k < l.length
      · obtain ⟨b, o, params, regs, blocks, v2, rfl, _, _, HL, g0, g1, g2, c0, c1, c2⟩ := code_get (hv.below hb hB) hkl
        have HS : Hid (sumBy codeN (l.take (k + 1)) = sumBy codeN (l.take k) + ((blocks.length + sumBy blkN blocks))) := by
          have h1 := sumBy_take codeN l hkl
          rw [HL.out] at h1
          exact h1
        go_wp2_with fail
        refine (sz_Code params regs blocks v2 _ _ lo B (by omega) (by omega) (by omega) g0 g1 g2).mono ?_
        rintro e w1 ⟨r1, rfl, a1, b1, c1, e1⟩
        have hb1 : Below w.heap.size w w1 := hb.trans (e1.mono hb.size)
        have C1 := Lib.hid c1
        clear c1
        by_cases hneg : r1 < 0
        · go_wp2_with fail
          go_ret
          exact ⟨-1, rfl, by omega, by omega, fun h => by omega, hb1⟩
        · have t1 : 0 ≤ r1 := by omega
          go_wp2_with fail
          go_roundw
          case rel => exact ⟨k + 1, _, by omega, by go_num, rfl, by omega, by omega, (by have h1 := HR.out; have h2 := HS.out; have h3 := C1.out t1; show _ = _; rw [h2]; omega), hb1⟩
          case measure => simp [intOf]; omega
      · obtain rfl : k = l.length := by omega
        have h1 := sumBy_all codeN l (Nat.le_refl _)
        have H1 : Hid (r = left - ((l.length + sumBy codeN l : Nat) : Int)) := by
          have h2 := HR.out
          rw [h1] at h2
          show _ = _
          omega
        clear h1 HR
        go_wp2_with fail
        go_ret
        exact ⟨_, rfl, by omega, by omega, fun _ => H1.out, hb⟩

theorem sz_Unit (codes : List CodeD) (v0 : Value) (left : Int) (w : World) (lo B : Nat) (hl : left ≤ 1048576) (l0 : 0 ≤ left) (hB : B ≤ w.heap.size) (h0 : Sl false (codeS false) w lo B codes v0) :
    Calls Try.prog 5 #[.agg #[v0], .int .i64 left] w (SzP left ((codes.length + sumBy codeN codes)) w) := by
  have hb0 : Below w.heap.size w (w.alloc (.cells #[v0] 24)) := (Below.refl _ _).alloc (Nat.le_refl _) _
  go_enter Try.func5, Try.ntmps5
  go_wp2_with fail
  refine (sz_CodeS codes v0 _ _ lo B (by omega) (by omega) (Nat.le_trans hB hb0.size) (h0.below hb0 hB)).mono ?_
  rintro e w1 ⟨r1, rfl, a1, b1, c1, e1⟩
  have hb1 : Below w.heap.size w w1 := hb0.trans (e1.mono hb0.size)
  have R1 : Row w1 w.heap.size 24 #[v0] := (Row.new w _ _).below e1 (by simp)
  have C1 := Lib.hid c1
  clear c1
  by_cases hr1 : r1 < 0
  · go_wp2_with fail
    go_ret
    exact ⟨-1, rfl, by omega, by omega, fun h => by omega, hb1⟩
  · have t1 : 0 ≤ r1 := by omega
    go_wp2_with fail
    go_ret
    refine ⟨_, rfl, by omega, by omega, fun _ => ?_, hb1⟩
    have f1 := C1.out t1
    omega

end Go.Proofs.Ytgcjccoglcgcoaa

