/-
  Several texts in one: Rd, Draw1.
-/
import Derived.Test.YtgcjccoglcgcoaaTypes
import Derived.Test.YtgcjccoglcgcoaaFactA
import Derived.Test.YtgcjccoglcgcoaaSz
import Derived.Laws.Bits64
import Derived.Deep.QuietTactic
import Derived.BigQuiet
import Derived.Test.YtgcjccoglcgcoaaHeldA
namespace Go.Proofs.Ytgcjccoglcgcoaa
open Go.RowKit Go.ChangeShapes Go.WideShapes Go.Deep
set_option linter.unusedSimpArgs false
set_option linter.unusedVariables false
/-- of the old blocks, only block g may have changed, and none below it -/
def ButR (g : Nat) (w w' : World) : Prop := Below g w w' ∧ ∀ b : Nat, g < b → b < w.heap.size → w'.heap[b]? = w.heap[b]?
theorem ButR.of_below {g : Nat} {w w' : World} (hg : g < w.heap.size) (h : Below w.heap.size w w') : ButR g w w' := ⟨h.mono (by omega), fun b _ hb => h.block b hb⟩
theorem ButR.trans {g : Nat} {a b c : World} (h : ButR g a b) (k : ButR g b c) : ButR g a c :=
  ⟨h.1.trans k.1, fun x h1 h2 => (k.2 x h1 (Nat.lt_of_lt_of_le h2 h.1.size)).trans (h.2 x h1 h2)⟩
theorem ButR.row {g : Nat} {w w' : World} {b : Nat} {t : TypeId} {cs : Array Value} (h : ButR g w w') (R : Row w b t cs) (hb : g < b) : Row w' b t cs := (h.2 b hb R.lt).trans R
theorem ButR.sl {α : Type} {S : Shp α} {m : Bool} {g : Nat} {w w' : World} {lo B : Nat} {l : List α} {v : Value} (h : ButR g w w') (hv : Sl m S w lo B l v) (hlo : g < lo) (hB : B ≤ w.heap.size) : Sl m S w' lo B l v := hv.keep (Nat.le_refl _) (Nat.le_refl _) fun b h1 h2 => h.2 b (by omega) (by omega)
/-- the source lies at block g: bytes l, place p -/
def RdAt (w : World) (g : Nat) (l : List UInt8) (p : Nat) : Prop := ∃ A cap, Row w g 87 #[.slice A l.length cap, .int .i64 (p : Int)] ∧ Sl false byS w 0 g l (.slice A l.length cap) ∧ l.length ≤ 2000
theorem RdAt.lt {w : World} {g p : Nat} {l : List UInt8} (h : RdAt w g l p) : g < w.heap.size := by
  obtain ⟨A, cap, R, _⟩ := h
  exact R.lt
theorem RdAt.below {w w' : World} {B g p : Nat} {l : List UInt8} (h : RdAt w g l p) (hb : Below B w w') (hB : g < B) : RdAt w' g l p := by
  obtain ⟨A, cap, R, S, hl⟩ := h
  exact ⟨A, cap, R.below hb hB, S.below hb (by omega), hl⟩
/-- what a draw answers: the source goes on by K at most -/
def DrP (g : Nat) (l : List UInt8) (p K : Nat) (R : Value → World → Prop) (w : World) (e : Ending) (w' : World) : Prop :=
  ∃ v p', e = .returned v ∧ RdAt w' g l p' ∧ p' ≤ p + K ∧ ButR g w w' ∧ R v w'
theorem i64_xor (a b : Nat) (ha : a < 4611686018427387904) (hb : b < 4611686018427387904) : bits .xor .i64 (a : Int) (b : Int) = ((a ^^^ b : Nat) : Int) := by
  have hx : a ^^^ b < (HPow.hPow (2 : Nat) (62 : Nat) : Nat) := Nat.xor_lt_two_pow (by omega) (by omega)
  have h1 : (BitVec.ofInt 64 (a : Int)).toNat = a := by
    rw [BitVec.ofInt_natCast, BitVec.toNat_ofNat]; exact Nat.mod_eq_of_lt (by omega)
  have h2 : (BitVec.ofInt 64 (b : Int)).toNat = b := by
    rw [BitVec.ofInt_natCast, BitVec.toNat_ofNat]; exact Nat.mod_eq_of_lt (by omega)
  show IntKind.i64.wrap ((BitVec.ofInt 64 (a : Int) ^^^ BitVec.ofInt 64 (b : Int)).toNat : Int) = _
  rw [BitVec.toNat_xor, h1, h2]
  simp [IntKind.wrap, IntKind.bits, IntKind.signed]
  omega
set_option maxRecDepth 100000 in
set_option maxHeartbeats 4000000 in
theorem pick_ok (n : Nat) (hn : 1 ≤ n) (hn2 : n ≤ 1000000) (l : List UInt8) (g p : Nat) (w : World) (h : RdAt w g l p) (hp : p ≤ 1000000) :
    Calls Try.prog 49 #[.pointer (some ⟨g, 0, none⟩), .int .i64 (n : Int)] w (DrP g l p 1 (fun v _ => ∃ k : Nat, k < n ∧ v = .int .i64 (k : Int)) w) := by
  obtain ⟨A, cap, R, S, hl⟩ := h
  have y0 : w.cell? ⟨g, 0, none⟩ = some (.slice A l.length cap) := R.cell 0
  have y1 : w.cell? ⟨g, 1, none⟩ = some (.int .i64 (p : Int)) := R.cell 1
  have f1 : w.frozen? ⟨g, 1, none⟩ = false := R.frozen 1
  have R1 : Row (w.setCell ⟨g, 1, none⟩ (.int .i64 ((p : Int) + 1))) g 87 #[.slice A l.length cap, .int .i64 ((p : Int) + 1)] := R.set_ 1 _
  have S1 : Sl false byS (w.setCell ⟨g, 1, none⟩ (.int .i64 ((p : Int) + 1))) 0 g l (.slice A l.length cap) := S.keep (Nat.le_refl _) (Nat.le_refl _) fun b _ hb => Below.heap_setCell _ _ _ b (by show b ≠ g; omega)
  have B1 : ButR g w (w.setCell ⟨g, 1, none⟩ (.int .i64 ((p : Int) + 1))) := ⟨(Below.refl g w).setCell (p := ⟨g, 1, none⟩) (Nat.le_refl g) _, fun b h1 h2 => Below.heap_setCell _ _ _ b (by show b ≠ g; omega)⟩
  have hgw := R.lt
  have D1 : RdAt (w.setCell ⟨g, 1, none⟩ (.int .i64 ((p : Int) + 1))) g l (p + 1) := ⟨A, cap, R1, S1, hl⟩
  have z0 : (w.setCell ⟨g, 1, none⟩ (.int .i64 ((p : Int) + 1))).cell? ⟨g, 0, none⟩ = some (.slice A l.length cap) := R1.cell 0
  have z1 : (w.setCell ⟨g, 1, none⟩ (.int .i64 ((p : Int) + 1))).cell? ⟨g, 1, none⟩ = some (.int .i64 ((p : Int) + 1)) := R1.cell 1
  have n1 : decide ((n : Int) < 1) = false := by simp; omega
  have hn' : (n : Int) ≠ 0 := by omega
  have hcap : cap ≤ 9223372036854775807 := by
    obtain ⟨A', cap', hv, _, hc⟩ := S.form
    injection hv with _ _ e3
    omega
  by_cases h0 : l.length = 0
  · have q0 : ((l.length : Int) == 0) = true := by rw [h0]; rfl
    have HL : Hid (l.length = 0) := h0
    clear h0
    go_enter Try.func49, Try.ntmps49
    go_wp2_with fail
    go_ret
    exact ⟨_, p + 1, rfl, D1, Nat.le_refl _, B1, 0, by omega, rfl⟩
  have q0 : ((l.length : Int) == 0) = false := beq_eq_false_iff_ne.2 (by omega)
  by_cases hpl : p < l.length
  · obtain ⟨b, o, rfl, _, hbg, cb⟩ := by_get S1 hpl
    have q1 : (p : Int) < (l.length : Int) := by omega
    obtain ⟨x, hx⟩ : ∃ x : Nat, l[p].toNat = x := ⟨_, rfl⟩
    have hx2 : x < 256 := by rw [← hx]; exact l[p].toNat_lt
    rw [hx] at cb
    clear hx
    go_enter Try.func49, Try.ntmps49
    go_wp2_with fail
    go_ret
    exact ⟨_, p + 1, rfl, D1, Nat.le_refl _, B1, x % n, Nat.mod_lt _ (by omega), by simp [results_tmp2, Int.tmod_eq_emod_of_nonneg]⟩
  have q1 : decide ((p : Int) < (l.length : Int)) = false := by simp; omega
  have hl0 : 0 < l.length := by omega
  obtain ⟨b, o, rfl, _, hbg, c0⟩ := by_get S1 (show p % l.length < l.length from Nat.mod_lt _ hl0)
  obtain ⟨b', o', e', _, _, c1⟩ := by_get S1 (show (p * 7 + 3) % l.length < l.length from Nat.mod_lt _ hl0)
  injection e' with e'
  injection e' with e1 e2
  subst e1 e2
  obtain ⟨x, hx⟩ : ∃ x : Nat, (l[p % l.length]'(Nat.mod_lt _ hl0)).toNat = x := ⟨_, rfl⟩
  obtain ⟨y, hy⟩ : ∃ y : Nat, (l[(p * 7 + 3) % l.length]'(Nat.mod_lt _ hl0)).toNat = y := ⟨_, rfl⟩
  have hx2 : x < 256 := by rw [← hx]; exact (l[p % l.length]'(Nat.mod_lt _ hl0)).toNat_lt
  have hy2 : y < 256 := by rw [← hy]; exact (l[(p * 7 + 3) % l.length]'(Nat.mod_lt _ hl0)).toNat_lt
  rw [hx] at c0
  rw [hy] at c1
  clear hx hy
  obtain ⟨i, hi⟩ : ∃ i : Nat, p % l.length = i := ⟨_, rfl⟩
  obtain ⟨j, hj⟩ : ∃ j : Nat, (p * 7 + 3) % l.length = j := ⟨_, rfl⟩
  obtain ⟨q, hq⟩ : ∃ q : Nat, p / l.length = q := ⟨_, rfl⟩
  have hil : i < l.length := by rw [← hi]; exact Nat.mod_lt _ hl0
  have hjl : j < l.length := by rw [← hj]; exact Nat.mod_lt _ hl0
  have hqp : q ≤ p := by rw [← hq]; exact Nat.div_le_self _ _
  have e57 : (p : Int).tmod (l.length : Int) = (i : Int) := by rw [Int.tmod_eq_emod_of_nonneg (by omega), ← hi]; simp
  have e74 : ((p : Int) * 7 + 3).tmod (l.length : Int) = (j : Int) := by rw [Int.tmod_eq_emod_of_nonneg (by omega), ← hj]; simp
  have e89 : (p : Int).tdiv (l.length : Int) = (q : Int) := by rw [Int.tdiv_eq_ediv_of_nonneg (by omega), ← hq]; simp
  rw [hi] at c0
  rw [hj] at c1
  clear hi hj hq
  have hlz : ¬ (l.length : Int) = 0 := by omega
  go_enter Try.func49, Try.ntmps49
  go_wp2_with fail
  go_quiet (fail)
  go_wp2_with fail
  go_ret
  obtain ⟨N, hN⟩ : ∃ N : Nat, x * 131 + y * 1117 + p * 29 + q * 53 = N := ⟨_, rfl⟩
  have e1 : (x : Int) * 131 + (y : Int) * 1117 + (p : Int) * 29 + (q : Int) * 53 = (N : Int) := by omega
  have e2 : (N : Int) / 64 = ((N / 64 : Nat) : Int) := by omega
  have e3 : N < 4611686018427387904 := by omega
  have e4 : ((bits BinOp.xor IntKind.i64 ((x : Int) * 131 + (y : Int) * 1117 + (p : Int) * 29 + (q : Int) * 53) (((x : Int) * 131 + (y : Int) * 1117 + (p : Int) * 29 + (q : Int) * 53) / 64)).tmod (n : Int)) = (((N ^^^ N / 64) % n : Nat) : Int) := by
    rw [e1, e2, i64_xor N (N / 64) e3 (by omega), Int.tmod_eq_emod_of_nonneg (by omega)]
    simp
  exact ⟨_, p + 1, rfl, D1, Nat.le_refl _, ⟨below_drewN B1.1 _, B1.2⟩, (N ^^^ N / 64) % n, Nat.mod_lt _ (by omega), congrArg (Value.int .i64) e4⟩
theorem num_ok (ls : List Int) (hne : 0 < ls.length) (hlen : ls.length ≤ 1000) (R : Int → Prop) (hR : ∀ s ∈ ls, R s) (v1 : Value) (lo B : Nat) (l : List UInt8) (g p : Nat) (w : World) (h : RdAt w g l p) (hp : p ≤ 1000000) (hv : Sl false (intS false) w lo B ls v1) (hlo : g < lo) (hB : B ≤ w.heap.size) :
    Calls Try.prog 50 #[.pointer (some ⟨g, 0, none⟩), v1] w (DrP g l p 1 (fun v _ => ∃ s, R s ∧ v = .int .i64 s) w) := by
  obtain ⟨A, cap, rfl, hlc, hcm⟩ := hv.form
  go_enter Try.func50, Try.ntmps50
  go_wp2_with fail
  refine (pick_ok ls.length hne (by omega) l g p _ h hp).mono ?_
  rintro e w1 ⟨v, p', rfl, h1, hp1, hb1, k, hk, rfl⟩
  obtain ⟨b, o, a, rfl, _, _, HL, _, c0⟩ := int_get (hb1.sl hv hlo hB) hk
  go_wp2_with fail
  go_ret
  exact ⟨_, p', rfl, h1, hp1, hb1, a, hR a (by rw [← HL.out]; exact List.getElem_mem hk), rfl⟩
/-- the source is opened -/
theorem open_ok (l : List UInt8) (v : Value) (w : World) (hv : Sl false byS w 0 w.heap.size l v) :
    Calls Try.prog 27 #[v] w (fun e w' => ∃ g l', e = .returned (.pointer (some ⟨g, 0, none⟩)) ∧ w.heap.size ≤ g ∧ RdAt w' g l' 0 ∧ Below w.heap.size w w') := by
  obtain ⟨A, cap, rfl, hlc, hcm, h3⟩ := hv
  have hv : Sl false byS w 0 w.heap.size l (.slice A l.length cap) := ⟨A, cap, rfl, hlc, hcm, h3⟩
  have hcm' : cap ≤ 9223372036854775807 := by unfold maxLen at hcm; omega
  by_cases h2 : l.length ≤ 2000
  · have q1 : decide ((2000 : Int) < (l.length : Int)) = false := by simp; omega
    go_enter Try.func27, Try.ntmps27
    go_wp2_with fail
    go_ret
    exact ⟨_, l, rfl, Nat.le_refl _, ⟨A, cap, Row.new _ _ _, hv.below ((Below.refl _ _).alloc (Nat.le_refl _) _) (Nat.le_refl _), h2⟩, (Below.refl _ _).alloc (Nat.le_refl _) _⟩
  · have q1 : decide ((2000 : Int) < (l.length : Int)) = true := by simp; omega
    have q2 : 2000 ≤ cap := by omega
    have hlt : (l.take 2000).length = 2000 := by rw [List.length_take]; omega
    have hv2 : Sl false byS w 0 w.heap.size (l.take 2000) (.slice A 2000 cap) := by
      refine ⟨A, cap, by rw [hlt], by omega, hcm, fun _ => ?_⟩
      obtain ⟨b, o, e1, e2, e3, e4, e5⟩ := h3 (List.ne_nil_of_length_pos (by omega))
      refine ⟨b, o, e1, e2, e3, e4, fun i a ha => e5 i a ?_⟩
      rw [List.getElem?_take] at ha
      split at ha
      · exact ha
      · cases ha
    obtain ⟨b, o, hA, _⟩ := h3 (List.ne_nil_of_length_pos (by omega))
    subst hA
    go_enter Try.func27, Try.ntmps27
    go_wp2_with fail
    go_ret
    refine ⟨_, l.take 2000, rfl, Nat.le_refl _, ⟨some ⟨b, o, none⟩, cap, ?_, ?_, by rw [hlt]; exact Nat.le_refl _⟩, (Below.refl _ _).alloc (Nat.le_refl _) _⟩
    · rw [hlt]
      exact Row.new _ _ _
    · rw [hlt]
      exact hv2.below ((Below.refl _ _).alloc (Nat.le_refl _) _) (Nat.le_refl _)
end Go.Proofs.Ytgcjccoglcgcoaa

namespace Go.Proofs.Ytgcjccoglcgcoaa
open Go.RowKit Go.ChangeShapes Go.WideShapes Go.Deep
set_option linter.unusedSimpArgs false
set_option linter.unusedVariables false
theorem lit_int (w : World) (ls : List Int) (hs : ∀ s ∈ ls, I64 s) (hl : ls.length ≤ 1000) : Sl false (intS false) (w.alloc (.cells (ls.map (Value.int .i64)).toArray 3)) w.heap.size (w.alloc (.cells (ls.map (Value.int .i64)).toArray 3)).heap.size ls (.slice (some ⟨w.heap.size, 0, none⟩) ls.length ls.length) := by
  refine Sl.of_row (Row.new w _ _) (Nat.le_refl _) (by simp) (Nat.le_refl _) (by unfold maxLen; omega) ?_
  intro i a hi ha
  refine ⟨[.int .i64 a], int_mk false _ _ _ (hs a (List.mem_of_getElem? ha)), fun j u hu => ?_⟩
  match j, hu with
  | 0, hu =>
    have hu' := Option.some.inj hu
    subst hu'
    simp [intS, List.getElem?_map, ha]
def i64s (ls : List Int) : Bool := ls.all fun s => decide (-1000000 ≤ s) && decide (s ≤ 1000000)
theorem i64_of {ls : List Int} (h : i64s ls = true) : ∀ s ∈ ls, I64 s := by
  intro s hs
  have := List.all_eq_true.1 h s hs
  simp at this
  exact ⟨by omega, by omega⟩
theorem ButR.refl {g : Nat} (w : World) : ButR g w w := ⟨Below.refl _ _, fun _ _ _ => rfl⟩
theorem ButR.alloc {g : Nat} {w w' : World} (h : ButR g w w') (hg : g < w.heap.size) (o : Obj) : ButR g w (w'.alloc o) := h.trans (ButR.of_below (Nat.lt_of_lt_of_le hg h.1.size) ((Below.refl _ _).alloc (Nat.le_refl _) _))
end Go.Proofs.Ytgcjccoglcgcoaa

