/-
  Sameness of lists and structs, by the program and by the reference. Conditions: the arguments read as data.
-/
import Derived.Test.YtgcjccoglcgcoaaHeldA
import Derived.Test.YtgcjccoglcgcoaaFactA
import Derived.Deep.RegionHeld3
namespace Go.Proofs.Ytgcjccoglcgcoaa
open Go.RowKit Go.ChangeShapes Go.WideShapes Go.Deep

/-- two data are one -/
noncomputable def eqB {α : Type} (a b : α) : Bool := @decide (a = b) (Classical.propDecidable _)
theorem eqB_true {α : Type} {a b : α} (h : a = b) : eqB a b = true := by simp [eqB, h]
theorem eqB_false {α : Type} {a b : α} (h : ¬ a = b) : eqB a b = false := by simp [eqB, h]
/-- it answers whether two data are one, and leaves what was there -/
def Same2 {α : Type} (a b : α) (w : World) (e : Ending) (w' : World) : Prop := e = .returned (.bool (eqB a b)) ∧ Below w.heap.size w w'
theorem Same2.mk_true {α : Type} {a b : α} {w w' : World} {e : Ending} (h : a = b) (he : e = .returned (.bool true)) (hb : Below w.heap.size w w') : Same2 a b w e w' := ⟨by rw [eqB_true h]; exact he, hb⟩
theorem Same2.mk_false {α : Type} {a b : α} {w w' : World} {e : Ending} (h : ¬ a = b) (he : e = .returned (.bool false)) (hb : Below w.heap.size w w') : Same2 a b w e w' := ⟨by rw [eqB_false h]; exact he, hb⟩
theorem take_succ_eq {α : Type} {l l' : List α} {k : Nat} (h : l.take k = l'.take k) (h1 : k < l.length) (h2 : k < l'.length) (he : l[k] = l'[k]) : l.take (k + 1) = l'.take (k + 1) := by
  rw [List.take_succ_eq_append_getElem h1, List.take_succ_eq_append_getElem h2, h, he]
theorem take_all_eq {α : Type} {l l' : List α} {k : Nat} (h : l.take k = l'.take k) (h1 : l.length ≤ k) (h2 : l'.length ≤ k) : l = l' := by
  rwa [List.take_of_length_le h1, List.take_of_length_le h2] at h
theorem ne_of_at {α : Type} {l l' : List α} {k : Nat} (h1 : k < l.length) (h2 : k < l'.length) {a b : α} (e1 : l[k] = a) (e2 : l'[k] = b) (h : ¬ a = b) : ¬ l = l' := by
  rintro rfl
  exact h (e1.symm.trans e2)
theorem ne_of_len {α : Type} {l l' : List α} (h : ¬ l.length = l'.length) : ¬ l = l' := fun e => h (by rw [e])

theorem spec_l5Ints (l l' : List Int) (v u : Value) (w : World) (lo B lo' B' : Nat) (hB : B ≤ w.heap.size) (hC : B' ≤ w.heap.size) (hv : Sl false (intS false) w lo B l v) (hu : Sl false (intS false) w lo' B' l' u) :
    Calls Try.prog 81 #[v, u] w (Same2 l l' w) := by
  obtain ⟨A, cap, rfl, hlc, hcm⟩ := hv.form
  obtain ⟨A2, cap2, rfl, hlc2, hcm2⟩ := hu.form
  by_cases hlen : l.length = l'.length
  · have hnb : ((l.length : Int) != (l'.length : Int)) = false := by rw [hlen]; simp
    have HL0 : Hid (l.length = l'.length) := hlen
    have hle1 : l.length ≤ l'.length := by omega
    have hle2 : l'.length ≤ l.length := by omega
    clear hlen
    go_enter Try.func81, Try.ntmps81
    go_wp2_with fail
    go_loopw [5] (fun i wr => ∃ k : Nat, k ≤ l.length ∧ i = .int .i64 k ∧ Hid (l.take k = l'.take k) ∧ Below w.heap.size w wr) (fun i _ => l.length - (intOf i).toNat)
    case atStart => exact ⟨0, by omega, rfl, (show _ = _ by simp), Below.refl _ _⟩
    case round =>
      obtain ⟨k, hk, rfl, HT, hb⟩ := hrel
      have hsz := hb.size
      by_cases hkl : k < l.length
      · obtain ⟨b, o, a, rfl, _, _, HL, _, c0⟩ := int_get (hv.below hb hB) hkl
        obtain ⟨b2, o2, a2, rfl, _, _, HL2, _, c1⟩ := int_get (hu.below hb hC) (show k < l'.length by omega)
        have hki : (0 : Int) ≤ (k : Int) := by omega
        have hkn : (k : Int) < (l.length : Int) := by omega
        have hkn' : (k : Int) < (l'.length : Int) := by omega
        by_cases he : a = a2
        · subst he
          go_wp2_with fail
          go_quiet (fail)
          go_wp2_with fail
          go_roundw
          case rel => exact ⟨k + 1, by omega, by go_num, take_succ_eq HT.out hkl (by omega) (HL.out.trans HL2.out.symm), below_drewN hb _⟩
          case measure => simp [intOf]; omega
        · have hne : (a != a2) = true := by simpa using he
          have HE : Hid (¬ a = a2) := he
          clear he
          go_wp2_with fail
          go_quiet (fail)
          go_wp2_with fail
          go_ret
          exact Same2.mk_false (ne_of_at hkl (by omega) HL.out HL2.out HE.out) rfl (below_drewN hb _)
      · go_wp2_with fail
        go_ret
        exact Same2.mk_true (take_all_eq HT.out (by omega) (by omega)) rfl hb
  · have hnb : ((l.length : Int) != (l'.length : Int)) = true := by simpa using fun h : (l.length : Int) = l'.length => hlen (by omega)
    have HL0 : Hid (¬ l.length = l'.length) := hlen
    clear hlen
    go_enter Try.func81, Try.ntmps81
    go_wp2_with fail
    go_ret
    exact Same2.mk_false (ne_of_len HL0.out) rfl (Below.refl _ _)

theorem ints_Equal (l l' : List Int) (v u : Value) (w : World) (lo B lo' B' : Nat) (hB : B ≤ w.heap.size) (hC : B' ≤ w.heap.size) (hv : Sl false (intS false) w lo B l v) (hu : Sl false (intS false) w lo' B' l' u) :
    Calls Try.prog 82 #[v, u] w (Same2 l l' w) := by
  obtain ⟨A, cap, rfl, hlc, hcm⟩ := hv.form
  obtain ⟨A2, cap2, rfl, hlc2, hcm2⟩ := hu.form
  by_cases hlen : l.length = l'.length
  · have hnb : ((l.length : Int) != (l'.length : Int)) = false := by rw [hlen]; simp
    have HL0 : Hid (l.length = l'.length) := hlen
    have hle1 : l.length ≤ l'.length := by omega
    have hle2 : l'.length ≤ l.length := by omega
    clear hlen
    go_enter Try.func82, Try.ntmps82
    go_wp2_with fail
    go_loopw [5, 13] (fun _ i wr => ∃ k : Nat, k ≤ l.length ∧ i = .int .i64 k ∧ Hid (l.take k = l'.take k) ∧ Below w.heap.size w wr) (fun _ i _ => l.length - (intOf i).toNat)
    case atStart => exact ⟨0, by omega, rfl, (show _ = _ by simp), Below.refl _ _⟩
    case round =>
      obtain ⟨k, hk, rfl, HT, hb⟩ := hrel
      have hsz := hb.size
      by_cases hkl : k < l.length
      · obtain ⟨b, o, a, rfl, _, _, HL, _, c0⟩ := int_get (hv.below hb hB) hkl
        obtain ⟨b2, o2, a2, rfl, _, _, HL2, _, c1⟩ := int_get (hu.below hb hC) (show k < l'.length by omega)
        have hki : (0 : Int) ≤ (k : Int) := by omega
        have hkn : (k : Int) < (l.length : Int) := by omega
        have hkn' : (k : Int) < (l'.length : Int) := by omega
        by_cases he : a = a2
        · subst he
          go_wp2_with fail
          go_quiet (fail)
          go_wp2_with fail
          go_roundw
          case rel => exact ⟨k + 1, by omega, by go_num, take_succ_eq HT.out hkl (by omega) (HL.out.trans HL2.out.symm), below_drewN hb _⟩
          case measure => simp [intOf]; omega
        · have hne : (a != a2) = true := by simpa using he
          have HE : Hid (¬ a = a2) := he
          clear he
          go_wp2_with fail
          go_quiet (fail)
          go_wp2_with fail
          go_ret
          exact Same2.mk_false (ne_of_at hkl (by omega) HL.out HL2.out HE.out) rfl (below_drewN hb _)
      · go_wp2_with fail
        go_ret
        exact Same2.mk_true (take_all_eq HT.out (by omega) (by omega)) rfl hb
  · have hnb : ((l.length : Int) != (l'.length : Int)) = true := by simpa using fun h : (l.length : Int) = l'.length => hlen (by omega)
    have HL0 : Hid (¬ l.length = l'.length) := hlen
    clear hlen
    go_enter Try.func82, Try.ntmps82
    go_wp2_with fail
    go_ret
    exact Same2.mk_false (ne_of_len HL0.out) rfl (Below.refl _ _)

theorem impl_samePhi (to : Int) (args : List Int) (v1 : Value) (to' : Int) (args' : List Int) (v1' : Value) (w : World) (lo B lo' B' : Nat) (hB : B ≤ w.heap.size) (hC : B' ≤ w.heap.size) (h1 : Sl false (intS false) w lo B args v1) (h1' : Sl false (intS false) w lo' B' args' v1') :
    Calls Try.prog 84 #[.agg #[.int .i64 to, v1], .agg #[.int .i64 to', v1']] w (Same2 (⟨to, args⟩ : PhiD) (⟨to', args'⟩ : PhiD) w) := by
  have hb0 : Below w.heap.size w ((w.alloc (.cells #[.int .i64 to, v1] 69)).alloc (.cells #[.int .i64 to', v1'] 69)) := ((Below.refl _ _).alloc (Nat.le_refl _) _).alloc (by simp) _
  have P0 : Row ((w.alloc (.cells #[.int .i64 to, v1] 69)).alloc (.cells #[.int .i64 to', v1'] 69)) w.heap.size 69 #[.int .i64 to, v1] := (Row.new w _ _).alloc _
  have Q0 : Row ((w.alloc (.cells #[.int .i64 to, v1] 69)).alloc (.cells #[.int .i64 to', v1'] 69)) (w.heap.size + 1) 69 #[.int .i64 to', v1'] := by simpa using Row.new (w.alloc (.cells #[.int .i64 to, v1] 69)) 69 #[.int .i64 to', v1']
  by_cases e0 : to = to'
  · subst e0
    go_enter Try.func84, Try.ntmps84
    go_wp2_with fail
    refine (ints_Equal args args' v1 v1' _ lo B lo' B' (Nat.le_trans hB hb0.size) (Nat.le_trans hC hb0.size) (h1.below hb0 hB) (h1'.below hb0 hC)).mono ?_
    rintro e w1 ⟨rfl, x1⟩
    have hb1 : Below w.heap.size w w1 := hb0.trans (x1.mono hb0.size)
    have P1 := P0.below x1 P0.lt
    have Q1 := Q0.below x1 Q0.lt
    by_cases e1 : args = args'
    · rw [eqB_true e1]
      subst e1
      go_wp2_with fail
      go_ret
      exact Same2.mk_true rfl rfl hb1
    · have E1 : Hid (¬ args = args') := e1
      rw [eqB_false e1]
      clear e1
      go_wp2_with fail
      go_ret
      exact Same2.mk_false (fun h => E1.out (congrArg PhiD.args h)) rfl hb1
  · have n0 : (to == to') = false := by simpa using e0
    have m0 : (to != to') = true := by simpa using e0
    have E0 : Hid (¬ to = to') := e0
    clear e0
    go_enter Try.func84, Try.ntmps84
    go_wp2_with fail
    go_ret
    exact Same2.mk_false (fun h => E0.out (congrArg PhiD.to h)) rfl hb0

set_option maxRecDepth 100000 in
theorem impl_samePhiS (l l' : List PhiD) (v u : Value) (w : World) (lo B lo' B' : Nat) (hB : B ≤ w.heap.size) (hC : B' ≤ w.heap.size) (hv : Sl false (phiS false) w lo B l v) (hu : Sl false (phiS false) w lo' B' l' u) :
    Calls Try.prog 83 #[v, u, .func (.func 84) #[] #[]] w (Same2 l l' w) := by
  obtain ⟨A, cap, rfl, hlc, hcm⟩ := hv.form
  obtain ⟨A2, cap2, rfl, hlc2, hcm2⟩ := hu.form
  by_cases hlen : l.length = l'.length
  · have hnb : ((l.length : Int) != (l'.length : Int)) = false := by rw [hlen]; simp
    have HL0 : Hid (l.length = l'.length) := hlen
    have hle1 : l.length ≤ l'.length := by omega
    have hle2 : l'.length ≤ l.length := by omega
    clear hlen
    go_enter Try.func83, Try.ntmps83
    go_wp2_with fail
    go_loopw [17] (fun i wr => ∃ k : Nat, k ≤ l.length ∧ i = .int .i64 k ∧ Hid (l.take k = l'.take k) ∧ Below w.heap.size w wr) (fun i _ => l.length - (intOf i).toNat)
    case atStart => exact ⟨0, by omega, rfl, (show _ = _ by simp), Below.refl _ _⟩
    case round =>
      obtain ⟨k, hk, rfl, HT, hb⟩ := hrel
      have hsz := hb.size
      by_cases hkl : k < l.length
      · obtain ⟨b, o, to, args, v1, rfl, _, hbB, HL, g0, g1, c0, c1⟩ := phi_get (hv.below hb hB) hkl
        obtain ⟨b2, o2, to', args', v1', rfl, _, hbB2, HL2, g0', g1', t0, t1⟩ := phi_get (hu.below hb hC) (show k < l'.length by omega)
        obtain ⟨A_1, p_1, hf, _, _⟩ := g1.form
        change _ = Value.slice A_1 args.length p_1 at hf
        subst hf
        obtain ⟨A'_1, p'_1, hf, _, _⟩ := g1'.form
        change _ = Value.slice A'_1 args'.length p'_1 at hf
        subst hf
        have hw1 : Below w.heap.size w ((wr.alloc (.cells #[.int .i64 to, .slice A_1 args.length p_1] 69)).alloc (.cells #[.int .i64 to', .slice A'_1 args'.length p'_1] 69)) := (hb.alloc hsz _).alloc (by simp; omega) _
        have hkl' : k < l'.length := by omega
        have u0 : (wr.alloc (.cells #[.int .i64 to, .slice A_1 args.length p_1] 69)).cell? ⟨b2, o2 + k * 2, none⟩ = some (.int .i64 to') := (World.cell?_of_block (Below.heap_alloc _ _ _ (by simp only; omega))).trans t0
        have u1 : (wr.alloc (.cells #[.int .i64 to, .slice A_1 args.length p_1] 69)).cell? ⟨b2, o2 + k * 2 + 1, none⟩ = some (.slice A'_1 args'.length p'_1) := (World.cell?_of_block (Below.heap_alloc _ _ _ (by simp only; omega))).trans t1
        go_wp2_with fail
        refine (impl_samePhi to args (.slice A_1 args.length p_1) to' args' (.slice A'_1 args'.length p'_1) _ lo B lo' B' (by simp; omega) (by simp; omega) (g1.keep (Nat.le_refl _) (Nat.le_refl _) (fun x _ hx => (Below.heap_alloc _ _ x (by simp; omega)).trans (Below.heap_alloc _ _ x (by omega)))) (g1'.keep (Nat.le_refl _) (Nat.le_refl _) (fun x _ hx => (Below.heap_alloc _ _ x (by simp; omega)).trans (Below.heap_alloc _ _ x (by omega))))).mono ?_
        rintro e w3 ⟨rfl, x3⟩
        have hb3 : Below w.heap.size w w3 := hw1.trans (x3.mono hw1.size)
        by_cases he : (⟨to, args⟩ : PhiD) = (⟨to', args'⟩ : PhiD)
        · rw [eqB_true he]
          have HE : Hid ((⟨to, args⟩ : PhiD) = (⟨to', args'⟩ : PhiD)) := he
          clear he
          go_wp2_with fail
          go_roundw
          case rel => exact ⟨k + 1, by omega, by go_num, take_succ_eq HT.out hkl hkl' (HL.out.trans (HE.out.trans HL2.out.symm)), hb3⟩
          case measure => simp [intOf]; omega
        · rw [eqB_false he]
          have HE : Hid (¬ (⟨to, args⟩ : PhiD) = (⟨to', args'⟩ : PhiD)) := he
          clear he
          go_wp2_with fail
          go_ret
          exact Same2.mk_false (ne_of_at hkl hkl' HL.out HL2.out HE.out) rfl hb3
      · go_wp2_with fail
        go_ret
        exact Same2.mk_true (take_all_eq HT.out (by omega) (by omega)) rfl hb
  · have hnb : ((l.length : Int) != (l'.length : Int)) = true := by simpa using fun h : (l.length : Int) = l'.length => hlen (by omega)
    have HL0 : Hid (¬ l.length = l'.length) := hlen
    clear hlen
    go_enter Try.func83, Try.ntmps83
    go_wp2_with fail
    go_ret
    exact Same2.mk_false (ne_of_len HL0.out) rfl (Below.refl _ _)

theorem impl_sameIns (op : Int) (to : Int) (args : List Int) (v2 : Value) (n : Int) (op' : Int) (to' : Int) (args' : List Int) (v2' : Value) (n' : Int) (w : World) (lo B lo' B' : Nat) (hB : B ≤ w.heap.size) (hC : B' ≤ w.heap.size) (h2 : Sl false (intS false) w lo B args v2) (h2' : Sl false (intS false) w lo' B' args' v2') :
    Calls Try.prog 86 #[.agg #[.int .i64 op, .int .i64 to, v2, .int .i64 n], .agg #[.int .i64 op', .int .i64 to', v2', .int .i64 n']] w (Same2 (⟨op, to, args, n⟩ : InsD) (⟨op', to', args', n'⟩ : InsD) w) := by
  have hb0 : Below w.heap.size w ((w.alloc (.cells #[.int .i64 op, .int .i64 to, v2, .int .i64 n] 72)).alloc (.cells #[.int .i64 op', .int .i64 to', v2', .int .i64 n'] 72)) := ((Below.refl _ _).alloc (Nat.le_refl _) _).alloc (by simp) _
  have P0 : Row ((w.alloc (.cells #[.int .i64 op, .int .i64 to, v2, .int .i64 n] 72)).alloc (.cells #[.int .i64 op', .int .i64 to', v2', .int .i64 n'] 72)) w.heap.size 72 #[.int .i64 op, .int .i64 to, v2, .int .i64 n] := (Row.new w _ _).alloc _
  have Q0 : Row ((w.alloc (.cells #[.int .i64 op, .int .i64 to, v2, .int .i64 n] 72)).alloc (.cells #[.int .i64 op', .int .i64 to', v2', .int .i64 n'] 72)) (w.heap.size + 1) 72 #[.int .i64 op', .int .i64 to', v2', .int .i64 n'] := by simpa using Row.new (w.alloc (.cells #[.int .i64 op, .int .i64 to, v2, .int .i64 n] 72)) 72 #[.int .i64 op', .int .i64 to', v2', .int .i64 n']
  by_cases e0 : op = op'
  · subst e0
    by_cases e1 : to = to'
    · subst e1
      by_cases e3 : n = n'
      · subst e3
        go_enter Try.func86, Try.ntmps86
        go_wp2_with fail
        refine (ints_Equal args args' v2 v2' _ lo B lo' B' (Nat.le_trans hB hb0.size) (Nat.le_trans hC hb0.size) (h2.below hb0 hB) (h2'.below hb0 hC)).mono ?_
        rintro e w1 ⟨rfl, x1⟩
        have hb1 : Below w.heap.size w w1 := hb0.trans (x1.mono hb0.size)
        have P1 := P0.below x1 P0.lt
        have Q1 := Q0.below x1 Q0.lt
        by_cases e2 : args = args'
        · rw [eqB_true e2]
          subst e2
          go_wp2_with fail
          go_ret
          exact Same2.mk_true rfl rfl hb1
        · have E2 : Hid (¬ args = args') := e2
          rw [eqB_false e2]
          clear e2
          go_wp2_with fail
          go_ret
          exact Same2.mk_false (fun h => E2.out (congrArg InsD.args h)) rfl hb1
      · have n3 : (n == n') = false := by simpa using e3
        have m3 : (n != n') = true := by simpa using e3
        have E3 : Hid (¬ n = n') := e3
        clear e3
        go_enter Try.func86, Try.ntmps86
        go_wp2_with fail
        go_ret
        exact Same2.mk_false (fun h => E3.out (congrArg InsD.n h)) rfl hb0
    · have n1 : (to == to') = false := by simpa using e1
      have m1 : (to != to') = true := by simpa using e1
      have E1 : Hid (¬ to = to') := e1
      clear e1
      go_enter Try.func86, Try.ntmps86
      go_wp2_with fail
      go_ret
      exact Same2.mk_false (fun h => E1.out (congrArg InsD.to h)) rfl hb0
  · have n0 : (op == op') = false := by simpa using e0
    have m0 : (op != op') = true := by simpa using e0
    have E0 : Hid (¬ op = op') := e0
    clear e0
    go_enter Try.func86, Try.ntmps86
    go_wp2_with fail
    go_ret
    exact Same2.mk_false (fun h => E0.out (congrArg InsD.op h)) rfl hb0

set_option maxRecDepth 100000 in
theorem impl_sameInsS (l l' : List InsD) (v u : Value) (w : World) (lo B lo' B' : Nat) (hB : B ≤ w.heap.size) (hC : B' ≤ w.heap.size) (hv : Sl false (insS false) w lo B l v) (hu : Sl false (insS false) w lo' B' l' u) :
    Calls Try.prog 85 #[v, u, .func (.func 86) #[] #[]] w (Same2 l l' w) := by
  obtain ⟨A, cap, rfl, hlc, hcm⟩ := hv.form
  obtain ⟨A2, cap2, rfl, hlc2, hcm2⟩ := hu.form
  by_cases hlen : l.length = l'.length
  · have hnb : ((l.length : Int) != (l'.length : Int)) = false := by rw [hlen]; simp
    have HL0 : Hid (l.length = l'.length) := hlen
    have hle1 : l.length ≤ l'.length := by omega
    have hle2 : l'.length ≤ l.length := by omega
    clear hlen
    go_enter Try.func85, Try.ntmps85
    go_wp2_with fail
    go_loopw [17] (fun i wr => ∃ k : Nat, k ≤ l.length ∧ i = .int .i64 k ∧ Hid (l.take k = l'.take k) ∧ Below w.heap.size w wr) (fun i _ => l.length - (intOf i).toNat)
    case atStart => exact ⟨0, by omega, rfl, (show _ = _ by simp), Below.refl _ _⟩
    case round =>
      obtain ⟨k, hk, rfl, HT, hb⟩ := hrel
      have hsz := hb.size
      by_cases hkl : k < l.length
      · obtain ⟨b, o, op, to, args, v2, n, rfl, _, hbB, HL, g0, g1, g2, g3, c0, c1, c2, c3⟩ := ins_get (hv.below hb hB) hkl
        obtain ⟨b2, o2, op', to', args', v2', n', rfl, _, hbB2, HL2, g0', g1', g2', g3', t0, t1, t2, t3⟩ := ins_get (hu.below hb hC) (show k < l'.length by omega)
        obtain ⟨A_2, p_2, hf, _, _⟩ := g2.form
        change _ = Value.slice A_2 args.length p_2 at hf
        subst hf
        obtain ⟨A'_2, p'_2, hf, _, _⟩ := g2'.form
        change _ = Value.slice A'_2 args'.length p'_2 at hf
        subst hf
        have hw1 : Below w.heap.size w ((wr.alloc (.cells #[.int .i64 op, .int .i64 to, .slice A_2 args.length p_2, .int .i64 n] 72)).alloc (.cells #[.int .i64 op', .int .i64 to', .slice A'_2 args'.length p'_2, .int .i64 n'] 72)) := (hb.alloc hsz _).alloc (by simp; omega) _
        have hkl' : k < l'.length := by omega
        have u0 : (wr.alloc (.cells #[.int .i64 op, .int .i64 to, .slice A_2 args.length p_2, .int .i64 n] 72)).cell? ⟨b2, o2 + k * 4, none⟩ = some (.int .i64 op') := (World.cell?_of_block (Below.heap_alloc _ _ _ (by simp only; omega))).trans t0
        have u1 : (wr.alloc (.cells #[.int .i64 op, .int .i64 to, .slice A_2 args.length p_2, .int .i64 n] 72)).cell? ⟨b2, o2 + k * 4 + 1, none⟩ = some (.int .i64 to') := (World.cell?_of_block (Below.heap_alloc _ _ _ (by simp only; omega))).trans t1
        have u2 : (wr.alloc (.cells #[.int .i64 op, .int .i64 to, .slice A_2 args.length p_2, .int .i64 n] 72)).cell? ⟨b2, o2 + k * 4 + 2, none⟩ = some (.slice A'_2 args'.length p'_2) := (World.cell?_of_block (Below.heap_alloc _ _ _ (by simp only; omega))).trans t2
        have u3 : (wr.alloc (.cells #[.int .i64 op, .int .i64 to, .slice A_2 args.length p_2, .int .i64 n] 72)).cell? ⟨b2, o2 + k * 4 + 3, none⟩ = some (.int .i64 n') := (World.cell?_of_block (Below.heap_alloc _ _ _ (by simp only; omega))).trans t3
        go_wp2_with fail
        refine (impl_sameIns op to args (.slice A_2 args.length p_2) n op' to' args' (.slice A'_2 args'.length p'_2) n' _ lo B lo' B' (by simp; omega) (by simp; omega) (g2.keep (Nat.le_refl _) (Nat.le_refl _) (fun x _ hx => (Below.heap_alloc _ _ x (by simp; omega)).trans (Below.heap_alloc _ _ x (by omega)))) (g2'.keep (Nat.le_refl _) (Nat.le_refl _) (fun x _ hx => (Below.heap_alloc _ _ x (by simp; omega)).trans (Below.heap_alloc _ _ x (by omega))))).mono ?_
        rintro e w3 ⟨rfl, x3⟩
        have hb3 : Below w.heap.size w w3 := hw1.trans (x3.mono hw1.size)
        by_cases he : (⟨op, to, args, n⟩ : InsD) = (⟨op', to', args', n'⟩ : InsD)
        · rw [eqB_true he]
          have HE : Hid ((⟨op, to, args, n⟩ : InsD) = (⟨op', to', args', n'⟩ : InsD)) := he
          clear he
          go_wp2_with fail
          go_roundw
          case rel => exact ⟨k + 1, by omega, by go_num, take_succ_eq HT.out hkl hkl' (HL.out.trans (HE.out.trans HL2.out.symm)), hb3⟩
          case measure => simp [intOf]; omega
        · rw [eqB_false he]
          have HE : Hid (¬ (⟨op, to, args, n⟩ : InsD) = (⟨op', to', args', n'⟩ : InsD)) := he
          clear he
          go_wp2_with fail
          go_ret
          exact Same2.mk_false (ne_of_at hkl hkl' HL.out HL2.out HE.out) rfl hb3
      · go_wp2_with fail
        go_ret
        exact Same2.mk_true (take_all_eq HT.out (by omega) (by omega)) rfl hb
  · have hnb : ((l.length : Int) != (l'.length : Int)) = true := by simpa using fun h : (l.length : Int) = l'.length => hlen (by omega)
    have HL0 : Hid (¬ l.length = l'.length) := hlen
    clear hlen
    go_enter Try.func85, Try.ntmps85
    go_wp2_with fail
    go_ret
    exact Same2.mk_false (ne_of_len HL0.out) rfl (Below.refl _ _)

theorem impl_sameBlock (phis : List PhiD) (v0 : Value) (ins : List InsD) (v1 : Value) (jump : Int) (on : Int) (next : List Int) (v4 : Value) (phis' : List PhiD) (v0' : Value) (ins' : List InsD) (v1' : Value) (jump' : Int) (on' : Int) (next' : List Int) (v4' : Value) (w : World) (lo B lo' B' : Nat) (hB : B ≤ w.heap.size) (hC : B' ≤ w.heap.size) (h0 : Sl false (phiS false) w lo B phis v0) (h1 : Sl false (insS false) w lo B ins v1) (h4 : Sl false (intS false) w lo B next v4) (h0' : Sl false (phiS false) w lo' B' phis' v0') (h1' : Sl false (insS false) w lo' B' ins' v1') (h4' : Sl false (intS false) w lo' B' next' v4') :
    Calls Try.prog 53 #[.agg #[v0, v1, .int .i64 jump, .int .i64 on, v4], .agg #[v0', v1', .int .i64 jump', .int .i64 on', v4']] w (Same2 (⟨phis, ins, jump, on, next⟩ : BlkD) (⟨phis', ins', jump', on', next'⟩ : BlkD) w) := by
  have hb0 : Below w.heap.size w ((w.alloc (.cells #[v0, v1, .int .i64 jump, .int .i64 on, v4] 65)).alloc (.cells #[v0', v1', .int .i64 jump', .int .i64 on', v4'] 65)) := ((Below.refl _ _).alloc (Nat.le_refl _) _).alloc (by simp) _
  have P0 : Row ((w.alloc (.cells #[v0, v1, .int .i64 jump, .int .i64 on, v4] 65)).alloc (.cells #[v0', v1', .int .i64 jump', .int .i64 on', v4'] 65)) w.heap.size 65 #[v0, v1, .int .i64 jump, .int .i64 on, v4] := (Row.new w _ _).alloc _
  have Q0 : Row ((w.alloc (.cells #[v0, v1, .int .i64 jump, .int .i64 on, v4] 65)).alloc (.cells #[v0', v1', .int .i64 jump', .int .i64 on', v4'] 65)) (w.heap.size + 1) 65 #[v0', v1', .int .i64 jump', .int .i64 on', v4'] := by simpa using Row.new (w.alloc (.cells #[v0, v1, .int .i64 jump, .int .i64 on, v4] 65)) 65 #[v0', v1', .int .i64 jump', .int .i64 on', v4']
  by_cases e2 : jump = jump'
  · subst e2
    by_cases e3 : on = on'
    · subst e3
      go_enter Try.func53, Try.ntmps53
      go_wp2_with fail
      refine (ints_Equal next next' v4 v4' _ lo B lo' B' (Nat.le_trans hB hb0.size) (Nat.le_trans hC hb0.size) (h4.below hb0 hB) (h4'.below hb0 hC)).mono ?_
      rintro e w1 ⟨rfl, x1⟩
      have hb1 : Below w.heap.size w w1 := hb0.trans (x1.mono hb0.size)
      have P1 := P0.below x1 P0.lt
      have Q1 := Q0.below x1 Q0.lt
      have y1_0 : w1.cell? ⟨w.heap.size, 0, none⟩ = some (v0) := P1.cell 0
      have z1_0 : w1.cell? ⟨w.heap.size + 1, 0, none⟩ = some (v0') := Q1.cell 0
      have y1_1 : w1.cell? ⟨w.heap.size, 1, none⟩ = some (v1) := P1.cell 1
      have z1_1 : w1.cell? ⟨w.heap.size + 1, 1, none⟩ = some (v1') := Q1.cell 1
      by_cases e4 : next = next'
      · rw [eqB_true e4]
        subst e4
        go_wp2_with fail
        refine (impl_samePhiS phis phis' v0 v0' _ lo B lo' B' (Nat.le_trans hB hb1.size) (Nat.le_trans hC hb1.size) (h0.below hb1 hB) (h0'.below hb1 hC)).mono ?_
        rintro e w2 ⟨rfl, x2⟩
        have hb2 : Below w.heap.size w w2 := hb1.trans (x2.mono hb1.size)
        have P2 := P1.below x2 P1.lt
        have Q2 := Q1.below x2 Q1.lt
        have y2_1 : w2.cell? ⟨w.heap.size, 1, none⟩ = some (v1) := P2.cell 1
        have z2_1 : w2.cell? ⟨w.heap.size + 1, 1, none⟩ = some (v1') := Q2.cell 1
        by_cases e0 : phis = phis'
        · rw [eqB_true e0]
          subst e0
          go_wp2_with fail
          refine (impl_sameInsS ins ins' v1 v1' _ lo B lo' B' (Nat.le_trans hB hb2.size) (Nat.le_trans hC hb2.size) (h1.below hb2 hB) (h1'.below hb2 hC)).mono ?_
          rintro e w3 ⟨rfl, x3⟩
          have hb3 : Below w.heap.size w w3 := hb2.trans (x3.mono hb2.size)
          have P3 := P2.below x3 P2.lt
          have Q3 := Q2.below x3 Q2.lt
          by_cases e1 : ins = ins'
          · rw [eqB_true e1]
            subst e1
            go_wp2_with fail
            go_ret
            exact Same2.mk_true rfl rfl hb3
          · have E1 : Hid (¬ ins = ins') := e1
            rw [eqB_false e1]
            clear e1
            go_wp2_with fail
            go_ret
            exact Same2.mk_false (fun h => E1.out (congrArg BlkD.ins h)) rfl hb3
        · have E0 : Hid (¬ phis = phis') := e0
          rw [eqB_false e0]
          clear e0
          go_wp2_with fail
          go_ret
          exact Same2.mk_false (fun h => E0.out (congrArg BlkD.phis h)) rfl hb2
      · have E4 : Hid (¬ next = next') := e4
        rw [eqB_false e4]
        clear e4
        go_wp2_with fail
        go_ret
        exact Same2.mk_false (fun h => E4.out (congrArg BlkD.next h)) rfl hb1
    · have n3 : (on == on') = false := by simpa using e3
      have m3 : (on != on') = true := by simpa using e3
      have E3 : Hid (¬ on = on') := e3
      clear e3
      go_enter Try.func53, Try.ntmps53
      go_wp2_with fail
      go_ret
      exact Same2.mk_false (fun h => E3.out (congrArg BlkD.on h)) rfl hb0
  · have n2 : (jump == jump') = false := by simpa using e2
    have m2 : (jump != jump') = true := by simpa using e2
    have E2 : Hid (¬ jump = jump') := e2
    clear e2
    go_enter Try.func53, Try.ntmps53
    go_wp2_with fail
    go_ret
    exact Same2.mk_false (fun h => E2.out (congrArg BlkD.jump h)) rfl hb0

set_option maxRecDepth 100000 in
theorem impl_sameBlockS (l l' : List BlkD) (v u : Value) (w : World) (lo B lo' B' : Nat) (hB : B ≤ w.heap.size) (hC : B' ≤ w.heap.size) (hv : Sl false (blkS false) w lo B l v) (hu : Sl false (blkS false) w lo' B' l' u) :
    Calls Try.prog 52 #[v, u, .func (.func 53) #[] #[]] w (Same2 l l' w) := by
  obtain ⟨A, cap, rfl, hlc, hcm⟩ := hv.form
  obtain ⟨A2, cap2, rfl, hlc2, hcm2⟩ := hu.form
  by_cases hlen : l.length = l'.length
  · have hnb : ((l.length : Int) != (l'.length : Int)) = false := by rw [hlen]; simp
    have HL0 : Hid (l.length = l'.length) := hlen
    have hle1 : l.length ≤ l'.length := by omega
    have hle2 : l'.length ≤ l.length := by omega
    clear hlen
    go_enter Try.func52, Try.ntmps52
    go_wp2_with fail
    go_loopw [17] (fun i wr => ∃ k : Nat, k ≤ l.length ∧ i = .int .i64 k ∧ Hid (l.take k = l'.take k) ∧ Below w.heap.size w wr) (fun i _ => l.length - (intOf i).toNat)
    case atStart => exact ⟨0, by omega, rfl, (show _ = _ by simp), Below.refl _ _⟩
    case round =>
      obtain ⟨k, hk, rfl, HT, hb⟩ := hrel
      have hsz := hb.size
      by_cases hkl : k < l.length
      · obtain ⟨b, o, phis, v0, ins, v1, jump, on, next, v4, rfl, _, hbB, HL, g0, g1, g2, g3, g4, c0, c1, c2, c3, c4⟩ := blk_get (hv.below hb hB) hkl
        obtain ⟨b2, o2, phis', v0', ins', v1', jump', on', next', v4', rfl, _, hbB2, HL2, g0', g1', g2', g3', g4', t0, t1, t2, t3, t4⟩ := blk_get (hu.below hb hC) (show k < l'.length by omega)
        obtain ⟨A_0, p_0, hf, _, _⟩ := g0.form
        change _ = Value.slice A_0 phis.length p_0 at hf
        subst hf
        obtain ⟨A_1, p_1, hf, _, _⟩ := g1.form
        change _ = Value.slice A_1 ins.length p_1 at hf
        subst hf
        obtain ⟨A_4, p_4, hf, _, _⟩ := g4.form
        change _ = Value.slice A_4 next.length p_4 at hf
        subst hf
        obtain ⟨A'_0, p'_0, hf, _, _⟩ := g0'.form
        change _ = Value.slice A'_0 phis'.length p'_0 at hf
        subst hf
        obtain ⟨A'_1, p'_1, hf, _, _⟩ := g1'.form
        change _ = Value.slice A'_1 ins'.length p'_1 at hf
        subst hf
        obtain ⟨A'_4, p'_4, hf, _, _⟩ := g4'.form
        change _ = Value.slice A'_4 next'.length p'_4 at hf
        subst hf
        have hw1 : Below w.heap.size w ((wr.alloc (.cells #[.slice A_0 phis.length p_0, .slice A_1 ins.length p_1, .int .i64 jump, .int .i64 on, .slice A_4 next.length p_4] 65)).alloc (.cells #[.slice A'_0 phis'.length p'_0, .slice A'_1 ins'.length p'_1, .int .i64 jump', .int .i64 on', .slice A'_4 next'.length p'_4] 65)) := (hb.alloc hsz _).alloc (by simp; omega) _
        have hkl' : k < l'.length := by omega
        have u0 : (wr.alloc (.cells #[.slice A_0 phis.length p_0, .slice A_1 ins.length p_1, .int .i64 jump, .int .i64 on, .slice A_4 next.length p_4] 65)).cell? ⟨b2, o2 + k * 5, none⟩ = some (.slice A'_0 phis'.length p'_0) := (World.cell?_of_block (Below.heap_alloc _ _ _ (by simp only; omega))).trans t0
        have u1 : (wr.alloc (.cells #[.slice A_0 phis.length p_0, .slice A_1 ins.length p_1, .int .i64 jump, .int .i64 on, .slice A_4 next.length p_4] 65)).cell? ⟨b2, o2 + k * 5 + 1, none⟩ = some (.slice A'_1 ins'.length p'_1) := (World.cell?_of_block (Below.heap_alloc _ _ _ (by simp only; omega))).trans t1
        have u2 : (wr.alloc (.cells #[.slice A_0 phis.length p_0, .slice A_1 ins.length p_1, .int .i64 jump, .int .i64 on, .slice A_4 next.length p_4] 65)).cell? ⟨b2, o2 + k * 5 + 2, none⟩ = some (.int .i64 jump') := (World.cell?_of_block (Below.heap_alloc _ _ _ (by simp only; omega))).trans t2
        have u3 : (wr.alloc (.cells #[.slice A_0 phis.length p_0, .slice A_1 ins.length p_1, .int .i64 jump, .int .i64 on, .slice A_4 next.length p_4] 65)).cell? ⟨b2, o2 + k * 5 + 3, none⟩ = some (.int .i64 on') := (World.cell?_of_block (Below.heap_alloc _ _ _ (by simp only; omega))).trans t3
        have u4 : (wr.alloc (.cells #[.slice A_0 phis.length p_0, .slice A_1 ins.length p_1, .int .i64 jump, .int .i64 on, .slice A_4 next.length p_4] 65)).cell? ⟨b2, o2 + k * 5 + 4, none⟩ = some (.slice A'_4 next'.length p'_4) := (World.cell?_of_block (Below.heap_alloc _ _ _ (by simp only; omega))).trans t4
        go_wp2_with fail
        refine (impl_sameBlock phis (.slice A_0 phis.length p_0) ins (.slice A_1 ins.length p_1) jump on next (.slice A_4 next.length p_4) phis' (.slice A'_0 phis'.length p'_0) ins' (.slice A'_1 ins'.length p'_1) jump' on' next' (.slice A'_4 next'.length p'_4) _ lo B lo' B' (by simp; omega) (by simp; omega) (g0.keep (Nat.le_refl _) (Nat.le_refl _) (fun x _ hx => (Below.heap_alloc _ _ x (by simp; omega)).trans (Below.heap_alloc _ _ x (by omega)))) (g1.keep (Nat.le_refl _) (Nat.le_refl _) (fun x _ hx => (Below.heap_alloc _ _ x (by simp; omega)).trans (Below.heap_alloc _ _ x (by omega)))) (g4.keep (Nat.le_refl _) (Nat.le_refl _) (fun x _ hx => (Below.heap_alloc _ _ x (by simp; omega)).trans (Below.heap_alloc _ _ x (by omega)))) (g0'.keep (Nat.le_refl _) (Nat.le_refl _) (fun x _ hx => (Below.heap_alloc _ _ x (by simp; omega)).trans (Below.heap_alloc _ _ x (by omega)))) (g1'.keep (Nat.le_refl _) (Nat.le_refl _) (fun x _ hx => (Below.heap_alloc _ _ x (by simp; omega)).trans (Below.heap_alloc _ _ x (by omega)))) (g4'.keep (Nat.le_refl _) (Nat.le_refl _) (fun x _ hx => (Below.heap_alloc _ _ x (by simp; omega)).trans (Below.heap_alloc _ _ x (by omega))))).mono ?_
        rintro e w3 ⟨rfl, x3⟩
        have hb3 : Below w.heap.size w w3 := hw1.trans (x3.mono hw1.size)
        by_cases he : (⟨phis, ins, jump, on, next⟩ : BlkD) = (⟨phis', ins', jump', on', next'⟩ : BlkD)
        · rw [eqB_true he]
          have HE : Hid ((⟨phis, ins, jump, on, next⟩ : BlkD) = (⟨phis', ins', jump', on', next'⟩ : BlkD)) := he
          clear he
          go_wp2_with fail
          go_roundw
          case rel => exact ⟨k + 1, by omega, by go_num, take_succ_eq HT.out hkl hkl' (HL.out.trans (HE.out.trans HL2.out.symm)), hb3⟩
          case measure => simp [intOf]; omega
        · rw [eqB_false he]
          have HE : Hid (¬ (⟨phis, ins, jump, on, next⟩ : BlkD) = (⟨phis', ins', jump', on', next'⟩ : BlkD)) := he
          clear he
          go_wp2_with fail
          go_ret
          exact Same2.mk_false (ne_of_at hkl hkl' HL.out HL2.out HE.out) rfl hb3
      · go_wp2_with fail
        go_ret
        exact Same2.mk_true (take_all_eq HT.out (by omega) (by omega)) rfl hb
  · have hnb : ((l.length : Int) != (l'.length : Int)) = true := by simpa using fun h : (l.length : Int) = l'.length => hlen (by omega)
    have HL0 : Hid (¬ l.length = l'.length) := hlen
    clear hlen
    go_enter Try.func52, Try.ntmps52
    go_wp2_with fail
    go_ret
    exact Same2.mk_false (ne_of_len HL0.out) rfl (Below.refl _ _)

theorem impl_sameCode (params : Int) (regs : Int) (blocks : List BlkD) (v2 : Value) (params' : Int) (regs' : Int) (blocks' : List BlkD) (v2' : Value) (w : World) (lo B lo' B' : Nat) (hB : B ≤ w.heap.size) (hC : B' ≤ w.heap.size) (h2 : Sl false (blkS false) w lo B blocks v2) (h2' : Sl false (blkS false) w lo' B' blocks' v2') :
    Calls Try.prog 30 #[.agg #[.int .i64 params, .int .i64 regs, v2], .agg #[.int .i64 params', .int .i64 regs', v2']] w (Same2 (⟨params, regs, blocks⟩ : CodeD) (⟨params', regs', blocks'⟩ : CodeD) w) := by
  have hb0 : Below w.heap.size w ((w.alloc (.cells #[.int .i64 params, .int .i64 regs, v2] 39)).alloc (.cells #[.int .i64 params', .int .i64 regs', v2'] 39)) := ((Below.refl _ _).alloc (Nat.le_refl _) _).alloc (by simp) _
  have P0 : Row ((w.alloc (.cells #[.int .i64 params, .int .i64 regs, v2] 39)).alloc (.cells #[.int .i64 params', .int .i64 regs', v2'] 39)) w.heap.size 39 #[.int .i64 params, .int .i64 regs, v2] := (Row.new w _ _).alloc _
  have Q0 : Row ((w.alloc (.cells #[.int .i64 params, .int .i64 regs, v2] 39)).alloc (.cells #[.int .i64 params', .int .i64 regs', v2'] 39)) (w.heap.size + 1) 39 #[.int .i64 params', .int .i64 regs', v2'] := by simpa using Row.new (w.alloc (.cells #[.int .i64 params, .int .i64 regs, v2] 39)) 39 #[.int .i64 params', .int .i64 regs', v2']
  by_cases e0 : params = params'
  · subst e0
    by_cases e1 : regs = regs'
    · subst e1
      go_enter Try.func30, Try.ntmps30
      go_wp2_with fail
      refine (impl_sameBlockS blocks blocks' v2 v2' _ lo B lo' B' (Nat.le_trans hB hb0.size) (Nat.le_trans hC hb0.size) (h2.below hb0 hB) (h2'.below hb0 hC)).mono ?_
      rintro e w1 ⟨rfl, x1⟩
      have hb1 : Below w.heap.size w w1 := hb0.trans (x1.mono hb0.size)
      have P1 := P0.below x1 P0.lt
      have Q1 := Q0.below x1 Q0.lt
      by_cases e2 : blocks = blocks'
      · rw [eqB_true e2]
        subst e2
        go_wp2_with fail
        go_ret
        exact Same2.mk_true rfl rfl hb1
      · have E2 : Hid (¬ blocks = blocks') := e2
        rw [eqB_false e2]
        clear e2
        go_wp2_with fail
        go_ret
        exact Same2.mk_false (fun h => E2.out (congrArg CodeD.blocks h)) rfl hb1
    · have n1 : (regs == regs') = false := by simpa using e1
      have m1 : (regs != regs') = true := by simpa using e1
      have E1 : Hid (¬ regs = regs') := e1
      clear e1
      go_enter Try.func30, Try.ntmps30
      go_wp2_with fail
      go_ret
      exact Same2.mk_false (fun h => E1.out (congrArg CodeD.regs h)) rfl hb0
  · have n0 : (params == params') = false := by simpa using e0
    have m0 : (params != params') = true := by simpa using e0
    have E0 : Hid (¬ params = params') := e0
    clear e0
    go_enter Try.func30, Try.ntmps30
    go_wp2_with fail
    go_ret
    exact Same2.mk_false (fun h => E0.out (congrArg CodeD.params h)) rfl hb0

set_option maxRecDepth 100000 in
theorem impl_sameCodeS (l l' : List CodeD) (v u : Value) (w : World) (lo B lo' B' : Nat) (hB : B ≤ w.heap.size) (hC : B' ≤ w.heap.size) (hv : Sl false (codeS false) w lo B l v) (hu : Sl false (codeS false) w lo' B' l' u) :
    Calls Try.prog 29 #[v, u, .func (.func 30) #[] #[]] w (Same2 l l' w) := by
  obtain ⟨A, cap, rfl, hlc, hcm⟩ := hv.form
  obtain ⟨A2, cap2, rfl, hlc2, hcm2⟩ := hu.form
  by_cases hlen : l.length = l'.length
  · have hnb : ((l.length : Int) != (l'.length : Int)) = false := by rw [hlen]; simp
    have HL0 : Hid (l.length = l'.length) := hlen
    have hle1 : l.length ≤ l'.length := by omega
    have hle2 : l'.length ≤ l.length := by omega
    clear hlen
    go_enter Try.func29, Try.ntmps29
    go_wp2_with fail
    go_loopw [17] (fun i wr => ∃ k : Nat, k ≤ l.length ∧ i = .int .i64 k ∧ Hid (l.take k = l'.take k) ∧ Below w.heap.size w wr) (fun i _ => l.length - (intOf i).toNat)
    case atStart => exact ⟨0, by omega, rfl, (show _ = _ by simp), Below.refl _ _⟩
    case round =>
      obtain ⟨k, hk, rfl, HT, hb⟩ := hrel
      have hsz := hb.size
      by_cases hkl : k < l.length
      · obtain ⟨b, o, params, regs, blocks, v2, rfl, _, hbB, HL, g0, g1, g2, c0, c1, c2⟩ := code_get (hv.below hb hB) hkl
        obtain ⟨b2, o2, params', regs', blocks', v2', rfl, _, hbB2, HL2, g0', g1', g2', t0, t1, t2⟩ := code_get (hu.below hb hC) (show k < l'.length by omega)
        obtain ⟨A_2, p_2, hf, _, _⟩ := g2.form
        change _ = Value.slice A_2 blocks.length p_2 at hf
        subst hf
        obtain ⟨A'_2, p'_2, hf, _, _⟩ := g2'.form
        change _ = Value.slice A'_2 blocks'.length p'_2 at hf
        subst hf
        have hw1 : Below w.heap.size w ((wr.alloc (.cells #[.int .i64 params, .int .i64 regs, .slice A_2 blocks.length p_2] 39)).alloc (.cells #[.int .i64 params', .int .i64 regs', .slice A'_2 blocks'.length p'_2] 39)) := (hb.alloc hsz _).alloc (by simp; omega) _
        have hkl' : k < l'.length := by omega
        have u0 : (wr.alloc (.cells #[.int .i64 params, .int .i64 regs, .slice A_2 blocks.length p_2] 39)).cell? ⟨b2, o2 + k * 3, none⟩ = some (.int .i64 params') := (World.cell?_of_block (Below.heap_alloc _ _ _ (by simp only; omega))).trans t0
        have u1 : (wr.alloc (.cells #[.int .i64 params, .int .i64 regs, .slice A_2 blocks.length p_2] 39)).cell? ⟨b2, o2 + k * 3 + 1, none⟩ = some (.int .i64 regs') := (World.cell?_of_block (Below.heap_alloc _ _ _ (by simp only; omega))).trans t1
        have u2 : (wr.alloc (.cells #[.int .i64 params, .int .i64 regs, .slice A_2 blocks.length p_2] 39)).cell? ⟨b2, o2 + k * 3 + 2, none⟩ = some (.slice A'_2 blocks'.length p'_2) := (World.cell?_of_block (Below.heap_alloc _ _ _ (by simp only; omega))).trans t2
        go_wp2_with fail
        refine (impl_sameCode params regs blocks (.slice A_2 blocks.length p_2) params' regs' blocks' (.slice A'_2 blocks'.length p'_2) _ lo B lo' B' (by simp; omega) (by simp; omega) (g2.keep (Nat.le_refl _) (Nat.le_refl _) (fun x _ hx => (Below.heap_alloc _ _ x (by simp; omega)).trans (Below.heap_alloc _ _ x (by omega)))) (g2'.keep (Nat.le_refl _) (Nat.le_refl _) (fun x _ hx => (Below.heap_alloc _ _ x (by simp; omega)).trans (Below.heap_alloc _ _ x (by omega))))).mono ?_
        rintro e w3 ⟨rfl, x3⟩
        have hb3 : Below w.heap.size w w3 := hw1.trans (x3.mono hw1.size)
        by_cases he : (⟨params, regs, blocks⟩ : CodeD) = (⟨params', regs', blocks'⟩ : CodeD)
        · rw [eqB_true he]
          have HE : Hid ((⟨params, regs, blocks⟩ : CodeD) = (⟨params', regs', blocks'⟩ : CodeD)) := he
          clear he
          go_wp2_with fail
          go_roundw
          case rel => exact ⟨k + 1, by omega, by go_num, take_succ_eq HT.out hkl hkl' (HL.out.trans (HE.out.trans HL2.out.symm)), hb3⟩
          case measure => simp [intOf]; omega
        · rw [eqB_false he]
          have HE : Hid (¬ (⟨params, regs, blocks⟩ : CodeD) = (⟨params', regs', blocks'⟩ : CodeD)) := he
          clear he
          go_wp2_with fail
          go_ret
          exact Same2.mk_false (ne_of_at hkl hkl' HL.out HL2.out HE.out) rfl hb3
      · go_wp2_with fail
        go_ret
        exact Same2.mk_true (take_all_eq HT.out (by omega) (by omega)) rfl hb
  · have hnb : ((l.length : Int) != (l'.length : Int)) = true := by simpa using fun h : (l.length : Int) = l'.length => hlen (by omega)
    have HL0 : Hid (¬ l.length = l'.length) := hlen
    clear hlen
    go_enter Try.func29, Try.ntmps29
    go_wp2_with fail
    go_ret
    exact Same2.mk_false (ne_of_len HL0.out) rfl (Below.refl _ _)

theorem impl_SameUnits (codes : List CodeD) (v0 : Value) (codes' : List CodeD) (v0' : Value) (w : World) (lo B lo' B' : Nat) (hB : B ≤ w.heap.size) (hC : B' ≤ w.heap.size) (h0 : Sl false (codeS false) w lo B codes v0) (h0' : Sl false (codeS false) w lo' B' codes' v0') :
    Calls Try.prog 14 #[.agg #[v0], .agg #[v0']] w (Same2 (⟨codes⟩ : UnitD) (⟨codes'⟩ : UnitD) w) := by
  have hb0 : Below w.heap.size w ((w.alloc (.cells #[v0] 28)).alloc (.cells #[v0'] 28)) := ((Below.refl _ _).alloc (Nat.le_refl _) _).alloc (by simp) _
  have P0 : Row ((w.alloc (.cells #[v0] 28)).alloc (.cells #[v0'] 28)) w.heap.size 28 #[v0] := (Row.new w _ _).alloc _
  have Q0 : Row ((w.alloc (.cells #[v0] 28)).alloc (.cells #[v0'] 28)) (w.heap.size + 1) 28 #[v0'] := by simpa using Row.new (w.alloc (.cells #[v0] 28)) 28 #[v0']
  go_enter Try.func14, Try.ntmps14
  go_wp2_with fail
  refine (impl_sameCodeS codes codes' v0 v0' _ lo B lo' B' (Nat.le_trans hB hb0.size) (Nat.le_trans hC hb0.size) (h0.below hb0 hB) (h0'.below hb0 hC)).mono ?_
  rintro e w1 ⟨rfl, x1⟩
  have hb1 : Below w.heap.size w w1 := hb0.trans (x1.mono hb0.size)
  have P1 := P0.below x1 P0.lt
  have Q1 := Q0.below x1 Q0.lt
  by_cases e0 : codes = codes'
  · rw [eqB_true e0]
    subst e0
    go_wp2_with fail
    go_ret
    exact Same2.mk_true rfl rfl hb1
  · have E0 : Hid (¬ codes = codes') := e0
    rw [eqB_false e0]
    clear e0
    go_wp2_with fail
    go_ret
    exact Same2.mk_false (fun h => E0.out (congrArg UnitD.codes h)) rfl hb1

end Go.Proofs.Ytgcjccoglcgcoaa

