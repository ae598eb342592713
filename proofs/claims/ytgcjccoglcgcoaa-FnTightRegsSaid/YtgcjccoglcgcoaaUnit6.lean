/-
  The closure codeOk$3, and slices.ContainsFunc over instructions at it. Conditions: the codes and the instructions read as data.
-/
import Derived.Test.YtgcjccoglcgcoaaUnit5
namespace Go.Proofs.Ytgcjccoglcgcoaa
open Go.RowKit Go.ChangeShapes Go.WideShapes Go.Deep
set_option linter.unusedVariables false
set_option linter.unusedSimpArgs false
/-- is it no instruction of a code? -/
def insNo (us : List CodeD) (regs : Int) (k : Nat) (x : InsD) : Bool := !insB us regs k x
set_option maxRecDepth 100000 in
theorem insnot (us : List CodeD) (v0 : Value) (kk : Nat) (params regs : Int) (blocks : List BlkD) (gu gk : Nat) (op to n : Int) (args : List Int) (va : Value) (w : World) (lo B : Nat) (hB : B ≤ w.heap.size) (ha : Sl false (intS false) w lo B args va) (hN : us.length ≤ 1048576) (hu : Sl false (codeS false) w lo B us v0) (hkk : kk < us.length) (hL : Hid (us[kk] = ⟨params, regs, blocks⟩)) (hr : 0 ≤ regs ∧ regs ≤ 300) (hgu : Hid (w.cell? ⟨gu, 0, none⟩ = some v0)) (hgk : Hid (w.cell? ⟨gk, 0, none⟩ = some (.int .i64 kk))) (hgl : gu < w.heap.size ∧ gk < w.heap.size) :
    Calls Try.prog 60 #[.agg #[.int .i64 op, .int .i64 to, va, .int .i64 n], .pointer (some ⟨gu, 0, none⟩), .pointer (some ⟨gk, 0, none⟩)] w (RetV (.bool (insNo us regs kk ⟨op, to, args, n⟩)) w) := by
  obtain ⟨A, cap, rfl, _, _⟩ := hu.form
  obtain ⟨Aa, pa, hf, _, _⟩ := ha.form
  change _ = Value.slice Aa args.length pa at hf
  subst hf
  have y1 : (w.alloc (.cells #[.int .i64 op, .int .i64 to, .slice Aa args.length pa, .int .i64 n] 72)).cell? ⟨gu, 0, none⟩ = some (.slice A us.length cap) := (World.cell?_of_block (Below.heap_alloc _ _ _ hgl.1)).trans hgu.out
  have y2 : (w.alloc (.cells #[.int .i64 op, .int .i64 to, .slice Aa args.length pa, .int .i64 n] 72)).cell? ⟨gk, 0, none⟩ = some (.int .i64 kk) := (World.cell?_of_block (Below.heap_alloc _ _ _ hgl.2)).trans hgk.out
  have hb : Below w.heap.size w (w.alloc (.cells #[.int .i64 op, .int .i64 to, .slice Aa args.length pa, .int .i64 n] 72)) := (Below.refl _ _).alloc (Nat.le_refl _) _
  go_enter Try.func60, Try.ntmps60
  go_wp2_with fail
  refine (impl_insOk us (.slice A us.length cap) kk op to n args (.slice Aa args.length pa) params regs blocks _ lo B (Nat.le_trans hB hb.size) hN (hu.below hb hB) (ha.below hb hB) hkk hL.out hr).mono ?_
  rintro e w1 ⟨rfl, b1⟩
  go_wp2_with fail
  go_ret
  exact RetV.mk rfl rfl (hb.trans (b1.mono hb.size))
set_option maxRecDepth 100000 in
theorem inss_IndexFunc (us : List CodeD) (v0 : Value) (kk : Nat) (params regs : Int) (blocks : List BlkD) (gu gk : Nat) (l : List InsD) (v : Value) (w : World) (lo B : Nat) (hB : B ≤ w.heap.size) (hv : Sl false (insS false) w lo B l v) (hN : us.length ≤ 1048576) (hu : Sl false (codeS false) w lo B us v0) (hkk : kk < us.length) (hL : Hid (us[kk] = ⟨params, regs, blocks⟩)) (hr : 0 ≤ regs ∧ regs ≤ 300) (hgu : Hid (w.cell? ⟨gu, 0, none⟩ = some v0)) (hgk : Hid (w.cell? ⟨gk, 0, none⟩ = some (.int .i64 kk))) (hgl : gu < w.heap.size ∧ gk < w.heap.size) :
    Calls Try.prog 88 #[v, .func (.func 60) #[] #[.pointer (some ⟨gu, 0, none⟩), .pointer (some ⟨gk, 0, none⟩)]] w (RetV (.int .i64 (firstIdx (insNo us regs kk) l)) w) := by
  obtain ⟨A, cap, rfl, hlc, hcm⟩ := hv.form
  go_enter Try.func88, Try.ntmps88
  go_wp2_with fail
  go_loopw [8] (fun i wr => ∃ k : Nat, k ≤ l.length ∧ i = .int .i64 k ∧ Hid (firstIdx (insNo us regs kk) l = firstFrom (insNo us regs kk) k (l.drop k)) ∧ Below w.heap.size w wr) (fun i _ => l.length - (intOf i).toNat)
  case atStart => exact ⟨0, by omega, rfl, (show _ = _ from rfl), Below.refl _ _⟩
  case round =>
    obtain ⟨k, hk, rfl, HT, hb⟩ := hrel
    have hsz := hb.size
    by_cases hkl : k < l.length
    · obtain ⟨b, o, op, to, args, v2, n, rfl, _, hbB, HL, g0, g1, g2, g3, c0, c1, c2, c3⟩ := ins_get (hv.below hb hB) hkl
      obtain ⟨A_2, p_2, hf, _, _⟩ := g2.form
      change _ = Value.slice A_2 args.length p_2 at hf
      subst hf
      have hkn : (k : Int) < (l.length : Int) := by omega
      have hki : (0 : Int) ≤ (k : Int) := by omega
      go_wp2_with fail
      refine (insnot us v0 kk params regs blocks gu gk op to n args (.slice A_2 args.length p_2) _ lo B (Nat.le_trans hB hb.size) g2 hN (hu.below hb hB) hkk hL hr ((hb.cell hgl.1).trans hgu.out) ((hb.cell hgl.2).trans hgk.out) ⟨by omega, by omega⟩).mono ?_
      rintro e w3 ⟨rfl, x3⟩
      have hb3 : Below w.heap.size w w3 := hb.trans (x3.mono hb.size)
      by_cases he : (insNo us regs kk) (⟨op, to, args, n⟩ : InsD) = true
      · have E : Hid (firstIdx (insNo us regs kk) l = k) := HT.out.trans (firstFrom_hit hkl HL.out he)
        clear HT
        rw [he]
        clear he
        go_wp2_with fail
        go_ret
        exact RetV.mk (by rw [E.out] <;> rfl) rfl hb3
      · have he : (insNo us regs kk) (⟨op, to, args, n⟩ : InsD) = false := by simpa using he
        have E : Hid (firstIdx (insNo us regs kk) l = firstFrom (insNo us regs kk) (k + 1) (l.drop (k + 1))) := HT.out.trans (firstFrom_miss hkl HL.out he)
        clear HT
        rw [he]
        clear he
        go_wp2_with fail
        go_roundw
        case rel => exact ⟨k + 1, by omega, by go_num, E, hb3⟩
        case measure => simp [intOf]; omega
    · have E : Hid (firstIdx (insNo us regs kk) l = -1) := HT.out.trans (firstFrom_end (by omega))
      clear HT
      go_wp2_with fail
      go_ret
      exact RetV.mk (by rw [E.out] <;> rfl) rfl hb

theorem inss_ContainsFunc (us : List CodeD) (v0 : Value) (kk : Nat) (params regs : Int) (blocks : List BlkD) (gu gk : Nat) (l : List InsD) (v : Value) (w : World) (lo B : Nat) (hB : B ≤ w.heap.size) (hv : Sl false (insS false) w lo B l v) (hN : us.length ≤ 1048576) (hu : Sl false (codeS false) w lo B us v0) (hkk : kk < us.length) (hL : Hid (us[kk] = ⟨params, regs, blocks⟩)) (hr : 0 ≤ regs ∧ regs ≤ 300) (hgu : Hid (w.cell? ⟨gu, 0, none⟩ = some v0)) (hgk : Hid (w.cell? ⟨gk, 0, none⟩ = some (.int .i64 kk))) (hgl : gu < w.heap.size ∧ gk < w.heap.size) :
    Calls Try.prog 59 #[v, .func (.func 60) #[] #[.pointer (some ⟨gu, 0, none⟩), .pointer (some ⟨gk, 0, none⟩)]] w (RetV (.bool (l.any (insNo us regs kk))) w) := by
  obtain ⟨A, cap, rfl, _, _⟩ := hv.form
  have E : Hid (decide (0 ≤ firstIdx (insNo us regs kk) l) = l.any (insNo us regs kk)) := firstIdx_any _ _
  go_enter Try.func59, Try.ntmps59
  go_wp2_with fail
  refine (inss_IndexFunc us v0 kk params regs blocks gu gk l _ _ lo B hB hv hN hu hkk hL hr hgu hgk hgl).mono ?_
  rintro e w1 ⟨rfl, b1⟩
  go_wp2_with fail
  go_ret
  exact RetV.mk (by rw [← E.out] <;> rfl) rfl b1
end Go.Proofs.Ytgcjccoglcgcoaa
