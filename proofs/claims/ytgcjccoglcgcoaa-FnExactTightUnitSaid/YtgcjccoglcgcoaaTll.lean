/-
  A register told its number in a list: l7Tell; a list of zeros made. Conditions: the list lies in a block of its own; the register lies below its length.
-/
import Derived.Test.YtgcjccoglcgcoaaTgt
import Derived.Laws.MakeOwn
namespace Go.Proofs.Ytgcjccoglcgcoaa
open Go.RowKit Go.ChangeShapes Go.WideShapes Go.Deep
set_option linter.unusedVariables false
set_option linter.unusedSimpArgs false
/-- the list tells the numbers of the registers of s; of the others it tells -1 -/
def TS (T s : List Int) : Prop := ∀ n : Nat, n < T.length → T[n]? = some (if (n : Int) ∈ s then numS s n else -1)
theorem TS.yes {T s : List Int} (h : TS T s) {n : Nat} (hn : n < T.length) (hs : (n : Int) ∈ s) : T[n]? = some (numS s n) := by
  have := h n hn
  rw [if_pos hs] at this
  exact this
theorem TS.tell {T s : List Int} (h : TS T s) {n : Nat} (hs : (n : Int) ∉ s) : TS (T.set n (s.length : Int)) (s ++ [(n : Int)]) := by
  intro k hk
  rw [List.length_set] at hk
  by_cases e : k = n
  · subst e
    rw [List.getElem?_set_self hk, if_pos (by simp), num_new hs]
  · rw [List.getElem?_set_ne (Ne.symm e), h k hk]
    by_cases hm : (k : Int) ∈ s
    · rw [if_pos hm, if_pos (by simp [hm]), num_pre (List.prefix_append _ _) hm]
    · rw [if_neg hm, if_neg (by
        intro hx
        rcases List.mem_append.1 hx with hx | hx
        · exact hm hx
        · simp at hx
          omega)]
theorem TS.start {T : List Int} {p : Nat} (h : ∀ n : Nat, n < T.length → T[n]? = some (if n < p then (n : Int) else -1)) : TS T (upto p) := by
  intro n hn
  rw [h n hn]
  by_cases hp : n < p
  · have hm : (n : Int) ∈ upto p := upto_mem.2 ⟨by omega, by omega⟩
    rw [if_pos hp, if_pos hm, num_upto hm]
  · rw [if_neg hp, if_neg (fun hm => by have := upto_mem.1 hm; omega)]
theorem upto_pre (n : Nat) : (upto n).length = n := upto_len n
def TellP (g : List Nat) (M n cap : Nat) (A : Option Addr) (s : List Int) (r : Int) (w : World) (e : Ending) (w' : World) : Prop :=
  e = .returned (.int .i64 ((tell s r).length : Int)) ∧ ∃ T' : List Int, T'.length = n ∧ SlF intF 3 w' g T' (.slice A n cap) ∧ TS T' (tell s r) ∧ Fr g M w w'
set_option maxRecDepth 100000 in
theorem spec_l7Tell (T : List Int) (g : List Nat) (A : Option Addr) (cap M : Nat) (r : Nat) (s : List Int) (w : World) (h : SlF intF 3 w g T (.slice A T.length cap)) (hnd : g.Nodup) (hM : M ∉ g) (hTS : TS T s) (hr : r < T.length) (hs : s.length ≤ 1048576) :
    Calls Try.prog 37 #[.slice A T.length cap, .int .i64 (r : Int), .int .i64 (s.length : Int)] w (TellP g M T.length cap A s r w) := by
  obtain ⟨a, hx⟩ : ∃ a, T[r] = a := ⟨_, rfl⟩
  have hxx : T[r]? = some a := by rw [List.getElem?_eq_getElem hr, hx]
  obtain ⟨b, rfl, hb, d0, df0, ha64, close⟩ := look_int h hnd hxx
  have hri : (0 : Int) ≤ (r : Int) := by omega
  have hrn : (r : Int) < (T.length : Int) := by omega
  have hbM : b ≠ M := fun e => hM (e ▸ hb)
  have hv := hTS r hr
  rw [hxx] at hv
  injection hv with hv
  by_cases hm : (r : Int) ∈ s
  · have ht : Hid (tell s r = s) := by show _ = _; unfold tell; rw [if_pos hm]
    rw [if_pos hm] at hv
    have ha0 : 0 ≤ a := by have := num_lt hm; omega
    have F := Lib.hid (show TellP g M T.length cap (some ⟨b, 0, none⟩) s r w (.returned (.int .i64 (s.length : Int))) w from ⟨by rw [ht.out], T, rfl, h, by rw [ht.out]; exact hTS, Fr.refl _ _ _⟩)
    clear hv ht hx hxx close h
    go_enter Try.func37, Try.ntmps37
    go_wp2_with fail
    go_ret
    exact F.out
  · have ht : Hid (tell s r = s ++ [(r : Int)]) := by show _ = _; unfold tell; rw [if_neg hm]
    rw [if_neg hm] at hv
    have ha0 : ¬ 0 ≤ a := by omega
    have hs64 : I64 (s.length : Int) := ⟨by omega, by omega⟩
    have F := Lib.hid (show TellP g M T.length cap (some ⟨b, 0, none⟩) s r w (.returned (.int .i64 ((s.length : Int) + 1))) (w.setCell ⟨b, r, none⟩ (.int .i64 (s.length : Int))) from by
      obtain ⟨k1, k2⟩ := close M _ _ hM hs64 (Upd.set (w := w) (w1 := w) (Below.refl _ _) (fun _ _ => rfl) hbM)
      exact ⟨by rw [ht.out, List.length_append, List.length_singleton]; rfl, _, by rw [List.length_set], k1, by rw [ht.out]; exact hTS.tell hm, k2⟩)
    clear hv ht hx hxx close h
    go_enter Try.func37, Try.ntmps37
    go_wp2_with fail
    go_ret
    exact F.out
theorem zeros_get {n i : Nat} (h : i < n) : (madeCells (Value.int .i64 0).cells (n * 1))[i]? = some (.int .i64 0) := by
  simp [madeCells, Value.cells, Nat.mod_one, h]
/-- a list of zeros -/
theorem make_zeros (w : World) (n : Nat) (hn : n ≤ 1048576) :
    ∃ cs : Array Value, (Instr.makeSlice 63 (.int .i64 (n : Int)) (.int .i64 (n : Int))).run Try.prog w = .ok (.slice (some ⟨w.heap.size, 0, none⟩) n n) (w.alloc (.cells cs 3)) ∧ ∀ w', Row w' w.heap.size 3 cs → SlF intF 3 w' [w.heap.size] (List.replicate n 0) (.slice (some ⟨w.heap.size, 0, none⟩) n n) := by
  obtain ⟨i0, hi, hz0, hz1, hz2⟩ := info_parts Try.info_int
  have hr := run_make (P := Try.prog) w 63 3 i0 (.int .i64 0) Try.underlying63 hi hz0 .i64 .i64 n n (by omega) (by omega) (by rw [hz2]; omega) (by omega)
  rw [hz1] at hr
  simp only [Int.toNat_natCast] at hr
  refine ⟨_, hr, fun w' R => ⟨_, n, by rw [List.length_replicate], by rw [List.length_replicate]; omega, by unfold maxLen; omega, Or.inr ⟨_, _, List.replicate n [], rfl, R, ?_, by simp, by simp, fun i a f ha hf => ?_⟩⟩⟩
  · rw [size_madeCells]
    rfl
  · have hil : i < n := by
      have := (List.getElem?_eq_some_iff.1 ha).1
      simpa using this
    rw [List.getElem?_replicate, if_pos hil] at ha hf
    injection ha with ha
    injection hf with hf
    subst ha
    subst hf
    refine ⟨[.int .i64 0], ⟨rfl, rfl, by unfold I64; omega⟩, fun j u hu => ?_⟩
    cases j with
    | zero =>
      simp at hu
      subst hu
      show (madeCells (Value.int .i64 0).cells (n * 1))[i * 1 + 0]? = _
      rw [Nat.mul_one, Nat.mul_one, Nat.add_zero]
      have := zeros_get hil
      rw [Nat.mul_one] at this
      exact this
    | succ j => simp at hu
end Go.Proofs.Ytgcjccoglcgcoaa
