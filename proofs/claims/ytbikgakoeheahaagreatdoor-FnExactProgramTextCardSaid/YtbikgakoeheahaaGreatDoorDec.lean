/-
  What an argument reads as: the shapes of the laws' own types. No condition.
-/
import Derived.Test.YtbikgakoeheahaaGreatDoorTypes
namespace Go.Proofs.YtbikgakoeheahaaGreatDoor
open Go.RowKit Go.ChangeShapes Go.WideShapes Go.Deep

theorem dec_Expr_at {w : World} : ∀ (D : Nat) {H : Type} {enc : TypeId × Value → H} {base : Nat} {spare : Nat → Bool} {held : Bool} {fuel : Nat} {cs : List Value} {x : DataW H × List MemPlace}, fuel ≤ D → DataW.trod enc Tryz.prog w base spare held fuel 142 cs = some x → ∃ a, (exS false D).rep w 0 w.heap.size a cs := by
  intro D
  induction D with
  | zero =>
    intro H enc base spare held fuel cs x hf h
    obtain rfl : fuel = 0 := by omega
    simp [DataW.trod] at h
  | succ D ih =>
    intro H enc base spare held fuel cs x hfu h
    obtain ⟨hl, n, hn, hf⟩ := trod_fields Tryz.underlying142 (by kernel_rfl) (by kernel_rfl) h
    match cs, hl with
    | [c0, c1, c2, c3], _ =>
      obtain ⟨y0, z0⟩ := hf 0 _ c0 rfl rfl
      obtain ⟨a0, r0⟩ := dec_int (w := w) Tryz.underlying3 z0
      obtain ⟨y1, z1⟩ := hf 1 _ c1 rfl rfl
      obtain ⟨a1, r1⟩ := dec_int (w := w) Tryz.underlying3 z1
      obtain ⟨y2, z2⟩ := hf 2 _ c2 rfl rfl
      obtain ⟨a2, r2⟩ := dec_str (w := w) Tryz.underlying9 z2
      obtain ⟨y3, z3⟩ := hf 3 _ c3 rfl rfl
      obtain ⟨a3, v3, e3, q3⟩ := dec_slice_at (w := w) (S := exS false D) Tryz.underlying107 (by rw [exS_size]; kernel_rfl) (by rw [exS_size]; omega) (fun m cs' y hm hy => ih (by omega) hy) z3
      have r3 : (slS false (exS false D)).rep w 0 w.heap.size a3 [c3] := ⟨v3, e3, q3⟩
      exact ⟨.mk a0 a1 a2 a3, c0, c1, c2, c3, rfl, r0, r1, r2, r3⟩

theorem dec_Stmt_at {w : World} : ∀ (D : Nat) {H : Type} {enc : TypeId × Value → H} {base : Nat} {spare : Nat → Bool} {held : Bool} {fuel : Nat} {cs : List Value} {x : DataW H × List MemPlace}, fuel ≤ D → DataW.trod enc Tryz.prog w base spare held fuel 109 cs = some x → ∃ a, (stS false D).rep w 0 w.heap.size a cs := by
  intro D
  induction D with
  | zero =>
    intro H enc base spare held fuel cs x hf h
    obtain rfl : fuel = 0 := by omega
    simp [DataW.trod] at h
  | succ D ih =>
    intro H enc base spare held fuel cs x hfu h
    obtain ⟨hl, n, hn, hf⟩ := trod_fields Tryz.underlying109 (by kernel_rfl) (by kernel_rfl) h
    match cs, hl with
    | [c0, c1, c2, c3, c4], _ =>
      obtain ⟨y0, z0⟩ := hf 0 _ c0 rfl rfl
      obtain ⟨a0, r0⟩ := dec_int (w := w) Tryz.underlying3 z0
      obtain ⟨y1, z1⟩ := hf 1 _ c1 rfl rfl
      obtain ⟨a1, r1⟩ := dec_str (w := w) Tryz.underlying9 z1
      obtain ⟨y2, z2⟩ := hf 2 _ c2 rfl rfl
      obtain ⟨a2, v2, e2, q2⟩ := dec_slice_at (w := w) (S := exS false D) Tryz.underlying107 (by rw [exS_size]; kernel_rfl) (by rw [exS_size]; omega) (fun m cs' y hm hy => dec_Expr_at D (by omega) hy) z2
      have r2 : (slS false (exS false D)).rep w 0 w.heap.size a2 [c2] := ⟨v2, e2, q2⟩
      obtain ⟨y3, z3⟩ := hf 3 _ c3 rfl rfl
      obtain ⟨a3, v3, e3, q3⟩ := dec_slice_at (w := w) (S := stS false D) Tryz.underlying51 (by rw [stS_size]; kernel_rfl) (by rw [stS_size]; omega) (fun m cs' y hm hy => ih (by omega) hy) z3
      have r3 : (slS false (stS false D)).rep w 0 w.heap.size a3 [c3] := ⟨v3, e3, q3⟩
      obtain ⟨y4, z4⟩ := hf 4 _ c4 rfl rfl
      obtain ⟨a4, v4, e4, q4⟩ := dec_slice_at (w := w) (S := stS false D) Tryz.underlying51 (by rw [stS_size]; kernel_rfl) (by rw [stS_size]; omega) (fun m cs' y hm hy => ih (by omega) hy) z4
      have r4 : (slS false (stS false D)).rep w 0 w.heap.size a4 [c4] := ⟨v4, e4, q4⟩
      exact ⟨.mk a0 a1 a2 a3 a4, c0, c1, c2, c3, c4, rfl, r0, r1, r2, r3, r4⟩

theorem dec_Fn_at {w : World} (D : Nat) {H : Type} {enc : TypeId × Value → H} {base : Nat} {spare : Nat → Bool} {held : Bool} {fuel : Nat} {cs : List Value} {x : DataW H × List MemPlace} (hfu : fuel ≤ D) (h : DataW.trod enc Tryz.prog w base spare held fuel 53 cs = some x) : ∃ a, (fnS false D).rep w 0 w.heap.size a cs := by
  obtain ⟨hl, n, hn, hf⟩ := trod_fields Tryz.underlying53 (by kernel_rfl) (by kernel_rfl) h
  match cs, hl with
  | [c0, c1, c2], _ =>
    obtain ⟨y0, z0⟩ := hf 0 _ c0 rfl rfl
    obtain ⟨a0, r0⟩ := dec_str (w := w) Tryz.underlying9 z0
    obtain ⟨y1, z1⟩ := hf 1 _ c1 rfl rfl
    obtain ⟨a1, r1⟩ := dec_slice (w := w) Tryz.underlying40 (by kernel_rfl) (by decide) (dec_str Tryz.underlying9) z1
    obtain ⟨y2, z2⟩ := hf 2 _ c2 rfl rfl
    obtain ⟨a2, v2, e2, q2⟩ := dec_slice_at (w := w) (S := stS false D) Tryz.underlying51 (by rw [stS_size]; kernel_rfl) (by rw [stS_size]; omega) (fun m cs' y hm hy => dec_Stmt_at D (by omega) hy) z2
    have r2 : (slS false (stS false D)).rep w 0 w.heap.size a2 [c2] := ⟨v2, e2, q2⟩
    exact ⟨⟨a0, a1, a2⟩, c0, c1, c2, rfl, r0, r1, r2⟩

theorem dec_Program_at {w : World} (D : Nat) {H : Type} {enc : TypeId × Value → H} {base : Nat} {spare : Nat → Bool} {held : Bool} {fuel : Nat} {cs : List Value} {x : DataW H × List MemPlace} (hfu : fuel ≤ D) (h : DataW.trod enc Tryz.prog w base spare held fuel 24 cs = some x) : ∃ a, (progS false D).rep w 0 w.heap.size a cs := by
  obtain ⟨hl, n, hn, hf⟩ := trod_fields Tryz.underlying24 (by kernel_rfl) (by kernel_rfl) h
  match cs, hl with
  | [c0], _ =>
    obtain ⟨y0, z0⟩ := hf 0 _ c0 rfl rfl
    obtain ⟨a0, v0, e0, q0⟩ := dec_slice_at (w := w) (S := fnS false D) Tryz.underlying22 (by rw [fnS_size]; kernel_rfl) (by rw [fnS_size]; omega) (fun m cs' y hm hy => dec_Fn_at D (by omega) hy) z0
    have r0 : (slS false (fnS false D)).rep w 0 w.heap.size a0 [c0] := ⟨v0, e0, q0⟩
    exact ⟨⟨a0⟩, c0, rfl, r0⟩

end Go.Proofs.YtbikgakoeheahaaGreatDoor

