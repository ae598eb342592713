/-
  Words in memory: their shape, and the laws' own functions over them (szWord, toWord, eqWord and their lists). Conditions: the arguments read as words.
-/
import Derived.Test.YtcmcpipcafjiaaaBase
import Derived.StillTailTactics
import Derived.Deep.RegionHeld3
import Derived.Deep.QuietTactic
import Derived.BigQuiet
namespace Go.Proofs.Ytcmcpipcafjiaaa
open Go.RowKit Go.ChangeShapes Go.WideShapes Go.Deep

/-- a word: kind and text -/
def wordS : Shp (Int × ByteArray) where
  size := 2
  rep := fun _ _ p cs => cs = [.int .i64 p.1, .string p.2] ∧ I64 p.1 ∧ p.2.size ≤ maxLen
  len := fun h => by rw [h.1]; rfl
  keep := fun h _ _ => h

theorem dec_word {w : World} {t : TypeId} {f0 f1 : Field} (ht : Try.prog.underlying t = some (.struct #[f0, f1])) (hone : oneCellFields Try.prog #[f0, f1] = true) (hC : Try.prog.cellsOf t = 2)
    (h0 : Try.prog.underlying f0.type = some (.int .i64)) (h1 : Try.prog.underlying f1.type = some .string) : Dec Try.prog w t wordS := by
  intro H enc base spare held fuel cs x h
  obtain ⟨hl, n, _, hf⟩ := trod_fields ht hone hC h
  match cs, hl with
  | [c0, c1], _ =>
    obtain ⟨y0, hy0⟩ := hf 0 f0 c0 rfl rfl
    obtain ⟨y1, hy1⟩ := hf 1 f1 c1 rfl rfl
    obtain ⟨a, ha, hw⟩ := dec_int (w := w) h0 hy0
    obtain ⟨s, hs, hz⟩ := dec_str (w := w) h1 hy1
    injection ha with ha
    injection hs with hs
    subst ha hs
    exact ⟨(a, s), rfl, hw, hz⟩

/-- a word of a slice: its two cells -/
theorem word_at {w : World} {B : Nat} {l : List (Int × ByteArray)} {A : Option Addr} {n cap : Nat} (h : Sl wordS w B l (.slice A n cap)) {i : Nat} (hi : i < l.length) :
    ∃ (b o : Nat) (k : Int) (s : ByteArray), A = some ⟨b, o, none⟩ ∧ b < B ∧ l[i] = (k, s) ∧ I64 k ∧ s.size ≤ maxLen ∧ w.cell? ⟨b, o + i * 2, none⟩ = some (.int .i64 k) ∧ w.cell? ⟨b, o + i * 2 + 1, none⟩ = some (.string s) := by
  obtain ⟨b, o, cs, rfl, hb, ⟨rfl, h1, h2⟩, hc⟩ := h.at_ hi
  exact ⟨b, o, _, _, rfl, hb, rfl, h1, h2, hc 0 _ rfl, hc 1 _ rfl⟩
end Go.Proofs.Ytcmcpipcafjiaaa
