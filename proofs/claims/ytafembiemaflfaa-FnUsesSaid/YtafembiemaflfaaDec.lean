/-
  What an argument reads as: bytes. No condition.
-/
import Derived.Test.YtafembiemaflfaaTypes
namespace Go.Proofs.Ytafembiemaflfaa
open Go.RowKit Go.ChangeShapes Go.WideShapes Go.Deep
set_option linter.unusedVariables false
/-- a byte -/
def byS : Shp UInt8 where
  size := 1
  rep := fun _ _ _ a cs => cs = [.int .u8 (a.toNat : Int)]
  len := fun h => by rw [h]; rfl
  keep := fun h _ _ _ => h
theorem dec_u8 {w : World} : Dec Try.prog w 5 byS := by
  intro H enc base spare held fuel cs x h
  obtain ⟨n, rfl, _, hw⟩ := DataW.trod_int Try.underlying5 h
  simp [Lit.wf, IntKind.min, IntKind.max, IntKind.signed, IntKind.bits] at hw
  refine ⟨UInt8.ofNat n.toNat, ?_⟩
  show [Value.int .u8 n] = [Value.int .u8 _]
  have e : ((UInt8.ofNat n.toNat).toNat : Int) = n := by
    rw [UInt8.toNat_ofNat']
    omega
  rw [e]
theorem by_rep {w : World} {lo B : Nat} {a : UInt8} {cs : List Value} (h : byS.rep w lo B a cs) : cs = [.int .u8 (a.toNat : Int)] := h
theorem by_get {w : World} {lo B : Nat} {l : List UInt8} {A : Option Addr} {n cap : Nat} (h : Sl false byS w lo B l (.slice A n cap)) {i : Nat} (hi : i < l.length) :
    ∃ (b o : Nat), A = some ⟨b, o, none⟩ ∧ lo ≤ b ∧ b < B ∧ w.cell? ⟨b, o + i, none⟩ = some (.int .u8 (l[i].toNat : Int)) := by
  obtain ⟨b, o, cs, rfl, hlb, hb, _, hr, hc⟩ := h.at_ hi
  obtain rfl := by_rep hr
  have := hc 0 _ rfl
  simp only [byS, Nat.mul_one, Nat.add_zero] at this
  exact ⟨b, o, rfl, hlb, hb, this⟩
end Go.Proofs.Ytafembiemaflfaa
