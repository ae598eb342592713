/-
  Closed facts of the program as a whole, each proved once: what its head says; and how a row's closed facts are put together. No condition.
-/
import Derived.Test.YtgcjccoglcgcoaaBase
import Derived.Test.YtgcjccoglcgcoaaBaseL
import Derived.JoinedOf
namespace Go.Proofs.Ytgcjccoglcgcoaa
open Go
theorem mayEnter_of {P : Program} {l : List Char} {rest : List (List Char)} (h : P.initOrder.toList = l) (h2 : behindMainWord (wordsSigns l) = "cut".toList :: rest) (hs : stripLifts liftWords ("cut".toList :: rest) = ([], "cut".toList :: rest)) (h3 : P.laysLater = false) (h4 : P.bearsReflect = false) (h5 : P.doorRows = []) : P.mayEnter = true := by
  unfold Program.mayEnter Program.doorFits
  rw [h, h2]
  simp only [hs, h3, h4, h5]
  simp
theorem noLifts_of {P : Program} {l : List Char} {c : List Char} {rest : List (List Char)} (h : P.initOrder.toList = l) (h2 : behindMainWord (wordsSigns l) = c :: rest) (hs : stripLifts liftWords (c :: rest) = ([], c :: rest)) : P.headLifts = [] := by
  unfold Program.headLifts
  rw [h, h2, hs]
  simp
theorem liftsFinal_of {P : Program} {l : List Char} {rest : List (List Char)} (h : P.initOrder.toList = l) (h2 : behindMainWord (wordsSigns l) = "cut".toList :: rest) (hl : P.headLifts = []) : P.liftsFinal = false := by
  unfold Program.liftsFinal
  rw [h, h2, hl]
  simp
theorem make_of {P : Program} {l : List Char} {rest : List (List Char)} (h : P.initOrder.toList = l) (h2 : behindMainWord (wordsSigns l) = "cut".toList :: rest) : P.make = some .cut := by
  unfold Program.make
  rw [h, h2]
  simp
/-- the signs of the program's head -/
def headChars : List Char := List.map Char.ofNat [104, 97, 114, 110, 101, 115, 115, 32, 53, 52, 51, 51, 97, 56, 49, 48, 101, 101, 50, 52, 102, 53, 53, 98, 56, 50, 101, 99, 101, 99, 57, 48, 52, 54, 54, 55, 98, 55, 49, 98, 49, 48, 57, 54, 48, 97, 57, 52, 100, 49, 99, 48, 55, 52, 52, 57, 54, 52, 102, 101, 100, 49, 100, 50, 49, 101, 57, 50, 99, 49, 49, 98, 32, 99, 117, 116, 32, 97, 116, 32, 108, 111, 111, 112, 46, 101, 120, 97, 109, 112, 108, 101, 47, 119, 104, 111, 108, 101, 119, 97, 121, 47, 108, 97, 119, 115, 46, 70, 110, 69, 120, 97, 99, 116, 84, 105, 103, 104, 116, 85, 110, 105, 116, 32, 108, 111, 111, 112, 46, 101, 120, 97, 109, 112, 108, 101, 47, 119, 104, 111, 108, 101, 119, 97, 121, 47, 108, 97, 119, 115, 46, 70, 110, 84, 105, 103, 104, 116, 82, 101, 103, 115]
set_option maxRecDepth 100000 in
theorem orderSigns : Try.prog.initOrder.toList = headChars := by
  have h : Try.prog.initOrder = String.ofList headChars := by kernel_rfl
  rw [h]
  exact String.toList_ofList
/-- its words, behind its main word -/
def headWords : List (List Char) := behindMainWord (wordsSigns headChars)
theorem headWords_eq : behindMainWord (wordsSigns headChars) = "cut".toList :: headWords.tail := by kernel_rfl
theorem headWords_strip : stripLifts liftWords ("cut".toList :: headWords.tail) = ([], "cut".toList :: headWords.tail) := by kernel_rfl
theorem noLater : Try.prog.laysLater = false := by kernel_rfl
theorem noReflect : Try.prog.bearsReflect = false := by kernel_rfl
theorem noDoor : Try.prog.doorRows = [] := by kernel_rfl
theorem mayEnter : Try.prog.mayEnter = true := mayEnter_of orderSigns headWords_eq headWords_strip noLater noReflect noDoor
theorem noLifts : Try.prog.headLifts = [] := noLifts_of orderSigns headWords_eq headWords_strip
theorem liftsFinal : Try.prog.liftsFinal = false := liftsFinal_of orderSigns headWords_eq noLifts
theorem makeCut : Try.prog.make = some .cut := make_of orderSigns headWords_eq
theorem mapsRowedO : mapsRowed Try.prog = true := by kernel_rfl
theorem plainKeysO : Try.prog.plainKeys = true := by kernel_rfl
theorem stopsHeardO : Try.prog.stopsHeard = true := by kernel_rfl
theorem and_mk {a b : Bool} (ha : a = true) (hb : b = true) : (a && b) = true := by rw [ha, hb]; rfl
end Go.Proofs.Ytgcjccoglcgcoaa
