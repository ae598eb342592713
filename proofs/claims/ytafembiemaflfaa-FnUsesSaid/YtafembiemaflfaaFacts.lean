/-
  Closed facts of the program as a whole, each proved once: what its head says; and how a row's closed facts are put together. No condition.
-/
import Derived.Test.YtafembiemaflfaaBase
import Derived.Test.YtafembiemaflfaaBaseL
import Derived.JoinedOf
namespace Go.Proofs.Ytafembiemaflfaa
open Go
theorem mayEnter_of {P : Program} {l : List Char} {rest : List (List Char)} (h : P.initOrder.toList = l) (h2 : behindMainWord (wordsSigns l) = "cut".toList :: rest) (hs : stripLifts liftWords ("cut".toList :: rest) = ([], "cut".toList :: rest)) (h3 : P.laysLater = false) (h4 : P.bearsReflect = false) (h5 : P.doorRows = []) : P.mayEnter = true := by
  unfold Program.mayEnter Program.doorFits
  rw [h, h2]
  simp only [hs, h3, h4, h5]
  simp
theorem noLifts_of {P : Program} {l : List Char} {c : List Char} {rest : List (List Char)} (h : P.initOrder.toList = l) (h2 : behindMainWord (wordsSigns l) = c :: rest) (hs : stripLifts liftWords (c :: rest) = ([], c :: rest)) : P.headLifts = [] := by
  unfold Program.headLifts
  rw [h, h2, hs]
  simp
theorem liftsFinal_of {P : Program} {l : List Char} {rest : List (List Char)} (h : P.initOrder.toList = l) (h2 : behindMainWord (wordsSigns l) = "cut".toList :: rest) (hl : P.headLifts = []) : P.liftsFinal = false := by
  unfold Program.liftsFinal
  rw [h, h2, hl]
  simp
theorem make_of {P : Program} {l : List Char} {rest : List (List Char)} (h : P.initOrder.toList = l) (h2 : behindMainWord (wordsSigns l) = "cut".toList :: rest) : P.make = some .cut := by
  unfold Program.make
  rw [h, h2]
  simp
/-- the signs of the program's head -/
def headChars : List Char := List.map Char.ofNat [104, 97, 114, 110, 101, 115, 115, 32, 100, 55, 55, 57, 101, 57, 56, 97, 56, 48, 97, 100, 52, 57, 49, 98, 53, 54, 98, 51, 55, 98, 99, 100, 57, 52, 48, 48, 55, 101, 52, 56, 97, 50, 56, 49, 57, 49, 97, 101, 101, 99, 50, 48, 51, 101, 51, 102, 97, 102, 53, 101, 50, 56, 49, 53, 100, 50, 57, 48, 53, 55, 98, 54, 32, 99, 117, 116, 32, 97, 116, 32, 108, 111, 111, 112, 46, 101, 120, 97, 109, 112, 108, 101, 47, 119, 104, 111, 108, 101, 119, 97, 121, 47, 108, 97, 119, 115, 46, 70, 110, 80, 114, 101, 100, 115, 32, 108, 111, 111, 112, 46, 101, 120, 97, 109, 112, 108, 101, 47, 119, 104, 111, 108, 101, 119, 97, 121, 47, 108, 97, 119, 115, 46, 70, 110, 73, 110, 115, 67, 111, 117, 110, 116, 32, 108, 111, 111, 112, 46, 101, 120, 97, 109, 112, 108, 101, 47, 119, 104, 111, 108, 101, 119, 97, 121, 47, 108, 97, 119, 115, 46, 70, 110, 85, 110, 105, 116, 70, 111, 114, 109, 32, 108, 111, 111, 112, 46, 101, 120, 97, 109, 112, 108, 101, 47, 119, 104, 111, 108, 101, 119, 97, 121, 47, 108, 97, 119, 115, 46, 70, 110, 85, 115, 101, 115]
set_option maxRecDepth 100000 in
theorem orderSigns : Try.prog.initOrder.toList = headChars := by
  have h : Try.prog.initOrder = String.ofList headChars := by kernel_rfl
  rw [h]
  exact String.toList_ofList
/-- its words, behind its main word -/
def headWords : List (List Char) := behindMainWord (wordsSigns headChars)
theorem headWords_eq : behindMainWord (wordsSigns headChars) = "cut".toList :: headWords.tail := by kernel_rfl
theorem headWords_strip : stripLifts liftWords ("cut".toList :: headWords.tail) = ([], "cut".toList :: headWords.tail) := by kernel_rfl
theorem noLater : Try.prog.laysLater = false := by kernel_rfl
theorem noReflect : Try.prog.bearsReflect = false := by kernel_rfl
theorem noDoor : Try.prog.doorRows = [] := by kernel_rfl
theorem mayEnter : Try.prog.mayEnter = true := mayEnter_of orderSigns headWords_eq headWords_strip noLater noReflect noDoor
theorem noLifts : Try.prog.headLifts = [] := noLifts_of orderSigns headWords_eq headWords_strip
theorem liftsFinal : Try.prog.liftsFinal = false := liftsFinal_of orderSigns headWords_eq noLifts
theorem makeCut : Try.prog.make = some .cut := make_of orderSigns headWords_eq
theorem mapsRowedO : mapsRowed Try.prog = true := by kernel_rfl
theorem plainKeysO : Try.prog.plainKeys = true := by kernel_rfl
theorem stopsHeardO : Try.prog.stopsHeard = true := by kernel_rfl
theorem and_mk {a b : Bool} (ha : a = true) (hb : b = true) : (a && b) = true := by rw [ha, hb]; rfl
end Go.Proofs.Ytafembiemaflfaa
