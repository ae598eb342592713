/-
  Several texts in one: DecB, Dec, BaseL, Facts.
-/
import Derived.Test.YtgcjccoglcgcoaaTypes
import Derived.Test.YtgcjccoglcgcoaaBase
import Derived.JoinedOf
namespace Go.Proofs.Ytgcjccoglcgcoaa
open Go.RowKit Go.ChangeShapes Go.WideShapes Go.Deep
set_option linter.unusedVariables false
/-- a byte -/
def byS : Shp UInt8 where
  size := 1
  rep := fun _ _ _ a cs => cs = [.int .u8 (a.toNat : Int)]
  len := fun h => by rw [h]; rfl
  keep := fun h _ _ _ => h
theorem dec_u8 {w : World} : Dec Try.prog w 5 byS := by
  intro H enc base spare held fuel cs x h
  obtain ⟨n, rfl, _, hw⟩ := DataW.trod_int Try.underlying5 h
  simp [Lit.wf, IntKind.min, IntKind.max, IntKind.signed, IntKind.bits] at hw
  refine ⟨UInt8.ofNat n.toNat, ?_⟩
  show [Value.int .u8 n] = [Value.int .u8 _]
  have e : ((UInt8.ofNat n.toNat).toNat : Int) = n := by
    rw [UInt8.toNat_ofNat']
    omega
  rw [e]
theorem by_rep {w : World} {lo B : Nat} {a : UInt8} {cs : List Value} (h : byS.rep w lo B a cs) : cs = [.int .u8 (a.toNat : Int)] := h
theorem by_get {w : World} {lo B : Nat} {l : List UInt8} {A : Option Addr} {n cap : Nat} (h : Sl false byS w lo B l (.slice A n cap)) {i : Nat} (hi : i < l.length) :
    ∃ (b o : Nat), A = some ⟨b, o, none⟩ ∧ lo ≤ b ∧ b < B ∧ w.cell? ⟨b, o + i, none⟩ = some (.int .u8 (l[i].toNat : Int)) := by
  obtain ⟨b, o, cs, rfl, hlb, hb, _, hr, hc⟩ := h.at_ hi
  obtain rfl := by_rep hr
  have := hc 0 _ rfl
  simp only [byS, Nat.mul_one, Nat.add_zero] at this
  exact ⟨b, o, rfl, hlb, hb, this⟩
end Go.Proofs.Ytgcjccoglcgcoaa

namespace Go.Proofs.Ytgcjccoglcgcoaa
open Go.RowKit Go.ChangeShapes Go.WideShapes Go.Deep

end Go.Proofs.Ytgcjccoglcgcoaa


namespace Go.Proofs.Ytgcjccoglcgcoaa
open Go.RowKit Go.ChangeShapes Go.WideShapes Go.Deep
theorem own : ownKnob Try.prog.godebug = none := by kernel_rfl
theorem laidO : laidOutB Try.prog = true := by kernel_rfl

/-- the arguments read behind the call as they read before -/
theorem trodAll_below {H : Type} {enc : TypeId × Value → H} {P : Program} (hl : laidOutB P = true) {W W' : World} (hb : Below W.heap.size W W') {sp : Nat → Bool} : ∀ {ts : List TypeId} {vs : List Value} {ds : List (DataW H)} {ps : List MemPlace},
    (∀ t ∈ ts, P.readableRec t = true ∧ t < P.types.size) → DataW.TrodAll enc P W 0 (fun _ => true) true ts vs ds ps → (∀ p ∈ ps, sp p.block = true) → DataW.TrodAll enc P W' 0 sp true ts vs ds ps
  | [], [], [], _, _, h, _ => h
  | t :: ts, v :: vs, d :: ds, ps, ht, ⟨p, q, h1, h2, he⟩, hsp => by
    subst he
    have hlt := DataW.TrodAll.lt (ts := [t]) (vs := [v]) (ds := [d]) (ps := p) ⟨p, [], h1, rfl, by simp⟩
    refine ⟨p, q, WideElems.Trod_stays hl (ht t (by simp)).1 (ht t (by simp)).2 h1 (fun x hx => hb.same (hlt x hx)) (fun x hx => hsp x (by simp [hx])), trodAll_below hl hb (fun t' ht' => ht t' (by simp [ht'])) h2 (fun x hx => hsp x (by simp [hx])), rfl⟩

/-- a law's row: it returns true, and what was there is as it was -/
theorem post_true {H : Type} {enc : TypeId × Value → H} {P : Program} (hlo : laidOutB P = true) {f : Func} {s : ChangeSpec} {W W' : World} {args : Array Value} {ds gs : List (DataW H)} {before : List MemPlace} {tb : TypeId}
    (hW : DataW.Whole enc P f.params.toList s.vars false W args.toList ds gs before) (hvars : s.vars = []) (hres : f.resultTypes = #[tb]) (htb : P.underlying tb = some .bool)
    (hts : ∀ t ∈ f.params.toList, P.readableRec t = true ∧ t < P.types.size)
    (hr : (s.fn H (ds ++ gs)).results = [.lit (.bool true)]) (ha : (s.fn H (ds ++ gs)).args = ds) (hv : (s.fn H (ds ++ gs)).vars = []) (hb : Below W.heap.size W W') :
    s.post enc P f false true false false W args (.bool true) W' := by
  have hlt : ∀ p ∈ before, p.block < W.heap.size := fun p hp => hW.lt p hp
  have hW0 := hW
  obtain ⟨p, q, hA, hV, hps, _, _⟩ := hW
  rw [hvars] at hV
  have hg : gs = [] ∧ q = [] := by
    obtain ⟨h1, h2⟩ := trodVars_none hV
    exact ⟨h1, h2⟩
  obtain ⟨rfl, rfl⟩ := hg
  rw [List.append_nil] at hps
  subst hps
  refine ⟨ds, [], before, [], before, [], hW0, ?_, ?_, ?_, World.keptBut_mono (fun p hp => ⟨hp, ?_⟩) (hb.frame (· ∈ before)), fun h => by cases h⟩
  · rw [hr, hres]
    exact trodAll_mk1 (shut_bool htb true)
  · rw [ha]
    exact trodAll_below hlo hb hts hA fun x hx => by simpa using hlt x hx
  · rw [hvars, hv]
    rfl
  · simpa using hp
end Go.Proofs.Ytgcjccoglcgcoaa

namespace Go.Proofs.Ytgcjccoglcgcoaa
open Go
theorem mayEnter_of {P : Program} {l : List Char} {rest : List (List Char)} (h : P.initOrder.toList = l) (h2 : behindMainWord (wordsSigns l) = "cut".toList :: rest) (hs : stripLifts liftWords ("cut".toList :: rest) = ([], "cut".toList :: rest)) (h3 : P.laysLater = false) (h4 : P.bearsReflect = false) (h5 : P.doorRows = []) : P.mayEnter = true := by
  unfold Program.mayEnter Program.doorFits
  rw [h, h2]
  simp only [hs, h3, h4, h5]
  simp
theorem noLifts_of {P : Program} {l : List Char} {c : List Char} {rest : List (List Char)} (h : P.initOrder.toList = l) (h2 : behindMainWord (wordsSigns l) = c :: rest) (hs : stripLifts liftWords (c :: rest) = ([], c :: rest)) : P.headLifts = [] := by
  unfold Program.headLifts
  rw [h, h2, hs]
  simp
theorem liftsFinal_of {P : Program} {l : List Char} {rest : List (List Char)} (h : P.initOrder.toList = l) (h2 : behindMainWord (wordsSigns l) = "cut".toList :: rest) (hl : P.headLifts = []) : P.liftsFinal = false := by
  unfold Program.liftsFinal
  rw [h, h2, hl]
  simp
theorem make_of {P : Program} {l : List Char} {rest : List (List Char)} (h : P.initOrder.toList = l) (h2 : behindMainWord (wordsSigns l) = "cut".toList :: rest) : P.make = some .cut := by
  unfold Program.make
  rw [h, h2]
  simp
/-- the signs of the program's head -/
def headChars : List Char := List.map Char.ofNat [104, 97, 114, 110, 101, 115, 115, 32, 53, 52, 51, 51, 97, 56, 49, 48, 101, 101, 50, 52, 102, 53, 53, 98, 56, 50, 101, 99, 101, 99, 57, 48, 52, 54, 54, 55, 98, 55, 49, 98, 49, 48, 57, 54, 48, 97, 57, 52, 100, 49, 99, 48, 55, 52, 52, 57, 54, 52, 102, 101, 100, 49, 100, 50, 49, 101, 57, 50, 99, 49, 49, 98, 32, 99, 117, 116, 32, 97, 116, 32, 108, 111, 111, 112, 46, 101, 120, 97, 109, 112, 108, 101, 47, 119, 104, 111, 108, 101, 119, 97, 121, 47, 108, 97, 119, 115, 46, 70, 110, 69, 120, 97, 99, 116, 84, 105, 103, 104, 116, 85, 110, 105, 116, 32, 108, 111, 111, 112, 46, 101, 120, 97, 109, 112, 108, 101, 47, 119, 104, 111, 108, 101, 119, 97, 121, 47, 108, 97, 119, 115, 46, 70, 110, 84, 105, 103, 104, 116, 82, 101, 103, 115]
set_option maxRecDepth 100000 in
theorem orderSigns : Try.prog.initOrder.toList = headChars := by
  have h : Try.prog.initOrder = String.ofList headChars := by kernel_rfl
  rw [h]
  exact String.toList_ofList
/-- its words, behind its main word -/
def headWords : List (List Char) := behindMainWord (wordsSigns headChars)
theorem headWords_eq : behindMainWord (wordsSigns headChars) = "cut".toList :: headWords.tail := by kernel_rfl
theorem headWords_strip : stripLifts liftWords ("cut".toList :: headWords.tail) = ([], "cut".toList :: headWords.tail) := by kernel_rfl
theorem noLater : Try.prog.laysLater = false := by kernel_rfl
theorem noReflect : Try.prog.bearsReflect = false := by kernel_rfl
theorem noDoor : Try.prog.doorRows = [] := by kernel_rfl
theorem mayEnter : Try.prog.mayEnter = true := mayEnter_of orderSigns headWords_eq headWords_strip noLater noReflect noDoor
theorem noLifts : Try.prog.headLifts = [] := noLifts_of orderSigns headWords_eq headWords_strip
theorem liftsFinal : Try.prog.liftsFinal = false := liftsFinal_of orderSigns headWords_eq noLifts
theorem makeCut : Try.prog.make = some .cut := make_of orderSigns headWords_eq
theorem mapsRowedO : mapsRowed Try.prog = true := by kernel_rfl
theorem plainKeysO : Try.prog.plainKeys = true := by kernel_rfl
theorem stopsHeardO : Try.prog.stopsHeard = true := by kernel_rfl
theorem and_mk {a b : Bool} (ha : a = true) (hb : b = true) : (a && b) = true := by rw [ha, hb]; rfl
end Go.Proofs.Ytgcjccoglcgcoaa
