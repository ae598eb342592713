/-
  Shapes of the program's data: what each struct reads as. No condition.
-/
import Derived.Test.YtgcjccoglcgcoaaBase
namespace Go.Proofs.Ytgcjccoglcgcoaa
open Go.RowKit Go.ChangeShapes Go.WideShapes Go.Deep

def sumBy {α : Type} (f : α → Nat) (l : List α) : Nat := (l.map f).sum

/-- Phi -/
structure PhiD where
  to : Int
  args : List Int

def phiS (m : Bool) : Shp PhiD where
  size := 2
  rep := fun w lo B a cs => ∃ c0 c1 : Value, cs = [c0, c1] ∧ (intS m).rep w lo B a.to [c0] ∧ (slS m (intS m)).rep w lo B a.args [c1]
  len := fun ⟨_, _, h, _⟩ => by rw [h]; rfl
  keep := fun ⟨c0, c1, h, h0, h1⟩ hlo hB hk => ⟨c0, c1, h, (intS m).keep h0 hlo hB hk, (slS m (intS m)).keep h1 hlo hB hk⟩
def phiN (a : PhiD) : Nat := a.args.length
theorem phi_mk (m : Bool) {w : World} {lo B : Nat} (to : Int) (args : List Int) (v1 : Value) (h0 : I64 to) (h1 : Sl m (intS m) w lo B args v1) : (phiS m).rep w lo B ⟨to, args⟩ [.int .i64 to, v1] := ⟨_, _, rfl, int_mk m w lo B h0, ⟨_, rfl, h1⟩⟩
theorem phi_open {w : World} {lo B : Nat} {a : PhiD} {cs : List Value} (h : (phiS false).rep w lo B a cs) : ∃ v1 : Value, cs = [.int .i64 a.to, v1] ∧ I64 a.to ∧ Sl false (intS false) w lo B a.args v1 := by
  obtain ⟨c0, c1, rfl, h0, h1⟩ := h
  obtain ⟨e0, g0⟩ := int_rep h0
  injection e0 with e0
  subst e0
  obtain ⟨u1, e1, g1⟩ := h1
  injection e1 with e1
  subst e1
  exact ⟨_, rfl, g0, g1⟩
/-- Ins -/
structure InsD where
  op : Int
  to : Int
  args : List Int
  n : Int

def insS (m : Bool) : Shp InsD where
  size := 4
  rep := fun w lo B a cs => ∃ c0 c1 c2 c3 : Value, cs = [c0, c1, c2, c3] ∧ (intS m).rep w lo B a.op [c0] ∧ (intS m).rep w lo B a.to [c1] ∧ (slS m (intS m)).rep w lo B a.args [c2] ∧ (intS m).rep w lo B a.n [c3]
  len := fun ⟨_, _, _, _, h, _⟩ => by rw [h]; rfl
  keep := fun ⟨c0, c1, c2, c3, h, h0, h1, h2, h3⟩ hlo hB hk => ⟨c0, c1, c2, c3, h, (intS m).keep h0 hlo hB hk, (intS m).keep h1 hlo hB hk, (slS m (intS m)).keep h2 hlo hB hk, (intS m).keep h3 hlo hB hk⟩
def insN (a : InsD) : Nat := a.args.length
theorem ins_mk (m : Bool) {w : World} {lo B : Nat} (op : Int) (to : Int) (args : List Int) (v2 : Value) (n : Int) (h0 : I64 op) (h1 : I64 to) (h2 : Sl m (intS m) w lo B args v2) (h3 : I64 n) : (insS m).rep w lo B ⟨op, to, args, n⟩ [.int .i64 op, .int .i64 to, v2, .int .i64 n] := ⟨_, _, _, _, rfl, int_mk m w lo B h0, int_mk m w lo B h1, ⟨_, rfl, h2⟩, int_mk m w lo B h3⟩
theorem ins_open {w : World} {lo B : Nat} {a : InsD} {cs : List Value} (h : (insS false).rep w lo B a cs) : ∃ v2 : Value, cs = [.int .i64 a.op, .int .i64 a.to, v2, .int .i64 a.n] ∧ I64 a.op ∧ I64 a.to ∧ Sl false (intS false) w lo B a.args v2 ∧ I64 a.n := by
  obtain ⟨c0, c1, c2, c3, rfl, h0, h1, h2, h3⟩ := h
  obtain ⟨e0, g0⟩ := int_rep h0
  injection e0 with e0
  subst e0
  obtain ⟨e1, g1⟩ := int_rep h1
  injection e1 with e1
  subst e1
  obtain ⟨u2, e2, g2⟩ := h2
  injection e2 with e2
  subst e2
  obtain ⟨e3, g3⟩ := int_rep h3
  injection e3 with e3
  subst e3
  exact ⟨_, rfl, g0, g1, g2, g3⟩
/-- Block -/
structure BlkD where
  phis : List PhiD
  ins : List InsD
  jump : Int
  on : Int
  next : List Int

def blkS (m : Bool) : Shp BlkD where
  size := 5
  rep := fun w lo B a cs => ∃ c0 c1 c2 c3 c4 : Value, cs = [c0, c1, c2, c3, c4] ∧ (slS m (phiS m)).rep w lo B a.phis [c0] ∧ (slS m (insS m)).rep w lo B a.ins [c1] ∧ (intS m).rep w lo B a.jump [c2] ∧ (intS m).rep w lo B a.on [c3] ∧ (slS m (intS m)).rep w lo B a.next [c4]
  len := fun ⟨_, _, _, _, _, h, _⟩ => by rw [h]; rfl
  keep := fun ⟨c0, c1, c2, c3, c4, h, h0, h1, h2, h3, h4⟩ hlo hB hk => ⟨c0, c1, c2, c3, c4, h, (slS m (phiS m)).keep h0 hlo hB hk, (slS m (insS m)).keep h1 hlo hB hk, (intS m).keep h2 hlo hB hk, (intS m).keep h3 hlo hB hk, (slS m (intS m)).keep h4 hlo hB hk⟩
def blkN (a : BlkD) : Nat := (a.phis.length + sumBy phiN a.phis) + (a.ins.length + sumBy insN a.ins) + a.next.length
theorem blk_mk (m : Bool) {w : World} {lo B : Nat} (phis : List PhiD) (v0 : Value) (ins : List InsD) (v1 : Value) (jump : Int) (on : Int) (next : List Int) (v4 : Value) (h0 : Sl m (phiS m) w lo B phis v0) (h1 : Sl m (insS m) w lo B ins v1) (h2 : I64 jump) (h3 : I64 on) (h4 : Sl m (intS m) w lo B next v4) : (blkS m).rep w lo B ⟨phis, ins, jump, on, next⟩ [v0, v1, .int .i64 jump, .int .i64 on, v4] := ⟨_, _, _, _, _, rfl, ⟨_, rfl, h0⟩, ⟨_, rfl, h1⟩, int_mk m w lo B h2, int_mk m w lo B h3, ⟨_, rfl, h4⟩⟩
theorem blk_open {w : World} {lo B : Nat} {a : BlkD} {cs : List Value} (h : (blkS false).rep w lo B a cs) : ∃ v0 v1 v4 : Value, cs = [v0, v1, .int .i64 a.jump, .int .i64 a.on, v4] ∧ Sl false (phiS false) w lo B a.phis v0 ∧ Sl false (insS false) w lo B a.ins v1 ∧ I64 a.jump ∧ I64 a.on ∧ Sl false (intS false) w lo B a.next v4 := by
  obtain ⟨c0, c1, c2, c3, c4, rfl, h0, h1, h2, h3, h4⟩ := h
  obtain ⟨u0, e0, g0⟩ := h0
  injection e0 with e0
  subst e0
  obtain ⟨u1, e1, g1⟩ := h1
  injection e1 with e1
  subst e1
  obtain ⟨e2, g2⟩ := int_rep h2
  injection e2 with e2
  subst e2
  obtain ⟨e3, g3⟩ := int_rep h3
  injection e3 with e3
  subst e3
  obtain ⟨u4, e4, g4⟩ := h4
  injection e4 with e4
  subst e4
  exact ⟨_, _, _, rfl, g0, g1, g2, g3, g4⟩
/-- Code -/
structure CodeD where
  params : Int
  regs : Int
  blocks : List BlkD

def codeS (m : Bool) : Shp CodeD where
  size := 3
  rep := fun w lo B a cs => ∃ c0 c1 c2 : Value, cs = [c0, c1, c2] ∧ (intS m).rep w lo B a.params [c0] ∧ (intS m).rep w lo B a.regs [c1] ∧ (slS m (blkS m)).rep w lo B a.blocks [c2]
  len := fun ⟨_, _, _, h, _⟩ => by rw [h]; rfl
  keep := fun ⟨c0, c1, c2, h, h0, h1, h2⟩ hlo hB hk => ⟨c0, c1, c2, h, (intS m).keep h0 hlo hB hk, (intS m).keep h1 hlo hB hk, (slS m (blkS m)).keep h2 hlo hB hk⟩
def codeN (a : CodeD) : Nat := (a.blocks.length + sumBy blkN a.blocks)
theorem code_mk (m : Bool) {w : World} {lo B : Nat} (params : Int) (regs : Int) (blocks : List BlkD) (v2 : Value) (h0 : I64 params) (h1 : I64 regs) (h2 : Sl m (blkS m) w lo B blocks v2) : (codeS m).rep w lo B ⟨params, regs, blocks⟩ [.int .i64 params, .int .i64 regs, v2] := ⟨_, _, _, rfl, int_mk m w lo B h0, int_mk m w lo B h1, ⟨_, rfl, h2⟩⟩
theorem code_open {w : World} {lo B : Nat} {a : CodeD} {cs : List Value} (h : (codeS false).rep w lo B a cs) : ∃ v2 : Value, cs = [.int .i64 a.params, .int .i64 a.regs, v2] ∧ I64 a.params ∧ I64 a.regs ∧ Sl false (blkS false) w lo B a.blocks v2 := by
  obtain ⟨c0, c1, c2, rfl, h0, h1, h2⟩ := h
  obtain ⟨e0, g0⟩ := int_rep h0
  injection e0 with e0
  subst e0
  obtain ⟨e1, g1⟩ := int_rep h1
  injection e1 with e1
  subst e1
  obtain ⟨u2, e2, g2⟩ := h2
  injection e2 with e2
  subst e2
  exact ⟨_, rfl, g0, g1, g2⟩
/-- Unit -/
structure UnitD where
  codes : List CodeD

def unitS (m : Bool) : Shp UnitD where
  size := 1
  rep := fun w lo B a cs => ∃ c0 : Value, cs = [c0] ∧ (slS m (codeS m)).rep w lo B a.codes [c0]
  len := fun ⟨_, h, _⟩ => by rw [h]; rfl
  keep := fun ⟨c0, h, h0⟩ hlo hB hk => ⟨c0, h, (slS m (codeS m)).keep h0 hlo hB hk⟩
theorem unit_mk (m : Bool) {w : World} {lo B : Nat} (codes : List CodeD) (v0 : Value) (h0 : Sl m (codeS m) w lo B codes v0) : (unitS m).rep w lo B ⟨codes⟩ [v0] := ⟨_, rfl, ⟨_, rfl, h0⟩⟩
theorem unit_open {w : World} {lo B : Nat} {a : UnitD} {cs : List Value} (h : (unitS false).rep w lo B a cs) : ∃ v0 : Value, cs = [v0] ∧ Sl false (codeS false) w lo B a.codes v0 := by
  obtain ⟨c0, rfl, h0⟩ := h
  obtain ⟨u0, e0, g0⟩ := h0
  injection e0 with e0
  subst e0
  exact ⟨_, rfl, g0⟩
/-- an expression -/
inductive Ex where
  | mk (op n : Int) (name : ByteArray) (kids : List Ex)
def Ex.op : Ex → Int | .mk x _ _ _ => x
def Ex.n : Ex → Int | .mk _ x _ _ => x
def Ex.name : Ex → ByteArray | .mk _ _ x _ => x
def Ex.kids : Ex → List Ex | .mk _ _ _ x => x
/-- a statement -/
inductive St where
  | mk (op : Int) (name : ByteArray) (args : List Ex) (body els : List St)
def St.op : St → Int | .mk x _ _ _ _ => x
def St.name : St → ByteArray | .mk _ x _ _ _ => x
def St.args : St → List Ex | .mk _ _ x _ _ => x
def St.body : St → List St | .mk _ _ _ x _ => x
def St.els : St → List St | .mk _ _ _ _ x => x
end Go.Proofs.Ytgcjccoglcgcoaa

