/-
  The listed variables read behind a call as before; a law's row with such variables. Condition: the call wrote nothing that lay there.
-/
import Derived.Test.YtlhnojpkomcpmaaDoorBase
import Derived.Test.YtlhnojpkomcpmaaDoorBaseL
import Derived.WideKeyArgs
namespace Go.Proofs.YtlhnojpkomcpmaaDoor
open Go.RowKit Go.ChangeShapes Go.WideShapes Go.Deep Go.WideElems
theorem trodVars_below {H : Type} {enc : TypeId × Value → H} {P : Program} (hl : laidOutB P = true) {W W' : World} (hb : Below W.heap.size W W') : ∀ {ns : List String} {gs : List (DataW H)} {ps : List MemPlace},
    (∀ n ∈ ns, ∀ g t, P.globalNamed n = some g → (P.globals[g]?).map (·.type) = some t → P.readableRec t = true ∧ t < P.types.size) → DataW.TrodVars enc P W (fun _ => true) ns gs ps → DataW.TrodVars enc P W' (fun b => decide (b < W.heap.size)) ns gs ps
  | [], [], _, _, h => h
  | n :: ns, d :: ds, ps, ht, h => by
    have hlt := DataW.TrodVars.lt h
    obtain ⟨g, t, cs, fuel, p, q, h1, h2, h3, h4, h5, rfl⟩ := h
    obtain ⟨hr, hrow⟩ := ht n (by simp) g t h1 h2
    refine ⟨g, t, cs, fuel, p, q, h1, h2, ?_, DataW.trod_stays (kids_book hl hr) (book_sized hr) (fun h => by cases h) ⟨hrow, book_self t⟩ h4 (fun x hx => hb.same (hlt x (by simp [hx]))) (fun x hx => by simpa using hlt x (by simp [hx])), trodVars_below hl hb (fun n' hn' => ht n' (by simp [hn'])) h5, rfl⟩
    unfold World.var? at h3 ⊢
    rw [h1] at h3 ⊢
    have hg : g < W.heap.size := by
      cases hc : W.heap[g]? with
      | none => simp [hc] at h3
      | some o => exact (Array.getElem?_eq_some_iff.1 hc).1
    rw [Option.bind_some] at h3 ⊢
    rw [hb.block g hg]
    exact h3

theorem two_vars {H : Type} {enc : TypeId × Value → H} {P : Program} {W : World} {sp : Nat → Bool} {n0 n1 : String} : ∀ {gs : List (DataW H)} {ps : List MemPlace}, DataW.TrodVars enc P W sp [n0, n1] gs ps → ∃ g0 g1, gs = [g0, g1]
  | [], _, h => by exact h.elim
  | [_], _, h => by obtain ⟨_, _, _, _, _, _, _, _, _, _, h, _⟩ := h; exact h.elim
  | [a, b], _, _ => ⟨a, b, rfl⟩
  | _ :: _ :: _ :: _, _, h => by obtain ⟨_, _, _, _, _, _, _, _, _, _, ⟨_, _, _, _, _, _, _, _, _, _, h, _⟩, _⟩ := h; exact h.elim
theorem one_vars {H : Type} {enc : TypeId × Value → H} {P : Program} {W : World} {sp : Nat → Bool} {n0 : String} : ∀ {gs : List (DataW H)} {ps : List MemPlace}, DataW.TrodVars enc P W sp [n0] gs ps → ∃ g0, gs = [g0]
  | [], _, h => by exact h.elim
  | [a], _, _ => ⟨a, rfl⟩
  | _ :: _ :: _, _, h => by obtain ⟨_, _, _, _, _, _, _, _, _, _, h, _⟩ := h; exact h.elim
/-- a law's row: it returns true, and what was there is as it was; the listed variables as well -/
theorem post_true_vars {H : Type} {enc : TypeId × Value → H} {P : Program} (hlo : laidOutB P = true) {f : Func} {s : ChangeSpec} {W W' : World} {args : Array Value} {ds gs : List (DataW H)} {before : List MemPlace} {tb : TypeId}
    (hW : DataW.Whole enc P f.params.toList s.vars false W args.toList ds gs before) (hres : f.resultTypes = #[tb]) (htb : P.underlying tb = some .bool)
    (hts : ∀ t ∈ f.params.toList, P.readableRec t = true ∧ t < P.types.size)
    (hvs : ∀ n ∈ s.vars, ∀ g t, P.globalNamed n = some g → (P.globals[g]?).map (·.type) = some t → P.readableRec t = true ∧ t < P.types.size)
    (hr : (s.fn H (ds ++ gs)).results = [.lit (.bool true)]) (ha : (s.fn H (ds ++ gs)).args = ds) (hv : (s.fn H (ds ++ gs)).vars = gs) (hb : Below W.heap.size W W') :
    s.post enc P f false true false false W args (.bool true) W' := by
  have hlt : ∀ p ∈ before, p.block < W.heap.size := fun p hp => hW.lt p hp
  have hW0 := hW
  obtain ⟨p, q, hA, hV, hps, _, _⟩ := hW
  subst hps
  refine ⟨ds, gs, p ++ q, [], p, q, hW0, ?_, ?_, ?_, World.keptBut_mono (fun x hp => ⟨hp, ?_⟩) (hb.frame (· ∈ p ++ q)), fun h => by cases h⟩
  · rw [hr, hres]
    exact trodAll_mk1 (shut_bool htb true)
  · rw [ha]
    exact trodAll_below hlo hb hts hA fun x hx => by simpa using hlt x (by simp [hx])
  · rw [hv]
    exact trodVars_below hlo hb hvs hV
  · rcases List.mem_append.1 hp with h | h
    · exact Or.inr (Or.inl h)
    · exact Or.inr (Or.inr h)
end Go.Proofs.YtlhnojpkomcpmaaDoor
