/-
  From the walks to the rows: arguments of integers; what the listed variables give; the row's builder, with the world's shape and the listed variables.
-/
import Derived.Test.YtgdlehoglpiifaaGreatDoorJLawD
import Derived.Test.YtgdlehoglpiifaaGreatDoorRows
import Derived.ProofKit
import Derived.OpenShut
import Derived.LaidMore
import Derived.HandedShaped
import Derived.Lay
import Derived.Lib.LaidU8
import Derived.Shelf.Vars
import Derived.Stop.Joined
namespace Go
variable {H : Type} {enc : TypeId × Value → H}
/-- The wrap of a row that lists variables, the world's shape kept. -/
theorem returnsInHanded_of_change_both {a : Assume} {C : Checked} {os : Os} {f : FuncId} {fn : Func} {s : ChangeSpec} {conds : List PathCond} {apart fresh handsOn again : Bool} {X : World → Array Value → Prop}
    (hX : ∀ (w w' : World) (args : Array Value), w.heap = w'.heap → X w args → X w' args)
    (own : ownKnob C.prog.godebug = none) (started : os.Started) (noInit : C.prog.inits.idxOf? f = none) (hfn : C.prog.funcs[f]? = some fn)
    (witness : ∃ (w : World) (tape : Tape) (i : Input), w.os = os ∧ (w.forCall tape i).Shaped C.prog ∧ i.vars = [] ∧ Input.okWide C.prog (w.forCall tape i) .any w.heap.size f i ∧
      ((s.pre enc C.prog fn conds apart (w.forCall tape i).memory i.args ∧ X (w.forCall tape i).memory i.args) ∧ sizedMet enc C.prog fn (OpenSpec.ofChange s) apart (w.forCall tape i).memory i.args) ∧ a.holds C.prog (lone (Frame.enter C.prog f i.args .normal) [] (w.forCall tape i)))
    (contract : ∀ (W : World) (base : Nat) (args : Array Value) (ds gs : List (DataW H)) (before : List MemPlace),
      (∀ (j : Nat) t v, fn.params[j]? = some t → args[j]? = some v → Value.okWide C.prog W .any base t v) →
      DataW.Whole enc C.prog fn.params.toList s.vars apart W args.toList ds gs before →
      W.ShapedOpen C.prog → X W args →
      Calls C.prog f args W fun e W' => ∃ v, e = .returned v ∧ s.post enc C.prog fn apart fresh handsOn again W args v W') :
    ReturnsInHanded a C os f .any (fun w args => (s.pre enc C.prog fn conds apart w args ∧ X w args) ∧ sizedMet enc C.prog fn (OpenSpec.ofChange s) apart w args) (s.post enc C.prog fn apart fresh handsOn again) := by
  refine returnsInHanded_of_calls own started noInit witness ?_
  intro w tape i _ hsh _ hok hpre hholds
  obtain ⟨_, _, _, fn', hfn', _, _, _, _, hval⟩ := hok
  have e : fn' = fn := Option.some.inj (hfn'.symm.trans hfn)
  subst e
  obtain ⟨⟨⟨ds, gs, before, hw, hc⟩, hx⟩, hz⟩ := hpre
  have hw' := DataW.Whole.of_heap (w' := w.forCall tape i) (by rfl) hw
  refine (contract (w.forCall tape i) w.heap.size i.args ds gs before hval hw' hsh (hX _ _ _ (by rfl) hx)).mono fun e W' ⟨v, he, hp⟩ => ?_
  subst he
  exact ChangeSpec.post_blind hp
end Go
namespace Go.Proofs.YtgdlehoglpiifaaGreatDoor
open Go.ChangeShapes Go.WideShapes Go.ChangeAt Go.RowKit

variable {H : Type} {enc : TypeId × Value → H} {P : Program} {w : World} {base : Nat} {sp : Nat → Bool} {held : Bool}
/-- A struct of integers. -/
theorem struct_ints {fuel : Nat} {t : TypeId} {fs : Array Field} {k : IntKind} {cs : List Value} {x : DataW H × List MemPlace} (ht : P.underlying t = some (.struct fs))
    (hf : ∀ (i : Nat) (f : Field), fs[i]? = some f → P.underlying f.type = some (.int k) ∧ f.offset = i ∧ P.cellsOf f.type = 1) (hct : P.cellsOf t = fs.size)
    (h : DataW.trod enc P w base sp held fuel t cs = some x) : cs.length = fs.size ∧ ∀ i, i < fs.size → ∃ z, cs[i]? = some (.int k z) := by
  obtain ⟨xs, n, rfl, hx, hl, hxl, hall⟩ := DataW.trod_struct ht h
  refine ⟨by omega, fun i hi => ?_⟩
  obtain ⟨hu, ho, hc⟩ := hf i fs[i] (by simp [hi])
  have h1 := hall i fs[i] (by simp [hi])
  obtain ⟨b, hb⟩ : ∃ b, xs[i]? = some b := ⟨xs[i]'(by omega), List.getElem?_eq_getElem (by omega)⟩
  rw [hb, ho, hc] at h1
  obtain ⟨z, hcz, _, _⟩ := DataW.trod_int hu h1
  refine ⟨z, ?_⟩
  have := congrArg (·[0]?) hcz
  simpa [List.getElem?_take, List.getElem?_drop] using this
/-- An array of integers. -/
theorem array_ints {fuel : Nat} {t e : TypeId} {n : Nat} {k : IntKind} {cs : List Value} {x : DataW H × List MemPlace} (ht : P.underlying t = some (.array n e)) (he : P.underlying e = some (.int k)) (hce : P.cellsOf e = 1) (hct : P.cellsOf t = n)
    (h : DataW.trod enc P w base sp held fuel t cs = some x) : cs.length = n ∧ ∀ i, i < n → ∃ z, cs[i]? = some (.int k z) := by
  obtain ⟨xs, m, rfl, hx, hl, hxl, hall⟩ := DataW.trod_array ht h
  refine ⟨by omega, fun i hi => ?_⟩
  have h1 := hall i hi
  obtain ⟨b, hb⟩ : ∃ b, xs[i]? = some b := ⟨xs[i]'(by omega), List.getElem?_eq_getElem (by omega)⟩
  rw [hb, hce, Nat.mul_one] at h1
  obtain ⟨z, hcz, _, _⟩ := DataW.trod_int he h1
  refine ⟨z, ?_⟩
  have := congrArg (·[0]?) hcz
  simpa [List.getElem?_take, List.getElem?_drop] using this
theorem okWide_array {r : Reach} {b0 n : Nat} {t e : TypeId} {v : Value} (ht : P.underlying t = some (.array n e)) (h : Value.okWide P w r b0 t v) : ∃ cs, v = .agg cs ∧ cs.size = P.cellsOf t := by
  simp only [Value.okWide, ht] at h
  obtain ⟨cs, h1, h2, _⟩ := h
  exact ⟨cs, h1, h2⟩
theorem list6 {cs : List Value} (h : cs.length = 6 ∧ ∀ i, i < 6 → ∃ z, cs[i]? = some (.int .i64 z)) : ∃ a b c d e f : Int, cs = [.int .i64 a, .int .i64 b, .int .i64 c, .int .i64 d, .int .i64 e, .int .i64 f] := by
  obtain ⟨hl, hi⟩ := h
  match cs, hl with
  | [x0, x1, x2, x3, x4, x5], _ =>
    obtain ⟨z0, h0⟩ := hi 0 (by omega)
    obtain ⟨z1, h1⟩ := hi 1 (by omega)
    obtain ⟨z2, h2⟩ := hi 2 (by omega)
    obtain ⟨z3, h3⟩ := hi 3 (by omega)
    obtain ⟨z4, h4⟩ := hi 4 (by omega)
    obtain ⟨z5, h5⟩ := hi 5 (by omega)
    simp at h0 h1 h2 h3 h4 h5
    exact ⟨z0, z1, z2, z3, z4, z5, by rw [h0, h1, h2, h3, h4, h5]⟩
theorem list2 {cs : List Value} (h : cs.length = 2 ∧ ∀ i, i < 2 → ∃ z, cs[i]? = some (.int .i64 z)) : ∃ a b : Int, cs = [.int .i64 a, .int .i64 b] := by
  obtain ⟨hl, hi⟩ := h
  match cs, hl with
  | [x0, x1], _ =>
    obtain ⟨z0, h0⟩ := hi 0 (by omega)
    obtain ⟨z1, h1⟩ := hi 1 (by omega)
    simp at h0 h1
    exact ⟨z0, z1, by rw [h0, h1]⟩

theorem own : ownKnob Tryz.prog.godebug = none := by kernel_rfl
theorem laidOut : laidOutB Tryz.prog = true := by kernel_rfl
theorem cellsOval : Tryz.prog.cellsOf 23 = 6 := by kernel_rfl
theorem cellsTwo : Tryz.prog.cellsOf 24 = 2 := by kernel_rfl
theorem cellsInt : Tryz.prog.cellsOf 3 = 1 := by kernel_rfl

theorem gTab : (Tryz.prog.globals[6]?).map (·.type) = some 223 := by kernel_rfl
theorem gBends : Tryz.prog.globalNamed "stadion/track.bends" = some 0 := by kernel_rfl
theorem tBends : (Tryz.prog.globals[0]?).map (·.type) = some 131 := by kernel_rfl
theorem cellsTab : Tryz.prog.cellsOf 223 = 20 := by kernel_rfl
theorem cellsU64 : Tryz.prog.cellsOf 149 = 1 := by kernel_rfl
theorem pow10D : (Rows.laid_internal_strconv_uint64pow10 : DataW Unit) = Lib.tabData .u64 Lib.pow10Tab := by kernel_rfl
theorem tab_of {W : World} (h : Lib.VarReads Tryz.prog W "internal/strconv.uint64pow10" Rows.laid_internal_strconv_uint64pow10) : Lib.TabIs Tryz.prog W "internal/strconv.uint64pow10" .u64 Lib.pow10Tab := by
  obtain ⟨g, t, cs, fuel, p, hg, ht, hv, hd⟩ := h
  obtain rfl := Option.some.inj (gMax.symm.trans hg)
  obtain rfl := Option.some.inj (gTab.symm.trans ht)
  rw [pow10D] at hd
  have := Lib.cells_of_tab Tryz.underlying223 Tryz.underlying149 cellsU64 cellsTab hd
  unfold Lib.TabIs
  rw [hv, ← this]
theorem max_of {W : World} (h : W.ShapedOpen Tryz.prog) : ∃ m, W.cell? ⟨1, 0, none⟩ = some (.int .i64 m) :=
  cell_of_shapedOpen_int (zero := #[.int .i64 0]) (t := 3) h (of_decide_eq_true (by kernel_rfl)) (by kernel_rfl) rfl (by kernel_rfl) (by kernel_rfl) Tryz.underlying3
theorem size_of {W : World} (h : W.ShapedOpen Tryz.prog) : 11 ≤ W.heap.size := by
  obtain ⟨o, _, ho, _⟩ := h.2 11 (of_decide_eq_true (by kernel_rfl)) (of_decide_eq_true (by kernel_rfl))
  have := (Array.getElem?_eq_some_iff.1 ho).1
  omega
theorem glob_of {W : World} (h : W.ShapedOpen Tryz.prog) (ht : Lib.VarReads Tryz.prog W "internal/strconv.uint64pow10" Rows.laid_internal_strconv_uint64pow10) : Glob W := ⟨max_of h, tab_of ht, size_of h⟩
theorem cellsBool : Tryz.prog.cellsOf 4 = 1 := by kernel_rfl
theorem cellsBends : Tryz.prog.cellsOf 131 = 4 := by kernel_rfl
theorem bends_of {W : World} (hs : W.ShapedOpen Tryz.prog) (h : Lib.VarReads Tryz.prog W "stadion/track.bends" Rows.laid_stadion_track_bends) : Bends W := by
  have hlt := size_of hs
  obtain ⟨g, t, cs, fuel, p, hg, ht, hv, hd⟩ := h
  obtain rfl := Option.some.inj (gBends.symm.trans hg)
  obtain rfl := Option.some.inj (tBends.symm.trans ht)
  obtain ⟨xs, m, _, hx, hl, hxl, hall⟩ := DataW.trod_array Tryz.underlying131 hd
  simp only [Prod.mk.injEq] at hx
  have key : ∀ (i : Nat) (b : Bool), i < 4 → (xs.map (·.1))[i]? = some (DataW.lit (.bool b)) → W.cell? ⟨0, i, none⟩ = some (.bool b) := by
    intro i b hi hb
    have h1 := hall i hi
    obtain ⟨y, hy⟩ : ∃ y, xs[i]? = some y := ⟨xs[i]'(by omega), List.getElem?_eq_getElem (by omega)⟩
    rw [hy, cellsBool, Nat.mul_one] at h1
    obtain ⟨z, hc, e⟩ := DataW.trod_bool Tryz.underlying4 h1
    have h2 : cs.toList[i]? = some (.bool z) := by
      have := congrArg (·[0]?) hc
      simpa [List.getElem?_take, List.getElem?_drop] using this
    have h3 : (xs.map (·.1))[i]? = some y.1 := by simp [hy]
    rw [h3, e] at hb
    simp at hb
    subst hb
    rw [World.var?_cell hg hv i]
    simpa using h2
  have e := hx.1
  refine ⟨by show 0 < _; omega, ?_, ?_, ?_, ?_⟩
  · exact key 0 true (by omega) (by rw [← (DataW.agg.inj e)]; rfl)
  · exact key 1 false (by omega) (by rw [← (DataW.agg.inj e)]; rfl)
  · exact key 2 true (by omega) (by rw [← (DataW.agg.inj e)]; rfl)
  · exact key 3 false (by omega) (by rw [← (DataW.agg.inj e)]; rfl)
end Go.Proofs.YtgdlehoglpiifaaGreatDoor
