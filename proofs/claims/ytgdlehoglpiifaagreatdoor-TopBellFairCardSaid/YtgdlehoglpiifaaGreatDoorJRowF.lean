/-
  The row and the tied card of TopBellFair: the law returns true for every oval, all numbers and every choice of pi, and its arguments read afterwards as they read before.
  Conditions: the listed package-level variables read as the program's text lays them (the card ties them to the text).
-/
import Derived.Test.YtgdlehoglpiifaaGreatDoorJRow
import Derived.Test.YtgdlehoglpiifaaGreatDoorJFair
import Derived.Test.YtgdlehoglpiifaaGreatDoorCards
import Derived.Test.YtgdlehoglpiifaaGreatDoorTie
import Derived.SevenTiedAt
namespace Go.Proofs.YtgdlehoglpiifaaGreatDoor
open Go.ChangeShapes Go.WideShapes Go.ChangeAt Go.RowKit

theorem lFair (S R W F T L n0 n1 : Int) (a : Nat) (ha : a ≤ 255) {g0 : World} (hG : Glob g0) (w : World) (hb : Below g0.heap.size g0 w) :
    Calls Tryz.prog 3 #[.agg #[.int .i64 S, .int .i64 R, .int .i64 W, .int .i64 F, .int .i64 T, .int .i64 L], .agg #[.int .i64 n0, .int .i64 n1], .int .u8 a] w fun e w' => e = .returned (.bool true) ∧ Below w.heap.size w w' := by
  by_cases h : ovalE S R W F T L = 0 ∧ outB n0 0 16 = false ∧ outB n1 0 16 = false
  · obtain ⟨h1, h2, h3⟩ := h
    have o := ovalE_zero.1 h1
    have i0 := outB_false.1 h2
    have i1 := outB_false.1 h3
    have hL := o.l
    obtain ⟨N, rfl⟩ : ∃ N : Nat, n1 = (N : Int) := ⟨n1.toNat, by omega⟩
    obtain ⟨LN, rfl⟩ : ∃ LN : Nat, L = (LN : Int) := ⟨L.toNat, by omega⟩
    exact lFairOk o n0 N a i0 (by omega) ha hG w hb
  · exact lFairBad S R W F T L n0 n1 a h hG w hb

abbrev laidF : List (String × DataW Unit) := Rows.topBellFairRow.laid
set_option maxRecDepth 100000 in
theorem fairLifted (os : Os) (started : os.Started) (H : Type) (enc : TypeId × Value → H) :
    ReturnsInHanded {} Tryz.checked os 3 .any (fun w args => (Rows.topBellFairSpec.pre enc Tryz.prog Tryz.f3 [] false w args ∧ laidMetH Tryz.prog laidF w) ∧ sizedMet enc Tryz.prog Tryz.f3 (OpenSpec.ofChange Rows.topBellFairSpec) false w args)
      (Rows.topBellFairSpec.post enc Tryz.prog Tryz.f3 false true false false) := by
  refine returnsInHanded_of_change_both (C := Tryz.checked) (X := fun w _ => laidMetH Tryz.prog laidF w) (fun _ _ _ hh h => h.of_heap hh) own started (by kernel_rfl) Tryz.func3
    (ChangeSpec.witness_shaped (enc := enc) (C := Tryz.checked) (os := os) (X := fun w _ => laidMetH Tryz.prog laidF w) false (World.laidAll Tryz.prog os laidF) #[.agg #[.int .i64 0, .int .i64 0, .int .i64 0, .int .i64 0, .int .i64 0, .int .i64 0], .agg #[.int .i64 0, .int .i64 0], .int .u8 0] 8 (World.laidAll_os _ _ _)
      (World.shaped_of_ZipB (by kernel_rfl) (by kernel_rfl)) (by kernel_rfl) (by kernel_rfl) (by kernel_rfl)
      (by rw [MakeChecks.laidMetH_plain _ _ _ (by kernel_rfl)]; exact laidMet_laidAll _ (by kernel_rfl) (by kernel_rfl))) ?_
  intro W base args ds gs before hval0 hW hsh hL
  have hval : ∀ (j : Nat) t v, Tryz.f3.params[j]? = some t → args[j]? = some v → Value.okWide Tryz.prog W .any base t v := hval0
  have hW' := hW
  obtain ⟨p, q, hA0, hV, rfl, _, _⟩ := hW
  have hA : DataW.TrodAll enc Tryz.prog W 0 (fun _ => true) true Tryz.f3.params.toList args.toList ds p := hA0
  rw [Tryz.params3] at hA hval
  obtain ⟨v0, v1, v2, d0, d1, d2, p0, p1, p2, rfl, rfl, rfl, h0, h1, h2⟩ := trodAll_three hA
  obtain ⟨rfl, rfl⟩ := trodVars_none hV
  clear hA0
  simp only [List.append_nil] at hW'
  have hlt0 : ∀ x ∈ p0, x.block < W.heap.size := fun x hx => by simpa using hW'.lt x (by simp [hx])
  have hlt1 : ∀ x ∈ p1, x.block < W.heap.size := fun x hx => by simpa using hW'.lt x (by simp [hx])
  have hlt2 : ∀ x ∈ p2, x.block < W.heap.size := fun x hx => by simpa using hW'.lt x (by simp [hx])
  have a0 := fun (W' : World) (hb : Below W.heap.size W W') => Below.trod laidOut (by kernel_rfl) (of_decide_eq_true (by kernel_rfl)) h0 hb hlt0
  have a1 := fun (W' : World) (hb : Below W.heap.size W W') => Below.trod laidOut (by kernel_rfl) (of_decide_eq_true (by kernel_rfl)) h1 hb hlt1
  have a2 := fun (W' : World) (hb : Below W.heap.size W W') => Below.trod laidOut (by kernel_rfl) (of_decide_eq_true (by kernel_rfl)) h2 hb hlt2
  obtain ⟨c0, rfl, z0⟩ := okWide_struct Tryz.underlying23 (hval 0 23 v0 rfl rfl)
  obtain ⟨c1, rfl, z1⟩ := okWide_array Tryz.underlying24 (hval 1 24 v1 rfl rfl)
  obtain ⟨a, rfl, rfl, rfl, wa⟩ := open_int Tryz.underlying5 (hval 2 5 v2 rfl rfl) h2
  have ha : 0 ≤ a ∧ a ≤ 255 := by simpa [Lit.wf, IntKind.min, IntKind.max, IntKind.signed, IntKind.bits] using wa
  obtain ⟨A, rfl⟩ : ∃ A : Nat, a = (A : Int) := ⟨a.toNat, by omega⟩
  obtain ⟨f0, e0⟩ := h0
  obtain ⟨f1, e1⟩ := h1
  have g0 := list6 (struct_ints (k := .i64) Tryz.underlying23 (fun i f hf => by
    match i with
    | 0 => cases hf; exact ⟨Tryz.underlying3, rfl, cellsInt⟩
    | 1 => cases hf; exact ⟨Tryz.underlying3, rfl, cellsInt⟩
    | 2 => cases hf; exact ⟨Tryz.underlying3, rfl, cellsInt⟩
    | 3 => cases hf; exact ⟨Tryz.underlying3, rfl, cellsInt⟩
    | 4 => cases hf; exact ⟨Tryz.underlying3, rfl, cellsInt⟩
    | 5 => cases hf; exact ⟨Tryz.underlying3, rfl, cellsInt⟩
    | i + 6 => cases hf) cellsOval e0)
  have g1 := list2 (array_ints Tryz.underlying24 Tryz.underlying3 cellsInt cellsTwo e1)
  obtain ⟨S, R, W2, F, T, L, hc0⟩ := g0
  obtain ⟨n0, n1, hc1⟩ := g1
  obtain ⟨c0⟩ := c0
  obtain ⟨c1⟩ := c1
  have hc0 : c0 = _ := hc0
  have hc1 : c1 = _ := hc1
  subst hc0
  subst hc1
  rw [MakeChecks.laidMetH_plain _ _ _ (by kernel_rfl)] at hL
  have hG : Glob W := glob_of hsh (Lib.laidMet.reads hL (by simp [laidF, Rows.topBellFairRow]))
  refine (lFair S R W2 F T L n0 n1 A (by omega) hG W (Below.refl _ _)).mono fun e W' ⟨he, hb⟩ => ?_
  subst he
  exact ⟨_, rfl, _, _, _, [], _, [], hW', trodAll_mk1 (shut_bool Tryz.underlying4 _), trodAll_mk3 (a0 _ hb) (a1 _ hb) (a2 _ hb), rfl, hb.frame _, fun h => by cases h⟩

theorem fair_holds : Rows.TopBellFairSaid :=
  OpenClaim.holds_of_wide 3 Tryz.f3 rfl rfl rfl rfl rfl rfl rfl ⟨rfl, rfl, rfl, rfl, rfl⟩ rfl rfl rfl rfl rfl (by kernel_rfl) Tryz.func3 (by kernel_rfl)
    (of_decide_eq_true (by kernel_rfl)) (by unfold Func.isWrapper; first | (rw [if_pos (by decide +kernel)]; kernel_rfl) | (rw [if_neg (by decide +kernel)]; exact ⟨rfl, rfl⟩))
    (fun os started H enc _ => fairLifted os started H enc)

/-- The tied card of TopBellFair. -/
theorem fair_card_holds : Rows.TopBellFairCardSaid :=
  Claim7.holds_tied_plain_at .later [] [.data, .data, .data, .data, .sentinel, .sentinel, .pinned] true (true, "d4e449da5f1d696d1fea5121369394640a175a2ab61a45db7967b3b1a335dc72") true
    fair_holds (fun _ h => by cases h) (by kernel_rfl) (fun _ h => by cases h) topBellFair_row_tie rfl ⟨rfl, rfl⟩ (by kernel_rfl) rfl
    (fun f fn hf hfn => by
      obtain rfl : f = 3 := Option.some.inj ((show Tryz.prog.funcNamed "stadion/stadiontop.TopBellFair" = some 3 by kernel_rfl).symm.trans hf) |>.symm
      obtain rfl : fn = Tryz.f3 := (Option.some.inj (Tryz.func3.symm.trans hfn)).symm
      exact ⟨by kernel_rfl, fun j t ht => by
        rw [Tryz.params3] at ht
        have hm : t ∈ [23, 24, 5] := by simpa using Array.mem_of_getElem? ht
        have hall : ([23, 24, 5].all fun u => !Tryz.prog.wantsStandIn u) = true := by kernel_rfl
        exact (show Tryz.prog.wantsStandIn t = false by simpa using List.all_eq_true.1 hall t hm)⟩)
    (by kernel_rfl)
#print axioms fair_card_holds
end Go.Proofs.YtgdlehoglpiifaaGreatDoor
