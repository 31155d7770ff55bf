/-
  Package track: the errors of the marked staggers of all lanes.
-/
import Derived.Test.YtgdlehoglpiifaaGreatDoorJLanes
import Derived.WalkSmall
namespace Go.Proofs.YtgdlehoglpiifaaGreatDoor
open Go.RowKit Go.Sort Go.Shelf
attribute [local go_sem] Oper.semAt_some

theorem infoSpan : (Tryz.prog.info? 43).map (fun i => (i.zero, i.size, i.bytes)) = some (some (.agg #[.string ⟨#[]⟩, .string ⟨#[]⟩]), 2, 32) := by kernel_rfl
theorem mst_in {d : Int} (h : 0 ≤ d ∧ d ≤ 20000000) : 0 ≤ mst d ∧ mst d ≤ 80000000 := by
  have hp := pi_in
  have h0 : (0 : Rat) ≤ (d : Rat) := Rat.intCast_le_intCast.2 h.1
  have h1 : (d : Rat) ≤ ((20000000 : Int) : Rat) := Rat.intCast_le_intCast.2 h.2
  have hm : 0 ≤ (d : Rat) * piL := Rat.mul_nonneg h0 (by grind)
  have hm2 : (d : Rat) * piL ≤ (d : Rat) * 4 := Rat.mul_le_mul_of_nonneg_left (by grind) h0
  have e : len 0 d piL = (d : Rat) * piL := by unfold len; rw [show ((0 : Int) : Rat) = 0 from rfl]; grind
  unfold mst
  rw [e]
  refine ⟨Rat.le_floor_iff.2 (by rw [show ((0 : Int) : Rat) = 0 from rfl]; exact hm), ?_⟩
  have hf := Rat.floor_le (a := (d : Rat) * piL)
  have : (((d : Rat) * piL).floor : Rat) ≤ ((80000000 : Int) : Rat) := by
    rw [show ((80000000 : Int) : Rat) = 80000000 from rfl]
    rw [show ((20000000 : Int) : Rat) = 20000000 from rfl] at h1
    grind
  exact Rat.intCast_le_intCast.1 this
/-- The errors, as values. -/
def errS (R W F T n : Int) (k : Int) : Rat × Rat :=
  let d := n * (rad R W F T k - rad R W F T 1)
  (rmin (len (-mst d) d piL) (len (-mst d) d piH), rmax (len (-mst d) d piL) (len (-mst d) d piH))
def errV (R W F T n : Int) (k : Int) : List Value := [.string ⟨(rt (errS R W F T n k).1).toArray⟩, .string ⟨(rt (errS R W F T n k).2).toArray⟩]

theorem rad_ge {S R W F T L : Int} (o : Oval S R W F T L) {k : Int} (h : 1 ≤ k ∧ k ≤ L) : rad R W F T 1 ≤ rad R W F T k := by
  have h1 := o.w; have h2 := o.f; have h3 := o.t
  unfold rad
  rw [if_pos (rfl : (1 : Int) = 1)]
  by_cases hk : k = 1
  · rw [if_pos hk]; omega
  · rw [if_neg hk]
    have hm := Int.mul_le_mul (show 1 ≤ k - 1 by omega) (Int.le_refl W) (by omega) (by omega)
    omega

set_option maxRecDepth 100000 in
set_option maxHeartbeats 1000000 in
theorem trErrors {S R W F T L : Int} (o : Oval S R W F T L) (n : Int) (hn : 0 ≤ n ∧ n ≤ 16) {g0 : World} (hG : Glob g0) (u : World) (hgu : Below g0.heap.size g0 u) :
    Calls Tryz.prog 15 #[.agg #[.int .i64 S, .int .i64 R, .int .i64 W, .int .i64 F, .int .i64 T, .int .i64 L], .int .i64 n] u fun e w' => ∃ v, e = .returned (.tuple #[v, .int .i64 0]) ∧ w'.ownsRow u.heap.size 43 2 v L.toNat ((firstLanes L.toNat).flatMap (errV R W F T n)) ∧ Below u.heap.size u w' := by
  replace hG := hG.keep hgu
  clear hgu
  obtain ⟨i0, hi, hz0, hz1, hz2⟩ := info_parts infoSpan
  have c1 := Lib.hid (fun w => trCheckOval S R W F T L o w)
  have c2 := Lib.hid (fun w => trWithin n 0 16 (by omega) (by omega) w)
  refine (callsIn_wide (n := 9)).1 ?_
  refine callsIn_of_wp_marks Tryz.func15 rfl trivial ?_ rfl
  simp only [Tryz.ntmps15, List.size_toArray, List.length_cons, List.length_nil, Nat.reduceAdd, Nat.reduceSub, Array.replicate_succ, Array.replicate_zero, List.push_toArray, List.append_toArray, List.nil_append, List.cons_append]
  gi_wp2_with fail
  refine wpIn_wide.2 ?_
  refine wp_region_tail 4 (by kernel_rfl) (by kernel_rfl) (by kernel_rfl) ?_
  simp only [List.take_succ_cons, List.take_zero, List.drop_succ_cons, List.drop_zero, List.take_nil, List.drop_nil]
  repeat (quiet_step (first | with_reducible exact Calls.regrown_of (c1.out _) | with_reducible exact Calls.regrown_of (c2.out _)))
  refine wpQuiet_nil ?_
  intro w1 hw
  have hb := below_of_regrown hw
  clear hw
  have H1 : Below u.heap.size u w1 := by
    refine Below.trans ?_ (hb.mono ?_)
    · repeat (first | with_reducible assumption | with_reducible exact Below.refl _ _ | with_reducible refine Below.setCell ?_ (by first | omega | (simp [go_sem]; omega) | simp [go_sem]) _ | with_reducible refine Below.alloc ?_ (by first | omega | (simp [go_sem]; omega) | simp [go_sem]) _ | with_reducible refine below_grow ?_ (by first | omega | (simp [go_sem]; omega) | simp [go_sem]) _ _ | with_reducible refine Below.drew ?_)
    · first | omega | (simp [go_sem]; omega) | simp [go_sem]
  have S1 : u.heap.size ≤ w1.heap.size := H1.size
  have s1_0 : u.heap.size < w1.heap.size := Nat.lt_of_lt_of_le (by first | omega | (simp [go_sem]; omega) | simp [go_sem]) hb.size
  have k1_0 := fun o => hb.cell (p := ⟨u.heap.size, o, none⟩) (by first | omega | (simp [go_sem]; omega) | simp [go_sem])
  have f1_0 := fun o => hb.frozen (p := ⟨u.heap.size, o, none⟩) (by first | omega | (simp [go_sem]; omega) | simp [go_sem])
  have h1_0 := hb.block (u.heap.size) (by first | omega | (simp [go_sem]; omega) | simp [go_sem])
  have h1_0 := Lib.hid h1_0
  have s1_1 : u.heap.size + 1 < w1.heap.size := Nat.lt_of_lt_of_le (by first | omega | (simp [go_sem]; omega) | simp [go_sem]) hb.size
  have k1_1 := fun o => hb.cell (p := ⟨u.heap.size + 1, o, none⟩) (by first | omega | (simp [go_sem]; omega) | simp [go_sem])
  have f1_1 := fun o => hb.frozen (p := ⟨u.heap.size + 1, o, none⟩) (by first | omega | (simp [go_sem]; omega) | simp [go_sem])
  have h1_1 := hb.block (u.heap.size + 1) (by first | omega | (simp [go_sem]; omega) | simp [go_sem])
  have h1_1 := Lib.hid h1_1
  have G1 := grownBy_of_below hb
  have B1 := Lib.hid hb
  clear hb
  clear c1 c2
  go_wp2_with fail
  (with_reducible refine (trFirst _ 2 (by decide) _ ?_).mono ?_)
  · intro j hj; rcases j with _ | _ | j <;> first | omega | simp (maxDischargeDepth := 4) [go_sem]
  rintro e w2 ⟨rfl, hb⟩
  have H2 : Below u.heap.size u w2 := by
    refine Below.trans ?_ (hb.mono ?_)
    · repeat (first | with_reducible assumption | with_reducible exact Below.refl _ _ | with_reducible refine Below.setCell ?_ (by first | omega | (simp [go_sem]; omega) | simp [go_sem]) _ | with_reducible refine Below.alloc ?_ (by first | omega | (simp [go_sem]; omega) | simp [go_sem]) _ | with_reducible refine below_grow ?_ (by first | omega | (simp [go_sem]; omega) | simp [go_sem]) _ _ | with_reducible refine Below.drew ?_)
    · first | omega | (simp [go_sem]; omega) | simp [go_sem]
  have S2 : u.heap.size ≤ w2.heap.size := H2.size
  have s2_0 : u.heap.size < w2.heap.size := Nat.lt_of_lt_of_le (by first | omega | (simp [go_sem]; omega) | simp [go_sem]) hb.size
  have k2_0 := fun o => hb.cell (p := ⟨u.heap.size, o, none⟩) (by first | omega | (simp [go_sem]; omega) | simp [go_sem])
  have f2_0 := fun o => hb.frozen (p := ⟨u.heap.size, o, none⟩) (by first | omega | (simp [go_sem]; omega) | simp [go_sem])
  have h2_0 := hb.block (u.heap.size) (by first | omega | (simp [go_sem]; omega) | simp [go_sem])
  have h2_0 := Lib.hid h2_0
  have s2_1 : u.heap.size + 1 < w2.heap.size := Nat.lt_of_lt_of_le (by first | omega | (simp [go_sem]; omega) | simp [go_sem]) hb.size
  have k2_1 := fun o => hb.cell (p := ⟨u.heap.size + 1, o, none⟩) (by first | omega | (simp [go_sem]; omega) | simp [go_sem])
  have f2_1 := fun o => hb.frozen (p := ⟨u.heap.size + 1, o, none⟩) (by first | omega | (simp [go_sem]; omega) | simp [go_sem])
  have h2_1 := hb.block (u.heap.size + 1) (by first | omega | (simp [go_sem]; omega) | simp [go_sem])
  have h2_1 := Lib.hid h2_1
  have G2 := grownBy_of_below hb
  have B2 := Lib.hid hb
  clear hb
  go_wp2_with fail
  gi_wp2_with fail
  have ho1 : OvalBox w1 u.heap.size S R W F T L := h1_0.out.trans ((Below.heap_alloc _ _ _ (by rw [World.size_alloc]; omega)).trans (World.alloc_heap_new u _))
  have hn1 : Boxed w1 (u.heap.size + 1) 3 (.int .i64 n) := h1_1.out.trans (by have := Boxed.new (u.alloc (.cells #[.int .i64 S, .int .i64 R, .int .i64 W, .int .i64 F, .int .i64 T, .int .i64 L] 23)) 3 (.int .i64 n); rwa [World.size_alloc] at this)
  have ho2 : OvalBox w2 u.heap.size S R W F T L := h2_0.out.trans ((Below.heap_alloc _ _ _ ho1.lt).trans ho1)
  have hn2 : Boxed w2 (u.heap.size + 1) 3 (.int .i64 n) := h2_1.out.trans ((Below.heap_alloc _ _ _ hn1.lt).trans hn1)
  clear k1_0 k1_1 f1_0 f1_1 h1_0 h1_1 h2_0 h2_1 ho1 hn1 H1 S1 s1_0 s1_1 k2_0 k2_1 f2_0 f2_1 G1 B1 G2 B2
  refine ⟨trivial, (trLanes _ S R W F T L _).mono ?_⟩
  rintro e w3 ⟨rfl, rfl⟩
  obtain ⟨w3, hw3⟩ : ∃ w3, (w2.alloc (.cells #[.slice none 0 0] 37)).alloc (.cells #[.int .i64 S, .int .i64 R, .int .i64 W, .int .i64 F, .int .i64 T, .int .i64 L] 23) = w3 := ⟨_, rfl⟩
  have ho3 : OvalBox w3 u.heap.size S R W F T L := by
    rw [← hw3]; exact (Below.heap_alloc _ _ _ (by rw [World.size_alloc]; have := ho2.lt; omega)).trans ((Below.heap_alloc _ _ _ ho2.lt).trans ho2)
  have hn3 : Boxed w3 (u.heap.size + 1) 3 (.int .i64 n) := by
    rw [← hw3]; exact (Below.heap_alloc _ _ _ (by rw [World.size_alloc]; have := hn2.lt; omega)).trans ((Below.heap_alloc _ _ _ hn2.lt).trans hn2)
  have hB3 : OvalBox w3 (w2.heap.size + 1) S R W F T L := by
    rw [← hw3]; have := World.alloc_heap_new (w2.alloc (.cells #[.slice none 0 0] 37)) (.cells #[.int .i64 S, .int .i64 R, .int .i64 W, .int .i64 F, .int .i64 T, .int .i64 L] 23); rwa [World.size_alloc] at this
  have hO3 : Boxed w3 w2.heap.size 37 (.slice none 0 0) := by
    rw [← hw3]; exact (Below.heap_alloc _ _ _ (by rw [World.size_alloc]; omega)).trans (World.alloc_heap_new w2 _)
  have H3 : Below u.heap.size u w3 := by
    rw [← hw3]; exact (H2.alloc S2 _).alloc (by rw [World.size_alloc]; omega) _
  simp only [World.size_alloc]
  rw [hw3]
  clear hw3 ho2 hn2 H2
  generalize w2.heap.size = bO at *
  gi_wp2_with fail
  have hbO : u.heap.size + 1 < bO := by omega
  have hlt3 : bO + 1 < w3.heap.size := hB3.lt
  refine wpIn_rangeFunc_ownG rfl (by omega) (gf := 84) (lb := #[.pointer (some ⟨bO + 1, 0, none⟩)]) rfl trivial (enters_of Tryz.func84 (by kernel_rfl) rfl)
    (lanes_stops _ o (bO + 1) w3 hB3) (fun h k => k.trans h) (fun W l u u' hl _ _ _ => World.putObj_heap_other (by omega)) (Below.refl _ _) (fun _ => rfl)
    (LaneI u.heap.size bO 37 43 2 (errV R W F T n) S R W F T L n u)
    (fun _ _ _ => False)
    ?hI (fun _ _ _ _ _ hs _ _ => hs)
    ?h0 ?a1 ?assign ?body ?done ?stop
  case h0 => exact ⟨⟨⟨_, hO3, World.ownsRow_nil _ _ _ _, trivial⟩, ho3, hn3, hB3⟩, H3⟩
  case hI => exact laneI_own _ _ _ _ _ _ _ _ _ _ _ _ _ _ _ (Nat.le_refl _) (by omega)
  case assign =>
    intro l x X K hK
    dsimp only [encL]
    gi_wp2
    exact hK
  case body =>
    rintro l pre x w ⟨⟨⟨v, hv, hrow, -⟩, ho, hn', hb⟩, hB⟩ hlt
    have l0 := hv.lt
    have l1 := ho.lt
    have l2 := hn'.lt
    have l3 := hb.lt
    have hr := rad_in o x.2
    have hr1 := rad_in o (lane := 1) ⟨by omega, o.l.1⟩
    have hge := rad_ge o x.2
    have hd : 0 ≤ n * (rad R W F T x.1 - rad R W F T 1) ∧ n * (rad R W F T x.1 - rad R W F T 1) ≤ 16 * 1099999 := mul_in hn ⟨by omega, by omega⟩
    have hG3 := hG.keep hB
    have c1 := Lib.hid (fun w => trStagger o (rad R W F T x.1) n ⟨by omega, by omega⟩ hn w)
    have c2 := Lib.hid (fun w => trMarked1 o (rad R W F T x.1) n ⟨by omega, by omega⟩ hn w)
    have hm := mst_in (d := n * (rad R W F T x.1 - rad R W F T 1)) ⟨by omega, by omega⟩
    have hev : errV R W F T n x.1 = [.string ⟨(rt (errS R W F T n x.1).1).toArray⟩, .string ⟨(rt (errS R W F T n x.1).2).toArray⟩] := rfl
    unfold errS at hev
    generalize n * (rad R W F T x.1 - rad R W F T 1) = d at *
    have c3 := Lib.hid (fun w => trBounds (-mst d) d (by omega) (by omega) w)
    have c4 := Lib.hid (fun (w0 : World) (hG : Glob w0) (w : World) hb' => trBetween _ _ (Bd.len (A := 100000000) (B := 100000000) (a := -mst d) (b := d) (by omega) (by omega) Bd.piL) (Bd.len (A := 100000000) (B := 100000000) (a := -mst d) (b := d) (by omega) (by omega) Bd.piH) (by omega) hG w hb')
    have v1 : wrap64 (-mst d) = -mst d := IntWalk.wrap64_in _ (by omega)
    have v2 : IntKind.i64.wrap (-mst d) = -mst d := IntWalk.i64_in _ (by omega)
    dsimp only at hev
    generalize rt (rmin (len (-mst d) d piL) (len (-mst d) d piH)) = lo at *
    generalize rt (rmax (len (-mst d) d piL) (len (-mst d) d piH)) = hi' at *
    generalize len (-mst d) d piL = rl at *
    generalize len (-mst d) d piH = rh at *
    generalize mst d = md at *
    have hev := Lib.hid hev
    clear hd hm hr hr1 hge
    have y0 := hv.cell
    have y1 := hn'.cell
    have d0 := ho.c0; have d1 := ho.c1; have d2 := ho.c2; have d3 := ho.c3; have d4 := ho.c4; have d5 := ho.c5
    gi_wp2_with fail
    first | refine calls_round ?_ | refine ⟨trivial, calls_round ?_⟩ | refine ⟨trivial, fun h => (by cases h), calls_round ?_⟩ | refine ⟨fun h => (by cases h), calls_round ?_⟩
    (with_reducible refine (c1.out _).mono ?_)
    rintro e w1 ⟨rfl, hb⟩
    have H1 : Below w.heap.size w w1 := by
      refine Below.trans ?_ (hb.mono ?_)
      · repeat (first | with_reducible assumption | with_reducible exact Below.refl _ _ | with_reducible refine Below.setCell ?_ (by first | omega | (simp [go_sem]; omega) | simp [go_sem]) _ | with_reducible refine Below.alloc ?_ (by first | omega | (simp [go_sem]; omega) | simp [go_sem]) _ | with_reducible refine below_grow ?_ (by first | omega | (simp [go_sem]; omega) | simp [go_sem]) _ _ | with_reducible refine Below.drew ?_)
      · first | omega | (simp [go_sem]; omega) | simp [go_sem]
    have S1 : w.heap.size ≤ w1.heap.size := H1.size
    have s1_0 : bO < w1.heap.size := Nat.lt_of_lt_of_le (by first | omega | (simp [go_sem]; omega) | simp [go_sem]) hb.size
    have k1_0 := fun o => hb.cell (p := ⟨bO, o, none⟩) (by first | omega | (simp [go_sem]; omega) | simp [go_sem])
    have f1_0 := fun o => hb.frozen (p := ⟨bO, o, none⟩) (by first | omega | (simp [go_sem]; omega) | simp [go_sem])
    have h1_0 := hb.block (bO) (by first | omega | (simp [go_sem]; omega) | simp [go_sem])
    have h1_0 := Lib.hid h1_0
    have s1_1 : u.heap.size < w1.heap.size := Nat.lt_of_lt_of_le (by first | omega | (simp [go_sem]; omega) | simp [go_sem]) hb.size
    have k1_1 := fun o => hb.cell (p := ⟨u.heap.size, o, none⟩) (by first | omega | (simp [go_sem]; omega) | simp [go_sem])
    have f1_1 := fun o => hb.frozen (p := ⟨u.heap.size, o, none⟩) (by first | omega | (simp [go_sem]; omega) | simp [go_sem])
    have h1_1 := hb.block (u.heap.size) (by first | omega | (simp [go_sem]; omega) | simp [go_sem])
    have h1_1 := Lib.hid h1_1
    have s1_2 : u.heap.size + 1 < w1.heap.size := Nat.lt_of_lt_of_le (by first | omega | (simp [go_sem]; omega) | simp [go_sem]) hb.size
    have k1_2 := fun o => hb.cell (p := ⟨u.heap.size + 1, o, none⟩) (by first | omega | (simp [go_sem]; omega) | simp [go_sem])
    have f1_2 := fun o => hb.frozen (p := ⟨u.heap.size + 1, o, none⟩) (by first | omega | (simp [go_sem]; omega) | simp [go_sem])
    have h1_2 := hb.block (u.heap.size + 1) (by first | omega | (simp [go_sem]; omega) | simp [go_sem])
    have h1_2 := Lib.hid h1_2
    have G1 := grownBy_of_below hb
    have B1 := Lib.hid hb
    clear hb
    clear c1
    gi_wp2_with fail
    first | refine calls_round ?_ | refine ⟨trivial, calls_round ?_⟩ | refine ⟨trivial, fun h => (by cases h), calls_round ?_⟩ | refine ⟨fun h => (by cases h), calls_round ?_⟩
    (with_reducible refine (c2.out _).mono ?_)
    rintro e w2 ⟨rfl, hb⟩
    have H2 : Below w.heap.size w w2 := by
      refine Below.trans ?_ (hb.mono ?_)
      · repeat (first | with_reducible assumption | with_reducible exact Below.refl _ _ | with_reducible refine Below.setCell ?_ (by first | omega | (simp [go_sem]; omega) | simp [go_sem]) _ | with_reducible refine Below.alloc ?_ (by first | omega | (simp [go_sem]; omega) | simp [go_sem]) _ | with_reducible refine below_grow ?_ (by first | omega | (simp [go_sem]; omega) | simp [go_sem]) _ _ | with_reducible refine Below.drew ?_)
      · first | omega | (simp [go_sem]; omega) | simp [go_sem]
    have S2 : w.heap.size ≤ w2.heap.size := H2.size
    have s2_0 : bO < w2.heap.size := Nat.lt_of_lt_of_le (by first | omega | (simp [go_sem]; omega) | simp [go_sem]) hb.size
    have k2_0 := fun o => hb.cell (p := ⟨bO, o, none⟩) (by first | omega | (simp [go_sem]; omega) | simp [go_sem])
    have f2_0 := fun o => hb.frozen (p := ⟨bO, o, none⟩) (by first | omega | (simp [go_sem]; omega) | simp [go_sem])
    have h2_0 := hb.block (bO) (by first | omega | (simp [go_sem]; omega) | simp [go_sem])
    have h2_0 := Lib.hid h2_0
    have s2_1 : u.heap.size < w2.heap.size := Nat.lt_of_lt_of_le (by first | omega | (simp [go_sem]; omega) | simp [go_sem]) hb.size
    have k2_1 := fun o => hb.cell (p := ⟨u.heap.size, o, none⟩) (by first | omega | (simp [go_sem]; omega) | simp [go_sem])
    have f2_1 := fun o => hb.frozen (p := ⟨u.heap.size, o, none⟩) (by first | omega | (simp [go_sem]; omega) | simp [go_sem])
    have h2_1 := hb.block (u.heap.size) (by first | omega | (simp [go_sem]; omega) | simp [go_sem])
    have h2_1 := Lib.hid h2_1
    have s2_2 : u.heap.size + 1 < w2.heap.size := Nat.lt_of_lt_of_le (by first | omega | (simp [go_sem]; omega) | simp [go_sem]) hb.size
    have k2_2 := fun o => hb.cell (p := ⟨u.heap.size + 1, o, none⟩) (by first | omega | (simp [go_sem]; omega) | simp [go_sem])
    have f2_2 := fun o => hb.frozen (p := ⟨u.heap.size + 1, o, none⟩) (by first | omega | (simp [go_sem]; omega) | simp [go_sem])
    have h2_2 := hb.block (u.heap.size + 1) (by first | omega | (simp [go_sem]; omega) | simp [go_sem])
    have h2_2 := Lib.hid h2_2
    have s2_3 : w1.heap.size < w2.heap.size := Nat.lt_of_lt_of_le (by first | omega | (simp [go_sem]; omega) | simp [go_sem]) hb.size
    have k2_3 := fun o => hb.cell (p := ⟨w1.heap.size, o, none⟩) (by first | omega | (simp [go_sem]; omega) | simp [go_sem])
    have f2_3 := fun o => hb.frozen (p := ⟨w1.heap.size, o, none⟩) (by first | omega | (simp [go_sem]; omega) | simp [go_sem])
    have h2_3 := hb.block (w1.heap.size) (by first | omega | (simp [go_sem]; omega) | simp [go_sem])
    have h2_3 := Lib.hid h2_3
    have G2 := grownBy_of_below hb
    have B2 := Lib.hid hb
    clear hb
    clear c2
    gi_wp2_with fail
    first | refine calls_round ?_ | refine ⟨trivial, calls_round ?_⟩ | refine ⟨trivial, fun h => (by cases h), calls_round ?_⟩ | refine ⟨fun h => (by cases h), calls_round ?_⟩
    (with_reducible refine (c3.out _).mono ?_)
    rintro e w3 ⟨rfl, hb⟩
    have H3 : Below w.heap.size w w3 := by
      refine Below.trans ?_ (hb.mono ?_)
      · repeat (first | with_reducible assumption | with_reducible exact Below.refl _ _ | with_reducible refine Below.setCell ?_ (by first | omega | (simp [go_sem]; omega) | simp [go_sem]) _ | with_reducible refine Below.alloc ?_ (by first | omega | (simp [go_sem]; omega) | simp [go_sem]) _ | with_reducible refine below_grow ?_ (by first | omega | (simp [go_sem]; omega) | simp [go_sem]) _ _ | with_reducible refine Below.drew ?_)
      · first | omega | (simp [go_sem]; omega) | simp [go_sem]
    have S3 : w.heap.size ≤ w3.heap.size := H3.size
    have s3_0 : bO < w3.heap.size := Nat.lt_of_lt_of_le (by first | omega | (simp [go_sem]; omega) | simp [go_sem]) hb.size
    have k3_0 := fun o => hb.cell (p := ⟨bO, o, none⟩) (by first | omega | (simp [go_sem]; omega) | simp [go_sem])
    have f3_0 := fun o => hb.frozen (p := ⟨bO, o, none⟩) (by first | omega | (simp [go_sem]; omega) | simp [go_sem])
    have h3_0 := hb.block (bO) (by first | omega | (simp [go_sem]; omega) | simp [go_sem])
    have h3_0 := Lib.hid h3_0
    have s3_1 : u.heap.size < w3.heap.size := Nat.lt_of_lt_of_le (by first | omega | (simp [go_sem]; omega) | simp [go_sem]) hb.size
    have k3_1 := fun o => hb.cell (p := ⟨u.heap.size, o, none⟩) (by first | omega | (simp [go_sem]; omega) | simp [go_sem])
    have f3_1 := fun o => hb.frozen (p := ⟨u.heap.size, o, none⟩) (by first | omega | (simp [go_sem]; omega) | simp [go_sem])
    have h3_1 := hb.block (u.heap.size) (by first | omega | (simp [go_sem]; omega) | simp [go_sem])
    have h3_1 := Lib.hid h3_1
    have s3_2 : u.heap.size + 1 < w3.heap.size := Nat.lt_of_lt_of_le (by first | omega | (simp [go_sem]; omega) | simp [go_sem]) hb.size
    have k3_2 := fun o => hb.cell (p := ⟨u.heap.size + 1, o, none⟩) (by first | omega | (simp [go_sem]; omega) | simp [go_sem])
    have f3_2 := fun o => hb.frozen (p := ⟨u.heap.size + 1, o, none⟩) (by first | omega | (simp [go_sem]; omega) | simp [go_sem])
    have h3_2 := hb.block (u.heap.size + 1) (by first | omega | (simp [go_sem]; omega) | simp [go_sem])
    have h3_2 := Lib.hid h3_2
    have s3_3 : w1.heap.size < w3.heap.size := Nat.lt_of_lt_of_le (by first | omega | (simp [go_sem]; omega) | simp [go_sem]) hb.size
    have k3_3 := fun o => hb.cell (p := ⟨w1.heap.size, o, none⟩) (by first | omega | (simp [go_sem]; omega) | simp [go_sem])
    have f3_3 := fun o => hb.frozen (p := ⟨w1.heap.size, o, none⟩) (by first | omega | (simp [go_sem]; omega) | simp [go_sem])
    have h3_3 := hb.block (w1.heap.size) (by first | omega | (simp [go_sem]; omega) | simp [go_sem])
    have h3_3 := Lib.hid h3_3
    have G3 := grownBy_of_below hb
    have B3 := Lib.hid hb
    clear hb
    clear c3
    gi_wp2_with fail
    have H5 : Below w.heap.size w ((w3.alloc (.cells #[.int .i64 (Rat.num rl), .slice none 0 0, .int .i64 ((Rat.den rl : Nat) : Int), .slice none 0 0] 89)).alloc (.cells #[.int .i64 (Rat.num rh), .slice none 0 0, .int .i64 ((Rat.den rh : Nat) : Int), .slice none 0 0] 89)) := (H3.alloc S3 _).alloc (by rw [World.size_alloc]; omega) _
    have z0 : ((w3.alloc (.cells #[.int .i64 (Rat.num rl), .slice none 0 0, .int .i64 ((Rat.den rl : Nat) : Int), .slice none 0 0] 89)).alloc (.cells #[.int .i64 (Rat.num rh), .slice none 0 0, .int .i64 ((Rat.den rh : Nat) : Int), .slice none 0 0] 89)).cell? ⟨w3.heap.size, 0, none⟩ = some (.int .i64 (Rat.num rl)) := by simp (maxDischargeDepth := 4) [go_sem]
    have z1 : ((w3.alloc (.cells #[.int .i64 (Rat.num rl), .slice none 0 0, .int .i64 ((Rat.den rl : Nat) : Int), .slice none 0 0] 89)).alloc (.cells #[.int .i64 (Rat.num rh), .slice none 0 0, .int .i64 ((Rat.den rh : Nat) : Int), .slice none 0 0] 89)).cell? ⟨w3.heap.size, 1, none⟩ = some (.slice none 0 0) := by simp (maxDischargeDepth := 4) [go_sem]
    have z2 : ((w3.alloc (.cells #[.int .i64 (Rat.num rl), .slice none 0 0, .int .i64 ((Rat.den rl : Nat) : Int), .slice none 0 0] 89)).alloc (.cells #[.int .i64 (Rat.num rh), .slice none 0 0, .int .i64 ((Rat.den rh : Nat) : Int), .slice none 0 0] 89)).cell? ⟨w3.heap.size, 2, none⟩ = some (.int .i64 ((Rat.den rl : Nat) : Int)) := by simp (maxDischargeDepth := 4) [go_sem]
    have z3 : ((w3.alloc (.cells #[.int .i64 (Rat.num rl), .slice none 0 0, .int .i64 ((Rat.den rl : Nat) : Int), .slice none 0 0] 89)).alloc (.cells #[.int .i64 (Rat.num rh), .slice none 0 0, .int .i64 ((Rat.den rh : Nat) : Int), .slice none 0 0] 89)).cell? ⟨w3.heap.size, 3, none⟩ = some (.slice none 0 0) := by simp (maxDischargeDepth := 4) [go_sem]
    have z4 : ((w3.alloc (.cells #[.int .i64 (Rat.num rl), .slice none 0 0, .int .i64 ((Rat.den rl : Nat) : Int), .slice none 0 0] 89)).alloc (.cells #[.int .i64 (Rat.num rh), .slice none 0 0, .int .i64 ((Rat.den rh : Nat) : Int), .slice none 0 0] 89)).cell? ⟨w3.heap.size + 1, 0, none⟩ = some (.int .i64 (Rat.num rh)) := by simp (maxDischargeDepth := 4) [go_sem]
    have z5 : ((w3.alloc (.cells #[.int .i64 (Rat.num rl), .slice none 0 0, .int .i64 ((Rat.den rl : Nat) : Int), .slice none 0 0] 89)).alloc (.cells #[.int .i64 (Rat.num rh), .slice none 0 0, .int .i64 ((Rat.den rh : Nat) : Int), .slice none 0 0] 89)).cell? ⟨w3.heap.size + 1, 1, none⟩ = some (.slice none 0 0) := by simp (maxDischargeDepth := 4) [go_sem]
    have z6 : ((w3.alloc (.cells #[.int .i64 (Rat.num rl), .slice none 0 0, .int .i64 ((Rat.den rl : Nat) : Int), .slice none 0 0] 89)).alloc (.cells #[.int .i64 (Rat.num rh), .slice none 0 0, .int .i64 ((Rat.den rh : Nat) : Int), .slice none 0 0] 89)).cell? ⟨w3.heap.size + 1, 2, none⟩ = some (.int .i64 ((Rat.den rh : Nat) : Int)) := by simp (maxDischargeDepth := 4) [go_sem]
    have z7 : ((w3.alloc (.cells #[.int .i64 (Rat.num rl), .slice none 0 0, .int .i64 ((Rat.den rl : Nat) : Int), .slice none 0 0] 89)).alloc (.cells #[.int .i64 (Rat.num rh), .slice none 0 0, .int .i64 ((Rat.den rh : Nat) : Int), .slice none 0 0] 89)).cell? ⟨w3.heap.size + 1, 3, none⟩ = some (.slice none 0 0) := by simp (maxDischargeDepth := 4) [go_sem]
    have hs5 : w3.heap.size + 2 = ((w3.alloc (.cells #[.int .i64 (Rat.num rl), .slice none 0 0, .int .i64 ((Rat.den rl : Nat) : Int), .slice none 0 0] 89)).alloc (.cells #[.int .i64 (Rat.num rh), .slice none 0 0, .int .i64 ((Rat.den rh : Nat) : Int), .slice none 0 0] 89)).heap.size := by rw [World.size_alloc, World.size_alloc]
    generalize hw5 : (w3.alloc (.cells #[.int .i64 (Rat.num rl), .slice none 0 0, .int .i64 ((Rat.den rl : Nat) : Int), .slice none 0 0] 89)).alloc (.cells #[.int .i64 (Rat.num rh), .slice none 0 0, .int .i64 ((Rat.den rh : Nat) : Int), .slice none 0 0] 89) = w5 at *
    clear hw5 H1 H2 H3 k1_0 k1_1 k1_2 f1_0 f1_1 f1_2 h1_0 h1_1 h1_2 k2_0 k2_1 k2_2 k2_3 f2_0 f2_1 f2_2 f2_3 h2_0 h2_1 h2_2 h2_3 k3_0 k3_1 k3_2 k3_3 f3_0 f3_1 f3_2 f3_3 h3_0 h3_1 h3_2 h3_3 G1 G2 G3 B1 B2 B3
    clear s1_0 s1_1 s1_2 s2_0 s2_1 s2_2 s2_3
    have hb1 : w3.heap.size < w5.heap.size := by omega
    have hb2 : w3.heap.size + 1 < w5.heap.size := by omega
    have hne : bO < w3.heap.size := s3_0
    generalize hbb : w3.heap.size + 1 = b2 at *
    generalize w3.heap.size = b1 at *
    generalize w1.heap.size = b0 at *
    have S5 := H5.size
    have g5 := grownBy_of_below H5
    have hv5 := hv.kept g5 (by simp)
    have hrow5 := hrow.kept g5 (by cases h : v.ownBlock <;> simp)
    have ho5 : OvalBox w5 u.heap.size S R W F T L := (H5.block _ l1).trans ho
    have hn5 : Boxed w5 (u.heap.size + 1) 3 (.int .i64 n) := (H5.block _ l2).trans hn'
    have hb5 : OvalBox w5 (bO + 1) S R W F T L := (H5.block _ l3).trans hb
    have y5 := hv5.cell
    clear y0 y1 d0 d1 d2 d3 d4 d5 v1 v2
    refine wpIn_region_held (S := fun w' => w'.cell? ⟨bO, 0, none⟩ = some v ∧ w'.cell? ⟨b1, 0, none⟩ = some (.int .i64 (Rat.num rl)) ∧ w'.cell? ⟨b1, 1, none⟩ = some (.slice none 0 0) ∧ w'.cell? ⟨b1, 2, none⟩ = some (.int .i64 ((Rat.den rl : Nat) : Int)) ∧ w'.cell? ⟨b1, 3, none⟩ = some (.slice none 0 0) ∧ w'.cell? ⟨b2, 0, none⟩ = some (.int .i64 (Rat.num rh)) ∧ w'.cell? ⟨b2, 1, none⟩ = some (.slice none 0 0) ∧ w'.cell? ⟨b2, 2, none⟩ = some (.int .i64 ((Rat.den rh : Nat) : Int)) ∧ w'.cell? ⟨b2, 3, none⟩ = some (.slice none 0 0)) 5 (by kernel_rfl) (by kernel_rfl) (by kernel_rfl) ?_ (fun hH => ?_)
    · simp (maxDischargeDepth := 4) [*, go_sem]
    simp only [List.take_succ_cons, List.take_zero, List.drop_succ_cons, List.drop_zero, List.take_nil, List.drop_nil]
    refine wpAnyH_take (i := 0) (v := ?_) rfl (by kernel_rfl) (by kernel_rfl) (by kernel_rfl) (fun _ _ _ h => h) (Or.inl ⟨by rfl, ?_⟩) (by assumption) ?_
    rotate_left
    · intro w' hSw
      try dsimp only at hSw
      first | (go_simp; done) | (go_simp; with_reducible rfl)
    try simp only [Act.put, List.setIfInBounds_toArray, List.set_cons_zero, List.set_cons_succ]
    refine wpAnyH_take (i := 1) (v := ?_) rfl (by kernel_rfl) (by kernel_rfl) (by kernel_rfl) (fun _ _ _ h => h) (Or.inl ⟨by rfl, ?_⟩) (by assumption) ?_
    rotate_left
    · intro w' hSw
      try dsimp only at hSw
      first | (go_simp; done) | (go_simp; with_reducible rfl)
    try simp only [Act.put, List.setIfInBounds_toArray, List.set_cons_zero, List.set_cons_succ]
    refine wpAnyH_take (i := 2) (v := ?_) rfl (by kernel_rfl) (by kernel_rfl) (by kernel_rfl) (fun _ _ _ h => h) (Or.inl ⟨by rfl, ?_⟩) (by assumption) ?_
    rotate_left
    · intro w' hSw
      try dsimp only at hSw
      first | (go_simp; done) | (go_simp; with_reducible rfl)
    try simp only [Act.put, List.setIfInBounds_toArray, List.set_cons_zero, List.set_cons_succ]
    refine wpAnyH_ready (rs := [3]) (by kernel_rfl) (by simp) (AllReadyH.cons rfl (fun K' hK => ?_) AllReadyH.nil)
    go_simp
    (with_reducible refine (c4.out _ hG3 _ (Below.drew H5)).mono ?_)
    rintro e w4 ⟨rfl, hb⟩
    have H4 : Below w.heap.size w w4 := by
      refine Below.trans ?_ (hb.mono ?_)
      · repeat (first | with_reducible assumption | with_reducible exact Below.refl _ _ | with_reducible refine Below.setCell ?_ (by first | omega | (simp [go_sem]; omega) | simp [go_sem]) _ | with_reducible refine Below.alloc ?_ (by first | omega | (simp [go_sem]; omega) | simp [go_sem]) _ | with_reducible refine below_grow ?_ (by first | omega | (simp [go_sem]; omega) | simp [go_sem]) _ _ | with_reducible refine Below.drew ?_)
      · first | omega | (simp [go_sem]; omega) | simp [go_sem]
    have S4 : w.heap.size ≤ w4.heap.size := H4.size
    have s4_0 : bO < w4.heap.size := Nat.lt_of_lt_of_le (by first | omega | (simp [go_sem]; omega) | simp [go_sem]) hb.size
    have k4_0 := fun o => hb.cell (p := ⟨bO, o, none⟩) (by first | omega | (simp [go_sem]; omega) | simp [go_sem])
    have f4_0 := fun o => hb.frozen (p := ⟨bO, o, none⟩) (by first | omega | (simp [go_sem]; omega) | simp [go_sem])
    have h4_0 := hb.block (bO) (by first | omega | (simp [go_sem]; omega) | simp [go_sem])
    have h4_0 := Lib.hid h4_0
    have s4_1 : b1 < w4.heap.size := Nat.lt_of_lt_of_le (by first | omega | (simp [go_sem]; omega) | simp [go_sem]) hb.size
    have k4_1 := fun o => hb.cell (p := ⟨b1, o, none⟩) (by first | omega | (simp [go_sem]; omega) | simp [go_sem])
    have f4_1 := fun o => hb.frozen (p := ⟨b1, o, none⟩) (by first | omega | (simp [go_sem]; omega) | simp [go_sem])
    have h4_1 := hb.block (b1) (by first | omega | (simp [go_sem]; omega) | simp [go_sem])
    have h4_1 := Lib.hid h4_1
    have s4_2 : b2 < w4.heap.size := Nat.lt_of_lt_of_le (by first | omega | (simp [go_sem]; omega) | simp [go_sem]) hb.size
    have k4_2 := fun o => hb.cell (p := ⟨b2, o, none⟩) (by first | omega | (simp [go_sem]; omega) | simp [go_sem])
    have f4_2 := fun o => hb.frozen (p := ⟨b2, o, none⟩) (by first | omega | (simp [go_sem]; omega) | simp [go_sem])
    have h4_2 := hb.block (b2) (by first | omega | (simp [go_sem]; omega) | simp [go_sem])
    have h4_2 := Lib.hid h4_2
    have s4_3 : u.heap.size < w4.heap.size := Nat.lt_of_lt_of_le (by first | omega | (simp [go_sem]; omega) | simp [go_sem]) hb.size
    have k4_3 := fun o => hb.cell (p := ⟨u.heap.size, o, none⟩) (by first | omega | (simp [go_sem]; omega) | simp [go_sem])
    have f4_3 := fun o => hb.frozen (p := ⟨u.heap.size, o, none⟩) (by first | omega | (simp [go_sem]; omega) | simp [go_sem])
    have h4_3 := hb.block (u.heap.size) (by first | omega | (simp [go_sem]; omega) | simp [go_sem])
    have h4_3 := Lib.hid h4_3
    have s4_4 : u.heap.size + 1 < w4.heap.size := Nat.lt_of_lt_of_le (by first | omega | (simp [go_sem]; omega) | simp [go_sem]) hb.size
    have k4_4 := fun o => hb.cell (p := ⟨u.heap.size + 1, o, none⟩) (by first | omega | (simp [go_sem]; omega) | simp [go_sem])
    have f4_4 := fun o => hb.frozen (p := ⟨u.heap.size + 1, o, none⟩) (by first | omega | (simp [go_sem]; omega) | simp [go_sem])
    have h4_4 := hb.block (u.heap.size + 1) (by first | omega | (simp [go_sem]; omega) | simp [go_sem])
    have h4_4 := Lib.hid h4_4
    have s4_5 : bO + 1 < w4.heap.size := Nat.lt_of_lt_of_le (by first | omega | (simp [go_sem]; omega) | simp [go_sem]) hb.size
    have k4_5 := fun o => hb.cell (p := ⟨bO + 1, o, none⟩) (by first | omega | (simp [go_sem]; omega) | simp [go_sem])
    have f4_5 := fun o => hb.frozen (p := ⟨bO + 1, o, none⟩) (by first | omega | (simp [go_sem]; omega) | simp [go_sem])
    have h4_5 := hb.block (bO + 1) (by first | omega | (simp [go_sem]; omega) | simp [go_sem])
    have h4_5 := Lib.hid h4_5
    have G4 := grownBy_of_below hb
    have B4 := Lib.hid hb
    clear hb
    refine hK.out _ _ ?_ (fun hH => ?_)
    · simp (maxDischargeDepth := 4) [*, go_sem]
    clear hK K'
    try simp only [Act.put, List.setIfInBounds_toArray, List.set_cons_zero, List.set_cons_succ]
    refine wpAnyH_ready (rs := [4]) (by kernel_rfl) (by simp) (AllReadyH.cons rfl (fun K' hK => ?_) AllReadyH.nil)
    go_simp
    refine hK.out _ _ ?_ (fun hH => ?_)
    · simp (maxDischargeDepth := 4) [*, go_sem]
    clear hK K'
    try simp only [Act.put, List.setIfInBounds_toArray, List.set_cons_zero, List.set_cons_succ]
    refine wpAnyH_done (by kernel_rfl) (tailPost_normal ?_) _
    simp only [List.drop_succ_cons, List.drop_zero, List.drop_nil]
    clear hH
    have hv1 := (show Boxed w5.drew bO 37 v from hv5).kept G4 (by simp)
    have hrow1 := (show w5.drew.ownsRow bO 43 2 v _ _ from hrow5).kept G4 (by cases h : v.ownBlock <;> simp)
    have ho1 : OvalBox w4 u.heap.size S R W F T L := (h4_3.out).trans ho5
    have hn1 : Boxed w4 (u.heap.size + 1) 3 (.int .i64 n) := (h4_4.out).trans hn5
    have hb1' : OvalBox w4 (bO + 1) S R W F T L := (h4_5.out).trans hb5
    clear z0 z1 z2 z3 z4 z5 z6 z7 k4_0 k4_1 k4_2 k4_3 k4_4 k4_5 f4_0 f4_1 f4_2 f4_3 f4_4 f4_5
    have hX := B4.out.size
    have hL := o.l
    have hp := hB.size
    have y0 := hv1.cell
    have y1 := hv1.frozen
    go_wp2_with (at_builtin; go_must (refine wpList_append_own _ rfl _ _ 37 rfl bO 43 i0 (.agg #[.string ⟨#[]⟩, .string ⟨#[]⟩]) 2 32 Tryz.underlying37 hi hz0 hz1 hz2 rfl (by decide) _ _ _ rfl (hrow1.alloc _) ⟨w4.heap.size, 0, none⟩ 1 1 [.string ⟨(lo).toArray⟩, .string ⟨(hi').toArray⟩] rfl rfl (cell_two_new _ _ _ _) (by simp [Value.oneCell']) (Nat.le_trans (show pre.length + 1 ≤ 11 by omega) (by decide)) (by omega) (by simp; omega) ?_); intro v' w6 hown' hgrow _; obtain ⟨g', cap', rfl⟩ := ownsRow_succ hown'; obtain ⟨hv2, hv3, hr2, hk2, hb2⟩ := hv1.appended (by decide) hrow1 (by omega) (Nat.le_refl _) hown' hgrow; have hc1 := hv2.cell; have hf1 := hv2.frozen)
    have e1 := block_appended (B := bO) (v' := .slice (some ⟨g', 0, none⟩) (pre.length + 1) cap') hgrow ho1.lt (by omega) (row_below hrow1 (by omega))
    have e2 := block_appended (B := bO) (v' := .slice (some ⟨g', 0, none⟩) (pre.length + 1) cap') hgrow hn1.lt (by omega) (row_below hrow1 (by omega))
    have e3 := block_appended (B := bO) (v' := .slice (some ⟨g', 0, none⟩) (pre.length + 1) cap') hgrow hb1'.lt (by omega) (not_row hb1' (by decide) hrow1)
    refine ⟨((KeepsOthers.of_grownBy g5 (fun j o ej => by cases ej)).trans (((KeepsOthers.drew w5).trans (KeepsOthers.of_grownBy G4 (fun j o ej => by cases ej))).trans hk2)).from _, e3.trans (h4_5.out.trans (H5.block _ l3)), ⟨⟨_, hv3, ?_, trivial⟩, e1.trans ho1, e2.trans hn1, e3.trans hb1'⟩, hB.trans ((H4.mono hp).trans (hb2.mono (by omega)))⟩
    rw [List.flatMap_append, List.flatMap_cons, List.flatMap_nil, List.append_nil, hev.out, List.length_append]
    exact hr2
  case done =>
    rintro D ys X hD hys ⟨⟨⟨v, hv, hrow, -⟩, ho, hn', hb⟩, hB⟩ hK
    have hc := hv.cell
    gi_wp2
    refine ⟨by simp, .inl ⟨_, _, rfl, run_takeDeferred hK, ?_⟩⟩
    have hlen : ys.length = L.toNat := by have := congrArg List.length hys; simpa [firstLanes] using this
    have hfm : ys.flatMap (fun x => errV R W F T n x.1) = (firstLanes L.toNat).flatMap (errV R W F T n) := by
      rw [← show ys.map (·.1) = firstLanes L.toNat from hys, List.flatMap_map]
    have hrow' := row_low (base' := u.heap.size) (ownsRow_putObj hrow (.deferred none) hK rfl) (by omega)
    rw [hlen, hfm] at hrow'
    exact ⟨_, results_tmp2 rfl _ _ _, v, rfl, hrow', hB.trans (belowK_b (w := u) (Nat.le_refl _) X D _ _ (by omega) hK rfl rfl)⟩
  case stop =>
    rintro D c pre X _ _ h _
    exact h.elim
end Go.Proofs.YtgdlehoglpiifaaGreatDoor
