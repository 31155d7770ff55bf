/-
  Package track: radii and lengths with pi.
  Package track: the bounds of a length, the span between two numbers.
  Package track: the span of a length, the check of an oval and of lanes.
  Package track: the check of an oval and of lanes, radii, runs.
-/
import Derived.Test.YtgdlehoglpiifaaGreatDoorJMark
import Derived.ChangeKeysEq
namespace Go.Proofs.YtgdlehoglpiifaaGreatDoor
open Go.RowKit Go.Sort

theorem trFirst (b n : Nat) (hn : n < 1000) (w : World) (hc : NoErr w b n) : Calls Tryz.prog 43 #[.slice (some ⟨b, 0, none⟩) n n] w fun e w' => e = .returned (.int .i64 0) ∧ Below w.heap.size w w' := by
  go_enter Tryz.func43, Tryz.ntmps43
  go_wp2_with fail
  go_loop [7] (fun i => ∃ k : Nat, k ≤ n ∧ i = .int .i64 k) (fun i => n - (intOf i).toNat)
  case atStart => exact ⟨0, Nat.zero_le _, rfl⟩
  case round =>
    obtain ⟨k, hk, rfl⟩ := hrel
    by_cases hlt : k < n
    · have hcell := hc k hlt
      go_wp2_with fail
      go_round
      case rel => exact ⟨k + 1, by omega, by go_num⟩
      case measure => simp [intOf]; omega
    · go_wp2_with fail
      go_ret
      exact ⟨rfl, Below.refl _ _⟩

theorem trWithin (n a b : Int) (h1 : a ≤ n) (h2 : n ≤ b) (w : World) : Calls Tryz.prog 45 #[.int .i64 n, .int .i64 a, .int .i64 b] w fun e w' => e = .returned (.int .i64 0) ∧ Below w.heap.size w w' := by
  have h3 : ¬ n < a := by omega
  have h4 : ¬ b < n := by omega
  go_enter Tryz.func45, Tryz.ntmps45
  go_wp2_with fail
  (with_reducible refine (trWhen _ _).mono ?_)
  rintro e w1 ⟨rfl, hb1⟩
  obtain ⟨⟨dq, osq⟩, rfl⟩ := regrown_of_below hb1
  clear hb1
  go_wp2_with fail
  go_ret
  refine ⟨rfl, ?_⟩
  repeat (first | with_reducible assumption | with_reducible exact Below.refl _ _ | with_reducible refine Below.setCell ?_ (by first | omega | (simp [go_sem]; omega) | simp [go_sem]) _ | with_reducible refine Below.alloc ?_ (by first | omega | (simp [go_sem]; omega) | simp [go_sem]) _ | with_reducible refine below_grow ?_ (by first | omega | (simp [go_sem]; omega) | simp [go_sem]) _ _ | with_reducible refine Below.drew ?_)

/-- A valid oval. -/
structure Oval (S R W F T L : Int) : Prop where
  s : 1 ≤ S ∧ S ≤ 999999
  r : 1 ≤ R ∧ R ≤ 999999
  w : 1 ≤ W ∧ W ≤ 10000
  f : 0 ≤ F ∧ F ≤ W
  t : 0 ≤ T ∧ T ≤ W
  l : 1 ≤ L ∧ L ≤ 10
/-- The running radius of a lane. -/
def rad (R W F T lane : Int) : Int := if lane = 1 then R + F else R + (lane - 1) * W + T

theorem rad_in {S R W F T L : Int} (o : Oval S R W F T L) {lane : Int} (h : 1 ≤ lane ∧ lane ≤ L) : 1 ≤ rad R W F T lane ∧ rad R W F T lane ≤ 1099999 ∧ rad R W F T 1 ≤ rad R W F T lane + (W : Int) := by
  have h1 := o.r; have h2 := o.w; have h3 := o.f; have h4 := o.t; have h5 := o.l
  have hm : 0 ≤ (lane - 1) * W ∧ (lane - 1) * W ≤ 9 * 10000 := ⟨Int.mul_nonneg (by omega) (by omega), Int.mul_le_mul (by omega) (by omega) (by omega) (by omega)⟩
  unfold rad
  rw [if_pos (rfl : (1 : Int) = 1)]
  split <;> omega

theorem trRadius (S R W F T L : Int) (o : Oval S R W F T L) (lane : Int) (h : 1 ≤ lane ∧ lane ≤ L) (w : World) : Calls Tryz.prog 52 #[.agg #[.int .i64 S, .int .i64 R, .int .i64 W, .int .i64 F, .int .i64 T, .int .i64 L], .int .i64 lane] w fun e w' => e = .returned (.int .i64 (rad R W F T lane)) ∧ Below w.heap.size w w' := by
  have h1 := o.r; have h2 := o.w; have h3 := o.f; have h4 := o.t; have h5 := o.l
  unfold rad
  by_cases hl : lane = 1
  · subst hl
    rw [if_pos rfl]
    clear o
    go_enter Tryz.func52, Tryz.ntmps52
    go_wp2_with fail
    go_ret
    refine ⟨rfl, ?_⟩
    repeat (first | with_reducible assumption | with_reducible exact Below.refl _ _ | with_reducible refine Below.setCell ?_ (by first | omega | (simp [go_sem]; omega) | simp [go_sem]) _ | with_reducible refine Below.alloc ?_ (by first | omega | (simp [go_sem]; omega) | simp [go_sem]) _ | with_reducible refine below_grow ?_ (by first | omega | (simp [go_sem]; omega) | simp [go_sem]) _ _ | with_reducible refine Below.drew ?_)
  · rw [if_neg hl]
    have hm : 0 ≤ (lane - 1) * W ∧ (lane - 1) * W ≤ 9 * 10000 := ⟨Int.mul_nonneg (by omega) (by omega), Int.mul_le_mul (by omega) (by omega) (by omega) (by omega)⟩
    have hb1 : (lane == 1) = false := beq_eq_false_iff_ne.2 hl
    generalize hp : (lane - 1) * W = p at *
    have hw : IntKind.i64.wrap p = p := IntWalk.i64_in _ (by omega)
    clear o hl
    go_enter Tryz.func52, Tryz.ntmps52
    go_wp2_with fail
    go_ret
    refine ⟨rfl, ?_⟩
    repeat (first | with_reducible assumption | with_reducible exact Below.refl _ _ | with_reducible refine Below.setCell ?_ (by first | omega | (simp [go_sem]; omega) | simp [go_sem]) _ | with_reducible refine Below.alloc ?_ (by first | omega | (simp [go_sem]; omega) | simp [go_sem]) _ | with_reducible refine below_grow ?_ (by first | omega | (simp [go_sem]; omega) | simp [go_sem]) _ _ | with_reducible refine Below.drew ?_)

theorem info3 : ∃ i, Tryz.prog.info? 3 = some i ∧ i.size = 1 := by
  have h : (Tryz.prog.info? 3).map (·.size) = some 1 := by kernel_rfl
  cases hi : Tryz.prog.info? 3 with
  | none => rw [hi] at h; cases h
  | some i => rw [hi] at h; exact ⟨i, rfl, by simpa using h⟩
theorem eqLen (a b c d : Int) (w : World) : (binOp .eql 83 (.agg #[.int .i64 a, .int .i64 b]) (.agg #[.int .i64 c, .int .i64 d])).run Tryz.prog w = .ok (.bool (a == c && b == d)) w := by
  obtain ⟨i, hi, h1⟩ := info3
  rw [run_eql_struct, show (10000 : Nat) = 9998 + 1 + 1 from rfl, run_equalIn_array w (9998 + 1) (t := 83) (e := 3) (n := 2) (i := i) _ _ Tryz.underlying83 hi]
  rw [show Program.cellsOf Tryz.prog 3 = 1 from by simp only [Program.cellsOf, hi, Option.map_some, Option.getD_some, h1]]
  simp only [List.range_succ, List.range_zero, List.nil_append, List.cons_append, Op.eqItems]
  have hp : ∀ (x y : Int) (j : Nat) (v : Int), #[Value.int .i64 x, Value.int .i64 y][j]? = some (.int .i64 v) → (part 3 #[Value.int .i64 x, Value.int .i64 y] j).run Tryz.prog w = .ok (.int .i64 v) w := by
    intro x y j v h
    simp [part, Sem.run_bind, Tryz.isAgg3, h]
  have he : ∀ (x y : Int), (Op.equalIn (9998 + 1) 3 (.int .i64 x) (.int .i64 y)).run Tryz.prog w = .ok (x == y) w := fun x y => run_equalIn_int w _ 3 .i64 .i64 x y Tryz.underlying3
  cases ha : a == c <;> cases hb : b == d <;> simp [Sem.run_bind, hp _ _ 0 _ rfl, hp _ _ 1 _ rfl, he, ha, hb]
theorem trStraight (a b : Int) (w : World) : Calls Tryz.prog 90 #[.agg #[.int .i64 a, .int .i64 b]] w fun e w' => e = .returned (.bool (b == 0)) ∧ Below w.heap.size w w' := by
  have he := eqLen a b a 0
  go_enter Tryz.func90, Tryz.ntmps90
  go_wp2_with fail
  go_ret
  refine ⟨rfl, ?_⟩
  repeat (first | with_reducible assumption | with_reducible exact Below.refl _ _ | with_reducible refine Below.setCell ?_ (by first | omega | (simp [go_sem]; omega) | simp [go_sem]) _ | with_reducible refine Below.alloc ?_ (by first | omega | (simp [go_sem]; omega) | simp [go_sem]) _ | with_reducible refine below_grow ?_ (by first | omega | (simp [go_sem]; omega) | simp [go_sem]) _ _ | with_reducible refine Below.drew ?_)

end Go.Proofs.YtgdlehoglpiifaaGreatDoor
namespace Go.Proofs.YtgdlehoglpiifaaGreatDoor
open Go.RowKit Go.Sort

theorem wp_any {P : Program} {c : Code} {Q : Exit → Act → World → Prop} {a : Act} {W : World} (I : World → Prop) (h : I W) (k : ∀ w', I w' → Code.wp P c Q a w') : Code.wp P c Q a W := k W h

/-- A bound of pi. -/
def piq (n d : Int) : Rat := (n : Rat) / (d : Rat)
/-- A length with a bound of pi. -/
def len (a b : Int) (p : Rat) : Rat := (a : Rat) + (b : Rat) * p

theorem piq_nd (n d : Int) (hd : 0 < d) : (piq n d).num = qn n d ∧ ((piq n d).den : Int) = qd n d := by
  have := div_nd (n : Rat) (d : Rat) (by rw [(int_nd d).1]; exact hd)
  rw [(int_nd n).1, (int_nd n).2, (int_nd d).1, (int_nd d).2, Int.mul_one, Int.one_mul] at this
  exact this
theorem Bd.piq {n d : Int} (hn : 0 ≤ n) (hd : 0 < d) : Bd (piq n d) n d := by
  have h := piq_nd n d hd
  have h1 := qn_le (n := n) (d := d) (A := n) (by omega) (by omega) (by omega)
  have h2 := qd_le (n := n) (d := d) (by omega)
  exact ⟨by omega, by omega, by omega⟩

theorem rMake (n d : Int) (hn : R63 n) (hd : 1 ≤ d) (hdM : d ≤ 9223372036854775807) (w : World) : Calls Tryz.prog 88 #[.agg #[.int .i64 n, .slice none 0 0], .agg #[.int .i64 d, .slice none 0 0]] w fun e w' => e = .returned (.agg #[.int .i64 (Rat.num (piq n d)), .slice none 0 0, .int .i64 ((Rat.den (piq n d) : Nat) : Int), .slice none 0 0]) ∧ Below w.heap.size w w' := by
  have := fMake n d hn hd hdM w
  rwa [← (piq_nd n d (by omega)).1, ← (piq_nd n d (by omega)).2] at this

theorem trWith (a b n d : Int) (ha : -100000000 ≤ a ∧ a ≤ 100000000) (hb : -100000000 ≤ b ∧ b ≤ 100000000) (hn : 1 ≤ n ∧ n ≤ 333) (hd : 1 ≤ d ∧ d ≤ 106) (w : World) (p : Nat) (hp : p < w.heap.size) (h0 : w.cell? ⟨p, 0, none⟩ = some (.int .i64 a)) (h1 : w.cell? ⟨p, 1, none⟩ = some (.int .i64 b)) :
    Calls Tryz.prog 86 #[.int .i64 n, .int .i64 d, .pointer (some ⟨p, 0, none⟩)] w fun e w' => e = .returned (.agg #[.int .i64 (Rat.num (len a b (piq n d))), .slice none 0 0, .int .i64 ((Rat.den (len a b (piq n d)) : Nat) : Int), .slice none 0 0]) ∧ Below w.heap.size w w' := by
  have b1 := Bd.int a 100000000 ha
  have b2 := Bd.int b 100000000 hb
  have b3 : Bd (piq n d) 333 106 := (Bd.piq (by omega) (by omega)).mono (by omega) (by omega)
  have c1 := Lib.hid (fun w => rF a w)
  have c2 := Lib.hid (fun w => rF b w)
  have c3 := Lib.hid (fun w => nOf n w)
  have c4 := Lib.hid (fun w => nOf d w)
  have c5 := Lib.hid (fun w => rMake n d ⟨by omega, by omega⟩ (by omega) (by omega) w)
  have c6 := Lib.hid (fun w => rMul _ _ b2 b3 (by omega) w)
  have c7 := Lib.hid (fun w => rAdd _ _ b1 (b2.mul b3) (by omega) w)
  clear b1 b2 b3 ha hb hn hd
  unfold len
  generalize (a : Rat) + (b : Rat) * piq n d = r at *
  generalize (b : Rat) * piq n d = r1 at *
  generalize piq n d = r2 at *
  generalize (a : Rat) = r3 at *
  generalize (b : Rat) = r4 at *
  go_enter Tryz.func86, Tryz.ntmps86
  go_wp2_with fail
  refine wp_region_tail 13 (by kernel_rfl) (by kernel_rfl) (by kernel_rfl) ?_
  simp only [List.take_succ_cons, List.take_zero, List.drop_succ_cons, List.drop_zero, List.take_nil, List.drop_nil]
  repeat (quiet_step (first | with_reducible exact Calls.regrown_of (c1.out _) | with_reducible exact Calls.regrown_of (c2.out _) | with_reducible exact Calls.regrown_of (c3.out _) | with_reducible exact Calls.regrown_of (c4.out _) | with_reducible exact Calls.regrown_of (c5.out _) | with_reducible exact Calls.regrown_of (c6.out _) | with_reducible exact Calls.regrown_of (c7.out _)))
  refine wpQuiet_nil ?_
  intro w1 hw1
  obtain ⟨⟨dq, osq⟩, rfl⟩ := hw1
  clear c1 c2 c3 c4 c5 c6 c7
  go_wp2_with fail
  refine bodyPost_ret (v := .agg #[.int .i64 (Rat.num r), .slice none 0 0, .int .i64 ((Rat.den r : Nat) : Int), .slice none 0 0]) (by simp (maxDischargeDepth := 4) [results, Tryz.results86, go_sem]) rfl ⟨rfl, ?_⟩
  repeat (first | with_reducible assumption | with_reducible exact Below.refl _ _ | with_reducible refine Below.setCell ?_ (by first | omega | (simp [go_sem]; omega) | simp [go_sem]) _ | with_reducible refine Below.alloc ?_ (by first | omega | (simp [go_sem]; omega) | simp [go_sem]) _ | with_reducible refine below_grow ?_ (by first | omega | (simp [go_sem]; omega) | simp [go_sem]) _ _ | with_reducible refine Below.drew ?_)

/-- The two bounds of pi. -/
def piL : Rat := piq 333 106
def piH : Rat := piq 22 7

theorem len_zero (a : Int) (p : Rat) : len a 0 p = (a : Rat) := by simp [len, Rat.add_zero]

theorem trBounds (a b : Int) (ha : -100000000 ≤ a ∧ a ≤ 100000000) (hb : -100000000 ≤ b ∧ b ≤ 100000000) (w : World) : Calls Tryz.prog 49 #[.agg #[.int .i64 a, .int .i64 b]] w fun e w' => e = .returned (.tuple #[.agg #[.int .i64 (Rat.num (len a b piL)), .slice none 0 0, .int .i64 ((Rat.den (len a b piL) : Nat) : Int), .slice none 0 0], .agg #[.int .i64 (Rat.num (len a b piH)), .slice none 0 0, .int .i64 ((Rat.den (len a b piH) : Nat) : Int), .slice none 0 0]]) ∧ Below w.heap.size w w' := by
  have hmf : ∀ (fn : Fn) (first cap : Array Value) (w : World), (Instr.makeFunc fn first cap).run Tryz.prog w = .ok (.func fn first cap) w := fun _ _ _ _ => rfl
  have c1 := Lib.hid (fun w => trStraight a b w)
  by_cases h0 : b = 0
  · subst h0
    rw [len_zero, len_zero]
    have c2 := Lib.hid (fun w => rF a w)
    generalize (a : Rat) = r at *
    clear ha hb
    go_enter Tryz.func49, Tryz.ntmps49
    go_wp2_with fail
    (with_reducible refine (c1.out _).mono ?_)
    rintro e w1 ⟨rfl, hb1⟩
    obtain ⟨⟨dq, osq⟩, rfl⟩ := regrown_of_below hb1
    clear hb1
    clear c1
    go_wp2_with fail
    refine wp_region_tail 6 (by kernel_rfl) (by kernel_rfl) (by kernel_rfl) ?_
    simp only [List.take_succ_cons, List.take_zero, List.drop_succ_cons, List.drop_zero, List.take_nil, List.drop_nil]
    repeat (quiet_step (first | with_reducible exact Calls.regrown_of (c2.out _)))
    refine wpQuiet_nil ?_
    intro w1 hw1
    obtain ⟨⟨dq, osq⟩, rfl⟩ := hw1
    clear c2
    go_wp2_with fail
    refine bodyPost_ret (v := .tuple #[.agg #[.int .i64 (Rat.num r), .slice none 0 0, .int .i64 ((Rat.den r : Nat) : Int), .slice none 0 0], .agg #[.int .i64 (Rat.num r), .slice none 0 0, .int .i64 ((Rat.den r : Nat) : Int), .slice none 0 0]]) (by simp (maxDischargeDepth := 4) [results, Tryz.results49, go_sem]) rfl ⟨rfl, ?_⟩
    repeat (first | with_reducible assumption | with_reducible exact Below.refl _ _ | with_reducible refine Below.setCell ?_ (by first | omega | (simp [go_sem]; omega) | simp [go_sem]) _ | with_reducible refine Below.alloc ?_ (by first | omega | (simp [go_sem]; omega) | simp [go_sem]) _ | with_reducible refine below_grow ?_ (by first | omega | (simp [go_sem]; omega) | simp [go_sem]) _ _ | with_reducible refine Below.drew ?_)
  · have hbz : (b == 0) = false := beq_eq_false_iff_ne.2 h0
    rw [hbz] at c1
    have c2 := Lib.hid (trWith a b 333 106 ha hb (by omega) (by omega))
    have c3 := Lib.hid (trWith a b 22 7 ha hb (by omega) (by omega))
    unfold piL piH
    generalize len a b (piq 333 106) = r at *
    generalize len a b (piq 22 7) = r' at *
    clear ha hb
    go_enter Tryz.func49, Tryz.ntmps49
    go_wp2_with fail
    (with_reducible refine (c1.out _).mono ?_)
    rintro e w1 ⟨rfl, hb⟩
    have H1 : Below w.heap.size w w1 := by
      refine Below.trans ?_ (hb.mono ?_)
      · repeat (first | with_reducible assumption | with_reducible exact Below.refl _ _ | with_reducible refine Below.setCell ?_ (by first | omega | (simp [go_sem]; omega) | simp [go_sem]) _ | with_reducible refine Below.alloc ?_ (by first | omega | (simp [go_sem]; omega) | simp [go_sem]) _ | with_reducible refine below_grow ?_ (by first | omega | (simp [go_sem]; omega) | simp [go_sem]) _ _ | with_reducible refine Below.drew ?_)
      · first | omega | (simp [go_sem]; omega) | simp [go_sem]
    have S1 : w.heap.size ≤ w1.heap.size := H1.size
    have s1_0 : w.heap.size < w1.heap.size := Nat.lt_of_lt_of_le (by first | omega | (simp [go_sem]; omega) | simp [go_sem]) hb.size
    have k1_0 := fun o => hb.cell (p := ⟨w.heap.size, o, none⟩) (by first | omega | (simp [go_sem]; omega) | simp [go_sem])
    have f1_0 := fun o => hb.frozen (p := ⟨w.heap.size, o, none⟩) (by first | omega | (simp [go_sem]; omega) | simp [go_sem])
    have s1_1 : w.heap.size + 1 < w1.heap.size := Nat.lt_of_lt_of_le (by first | omega | (simp [go_sem]; omega) | simp [go_sem]) hb.size
    have k1_1 := fun o => hb.cell (p := ⟨w.heap.size + 1, o, none⟩) (by first | omega | (simp [go_sem]; omega) | simp [go_sem])
    have f1_1 := fun o => hb.frozen (p := ⟨w.heap.size + 1, o, none⟩) (by first | omega | (simp [go_sem]; omega) | simp [go_sem])
    have s1_2 : w.heap.size + 1 + 1 < w1.heap.size := Nat.lt_of_lt_of_le (by first | omega | (simp [go_sem]; omega) | simp [go_sem]) hb.size
    have k1_2 := fun o => hb.cell (p := ⟨w.heap.size + 1 + 1, o, none⟩) (by first | omega | (simp [go_sem]; omega) | simp [go_sem])
    have f1_2 := fun o => hb.frozen (p := ⟨w.heap.size + 1 + 1, o, none⟩) (by first | omega | (simp [go_sem]; omega) | simp [go_sem])
    clear hb
    clear c1
    have e0 : w1.cell? ⟨w.heap.size, 0, none⟩ = some (.int .i64 a) := by rw [k1_0]; simp (maxDischargeDepth := 4) [go_sem]
    have e1 : w1.cell? ⟨w.heap.size, 1, none⟩ = some (.int .i64 b) := by rw [k1_0]; simp (maxDischargeDepth := 4) [go_sem]
    go_wp2_with fail
    (with_reducible refine (c2.out w1 w.heap.size s1_0 e0 e1).mono ?_)
    rintro e w2 ⟨rfl, hb⟩
    have H2 : Below w.heap.size w w2 := by
      refine Below.trans ?_ (hb.mono ?_)
      · repeat (first | with_reducible assumption | with_reducible exact Below.refl _ _ | with_reducible refine Below.setCell ?_ (by first | omega | (simp [go_sem]; omega) | simp [go_sem]) _ | with_reducible refine Below.alloc ?_ (by first | omega | (simp [go_sem]; omega) | simp [go_sem]) _ | with_reducible refine below_grow ?_ (by first | omega | (simp [go_sem]; omega) | simp [go_sem]) _ _ | with_reducible refine Below.drew ?_)
      · first | omega | (simp [go_sem]; omega) | simp [go_sem]
    have S2 : w.heap.size ≤ w2.heap.size := H2.size
    have s2_0 : w.heap.size < w2.heap.size := Nat.lt_of_lt_of_le (by first | omega | (simp [go_sem]; omega) | simp [go_sem]) hb.size
    have k2_0 := fun o => hb.cell (p := ⟨w.heap.size, o, none⟩) (by first | omega | (simp [go_sem]; omega) | simp [go_sem])
    have f2_0 := fun o => hb.frozen (p := ⟨w.heap.size, o, none⟩) (by first | omega | (simp [go_sem]; omega) | simp [go_sem])
    have s2_1 : w.heap.size + 1 < w2.heap.size := Nat.lt_of_lt_of_le (by first | omega | (simp [go_sem]; omega) | simp [go_sem]) hb.size
    have k2_1 := fun o => hb.cell (p := ⟨w.heap.size + 1, o, none⟩) (by first | omega | (simp [go_sem]; omega) | simp [go_sem])
    have f2_1 := fun o => hb.frozen (p := ⟨w.heap.size + 1, o, none⟩) (by first | omega | (simp [go_sem]; omega) | simp [go_sem])
    have s2_2 : w.heap.size + 1 + 1 < w2.heap.size := Nat.lt_of_lt_of_le (by first | omega | (simp [go_sem]; omega) | simp [go_sem]) hb.size
    have k2_2 := fun o => hb.cell (p := ⟨w.heap.size + 1 + 1, o, none⟩) (by first | omega | (simp [go_sem]; omega) | simp [go_sem])
    have f2_2 := fun o => hb.frozen (p := ⟨w.heap.size + 1 + 1, o, none⟩) (by first | omega | (simp [go_sem]; omega) | simp [go_sem])
    clear hb
    clear c2
    have e2 : w2.cell? ⟨w.heap.size, 0, none⟩ = some (.int .i64 a) := by rw [k2_0]; exact e0
    have e3 : w2.cell? ⟨w.heap.size, 1, none⟩ = some (.int .i64 b) := by rw [k2_0]; exact e1
    go_wp2_with fail
    (with_reducible refine (c3.out w2 w.heap.size s2_0 e2 e3).mono ?_)
    rintro e w3 ⟨rfl, hb⟩
    have H3 : Below w.heap.size w w3 := by
      refine Below.trans ?_ (hb.mono ?_)
      · repeat (first | with_reducible assumption | with_reducible exact Below.refl _ _ | with_reducible refine Below.setCell ?_ (by first | omega | (simp [go_sem]; omega) | simp [go_sem]) _ | with_reducible refine Below.alloc ?_ (by first | omega | (simp [go_sem]; omega) | simp [go_sem]) _ | with_reducible refine below_grow ?_ (by first | omega | (simp [go_sem]; omega) | simp [go_sem]) _ _ | with_reducible refine Below.drew ?_)
      · first | omega | (simp [go_sem]; omega) | simp [go_sem]
    have S3 : w.heap.size ≤ w3.heap.size := H3.size
    have s3_0 : w.heap.size < w3.heap.size := Nat.lt_of_lt_of_le (by first | omega | (simp [go_sem]; omega) | simp [go_sem]) hb.size
    have k3_0 := fun o => hb.cell (p := ⟨w.heap.size, o, none⟩) (by first | omega | (simp [go_sem]; omega) | simp [go_sem])
    have f3_0 := fun o => hb.frozen (p := ⟨w.heap.size, o, none⟩) (by first | omega | (simp [go_sem]; omega) | simp [go_sem])
    have s3_1 : w.heap.size + 1 < w3.heap.size := Nat.lt_of_lt_of_le (by first | omega | (simp [go_sem]; omega) | simp [go_sem]) hb.size
    have k3_1 := fun o => hb.cell (p := ⟨w.heap.size + 1, o, none⟩) (by first | omega | (simp [go_sem]; omega) | simp [go_sem])
    have f3_1 := fun o => hb.frozen (p := ⟨w.heap.size + 1, o, none⟩) (by first | omega | (simp [go_sem]; omega) | simp [go_sem])
    have s3_2 : w.heap.size + 1 + 1 < w3.heap.size := Nat.lt_of_lt_of_le (by first | omega | (simp [go_sem]; omega) | simp [go_sem]) hb.size
    have k3_2 := fun o => hb.cell (p := ⟨w.heap.size + 1 + 1, o, none⟩) (by first | omega | (simp [go_sem]; omega) | simp [go_sem])
    have f3_2 := fun o => hb.frozen (p := ⟨w.heap.size + 1 + 1, o, none⟩) (by first | omega | (simp [go_sem]; omega) | simp [go_sem])
    clear hb
    clear c3
    go_wp2_with fail
    refine bodyPost_ret (v := .tuple #[.agg #[.int .i64 (Rat.num r), .slice none 0 0, .int .i64 ((Rat.den r : Nat) : Int), .slice none 0 0], .agg #[.int .i64 (Rat.num r'), .slice none 0 0, .int .i64 ((Rat.den r' : Nat) : Int), .slice none 0 0]]) (by simp (maxDischargeDepth := 4) [*, results, Tryz.results49, go_sem]) rfl ⟨rfl, ?_⟩
    repeat (first | with_reducible assumption | with_reducible exact Below.refl _ _ | with_reducible refine Below.setCell ?_ (by first | omega | (simp [go_sem]; omega) | simp [go_sem]) _ | with_reducible refine Below.alloc ?_ (by first | omega | (simp [go_sem]; omega) | simp [go_sem]) _ | with_reducible refine below_grow ?_ (by first | omega | (simp [go_sem]; omega) | simp [go_sem]) _ _ | with_reducible refine Below.drew ?_)

/-- The lesser and the greater one of two numbers. -/
def rmin (r s : Rat) : Rat := if s < r then s else r
def rmax (r s : Rat) : Rat := if s < r then r else s
theorem rcmp_pos {r s : Rat} (h : s < r) : rcmp r s = 1 := by unfold rcmp; rw [if_neg (Rat.not_lt.2 (Rat.le_of_lt h)), if_pos h]
theorem rcmp_not {r s : Rat} (h : ¬ s < r) : ¬ 0 < rcmp r s := by unfold rcmp; rw [if_neg h]; split <;> omega
theorem Bd.rmin {r s : Rat} {A B : Int} (h : Bd r A B) (h' : Bd s A B) : Bd (rmin r s) A B := by unfold Proofs.YtgdlehoglpiifaaGreatDoor.rmin; split <;> assumption
theorem Bd.rmax {r s : Rat} {A B : Int} (h : Bd r A B) (h' : Bd s A B) : Bd (rmax r s) A B := by unfold Proofs.YtgdlehoglpiifaaGreatDoor.rmax; split <;> assumption

theorem trBetween (r s : Rat) {A B : Int} (h : Bd r A B) (h' : Bd s A B) (hs : A ≤ 9223372036854775807 ∧ B ≤ 9223372036854775807 ∧ A * B ≤ 9223372036854775807) {w0 : World} (hG : Glob w0) (w : World) (hb : Below w0.heap.size w0 w) : Calls Tryz.prog 50 #[.agg #[.int .i64 (Rat.num r), .slice none 0 0, .int .i64 ((Rat.den r : Nat) : Int), .slice none 0 0], .agg #[.int .i64 (Rat.num s), .slice none 0 0, .int .i64 ((Rat.den s : Nat) : Int), .slice none 0 0]] w fun e w' => e = .returned (.agg #[.string ⟨(rt (rmin r s)).toArray⟩, .string ⟨(rt (rmax r s)).toArray⟩]) ∧ Below w.heap.size w w' := by
  replace hG := hG.keep hb
  clear hb
  have c1 := Lib.hid (fun w => rCmp r s h h' ⟨hs.1, hs.2.1, hs.1, hs.2.1, hs.2.2, hs.2.2⟩ w)
  have c2 := Lib.hid (fun (w0 : World) (hG : Glob w0) (w : World) hb => rText r h ⟨hs.1, hs.2.1⟩ hG w hb)
  have c3 := Lib.hid (fun (w0 : World) (hG : Glob w0) (w : World) hb => rText s h' ⟨hs.1, hs.2.1⟩ hG w hb)
  clear h h' hs
  unfold rmin rmax
  by_cases hl : s < r
  · rw [rcmp_pos hl] at c1
    rw [if_pos hl, if_pos hl]
    clear hl
    generalize rt r = lr at *
    generalize rt s = ls at *
    go_enter Tryz.func50, Tryz.ntmps50
    go_wp2_with fail
    (with_reducible refine (c1.out _).mono ?_)
    rintro e w1 ⟨rfl, hb⟩
    have H1 : Below w.heap.size w w1 := by
      refine Below.trans ?_ (hb.mono ?_)
      · repeat (first | with_reducible assumption | with_reducible exact Below.refl _ _ | with_reducible refine Below.setCell ?_ (by first | omega | (simp [go_sem]; omega) | simp [go_sem]) _ | with_reducible refine Below.alloc ?_ (by first | omega | (simp [go_sem]; omega) | simp [go_sem]) _ | with_reducible refine below_grow ?_ (by first | omega | (simp [go_sem]; omega) | simp [go_sem]) _ _ | with_reducible refine Below.drew ?_)
      · first | omega | (simp [go_sem]; omega) | simp [go_sem]
    have S1 : w.heap.size ≤ w1.heap.size := H1.size
    have s1_0 : w.heap.size < w1.heap.size := Nat.lt_of_lt_of_le (by first | omega | (simp [go_sem]; omega) | simp [go_sem]) hb.size
    have k1_0 := fun o => hb.cell (p := ⟨w.heap.size, o, none⟩) (by first | omega | (simp [go_sem]; omega) | simp [go_sem])
    have f1_0 := fun o => hb.frozen (p := ⟨w.heap.size, o, none⟩) (by first | omega | (simp [go_sem]; omega) | simp [go_sem])
    have s1_1 : w.heap.size + 1 < w1.heap.size := Nat.lt_of_lt_of_le (by first | omega | (simp [go_sem]; omega) | simp [go_sem]) hb.size
    have k1_1 := fun o => hb.cell (p := ⟨w.heap.size + 1, o, none⟩) (by first | omega | (simp [go_sem]; omega) | simp [go_sem])
    have f1_1 := fun o => hb.frozen (p := ⟨w.heap.size + 1, o, none⟩) (by first | omega | (simp [go_sem]; omega) | simp [go_sem])
    have s1_2 : w.heap.size + 1 + 1 < w1.heap.size := Nat.lt_of_lt_of_le (by first | omega | (simp [go_sem]; omega) | simp [go_sem]) hb.size
    have k1_2 := fun o => hb.cell (p := ⟨w.heap.size + 1 + 1, o, none⟩) (by first | omega | (simp [go_sem]; omega) | simp [go_sem])
    have f1_2 := fun o => hb.frozen (p := ⟨w.heap.size + 1 + 1, o, none⟩) (by first | omega | (simp [go_sem]; omega) | simp [go_sem])
    clear hb
    clear c1
    go_wp2_with fail
    refine wp_any (fun W' => Below w.heap.size w W' ∧ (w.heap.size < W'.heap.size ∧ (∀ o, W'.frozen? ⟨w.heap.size, o, none⟩ = false) ∧ W'.cell? ⟨w.heap.size, 0, none⟩ = some (.int .i64 (Rat.num s)) ∧ W'.cell? ⟨w.heap.size, 1, none⟩ = some (.slice none 0 0) ∧ W'.cell? ⟨w.heap.size, 2, none⟩ = some (.int .i64 ((Rat.den s : Nat) : Int)) ∧ W'.cell? ⟨w.heap.size, 3, none⟩ = some (.slice none 0 0)) ∧ (w.heap.size + 1 < W'.heap.size ∧ (∀ o, W'.frozen? ⟨w.heap.size + 1, o, none⟩ = false) ∧ W'.cell? ⟨w.heap.size + 1, 0, none⟩ = some (.int .i64 (Rat.num r)) ∧ W'.cell? ⟨w.heap.size + 1, 1, none⟩ = some (.slice none 0 0) ∧ W'.cell? ⟨w.heap.size + 1, 2, none⟩ = some (.int .i64 ((Rat.den r : Nat) : Int)) ∧ W'.cell? ⟨w.heap.size + 1, 3, none⟩ = some (.slice none 0 0)) ∧ (w.heap.size + 1 + 1 < W'.heap.size ∧ (∀ o, W'.frozen? ⟨w.heap.size + 1 + 1, o, none⟩ = false) ∧ W'.cell? ⟨w.heap.size + 1 + 1, 0, none⟩ = some (.string ⟨#[]⟩) ∧ W'.cell? ⟨w.heap.size + 1 + 1, 1, none⟩ = some (.string ⟨#[]⟩))) ?_ ?_
    · refine ⟨?_, ⟨?_, ?_, ?_, ?_, ?_, ?_⟩, ⟨?_, ?_, ?_, ?_, ?_, ?_⟩, ⟨?_, ?_, ?_, ?_⟩⟩
      · repeat (first | with_reducible assumption | with_reducible exact Below.refl _ _ | with_reducible refine Below.setCell ?_ (by first | omega | (simp [go_sem]; omega) | simp [go_sem]) _ | with_reducible refine Below.alloc ?_ (by first | omega | (simp [go_sem]; omega) | simp [go_sem]) _ | with_reducible refine below_grow ?_ (by first | omega | (simp [go_sem]; omega) | simp [go_sem]) _ _ | with_reducible refine Below.drew ?_)
      all_goals first | omega | (simp [go_sem]; omega) | (simp (maxDischargeDepth := 6) [*, go_sem]; done)
    rintro w2 ⟨H2, ⟨s2_0, f2_0, k2_0_0, k2_0_1, k2_0_2, k2_0_3⟩, ⟨s2_1, f2_1, k2_1_0, k2_1_1, k2_1_2, k2_1_3⟩, ⟨s2_2, f2_2, k2_2_0, k2_2_1⟩⟩
    have S2 : w.heap.size ≤ w2.heap.size := H2.size
    refine wp_region_tail 5 (by kernel_rfl) (by kernel_rfl) (by kernel_rfl) ?_
    simp only [List.take_succ_cons, List.take_zero, List.drop_succ_cons, List.drop_zero, List.take_nil, List.drop_nil]
    repeat (quiet_step (first | ((with_reducible refine Calls.regrown_of (c2.out _ hG _ ?_)); repeat (first | with_reducible assumption | with_reducible exact Below.refl _ _ | with_reducible refine Below.setCell ?_ (by first | omega | (simp [go_sem]; omega) | simp [go_sem]) _ | with_reducible refine Below.alloc ?_ (by first | omega | (simp [go_sem]; omega) | simp [go_sem]) _ | with_reducible refine below_grow ?_ (by first | omega | (simp [go_sem]; omega) | simp [go_sem]) _ _ | with_reducible refine Below.drew ?_)) | ((with_reducible refine Calls.regrown_of (c3.out _ hG _ ?_)); repeat (first | with_reducible assumption | with_reducible exact Below.refl _ _ | with_reducible refine Below.setCell ?_ (by first | omega | (simp [go_sem]; omega) | simp [go_sem]) _ | with_reducible refine Below.alloc ?_ (by first | omega | (simp [go_sem]; omega) | simp [go_sem]) _ | with_reducible refine below_grow ?_ (by first | omega | (simp [go_sem]; omega) | simp [go_sem]) _ _ | with_reducible refine Below.drew ?_))))
    refine wpQuiet_nil ?_
    intro w1 hw1
    obtain ⟨⟨dq, osq⟩, rfl⟩ := hw1
    clear c2 c3
    go_wp2_with fail
    refine bodyPost_ret (v := .agg #[.string ⟨(ls).toArray⟩, .string ⟨(lr).toArray⟩]) (by simp (maxDischargeDepth := 4) [*, results, Tryz.results50, go_sem]) rfl ⟨rfl, ?_⟩
    repeat (first | with_reducible assumption | with_reducible exact Below.refl _ _ | with_reducible refine Below.setCell ?_ (by first | omega | (simp [go_sem]; omega) | simp [go_sem]) _ | with_reducible refine Below.alloc ?_ (by first | omega | (simp [go_sem]; omega) | simp [go_sem]) _ | with_reducible refine below_grow ?_ (by first | omega | (simp [go_sem]; omega) | simp [go_sem]) _ _ | with_reducible refine Below.drew ?_)
  · have hc := rcmp_not hl
    rw [if_neg hl, if_neg hl]
    clear hl
    generalize rcmp r s = cc at *
    generalize rt r = lr at *
    generalize rt s = ls at *
    go_enter Tryz.func50, Tryz.ntmps50
    go_wp2_with fail
    (with_reducible refine (c1.out _).mono ?_)
    rintro e w1 ⟨rfl, hb⟩
    have H1 : Below w.heap.size w w1 := by
      refine Below.trans ?_ (hb.mono ?_)
      · repeat (first | with_reducible assumption | with_reducible exact Below.refl _ _ | with_reducible refine Below.setCell ?_ (by first | omega | (simp [go_sem]; omega) | simp [go_sem]) _ | with_reducible refine Below.alloc ?_ (by first | omega | (simp [go_sem]; omega) | simp [go_sem]) _ | with_reducible refine below_grow ?_ (by first | omega | (simp [go_sem]; omega) | simp [go_sem]) _ _ | with_reducible refine Below.drew ?_)
      · first | omega | (simp [go_sem]; omega) | simp [go_sem]
    have S1 : w.heap.size ≤ w1.heap.size := H1.size
    have s1_0 : w.heap.size < w1.heap.size := Nat.lt_of_lt_of_le (by first | omega | (simp [go_sem]; omega) | simp [go_sem]) hb.size
    have k1_0 := fun o => hb.cell (p := ⟨w.heap.size, o, none⟩) (by first | omega | (simp [go_sem]; omega) | simp [go_sem])
    have f1_0 := fun o => hb.frozen (p := ⟨w.heap.size, o, none⟩) (by first | omega | (simp [go_sem]; omega) | simp [go_sem])
    have s1_1 : w.heap.size + 1 < w1.heap.size := Nat.lt_of_lt_of_le (by first | omega | (simp [go_sem]; omega) | simp [go_sem]) hb.size
    have k1_1 := fun o => hb.cell (p := ⟨w.heap.size + 1, o, none⟩) (by first | omega | (simp [go_sem]; omega) | simp [go_sem])
    have f1_1 := fun o => hb.frozen (p := ⟨w.heap.size + 1, o, none⟩) (by first | omega | (simp [go_sem]; omega) | simp [go_sem])
    have s1_2 : w.heap.size + 1 + 1 < w1.heap.size := Nat.lt_of_lt_of_le (by first | omega | (simp [go_sem]; omega) | simp [go_sem]) hb.size
    have k1_2 := fun o => hb.cell (p := ⟨w.heap.size + 1 + 1, o, none⟩) (by first | omega | (simp [go_sem]; omega) | simp [go_sem])
    have f1_2 := fun o => hb.frozen (p := ⟨w.heap.size + 1 + 1, o, none⟩) (by first | omega | (simp [go_sem]; omega) | simp [go_sem])
    clear hb
    clear c1
    go_wp2_with fail
    refine wp_any (fun W' => Below w.heap.size w W' ∧ (w.heap.size < W'.heap.size ∧ (∀ o, W'.frozen? ⟨w.heap.size, o, none⟩ = false) ∧ W'.cell? ⟨w.heap.size, 0, none⟩ = some (.int .i64 (Rat.num r)) ∧ W'.cell? ⟨w.heap.size, 1, none⟩ = some (.slice none 0 0) ∧ W'.cell? ⟨w.heap.size, 2, none⟩ = some (.int .i64 ((Rat.den r : Nat) : Int)) ∧ W'.cell? ⟨w.heap.size, 3, none⟩ = some (.slice none 0 0)) ∧ (w.heap.size + 1 < W'.heap.size ∧ (∀ o, W'.frozen? ⟨w.heap.size + 1, o, none⟩ = false) ∧ W'.cell? ⟨w.heap.size + 1, 0, none⟩ = some (.int .i64 (Rat.num s)) ∧ W'.cell? ⟨w.heap.size + 1, 1, none⟩ = some (.slice none 0 0) ∧ W'.cell? ⟨w.heap.size + 1, 2, none⟩ = some (.int .i64 ((Rat.den s : Nat) : Int)) ∧ W'.cell? ⟨w.heap.size + 1, 3, none⟩ = some (.slice none 0 0)) ∧ (w.heap.size + 1 + 1 < W'.heap.size ∧ (∀ o, W'.frozen? ⟨w.heap.size + 1 + 1, o, none⟩ = false) ∧ W'.cell? ⟨w.heap.size + 1 + 1, 0, none⟩ = some (.string ⟨#[]⟩) ∧ W'.cell? ⟨w.heap.size + 1 + 1, 1, none⟩ = some (.string ⟨#[]⟩))) ?_ ?_
    · refine ⟨?_, ⟨?_, ?_, ?_, ?_, ?_, ?_⟩, ⟨?_, ?_, ?_, ?_, ?_, ?_⟩, ⟨?_, ?_, ?_, ?_⟩⟩
      · repeat (first | with_reducible assumption | with_reducible exact Below.refl _ _ | with_reducible refine Below.setCell ?_ (by first | omega | (simp [go_sem]; omega) | simp [go_sem]) _ | with_reducible refine Below.alloc ?_ (by first | omega | (simp [go_sem]; omega) | simp [go_sem]) _ | with_reducible refine below_grow ?_ (by first | omega | (simp [go_sem]; omega) | simp [go_sem]) _ _ | with_reducible refine Below.drew ?_)
      all_goals first | omega | (simp [go_sem]; omega) | (simp (maxDischargeDepth := 6) [*, go_sem]; done)
    rintro w2 ⟨H2, ⟨s2_0, f2_0, k2_0_0, k2_0_1, k2_0_2, k2_0_3⟩, ⟨s2_1, f2_1, k2_1_0, k2_1_1, k2_1_2, k2_1_3⟩, ⟨s2_2, f2_2, k2_2_0, k2_2_1⟩⟩
    have S2 : w.heap.size ≤ w2.heap.size := H2.size
    refine wp_region_tail 5 (by kernel_rfl) (by kernel_rfl) (by kernel_rfl) ?_
    simp only [List.take_succ_cons, List.take_zero, List.drop_succ_cons, List.drop_zero, List.take_nil, List.drop_nil]
    repeat (quiet_step (first | ((with_reducible refine Calls.regrown_of (c2.out _ hG _ ?_)); repeat (first | with_reducible assumption | with_reducible exact Below.refl _ _ | with_reducible refine Below.setCell ?_ (by first | omega | (simp [go_sem]; omega) | simp [go_sem]) _ | with_reducible refine Below.alloc ?_ (by first | omega | (simp [go_sem]; omega) | simp [go_sem]) _ | with_reducible refine below_grow ?_ (by first | omega | (simp [go_sem]; omega) | simp [go_sem]) _ _ | with_reducible refine Below.drew ?_)) | ((with_reducible refine Calls.regrown_of (c3.out _ hG _ ?_)); repeat (first | with_reducible assumption | with_reducible exact Below.refl _ _ | with_reducible refine Below.setCell ?_ (by first | omega | (simp [go_sem]; omega) | simp [go_sem]) _ | with_reducible refine Below.alloc ?_ (by first | omega | (simp [go_sem]; omega) | simp [go_sem]) _ | with_reducible refine below_grow ?_ (by first | omega | (simp [go_sem]; omega) | simp [go_sem]) _ _ | with_reducible refine Below.drew ?_))))
    refine wpQuiet_nil ?_
    intro w1 hw1
    obtain ⟨⟨dq, osq⟩, rfl⟩ := hw1
    clear c2 c3
    go_wp2_with fail
    refine bodyPost_ret (v := .agg #[.string ⟨(lr).toArray⟩, .string ⟨(ls).toArray⟩]) (by simp (maxDischargeDepth := 4) [*, results, Tryz.results50, go_sem]) rfl ⟨rfl, ?_⟩
    repeat (first | with_reducible assumption | with_reducible exact Below.refl _ _ | with_reducible refine Below.setCell ?_ (by first | omega | (simp [go_sem]; omega) | simp [go_sem]) _ | with_reducible refine Below.alloc ?_ (by first | omega | (simp [go_sem]; omega) | simp [go_sem]) _ | with_reducible refine below_grow ?_ (by first | omega | (simp [go_sem]; omega) | simp [go_sem]) _ _ | with_reducible refine Below.drew ?_)
end Go.Proofs.YtgdlehoglpiifaaGreatDoor
namespace Go.Proofs.YtgdlehoglpiifaaGreatDoor
open Go.RowKit Go.Sort

theorem Bd.piL : Bd piL 333 106 := Bd.piq (by omega) (by omega)
theorem Bd.piH : Bd piH 333 106 := (Bd.piq (n := 22) (d := 7) (by omega) (by omega)).mono (by omega) (by omega)
theorem Bd.len {a b A B : Int} (ha : -A ≤ a ∧ a ≤ A) (hb : -B ≤ b ∧ b ≤ B) {p : Rat} (h : Bd p 333 106) : Bd (len a b p) (A * 106 + B * 333) 106 :=
  ((Bd.int a A ha).add ((Bd.int b B hb).mul h)).mono (by omega) (by omega)

/-- The texts of both ends of the span of a length. -/
def spanLow (a b : Int) : Rat := rmin (len a b piL) (len a b piH)
def spanHigh (a b : Int) : Rat := rmax (len a b piL) (len a b piH)

theorem trSpan (a b : Int) (ha : -100000000 ≤ a ∧ a ≤ 100000000) (hb : -100000000 ≤ b ∧ b ≤ 100000000) {w0 : World} (hG : Glob w0) (w : World) (hb : Below w0.heap.size w0 w) : Calls Tryz.prog 60 #[.agg #[.int .i64 a, .int .i64 b]] w fun e w' => e = .returned (.agg #[.string ⟨(rt (spanLow a b)).toArray⟩, .string ⟨(rt (spanHigh a b)).toArray⟩]) ∧ Below w.heap.size w w' := by
  replace hG := hG.keep hb
  clear hb
  have c1 := Lib.hid (fun w => trBounds a b ha hb w)
  have c2 := Lib.hid (fun (w0 : World) (hG : Glob w0) (w : World) hb' => trBetween _ _ (Bd.len ha hb Bd.piL) (Bd.len ha hb Bd.piH) (by omega) hG w hb')
  unfold spanLow spanHigh
  clear ha hb
  generalize rt (rmin (len a b piL) (len a b piH)) = lo at *
  generalize rt (rmax (len a b piL) (len a b piH)) = hi at *
  generalize len a b piL = r at *
  generalize len a b piH = s at *
  go_enter Tryz.func60, Tryz.ntmps60
  go_wp2_with fail
  (with_reducible refine (c1.out _).mono ?_)
  rintro e w1 ⟨rfl, hb⟩
  have H1 : Below w.heap.size w w1 := by
    refine Below.trans ?_ (hb.mono ?_)
    · repeat (first | with_reducible assumption | with_reducible exact Below.refl _ _ | with_reducible refine Below.setCell ?_ (by first | omega | (simp [go_sem]; omega) | simp [go_sem]) _ | with_reducible refine Below.alloc ?_ (by first | omega | (simp [go_sem]; omega) | simp [go_sem]) _ | with_reducible refine below_grow ?_ (by first | omega | (simp [go_sem]; omega) | simp [go_sem]) _ _ | with_reducible refine Below.drew ?_)
    · first | omega | (simp [go_sem]; omega) | simp [go_sem]
  have S1 : w.heap.size ≤ w1.heap.size := H1.size
  have s1_0 : w.heap.size < w1.heap.size := Nat.lt_of_lt_of_le (by first | omega | (simp [go_sem]; omega) | simp [go_sem]) hb.size
  have k1_0 := fun o => hb.cell (p := ⟨w.heap.size, o, none⟩) (by first | omega | (simp [go_sem]; omega) | simp [go_sem])
  have f1_0 := fun o => hb.frozen (p := ⟨w.heap.size, o, none⟩) (by first | omega | (simp [go_sem]; omega) | simp [go_sem])
  have s1_1 : w.heap.size + 1 < w1.heap.size := Nat.lt_of_lt_of_le (by first | omega | (simp [go_sem]; omega) | simp [go_sem]) hb.size
  have k1_1 := fun o => hb.cell (p := ⟨w.heap.size + 1, o, none⟩) (by first | omega | (simp [go_sem]; omega) | simp [go_sem])
  have f1_1 := fun o => hb.frozen (p := ⟨w.heap.size + 1, o, none⟩) (by first | omega | (simp [go_sem]; omega) | simp [go_sem])
  clear hb
  clear c1
  go_wp2_with fail
  (with_reducible refine (c2.out _ hG _ ?_).mono ?_)
  · repeat (first | with_reducible assumption | with_reducible exact Below.refl _ _ | with_reducible refine Below.setCell ?_ (by first | omega | (simp [go_sem]; omega) | simp [go_sem]) _ | with_reducible refine Below.alloc ?_ (by first | omega | (simp [go_sem]; omega) | simp [go_sem]) _ | with_reducible refine below_grow ?_ (by first | omega | (simp [go_sem]; omega) | simp [go_sem]) _ _ | with_reducible refine Below.drew ?_)
  rintro e w2 ⟨rfl, hb⟩
  have H2 : Below w.heap.size w w2 := by
    refine Below.trans ?_ (hb.mono ?_)
    · repeat (first | with_reducible assumption | with_reducible exact Below.refl _ _ | with_reducible refine Below.setCell ?_ (by first | omega | (simp [go_sem]; omega) | simp [go_sem]) _ | with_reducible refine Below.alloc ?_ (by first | omega | (simp [go_sem]; omega) | simp [go_sem]) _ | with_reducible refine below_grow ?_ (by first | omega | (simp [go_sem]; omega) | simp [go_sem]) _ _ | with_reducible refine Below.drew ?_)
    · first | omega | (simp [go_sem]; omega) | simp [go_sem]
  have S2 : w.heap.size ≤ w2.heap.size := H2.size
  have s2_0 : w.heap.size < w2.heap.size := Nat.lt_of_lt_of_le (by first | omega | (simp [go_sem]; omega) | simp [go_sem]) hb.size
  have k2_0 := fun o => hb.cell (p := ⟨w.heap.size, o, none⟩) (by first | omega | (simp [go_sem]; omega) | simp [go_sem])
  have f2_0 := fun o => hb.frozen (p := ⟨w.heap.size, o, none⟩) (by first | omega | (simp [go_sem]; omega) | simp [go_sem])
  have s2_1 : w.heap.size + 1 < w2.heap.size := Nat.lt_of_lt_of_le (by first | omega | (simp [go_sem]; omega) | simp [go_sem]) hb.size
  have k2_1 := fun o => hb.cell (p := ⟨w.heap.size + 1, o, none⟩) (by first | omega | (simp [go_sem]; omega) | simp [go_sem])
  have f2_1 := fun o => hb.frozen (p := ⟨w.heap.size + 1, o, none⟩) (by first | omega | (simp [go_sem]; omega) | simp [go_sem])
  clear hb
  clear c2
  go_wp2_with fail
  refine bodyPost_ret (v := .agg #[.string ⟨(lo).toArray⟩, .string ⟨(hi).toArray⟩]) (by simp (maxDischargeDepth := 4) [*, results, Tryz.results60, go_sem]) rfl ⟨rfl, ?_⟩
  repeat (first | with_reducible assumption | with_reducible exact Below.refl _ _ | with_reducible refine Below.setCell ?_ (by first | omega | (simp [go_sem]; omega) | simp [go_sem]) _ | with_reducible refine Below.alloc ?_ (by first | omega | (simp [go_sem]; omega) | simp [go_sem]) _ | with_reducible refine below_grow ?_ (by first | omega | (simp [go_sem]; omega) | simp [go_sem]) _ _ | with_reducible refine Below.drew ?_)

theorem trCheckOval (S R W F T L : Int) (o : Oval S R W F T L) (w : World) : Calls Tryz.prog 44 #[.agg #[.int .i64 S, .int .i64 R, .int .i64 W, .int .i64 F, .int .i64 T, .int .i64 L]] w fun e w' => e = .returned (.int .i64 0) ∧ Below w.heap.size w w' := by
  have h1 := o.s; have h2 := o.r; have h3 := o.w; have h4 := o.f; have h5 := o.t; have h6 := o.l
  have c1 := Lib.hid (fun w => trWithin S 1 999999 (by omega) (by omega) w)
  have c2 := Lib.hid (fun w => trWithin R 1 999999 (by omega) (by omega) w)
  have c3 := Lib.hid (fun w => trWithin W 1 10000 (by omega) (by omega) w)
  have c4 := Lib.hid (fun w => trWithin F 0 W (by omega) (by omega) w)
  have c5 := Lib.hid (fun w => trWithin T 0 W (by omega) (by omega) w)
  have c6 := Lib.hid (fun w => trWhen 17 w)
  have h7 : decide (L < 1) = false := decide_eq_false (by omega)
  have h8 : decide (10 < L) = false := decide_eq_false (by omega)
  clear o h1 h2 h3 h4 h5 h6
  go_enter Tryz.func44, Tryz.ntmps44
  go_wp2_with fail
  refine wp_region_tail 28 (by kernel_rfl) (by kernel_rfl) (by kernel_rfl) ?_
  simp only [List.take_succ_cons, List.take_zero, List.drop_succ_cons, List.drop_zero, List.take_nil, List.drop_nil]
  repeat (quiet_step (first | with_reducible exact Calls.regrown_of (c1.out _) | with_reducible exact Calls.regrown_of (c2.out _) | with_reducible exact Calls.regrown_of (c3.out _) | with_reducible exact Calls.regrown_of (c4.out _) | with_reducible exact Calls.regrown_of (c5.out _) | with_reducible exact Calls.regrown_of (c6.out _)))
  refine wpQuiet_nil ?_
  intro w1 hw
  have hb := below_of_regrown hw
  clear hw
  have H1 : Below w.heap.size w w1 := by
    refine Below.trans ?_ (hb.mono ?_)
    · repeat (first | with_reducible assumption | with_reducible exact Below.refl _ _ | with_reducible refine Below.setCell ?_ (by first | omega | (simp [go_sem]; omega) | simp [go_sem]) _ | with_reducible refine Below.alloc ?_ (by first | omega | (simp [go_sem]; omega) | simp [go_sem]) _ | with_reducible refine below_grow ?_ (by first | omega | (simp [go_sem]; omega) | simp [go_sem]) _ _ | with_reducible refine Below.drew ?_)
    · first | omega | (simp [go_sem]; omega) | simp [go_sem]
  have S1 : w.heap.size ≤ w1.heap.size := H1.size
  have s1_0 : w.heap.size < w1.heap.size := Nat.lt_of_lt_of_le (by first | omega | (simp [go_sem]; omega) | simp [go_sem]) hb.size
  have k1_0 := fun o => hb.cell (p := ⟨w.heap.size, o, none⟩) (by first | omega | (simp [go_sem]; omega) | simp [go_sem])
  have f1_0 := fun o => hb.frozen (p := ⟨w.heap.size, o, none⟩) (by first | omega | (simp [go_sem]; omega) | simp [go_sem])
  clear hb
  clear c1 c2 c3 c4 c5 c6
  go_wp2_with fail
  (with_reducible refine (trFirst _ 6 (by decide) _ ?_).mono ?_)
  · intro j hj; rcases j with _ | _ | _ | _ | _ | _ | j <;> first | omega | simp (maxDischargeDepth := 4) [go_sem]
  rintro e w2 ⟨rfl, hb⟩
  have H2 : Below w.heap.size w w2 := by
    refine Below.trans ?_ (hb.mono ?_)
    · repeat (first | with_reducible assumption | with_reducible exact Below.refl _ _ | with_reducible refine Below.setCell ?_ (by first | omega | (simp [go_sem]; omega) | simp [go_sem]) _ | with_reducible refine Below.alloc ?_ (by first | omega | (simp [go_sem]; omega) | simp [go_sem]) _ | with_reducible refine below_grow ?_ (by first | omega | (simp [go_sem]; omega) | simp [go_sem]) _ _ | with_reducible refine Below.drew ?_)
    · first | omega | (simp [go_sem]; omega) | simp [go_sem]
  have S2 : w.heap.size ≤ w2.heap.size := H2.size
  have s2_0 : w.heap.size < w2.heap.size := Nat.lt_of_lt_of_le (by first | omega | (simp [go_sem]; omega) | simp [go_sem]) hb.size
  have k2_0 := fun o => hb.cell (p := ⟨w.heap.size, o, none⟩) (by first | omega | (simp [go_sem]; omega) | simp [go_sem])
  have f2_0 := fun o => hb.frozen (p := ⟨w.heap.size, o, none⟩) (by first | omega | (simp [go_sem]; omega) | simp [go_sem])
  clear hb
  go_wp2_with fail
  go_ret
  refine ⟨rfl, ?_⟩
  repeat (first | with_reducible assumption | with_reducible exact Below.refl _ _ | with_reducible refine Below.setCell ?_ (by first | omega | (simp [go_sem]; omega) | simp [go_sem]) _ | with_reducible refine Below.alloc ?_ (by first | omega | (simp [go_sem]; omega) | simp [go_sem]) _ | with_reducible refine below_grow ?_ (by first | omega | (simp [go_sem]; omega) | simp [go_sem]) _ _ | with_reducible refine Below.drew ?_)
end Go.Proofs.YtgdlehoglpiifaaGreatDoor
namespace Go.Proofs.YtgdlehoglpiifaaGreatDoor
open Go.RowKit Go.Sort

theorem trCheck1 {S R W F T L : Int} (o : Oval S R W F T L) (lane : Int) (hl : 1 ≤ lane ∧ lane ≤ L) (b : Nat) (w : World) (hb : b < w.heap.size) (hc : w.cell? ⟨b, 0, none⟩ = some (.int .i64 lane)) :
    Calls Tryz.prog 51 #[.agg #[.int .i64 S, .int .i64 R, .int .i64 W, .int .i64 F, .int .i64 T, .int .i64 L], .slice (some ⟨b, 0, none⟩) 1 1] w fun e w' => e = .returned (.int .i64 0) ∧ Below w.heap.size w w' := by
  have c1 := Lib.hid (fun w => trCheckOval S R W F T L o w)
  have c2 := Lib.hid (fun w => trWhen 17 w)
  have h7 : decide (lane < 1) = false := decide_eq_false (by omega)
  have h8 : decide (L < lane) = false := decide_eq_false (by omega)
  clear o hl
  go_enter Tryz.func51, Tryz.ntmps51
  go_wp2_with fail
  (with_reducible refine (c1.out _).mono ?_)
  rintro e w1 ⟨rfl, hb⟩
  have H1 : Below w.heap.size w w1 := by
    refine Below.trans ?_ (hb.mono ?_)
    · repeat (first | with_reducible assumption | with_reducible exact Below.refl _ _ | with_reducible refine Below.setCell ?_ (by first | omega | (simp [go_sem]; omega) | simp [go_sem]) _ | with_reducible refine Below.alloc ?_ (by first | omega | (simp [go_sem]; omega) | simp [go_sem]) _ | with_reducible refine below_grow ?_ (by first | omega | (simp [go_sem]; omega) | simp [go_sem]) _ _ | with_reducible refine Below.drew ?_)
    · first | omega | (simp [go_sem]; omega) | simp [go_sem]
  have S1 : w.heap.size ≤ w1.heap.size := H1.size
  have s1_0 : w.heap.size < w1.heap.size := Nat.lt_of_lt_of_le (by first | omega | (simp [go_sem]; omega) | simp [go_sem]) hb.size
  have k1_0 := fun o => hb.cell (p := ⟨w.heap.size, o, none⟩) (by first | omega | (simp [go_sem]; omega) | simp [go_sem])
  have f1_0 := fun o => hb.frozen (p := ⟨w.heap.size, o, none⟩) (by first | omega | (simp [go_sem]; omega) | simp [go_sem])
  have s1_1 : b < w1.heap.size := Nat.lt_of_lt_of_le (by first | omega | (simp [go_sem]; omega) | simp [go_sem]) hb.size
  have k1_1 := fun o => hb.cell (p := ⟨b, o, none⟩) (by first | omega | (simp [go_sem]; omega) | simp [go_sem])
  have f1_1 := fun o => hb.frozen (p := ⟨b, o, none⟩) (by first | omega | (simp [go_sem]; omega) | simp [go_sem])
  clear hb
  clear c1
  go_wp2_with fail
  refine wp_loop_rounds 2 ?_
  rw [rounds_succ]
  go_wp2_with fail
  (with_reducible refine (c2.out _).mono ?_)
  rintro e w2 ⟨rfl, hb⟩
  have H2 : Below w.heap.size w w2 := by
    refine Below.trans ?_ (hb.mono ?_)
    · repeat (first | with_reducible assumption | with_reducible exact Below.refl _ _ | with_reducible refine Below.setCell ?_ (by first | omega | (simp [go_sem]; omega) | simp [go_sem]) _ | with_reducible refine Below.alloc ?_ (by first | omega | (simp [go_sem]; omega) | simp [go_sem]) _ | with_reducible refine below_grow ?_ (by first | omega | (simp [go_sem]; omega) | simp [go_sem]) _ _ | with_reducible refine Below.drew ?_)
    · first | omega | (simp [go_sem]; omega) | simp [go_sem]
  have S2 : w.heap.size ≤ w2.heap.size := H2.size
  have s2_0 : w.heap.size < w2.heap.size := Nat.lt_of_lt_of_le (by first | omega | (simp [go_sem]; omega) | simp [go_sem]) hb.size
  have k2_0 := fun o => hb.cell (p := ⟨w.heap.size, o, none⟩) (by first | omega | (simp [go_sem]; omega) | simp [go_sem])
  have f2_0 := fun o => hb.frozen (p := ⟨w.heap.size, o, none⟩) (by first | omega | (simp [go_sem]; omega) | simp [go_sem])
  have s2_1 : b < w2.heap.size := Nat.lt_of_lt_of_le (by first | omega | (simp [go_sem]; omega) | simp [go_sem]) hb.size
  have k2_1 := fun o => hb.cell (p := ⟨b, o, none⟩) (by first | omega | (simp [go_sem]; omega) | simp [go_sem])
  have f2_1 := fun o => hb.frozen (p := ⟨b, o, none⟩) (by first | omega | (simp [go_sem]; omega) | simp [go_sem])
  clear hb
  clear c2
  go_wp2_with fail
  (with_reducible refine (trFirst _ 2 (by decide) _ ?_).mono ?_)
  · intro j hj; rcases j with _ | _ | j <;> first | omega | simp (maxDischargeDepth := 4) [go_sem]
  rintro e w3 ⟨rfl, hb⟩
  have H3 : Below w.heap.size w w3 := by
    refine Below.trans ?_ (hb.mono ?_)
    · repeat (first | with_reducible assumption | with_reducible exact Below.refl _ _ | with_reducible refine Below.setCell ?_ (by first | omega | (simp [go_sem]; omega) | simp [go_sem]) _ | with_reducible refine Below.alloc ?_ (by first | omega | (simp [go_sem]; omega) | simp [go_sem]) _ | with_reducible refine below_grow ?_ (by first | omega | (simp [go_sem]; omega) | simp [go_sem]) _ _ | with_reducible refine Below.drew ?_)
    · first | omega | (simp [go_sem]; omega) | simp [go_sem]
  have S3 : w.heap.size ≤ w3.heap.size := H3.size
  have s3_0 : w.heap.size < w3.heap.size := Nat.lt_of_lt_of_le (by first | omega | (simp [go_sem]; omega) | simp [go_sem]) hb.size
  have k3_0 := fun o => hb.cell (p := ⟨w.heap.size, o, none⟩) (by first | omega | (simp [go_sem]; omega) | simp [go_sem])
  have f3_0 := fun o => hb.frozen (p := ⟨w.heap.size, o, none⟩) (by first | omega | (simp [go_sem]; omega) | simp [go_sem])
  have s3_1 : b < w3.heap.size := Nat.lt_of_lt_of_le (by first | omega | (simp [go_sem]; omega) | simp [go_sem]) hb.size
  have k3_1 := fun o => hb.cell (p := ⟨b, o, none⟩) (by first | omega | (simp [go_sem]; omega) | simp [go_sem])
  have f3_1 := fun o => hb.frozen (p := ⟨b, o, none⟩) (by first | omega | (simp [go_sem]; omega) | simp [go_sem])
  clear hb
  go_wp2_with fail
  rw [rounds_succ]
  go_wp2_with fail
  go_ret
  refine ⟨rfl, ?_⟩
  repeat (first | with_reducible assumption | with_reducible exact Below.refl _ _ | with_reducible refine Below.setCell ?_ (by first | omega | (simp [go_sem]; omega) | simp [go_sem]) _ | with_reducible refine Below.alloc ?_ (by first | omega | (simp [go_sem]; omega) | simp [go_sem]) _ | with_reducible refine below_grow ?_ (by first | omega | (simp [go_sem]; omega) | simp [go_sem]) _ _ | with_reducible refine Below.drew ?_)

theorem trCheck2 {S R W F T L : Int} (o : Oval S R W F T L) (la lb : Int) (hl : 1 ≤ la ∧ la ≤ L) (hm : 1 ≤ lb ∧ lb ≤ L) (b : Nat) (w : World) (hb : b < w.heap.size) (hc : w.cell? ⟨b, 0, none⟩ = some (.int .i64 la)) (hd : w.cell? ⟨b, 1, none⟩ = some (.int .i64 lb)) :
    Calls Tryz.prog 51 #[.agg #[.int .i64 S, .int .i64 R, .int .i64 W, .int .i64 F, .int .i64 T, .int .i64 L], .slice (some ⟨b, 0, none⟩) 2 2] w fun e w' => e = .returned (.int .i64 0) ∧ Below w.heap.size w w' := by
  have c1 := Lib.hid (fun w => trCheckOval S R W F T L o w)
  have c2 := Lib.hid (fun w => trWhen 17 w)
  have h7 : decide (la < 1) = false := decide_eq_false (by omega)
  have h8 : decide (L < la) = false := decide_eq_false (by omega)
  have h9 : decide (lb < 1) = false := decide_eq_false (by omega)
  have h10 : decide (L < lb) = false := decide_eq_false (by omega)
  clear o hl hm
  go_enter Tryz.func51, Tryz.ntmps51
  go_wp2_with fail
  (with_reducible refine (c1.out _).mono ?_)
  rintro e w1 ⟨rfl, hb⟩
  have H1 : Below w.heap.size w w1 := by
    refine Below.trans ?_ (hb.mono ?_)
    · repeat (first | with_reducible assumption | with_reducible exact Below.refl _ _ | with_reducible refine Below.setCell ?_ (by first | omega | (simp [go_sem]; omega) | simp [go_sem]) _ | with_reducible refine Below.alloc ?_ (by first | omega | (simp [go_sem]; omega) | simp [go_sem]) _ | with_reducible refine below_grow ?_ (by first | omega | (simp [go_sem]; omega) | simp [go_sem]) _ _ | with_reducible refine Below.drew ?_)
    · first | omega | (simp [go_sem]; omega) | simp [go_sem]
  have S1 : w.heap.size ≤ w1.heap.size := H1.size
  have s1_0 : w.heap.size < w1.heap.size := Nat.lt_of_lt_of_le (by first | omega | (simp [go_sem]; omega) | simp [go_sem]) hb.size
  have k1_0 := fun o => hb.cell (p := ⟨w.heap.size, o, none⟩) (by first | omega | (simp [go_sem]; omega) | simp [go_sem])
  have f1_0 := fun o => hb.frozen (p := ⟨w.heap.size, o, none⟩) (by first | omega | (simp [go_sem]; omega) | simp [go_sem])
  have s1_1 : b < w1.heap.size := Nat.lt_of_lt_of_le (by first | omega | (simp [go_sem]; omega) | simp [go_sem]) hb.size
  have k1_1 := fun o => hb.cell (p := ⟨b, o, none⟩) (by first | omega | (simp [go_sem]; omega) | simp [go_sem])
  have f1_1 := fun o => hb.frozen (p := ⟨b, o, none⟩) (by first | omega | (simp [go_sem]; omega) | simp [go_sem])
  clear hb
  clear c1
  go_wp2_with fail
  refine wp_loop_rounds 3 ?_
  rw [rounds_succ]
  go_wp2_with fail
  (with_reducible refine (c2.out _).mono ?_)
  rintro e w2 ⟨rfl, hb⟩
  have H2 : Below w.heap.size w w2 := by
    refine Below.trans ?_ (hb.mono ?_)
    · repeat (first | with_reducible assumption | with_reducible exact Below.refl _ _ | with_reducible refine Below.setCell ?_ (by first | omega | (simp [go_sem]; omega) | simp [go_sem]) _ | with_reducible refine Below.alloc ?_ (by first | omega | (simp [go_sem]; omega) | simp [go_sem]) _ | with_reducible refine below_grow ?_ (by first | omega | (simp [go_sem]; omega) | simp [go_sem]) _ _ | with_reducible refine Below.drew ?_)
    · first | omega | (simp [go_sem]; omega) | simp [go_sem]
  have S2 : w.heap.size ≤ w2.heap.size := H2.size
  have s2_0 : w.heap.size < w2.heap.size := Nat.lt_of_lt_of_le (by first | omega | (simp [go_sem]; omega) | simp [go_sem]) hb.size
  have k2_0 := fun o => hb.cell (p := ⟨w.heap.size, o, none⟩) (by first | omega | (simp [go_sem]; omega) | simp [go_sem])
  have f2_0 := fun o => hb.frozen (p := ⟨w.heap.size, o, none⟩) (by first | omega | (simp [go_sem]; omega) | simp [go_sem])
  have s2_1 : b < w2.heap.size := Nat.lt_of_lt_of_le (by first | omega | (simp [go_sem]; omega) | simp [go_sem]) hb.size
  have k2_1 := fun o => hb.cell (p := ⟨b, o, none⟩) (by first | omega | (simp [go_sem]; omega) | simp [go_sem])
  have f2_1 := fun o => hb.frozen (p := ⟨b, o, none⟩) (by first | omega | (simp [go_sem]; omega) | simp [go_sem])
  clear hb
  go_wp2_with fail
  (with_reducible refine (trFirst _ 2 (by decide) _ ?_).mono ?_)
  · intro j hj; rcases j with _ | _ | j <;> first | omega | simp (maxDischargeDepth := 4) [go_sem]
  rintro e w3 ⟨rfl, hb⟩
  have H3 : Below w.heap.size w w3 := by
    refine Below.trans ?_ (hb.mono ?_)
    · repeat (first | with_reducible assumption | with_reducible exact Below.refl _ _ | with_reducible refine Below.setCell ?_ (by first | omega | (simp [go_sem]; omega) | simp [go_sem]) _ | with_reducible refine Below.alloc ?_ (by first | omega | (simp [go_sem]; omega) | simp [go_sem]) _ | with_reducible refine below_grow ?_ (by first | omega | (simp [go_sem]; omega) | simp [go_sem]) _ _ | with_reducible refine Below.drew ?_)
    · first | omega | (simp [go_sem]; omega) | simp [go_sem]
  have S3 : w.heap.size ≤ w3.heap.size := H3.size
  have s3_0 : w.heap.size < w3.heap.size := Nat.lt_of_lt_of_le (by first | omega | (simp [go_sem]; omega) | simp [go_sem]) hb.size
  have k3_0 := fun o => hb.cell (p := ⟨w.heap.size, o, none⟩) (by first | omega | (simp [go_sem]; omega) | simp [go_sem])
  have f3_0 := fun o => hb.frozen (p := ⟨w.heap.size, o, none⟩) (by first | omega | (simp [go_sem]; omega) | simp [go_sem])
  have s3_1 : b < w3.heap.size := Nat.lt_of_lt_of_le (by first | omega | (simp [go_sem]; omega) | simp [go_sem]) hb.size
  have k3_1 := fun o => hb.cell (p := ⟨b, o, none⟩) (by first | omega | (simp [go_sem]; omega) | simp [go_sem])
  have f3_1 := fun o => hb.frozen (p := ⟨b, o, none⟩) (by first | omega | (simp [go_sem]; omega) | simp [go_sem])
  clear hb
  go_wp2_with fail
  rw [rounds_succ]
  go_wp2_with fail
  (with_reducible refine (c2.out _).mono ?_)
  rintro e w4 ⟨rfl, hb⟩
  have H4 : Below w.heap.size w w4 := by
    refine Below.trans ?_ (hb.mono ?_)
    · repeat (first | with_reducible assumption | with_reducible exact Below.refl _ _ | with_reducible refine Below.setCell ?_ (by first | omega | (simp [go_sem]; omega) | simp [go_sem]) _ | with_reducible refine Below.alloc ?_ (by first | omega | (simp [go_sem]; omega) | simp [go_sem]) _ | with_reducible refine below_grow ?_ (by first | omega | (simp [go_sem]; omega) | simp [go_sem]) _ _ | with_reducible refine Below.drew ?_)
    · first | omega | (simp [go_sem]; omega) | simp [go_sem]
  have S4 : w.heap.size ≤ w4.heap.size := H4.size
  have s4_0 : w.heap.size < w4.heap.size := Nat.lt_of_lt_of_le (by first | omega | (simp [go_sem]; omega) | simp [go_sem]) hb.size
  have k4_0 := fun o => hb.cell (p := ⟨w.heap.size, o, none⟩) (by first | omega | (simp [go_sem]; omega) | simp [go_sem])
  have f4_0 := fun o => hb.frozen (p := ⟨w.heap.size, o, none⟩) (by first | omega | (simp [go_sem]; omega) | simp [go_sem])
  have s4_1 : b < w4.heap.size := Nat.lt_of_lt_of_le (by first | omega | (simp [go_sem]; omega) | simp [go_sem]) hb.size
  have k4_1 := fun o => hb.cell (p := ⟨b, o, none⟩) (by first | omega | (simp [go_sem]; omega) | simp [go_sem])
  have f4_1 := fun o => hb.frozen (p := ⟨b, o, none⟩) (by first | omega | (simp [go_sem]; omega) | simp [go_sem])
  clear hb
  clear c2
  go_wp2_with fail
  (with_reducible refine (trFirst _ 2 (by decide) _ ?_).mono ?_)
  · intro j hj; rcases j with _ | _ | j <;> first | omega | simp (maxDischargeDepth := 4) [go_sem]
  rintro e w5 ⟨rfl, hb⟩
  have H5 : Below w.heap.size w w5 := by
    refine Below.trans ?_ (hb.mono ?_)
    · repeat (first | with_reducible assumption | with_reducible exact Below.refl _ _ | with_reducible refine Below.setCell ?_ (by first | omega | (simp [go_sem]; omega) | simp [go_sem]) _ | with_reducible refine Below.alloc ?_ (by first | omega | (simp [go_sem]; omega) | simp [go_sem]) _ | with_reducible refine below_grow ?_ (by first | omega | (simp [go_sem]; omega) | simp [go_sem]) _ _ | with_reducible refine Below.drew ?_)
    · first | omega | (simp [go_sem]; omega) | simp [go_sem]
  have S5 : w.heap.size ≤ w5.heap.size := H5.size
  have s5_0 : w.heap.size < w5.heap.size := Nat.lt_of_lt_of_le (by first | omega | (simp [go_sem]; omega) | simp [go_sem]) hb.size
  have k5_0 := fun o => hb.cell (p := ⟨w.heap.size, o, none⟩) (by first | omega | (simp [go_sem]; omega) | simp [go_sem])
  have f5_0 := fun o => hb.frozen (p := ⟨w.heap.size, o, none⟩) (by first | omega | (simp [go_sem]; omega) | simp [go_sem])
  have s5_1 : b < w5.heap.size := Nat.lt_of_lt_of_le (by first | omega | (simp [go_sem]; omega) | simp [go_sem]) hb.size
  have k5_1 := fun o => hb.cell (p := ⟨b, o, none⟩) (by first | omega | (simp [go_sem]; omega) | simp [go_sem])
  have f5_1 := fun o => hb.frozen (p := ⟨b, o, none⟩) (by first | omega | (simp [go_sem]; omega) | simp [go_sem])
  clear hb
  go_wp2_with fail
  rw [rounds_succ]
  go_wp2_with fail
  go_ret
  refine ⟨rfl, ?_⟩
  repeat (first | with_reducible assumption | with_reducible exact Below.refl _ _ | with_reducible refine Below.setCell ?_ (by first | omega | (simp [go_sem]; omega) | simp [go_sem]) _ | with_reducible refine Below.alloc ?_ (by first | omega | (simp [go_sem]; omega) | simp [go_sem]) _ | with_reducible refine below_grow ?_ (by first | omega | (simp [go_sem]; omega) | simp [go_sem]) _ _ | with_reducible refine Below.drew ?_)

theorem trRadiusE {S R W F T L : Int} (o : Oval S R W F T L) (lane : Int) (hl : 1 ≤ lane ∧ lane ≤ L) (w : World) : Calls Tryz.prog 16 #[.agg #[.int .i64 S, .int .i64 R, .int .i64 W, .int .i64 F, .int .i64 T, .int .i64 L], .int .i64 lane] w fun e w' => e = .returned (.tuple #[.int .i64 (rad R W F T lane), .int .i64 0]) ∧ Below w.heap.size w w' := by
  have c1 := Lib.hid (trCheck1 o lane hl)
  have c2 := Lib.hid (fun w => trRadius S R W F T L o lane hl w)
  clear o hl
  generalize rad R W F T lane = r at *
  go_enter Tryz.func16, Tryz.ntmps16
  go_wp2_with fail
  (with_reducible refine (c1.out (w.heap.size + 1) _ ?_ ?_).mono ?_)
  · first | omega | (simp [go_sem]; omega) | (simp (maxDischargeDepth := 4) [go_sem]; done) | (simp (maxDischargeDepth := 6) [*, go_sem]; done)
  · first | omega | (simp [go_sem]; omega) | (simp (maxDischargeDepth := 4) [go_sem]; done) | (simp (maxDischargeDepth := 6) [*, go_sem]; done)
  rintro e w1 ⟨rfl, hb⟩
  have H1 : Below w.heap.size w w1 := by
    refine Below.trans ?_ (hb.mono ?_)
    · repeat (first | with_reducible assumption | with_reducible exact Below.refl _ _ | with_reducible refine Below.setCell ?_ (by first | omega | (simp [go_sem]; omega) | simp [go_sem]) _ | with_reducible refine Below.alloc ?_ (by first | omega | (simp [go_sem]; omega) | simp [go_sem]) _ | with_reducible refine below_grow ?_ (by first | omega | (simp [go_sem]; omega) | simp [go_sem]) _ _ | with_reducible refine Below.drew ?_)
    · first | omega | (simp [go_sem]; omega) | simp [go_sem]
  have S1 : w.heap.size ≤ w1.heap.size := H1.size
  have s1_0 : w.heap.size < w1.heap.size := Nat.lt_of_lt_of_le (by first | omega | (simp [go_sem]; omega) | simp [go_sem]) hb.size
  have k1_0 := fun o => hb.cell (p := ⟨w.heap.size, o, none⟩) (by first | omega | (simp [go_sem]; omega) | simp [go_sem])
  have f1_0 := fun o => hb.frozen (p := ⟨w.heap.size, o, none⟩) (by first | omega | (simp [go_sem]; omega) | simp [go_sem])
  clear hb
  clear c1
  go_wp2_with fail
  (with_reducible refine (c2.out _).mono ?_)
  rintro e w2 ⟨rfl, hb⟩
  have H2 : Below w.heap.size w w2 := by
    refine Below.trans ?_ (hb.mono ?_)
    · repeat (first | with_reducible assumption | with_reducible exact Below.refl _ _ | with_reducible refine Below.setCell ?_ (by first | omega | (simp [go_sem]; omega) | simp [go_sem]) _ | with_reducible refine Below.alloc ?_ (by first | omega | (simp [go_sem]; omega) | simp [go_sem]) _ | with_reducible refine below_grow ?_ (by first | omega | (simp [go_sem]; omega) | simp [go_sem]) _ _ | with_reducible refine Below.drew ?_)
    · first | omega | (simp [go_sem]; omega) | simp [go_sem]
  have S2 : w.heap.size ≤ w2.heap.size := H2.size
  have s2_0 : w.heap.size < w2.heap.size := Nat.lt_of_lt_of_le (by first | omega | (simp [go_sem]; omega) | simp [go_sem]) hb.size
  have k2_0 := fun o => hb.cell (p := ⟨w.heap.size, o, none⟩) (by first | omega | (simp [go_sem]; omega) | simp [go_sem])
  have f2_0 := fun o => hb.frozen (p := ⟨w.heap.size, o, none⟩) (by first | omega | (simp [go_sem]; omega) | simp [go_sem])
  clear hb
  go_wp2_with fail
  go_ret2
  refine ⟨rfl, ?_⟩
  repeat (first | with_reducible assumption | with_reducible exact Below.refl _ _ | with_reducible refine Below.setCell ?_ (by first | omega | (simp [go_sem]; omega) | simp [go_sem]) _ | with_reducible refine Below.alloc ?_ (by first | omega | (simp [go_sem]; omega) | simp [go_sem]) _ | with_reducible refine below_grow ?_ (by first | omega | (simp [go_sem]; omega) | simp [go_sem]) _ _ | with_reducible refine Below.drew ?_)

/-- The bounds of a product with a bounded factor. -/
theorem mul_in {a b A B : Int} (h1 : 0 ≤ a ∧ a ≤ A) (h2 : 0 ≤ b ∧ b ≤ B) : 0 ≤ a * b ∧ a * b ≤ A * B :=
  ⟨Int.mul_nonneg h1.1 h2.1, Int.mul_le_mul h1.2 h2.2 h2.1 (by omega)⟩

theorem trRun {S R W F T L : Int} (o : Oval S R W F T L) (lane s b : Int) (hl : 1 ≤ lane ∧ lane ≤ L) (hs : 0 ≤ s ∧ s ≤ 16) (hb : 0 ≤ b ∧ b ≤ 16) (w : World) : Calls Tryz.prog 59 #[.agg #[.int .i64 S, .int .i64 R, .int .i64 W, .int .i64 F, .int .i64 T, .int .i64 L], .int .i64 lane, .int .i64 s, .int .i64 b] w fun e w' => e = .returned (.agg #[.int .i64 (s * S), .int .i64 (b * rad R W F T lane)]) ∧ Below w.heap.size w w' := by
  have c2 := Lib.hid (fun w => trRadius S R W F T L o lane hl w)
  have hr := rad_in o hl
  have h1 := o.s
  have m1 := mul_in hs (show 0 ≤ S ∧ S ≤ 999999 by omega)
  have m2 := mul_in hb (show 0 ≤ rad R W F T lane ∧ rad R W F T lane ≤ 1099999 by omega)
  have w1 : IntKind.i64.wrap (s * S) = s * S := IntWalk.i64_in _ (by omega)
  have w2 : IntKind.i64.wrap (b * rad R W F T lane) = b * rad R W F T lane := IntWalk.i64_in _ (by omega)
  clear o hl hs hb h1 hr m1 m2
  generalize rad R W F T lane = r at *
  generalize hp : s * S = p at *
  generalize hq : b * r = q at *
  go_enter Tryz.func59, Tryz.ntmps59
  go_wp2_with fail
  refine wp_region_tail 10 (by kernel_rfl) (by kernel_rfl) (by kernel_rfl) ?_
  simp only [List.take_succ_cons, List.take_zero, List.drop_succ_cons, List.drop_zero, List.take_nil, List.drop_nil]
  repeat (quiet_step (first | with_reducible exact Calls.regrown_of (c2.out _)))
  refine wpQuiet_nil ?_
  intro w1 hw1
  obtain ⟨⟨dq, osq⟩, rfl⟩ := hw1
  clear c2
  go_wp2_with fail
  refine bodyPost_ret (v := .agg #[.int .i64 p, .int .i64 q]) (by simp (maxDischargeDepth := 4) [results, Tryz.results59, go_sem]) rfl ⟨rfl, ?_⟩
  repeat (first | with_reducible assumption | with_reducible exact Below.refl _ _ | with_reducible refine Below.setCell ?_ (by first | omega | (simp [go_sem]; omega) | simp [go_sem]) _ | with_reducible refine Below.alloc ?_ (by first | omega | (simp [go_sem]; omega) | simp [go_sem]) _ | with_reducible refine below_grow ?_ (by first | omega | (simp [go_sem]; omega) | simp [go_sem]) _ _ | with_reducible refine Below.drew ?_)

theorem trLap {S R W F T L : Int} (o : Oval S R W F T L) (lane : Int) (hl : 1 ≤ lane ∧ lane ≤ L) {w0 : World} (hG : Glob w0) (w : World) (hb : Below w0.heap.size w0 w) : Calls Tryz.prog 26 #[.agg #[.int .i64 S, .int .i64 R, .int .i64 W, .int .i64 F, .int .i64 T, .int .i64 L], .int .i64 lane] w fun e w' => e = .returned (.tuple #[.agg #[.string ⟨(rt (spanLow (2 * S) (2 * rad R W F T lane))).toArray⟩, .string ⟨(rt (spanHigh (2 * S) (2 * rad R W F T lane))).toArray⟩], .int .i64 0]) ∧ Below w.heap.size w w' := by
  replace hG := hG.keep hb
  clear hb
  have c1 := Lib.hid (trCheck1 o lane hl)
  have c2 := Lib.hid (fun w => trRun o lane 2 2 hl (by omega) (by omega) w)
  have hr := rad_in o hl
  have h1 := o.s
  have c3 := Lib.hid (fun (w0 : World) (hG : Glob w0) (w : World) hb' => trSpan (2 * S) (2 * rad R W F T lane) (by omega) (by omega) hG w hb')
  clear o hl hr h1
  generalize spanLow (2 * S) (2 * rad R W F T lane) = lo at *
  generalize spanHigh (2 * S) (2 * rad R W F T lane) = hi at *
  generalize 2 * S = p at *
  generalize 2 * rad R W F T lane = q at *
  go_enter Tryz.func26, Tryz.ntmps26
  go_wp2_with fail
  (with_reducible refine (c1.out (w.heap.size + 1 + 1) _ ?_ ?_).mono ?_)
  · first | omega | (simp [go_sem]; omega) | (simp (maxDischargeDepth := 4) [go_sem]; done) | (simp (maxDischargeDepth := 6) [*, go_sem]; done)
  · first | omega | (simp [go_sem]; omega) | (simp (maxDischargeDepth := 4) [go_sem]; done) | (simp (maxDischargeDepth := 6) [*, go_sem]; done)
  rintro e w1 ⟨rfl, hb⟩
  have H1 : Below w.heap.size w w1 := by
    refine Below.trans ?_ (hb.mono ?_)
    · repeat (first | with_reducible assumption | with_reducible exact Below.refl _ _ | with_reducible refine Below.setCell ?_ (by first | omega | (simp [go_sem]; omega) | simp [go_sem]) _ | with_reducible refine Below.alloc ?_ (by first | omega | (simp [go_sem]; omega) | simp [go_sem]) _ | with_reducible refine below_grow ?_ (by first | omega | (simp [go_sem]; omega) | simp [go_sem]) _ _ | with_reducible refine Below.drew ?_)
    · first | omega | (simp [go_sem]; omega) | simp [go_sem]
  have S1 : w.heap.size ≤ w1.heap.size := H1.size
  have s1_0 : w.heap.size < w1.heap.size := Nat.lt_of_lt_of_le (by first | omega | (simp [go_sem]; omega) | simp [go_sem]) hb.size
  have k1_0 := fun o => hb.cell (p := ⟨w.heap.size, o, none⟩) (by first | omega | (simp [go_sem]; omega) | simp [go_sem])
  have f1_0 := fun o => hb.frozen (p := ⟨w.heap.size, o, none⟩) (by first | omega | (simp [go_sem]; omega) | simp [go_sem])
  have s1_1 : w.heap.size + 1 < w1.heap.size := Nat.lt_of_lt_of_le (by first | omega | (simp [go_sem]; omega) | simp [go_sem]) hb.size
  have k1_1 := fun o => hb.cell (p := ⟨w.heap.size + 1, o, none⟩) (by first | omega | (simp [go_sem]; omega) | simp [go_sem])
  have f1_1 := fun o => hb.frozen (p := ⟨w.heap.size + 1, o, none⟩) (by first | omega | (simp [go_sem]; omega) | simp [go_sem])
  clear hb
  clear c1
  go_wp2_with fail
  (with_reducible refine (c2.out _).mono ?_)
  rintro e w2 ⟨rfl, hb⟩
  have H2 : Below w.heap.size w w2 := by
    refine Below.trans ?_ (hb.mono ?_)
    · repeat (first | with_reducible assumption | with_reducible exact Below.refl _ _ | with_reducible refine Below.setCell ?_ (by first | omega | (simp [go_sem]; omega) | simp [go_sem]) _ | with_reducible refine Below.alloc ?_ (by first | omega | (simp [go_sem]; omega) | simp [go_sem]) _ | with_reducible refine below_grow ?_ (by first | omega | (simp [go_sem]; omega) | simp [go_sem]) _ _ | with_reducible refine Below.drew ?_)
    · first | omega | (simp [go_sem]; omega) | simp [go_sem]
  have S2 : w.heap.size ≤ w2.heap.size := H2.size
  have s2_0 : w.heap.size < w2.heap.size := Nat.lt_of_lt_of_le (by first | omega | (simp [go_sem]; omega) | simp [go_sem]) hb.size
  have k2_0 := fun o => hb.cell (p := ⟨w.heap.size, o, none⟩) (by first | omega | (simp [go_sem]; omega) | simp [go_sem])
  have f2_0 := fun o => hb.frozen (p := ⟨w.heap.size, o, none⟩) (by first | omega | (simp [go_sem]; omega) | simp [go_sem])
  have s2_1 : w.heap.size + 1 < w2.heap.size := Nat.lt_of_lt_of_le (by first | omega | (simp [go_sem]; omega) | simp [go_sem]) hb.size
  have k2_1 := fun o => hb.cell (p := ⟨w.heap.size + 1, o, none⟩) (by first | omega | (simp [go_sem]; omega) | simp [go_sem])
  have f2_1 := fun o => hb.frozen (p := ⟨w.heap.size + 1, o, none⟩) (by first | omega | (simp [go_sem]; omega) | simp [go_sem])
  clear hb
  clear c2
  go_wp2_with fail
  (with_reducible refine (c3.out _ hG _ ?_).mono ?_)
  · repeat (first | with_reducible assumption | with_reducible exact Below.refl _ _ | with_reducible refine Below.setCell ?_ (by first | omega | (simp [go_sem]; omega) | simp [go_sem]) _ | with_reducible refine Below.alloc ?_ (by first | omega | (simp [go_sem]; omega) | simp [go_sem]) _ | with_reducible refine below_grow ?_ (by first | omega | (simp [go_sem]; omega) | simp [go_sem]) _ _ | with_reducible refine Below.drew ?_)
  rintro e w3 ⟨rfl, hb⟩
  have H3 : Below w.heap.size w w3 := by
    refine Below.trans ?_ (hb.mono ?_)
    · repeat (first | with_reducible assumption | with_reducible exact Below.refl _ _ | with_reducible refine Below.setCell ?_ (by first | omega | (simp [go_sem]; omega) | simp [go_sem]) _ | with_reducible refine Below.alloc ?_ (by first | omega | (simp [go_sem]; omega) | simp [go_sem]) _ | with_reducible refine below_grow ?_ (by first | omega | (simp [go_sem]; omega) | simp [go_sem]) _ _ | with_reducible refine Below.drew ?_)
    · first | omega | (simp [go_sem]; omega) | simp [go_sem]
  have S3 : w.heap.size ≤ w3.heap.size := H3.size
  have s3_0 : w.heap.size < w3.heap.size := Nat.lt_of_lt_of_le (by first | omega | (simp [go_sem]; omega) | simp [go_sem]) hb.size
  have k3_0 := fun o => hb.cell (p := ⟨w.heap.size, o, none⟩) (by first | omega | (simp [go_sem]; omega) | simp [go_sem])
  have f3_0 := fun o => hb.frozen (p := ⟨w.heap.size, o, none⟩) (by first | omega | (simp [go_sem]; omega) | simp [go_sem])
  have s3_1 : w.heap.size + 1 < w3.heap.size := Nat.lt_of_lt_of_le (by first | omega | (simp [go_sem]; omega) | simp [go_sem]) hb.size
  have k3_1 := fun o => hb.cell (p := ⟨w.heap.size + 1, o, none⟩) (by first | omega | (simp [go_sem]; omega) | simp [go_sem])
  have f3_1 := fun o => hb.frozen (p := ⟨w.heap.size + 1, o, none⟩) (by first | omega | (simp [go_sem]; omega) | simp [go_sem])
  clear hb
  clear c3
  go_wp2_with fail
  refine bodyPost_ret (v := .tuple #[.agg #[.string ⟨(rt lo).toArray⟩, .string ⟨(rt hi).toArray⟩], .int .i64 0]) (by simp (maxDischargeDepth := 4) [*, results, Tryz.results26, go_sem]) rfl ⟨rfl, ?_⟩
  repeat (first | with_reducible assumption | with_reducible exact Below.refl _ _ | with_reducible refine Below.setCell ?_ (by first | omega | (simp [go_sem]; omega) | simp [go_sem]) _ | with_reducible refine Below.alloc ?_ (by first | omega | (simp [go_sem]; omega) | simp [go_sem]) _ | with_reducible refine below_grow ?_ (by first | omega | (simp [go_sem]; omega) | simp [go_sem]) _ _ | with_reducible refine Below.drew ?_)

theorem trStagger {S R W F T L : Int} (o : Oval S R W F T L) (r b : Int) (hr : 0 ≤ r ∧ r ≤ 1099999) (hb : 0 ≤ b ∧ b ≤ 16) (w : World) : Calls Tryz.prog 48 #[.agg #[.int .i64 S, .int .i64 R, .int .i64 W, .int .i64 F, .int .i64 T, .int .i64 L], .int .i64 r, .int .i64 b] w fun e w' => e = .returned (.agg #[.int .i64 0, .int .i64 (b * (r - rad R W F T 1))]) ∧ Below w.heap.size w w' := by
  have c2 := Lib.hid (fun w => trRadius S R W F T L o 1 ⟨by omega, o.l.1⟩ w)
  have hi := rad_in o ⟨by omega, o.l.1⟩
  have m : -(16 * 1099999) ≤ b * (r - rad R W F T 1) ∧ b * (r - rad R W F T 1) ≤ 16 * 1099999 := mul_abs (by omega) (by omega) (by omega) (by omega)
  have w1 : IntKind.i64.wrap (r - rad R W F T 1) = r - rad R W F T 1 := IntWalk.i64_in _ (by omega)
  have w2 : IntKind.i64.wrap (b * (r - rad R W F T 1)) = b * (r - rad R W F T 1) := IntWalk.i64_in _ (by omega)
  clear o hr hb hi m
  generalize rad R W F T 1 = i at *
  generalize hp : r - i = p at *
  generalize hq : b * p = q at *
  go_enter Tryz.func48, Tryz.ntmps48
  go_wp2_with fail
  (with_reducible refine (c2.out _).mono ?_)
  rintro e w1 ⟨rfl, hb1⟩
  obtain ⟨⟨dq, osq⟩, rfl⟩ := regrown_of_below hb1
  clear hb1
  clear c2
  go_wp2_with fail
  refine bodyPost_ret (v := .agg #[.int .i64 0, .int .i64 q]) (by simp (maxDischargeDepth := 4) [results, Tryz.results48, go_sem]) rfl ⟨rfl, ?_⟩
  repeat (first | with_reducible assumption | with_reducible exact Below.refl _ _ | with_reducible refine Below.setCell ?_ (by first | omega | (simp [go_sem]; omega) | simp [go_sem]) _ | with_reducible refine Below.alloc ?_ (by first | omega | (simp [go_sem]; omega) | simp [go_sem]) _ | with_reducible refine below_grow ?_ (by first | omega | (simp [go_sem]; omega) | simp [go_sem]) _ _ | with_reducible refine Below.drew ?_)

/-- The marked stagger. -/
def mst (d : Int) : Int := (len 0 d piL).floor
theorem trMarked1 {S R W F T L : Int} (o : Oval S R W F T L) (r b : Int) (hr : 0 ≤ r ∧ r ≤ 1099999) (hb : 0 ≤ b ∧ b ≤ 16) (w : World) : Calls Tryz.prog 47 #[.agg #[.int .i64 S, .int .i64 R, .int .i64 W, .int .i64 F, .int .i64 T, .int .i64 L], .int .i64 r, .int .i64 b] w fun e w' => e = .returned (.int .i64 (mst (b * (r - rad R W F T 1)))) ∧ Below w.heap.size w w' := by
  have hi := rad_in o ⟨by omega, o.l.1⟩
  have m : -(16 * 1099999) ≤ b * (r - rad R W F T 1) ∧ b * (r - rad R W F T 1) ≤ 16 * 1099999 := mul_abs (by omega) (by omega) (by omega) (by omega)
  have c1 := Lib.hid (fun w => trStagger o r b hr hb w)
  generalize b * (r - rad R W F T 1) = d at *
  have c2 := Lib.hid (fun w => trBounds 0 d (by omega) (by omega) w)
  have c3 := Lib.hid (fun w => rFloor (len 0 d piL) (Bd.len (A := 0) (B := 100000000) (by omega) (by omega) Bd.piL) (by omega) w)
  have c4 := Lib.hid (fun w => nSmall (len 0 d piL).floor w)
  unfold mst
  clear o hr hb hi m
  generalize (len 0 d piL).floor = fl at *
  generalize len 0 d piL = x at *
  generalize len 0 d piH = y at *
  go_enter Tryz.func47, Tryz.ntmps47
  go_wp2_with fail
  (with_reducible refine (c1.out _).mono ?_)
  rintro e w1 ⟨rfl, hb⟩
  have H1 : Below w.heap.size w w1 := by
    refine Below.trans ?_ (hb.mono ?_)
    · repeat (first | with_reducible assumption | with_reducible exact Below.refl _ _ | with_reducible refine Below.setCell ?_ (by first | omega | (simp [go_sem]; omega) | simp [go_sem]) _ | with_reducible refine Below.alloc ?_ (by first | omega | (simp [go_sem]; omega) | simp [go_sem]) _ | with_reducible refine below_grow ?_ (by first | omega | (simp [go_sem]; omega) | simp [go_sem]) _ _ | with_reducible refine Below.drew ?_)
    · first | omega | (simp [go_sem]; omega) | simp [go_sem]
  have S1 : w.heap.size ≤ w1.heap.size := H1.size
  have s1_0 : w.heap.size < w1.heap.size := Nat.lt_of_lt_of_le (by first | omega | (simp [go_sem]; omega) | simp [go_sem]) hb.size
  have k1_0 := fun o => hb.cell (p := ⟨w.heap.size, o, none⟩) (by first | omega | (simp [go_sem]; omega) | simp [go_sem])
  have f1_0 := fun o => hb.frozen (p := ⟨w.heap.size, o, none⟩) (by first | omega | (simp [go_sem]; omega) | simp [go_sem])
  clear hb
  clear c1
  go_wp2_with fail
  (with_reducible refine (c2.out _).mono ?_)
  rintro e w2 ⟨rfl, hb⟩
  have H2 : Below w.heap.size w w2 := by
    refine Below.trans ?_ (hb.mono ?_)
    · repeat (first | with_reducible assumption | with_reducible exact Below.refl _ _ | with_reducible refine Below.setCell ?_ (by first | omega | (simp [go_sem]; omega) | simp [go_sem]) _ | with_reducible refine Below.alloc ?_ (by first | omega | (simp [go_sem]; omega) | simp [go_sem]) _ | with_reducible refine below_grow ?_ (by first | omega | (simp [go_sem]; omega) | simp [go_sem]) _ _ | with_reducible refine Below.drew ?_)
    · first | omega | (simp [go_sem]; omega) | simp [go_sem]
  have S2 : w.heap.size ≤ w2.heap.size := H2.size
  have s2_0 : w.heap.size < w2.heap.size := Nat.lt_of_lt_of_le (by first | omega | (simp [go_sem]; omega) | simp [go_sem]) hb.size
  have k2_0 := fun o => hb.cell (p := ⟨w.heap.size, o, none⟩) (by first | omega | (simp [go_sem]; omega) | simp [go_sem])
  have f2_0 := fun o => hb.frozen (p := ⟨w.heap.size, o, none⟩) (by first | omega | (simp [go_sem]; omega) | simp [go_sem])
  clear hb
  clear c2
  go_wp2_with fail
  (with_reducible refine (c3.out _).mono ?_)
  rintro e w3 ⟨rfl, hb⟩
  have H3 : Below w.heap.size w w3 := by
    refine Below.trans ?_ (hb.mono ?_)
    · repeat (first | with_reducible assumption | with_reducible exact Below.refl _ _ | with_reducible refine Below.setCell ?_ (by first | omega | (simp [go_sem]; omega) | simp [go_sem]) _ | with_reducible refine Below.alloc ?_ (by first | omega | (simp [go_sem]; omega) | simp [go_sem]) _ | with_reducible refine below_grow ?_ (by first | omega | (simp [go_sem]; omega) | simp [go_sem]) _ _ | with_reducible refine Below.drew ?_)
    · first | omega | (simp [go_sem]; omega) | simp [go_sem]
  have S3 : w.heap.size ≤ w3.heap.size := H3.size
  have s3_0 : w.heap.size < w3.heap.size := Nat.lt_of_lt_of_le (by first | omega | (simp [go_sem]; omega) | simp [go_sem]) hb.size
  have k3_0 := fun o => hb.cell (p := ⟨w.heap.size, o, none⟩) (by first | omega | (simp [go_sem]; omega) | simp [go_sem])
  have f3_0 := fun o => hb.frozen (p := ⟨w.heap.size, o, none⟩) (by first | omega | (simp [go_sem]; omega) | simp [go_sem])
  clear hb
  clear c3
  go_wp2_with fail
  (with_reducible refine (c4.out _).mono ?_)
  rintro e w4 ⟨rfl, hb⟩
  have H4 : Below w.heap.size w w4 := by
    refine Below.trans ?_ (hb.mono ?_)
    · repeat (first | with_reducible assumption | with_reducible exact Below.refl _ _ | with_reducible refine Below.setCell ?_ (by first | omega | (simp [go_sem]; omega) | simp [go_sem]) _ | with_reducible refine Below.alloc ?_ (by first | omega | (simp [go_sem]; omega) | simp [go_sem]) _ | with_reducible refine below_grow ?_ (by first | omega | (simp [go_sem]; omega) | simp [go_sem]) _ _ | with_reducible refine Below.drew ?_)
    · first | omega | (simp [go_sem]; omega) | simp [go_sem]
  have S4 : w.heap.size ≤ w4.heap.size := H4.size
  have s4_0 : w.heap.size < w4.heap.size := Nat.lt_of_lt_of_le (by first | omega | (simp [go_sem]; omega) | simp [go_sem]) hb.size
  have k4_0 := fun o => hb.cell (p := ⟨w.heap.size, o, none⟩) (by first | omega | (simp [go_sem]; omega) | simp [go_sem])
  have f4_0 := fun o => hb.frozen (p := ⟨w.heap.size, o, none⟩) (by first | omega | (simp [go_sem]; omega) | simp [go_sem])
  clear hb
  clear c4
  go_wp2_with fail
  go_ret
  refine ⟨rfl, ?_⟩
  repeat (first | with_reducible assumption | with_reducible exact Below.refl _ _ | with_reducible refine Below.setCell ?_ (by first | omega | (simp [go_sem]; omega) | simp [go_sem]) _ | with_reducible refine Below.alloc ?_ (by first | omega | (simp [go_sem]; omega) | simp [go_sem]) _ | with_reducible refine below_grow ?_ (by first | omega | (simp [go_sem]; omega) | simp [go_sem]) _ _ | with_reducible refine Below.drew ?_)
end Go.Proofs.YtgdlehoglpiifaaGreatDoor
