/-
  The law TopBellRound: valid arguments.
-/
import Derived.Test.YtgdlehoglpiifaaGreatDoorJLaw
namespace Go.Proofs.YtgdlehoglpiifaaGreatDoor
open Go.RowKit Go.Sort Go.Lib

theorem lap_len (S r : Int) (p : Rat) : lapOf S r p = len (2 * S) (2 * r) p := by
  unfold lapOf bendOf len
  rw [Rat.intCast_mul, Rat.intCast_mul, show ((2 : Int) : Rat) = 2 from rfl]
  grind
/-- At most one lap more. -/
theorem laps_step {S r D k : Int} {p : Rat} (h : WhereB S r D p) (h' : WhereB S r (D + k) p) (hk0 : 0 ≤ k) (hk : (k : Rat) ≤ lapOf S r p) : lapsOf S r D p ≤ lapsOf S r (D + k) p ∧ lapsOf S r (D + k) p ≤ lapsOf S r D p + 1 := by
  have h1 := h.laps
  have h2 := h'.laps
  have h3 := h.lap
  have hl : 0 ≤ lapOf S r p := by grind
  have hk1 : (0 : Rat) ≤ (k : Rat) := Rat.intCast_le_intCast.2 hk0
  rw [Rat.intCast_add] at h2
  generalize lapsOf S r D p = n at *
  generalize lapsOf S r (D + k) p = m at *
  have e1 : ((1 : Int) : Rat) = 1 := rfl
  have e2 : ((2 : Int) : Rat) = 2 := rfl
  constructor
  · refine Int.not_lt.1 (fun hh => ?_)
    have h4 : ((m + 1 : Int) : Rat) ≤ (n : Rat) := Rat.intCast_le_intCast.2 (by omega)
    have h5 := Rat.mul_le_mul_of_nonneg_left h4 hl
    rw [Rat.intCast_add, e1] at h5
    grind
  · refine Int.not_lt.1 (fun hh => ?_)
    have h4 : ((n + 2 : Int) : Rat) ≤ (m : Rat) := Rat.intCast_le_intCast.2 (by omega)
    have h5 := Rat.mul_le_mul_of_nonneg_left h4 hl
    rw [Rat.intCast_add, e2] at h5
    grind
theorem floor_bd {x : Rat} {a b : Int} (h1 : (a : Rat) ≤ x) (h2 : x ≤ (b : Rat)) : a ≤ x.floor ∧ x.floor ≤ b :=
  ⟨Rat.le_floor_iff.2 h1, Rat.intCast_le_intCast.1 (Rat.le_trans (Rat.floor_le x) h2)⟩

theorem eqSpot (w : World) : (binOp .eql 56 (.agg #[.int .i64 0, .int .i64 0, .string ⟨#[]⟩, .string ⟨#[]⟩]) (.agg #[.int .i64 0, .int .i64 0, .string ⟨#[]⟩, .string ⟨#[]⟩])).run Tryz.prog w = .ok (.bool true) w := by kernel_rfl

set_option maxRecDepth 8000 in
set_option maxHeartbeats 1000000 in
theorem lRoundOk {S R W F T L : Int} (o : Oval S R W F T L) (n0 : Int) (N : Nat) (hl : 1 ≤ n0 ∧ n0 ≤ L) (hN : N ≤ 100000000) {g0 : World} (hG : Glob g0) (hB : Bends g0) (w : World) (hb : Below g0.heap.size g0 w) :
    Calls Tryz.prog 4 #[.agg #[.int .i64 S, .int .i64 R, .int .i64 W, .int .i64 F, .int .i64 T, .int .i64 L], .agg #[.int .i64 n0, .int .i64 N]] w fun e w' => e = .returned (.bool true) ∧ Below w.heap.size w w' := by
  replace hG := hG.keep hb
  replace hB := hB.keep hb
  clear hb
  have hr := rad_in o hl
  have hS := o.s
  have hz := eqSpot
  have c1 := Lib.hid (fun w => qOval S R W F T L w)
  rw [ovalE_zero.2 o] at c1
  have c2 := Lib.hid (fun w => qLane S R W F T L n0 w)
  rw [outB_false.2 hl] at c2
  have c3 := Lib.hid (fun w => qCount N 100000000 w)
  rw [outB_false.2 (show (0 : Int) ≤ N ∧ (N : Int) ≤ 100000000 by omega)] at c3
  have c9 := Lib.hid (fun (w0 : World) (hG : Glob w0) (w : World) hb' => lLap hG w hb')
  have c4 := Lib.hid (fun (w0 : World) (hG : Glob w0) (w : World) hb' => trLap o n0 hl hG w hb')
  rw [span_low (by omega), span_high (by omega), ← lap_len, ← lap_len] at c4
  obtain ⟨v1, v2⟩ := whereB o n0 N hl (by omega)
  have c5 := Lib.hid (fun w' (hb : Below w.heap.size w w') => trWhereE o n0 N hl (by omega) hG hB w' hb)
  unfold whereV at c5
  have y1 := Lib.hid (v1.lapB.valid (by omega) (by omega))
  have y2 := Lib.hid (v2.lapB.valid (by omega) (by omega))
  have y3 := Lib.hid (((part_bd v1 Part.piL (by omega) (by omega)).rmin (part_bd v2 Part.piH (by omega) (by omega))).valid (by omega) (by omega))
  have y4 := Lib.hid (((part_bd v1 Part.piL (by omega) (by omega)).rmax (part_bd v2 Part.piH (by omega) (by omega))).valid (by omega) (by omega))
  have c6 := Lib.hid (fun w => qSign (lapOf S (rad R W F T n0) piL) w)
  have hp1 : 0 < (lapOf S (rad R W F T n0) piL).num := num_pos_of (by have := v1.lap; grind)
  have hp2 : 0 < (lapOf S (rad R W F T n0) piH).num := num_pos_of (by have := v2.lap; grind)
  rw [show sgnq (lapOf S (rad R W F T n0) piL).num = 1 from by unfold sgnq; rw [if_neg (by omega), if_neg (by omega)]] at c6
  have c7 := Lib.hid (fun w => qFromInt N (by omega) w)
  have bN := Bd.int (N : Int) 100000000 (by omega)
  have c8 := Lib.hid (fun (w0 : World) (hG : Glob w0) (w : World) hb' => mDivR ((N : Int) : Rat) (lapOf S (rad R W F T n0) piL) bN v1.lapB hp1 (by omega) hG w hb')
  have c10 := Lib.hid (fun (w0 : World) (hG : Glob w0) (w : World) hb' => mDivR ((N : Int) : Rat) (lapOf S (rad R W F T n0) piH) bN v2.lapB hp2 (by omega) hG w hb')
  rw [rt_int, itoa_nat] at c8 c10
  have c11 := Lib.hid (fun (w0 : World) (hG : Glob w0) (w : World) hb' => mFloorR (((N : Int) : Rat) / lapOf S (rad R W F T n0) piL) (bN.div v1.lapB hp1) (by omega) hG w hb')
  have c12 := Lib.hid (fun (w0 : World) (hG : Glob w0) (w : World) hb' => mFloorR (((N : Int) : Rat) / lapOf S (rad R W F T n0) piH) (bN.div v2.lapB hp2) (by omega) hG w hb')
  rw [show (((N : Int) : Rat) / lapOf S (rad R W F T n0) piL).floor = lapsOf S (rad R W F T n0) N piL from rfl] at c11
  rw [show (((N : Int) : Rat) / lapOf S (rad R W F T n0) piH).floor = lapsOf S (rad R W F T n0) N piH from rfl] at c12
  have i1 := v1.lapsI
  have i2 := v2.lapsI
  have hk := floor_bd (x := lapOf S (rad R W F T n0) piH) (a := 8) (b := 10000000) v2.lap.1 v2.lap.2
  have hk2 := Rat.floor_le (a := lapOf S (rad R W F T n0) piH)
  have c13 := Lib.hid (fun (w0 : World) (hG : Glob w0) (w : World) hb' => mFloorR (lapOf S (rad R W F T n0) piH) v2.lapB (by omega) hG w hb')
  generalize (lapOf S (rad R W F T n0) piH).floor = k at *
  obtain ⟨K, rfl⟩ : ∃ K : Nat, k = (K : Int) := ⟨k.toNat, by omega⟩
  have c14 := Lib.hid (fun w => qToInt K (by omega) (by omega) w)
  obtain ⟨v3, v4⟩ := whereB o n0 (N + K) hl (by omega)
  have c15 := Lib.hid (fun w' (hb : Below w.heap.size w w') => trWhereE o n0 (N + K) hl (by omega) hG hB w' hb)
  unfold whereV at c15
  have hst := laps_step v2 v4 (by omega) hk2
  rw [itoa_nat] at c13
  have i3 := v3.lapsI
  generalize lapsOf S (rad R W F T n0) (N + K) piL = la' at *
  generalize lapsOf S (rad R W F T n0) (N + K) piH = lb' at *
  generalize (partOf S (rad R W F T n0) (N + K) piL).1 = pa' at *
  generalize (partOf S (rad R W F T n0) (N + K) piH).1 = pb' at *
  generalize rt (rmin (partOf S (rad R W F T n0) (N + K) piL).2 (partOf S (rad R W F T n0) (N + K) piH).2) = lo3 at *
  generalize rt (rmax (partOf S (rad R W F T n0) (N + K) piL).2 (partOf S (rad R W F T n0) (N + K) piH).2) = hi3 at *
  generalize (partOf S (rad R W F T n0) N piL).1 = pa at *
  generalize (partOf S (rad R W F T n0) N piH).1 = pb at *
  generalize rt (rmin (partOf S (rad R W F T n0) N piL).2 (partOf S (rad R W F T n0) N piH).2) = lo2 at *
  generalize rt (rmax (partOf S (rad R W F T n0) N piL).2 (partOf S (rad R W F T n0) N piH).2) = hi2 at *
  generalize rt (((N : Int) : Rat) / lapOf S (rad R W F T n0) piL) = tL at *
  generalize rt (((N : Int) : Rat) / lapOf S (rad R W F T n0) piH) = tH at *
  generalize rt (lapOf S (rad R W F T n0) piL) = lo1 at *
  generalize rt (lapOf S (rad R W F T n0) piH) = hi1 at *
  generalize lapsOf S (rad R W F T n0) N piL = la at *
  generalize lapsOf S (rad R W F T n0) N piH = lb at *
  obtain ⟨A, rfl⟩ : ∃ A : Nat, la = (A : Int) := ⟨la.toNat, by omega⟩
  obtain ⟨B, rfl⟩ : ∃ B : Nat, lb = (B : Int) := ⟨lb.toNat, by omega⟩
  rw [itoa_nat] at c11 c12
  have c16 := Lib.hid (fun w => qFromInt A (by omega) w)
  clear v1 v2 v3 v4 hp1 hp2 bN hr hS o hk2 hl
  simp only [Bool.false_eq_true, if_false] at c2 c3
  by_cases hs : (A : Int) = (B : Int) ∧ pa = pb
  · obtain ⟨hab, rfl⟩ := hs
    obtain rfl : A = B := by omega
    rw [show spotV (A : Int) A pa pa lo2 hi2 = .tuple #[.agg #[.int .i64 A, .int .i64 pa, .string ⟨(lo2).toArray⟩, .string ⟨(hi2).toArray⟩], .int .i64 0] from by unfold spotV; rw [if_pos ⟨rfl, rfl⟩]] at c5
    have w1 : wrap64 ((N : Int) + (K : Int)) = (N : Int) + (K : Int) := IntWalk.wrap64_in _ (by omega)
    have w2 : wrap64 ((A : Int) + 1) = (A : Int) + 1 := IntWalk.wrap64_in _ (by omega)
    have hA : (A : Int) ≤ 100000000 := by omega
    have hK1 : ¬ (K : Int) < 1 := by omega
    clear hab i1 i2 hk
    have hst := Lib.hid hst
    have i3 := Lib.hid i3
    go_enter Tryz.func4, Tryz.ntmps4
    go_wp2_with fail
    (with_reducible refine (c1.out _).mono ?_)
    rintro e w1 ⟨rfl, hb⟩
    have H1 : Below w.heap.size w w1 := by
      refine Below.trans ?_ (hb.mono ?_)
      · repeat (first | with_reducible assumption | with_reducible exact Below.refl _ _ | with_reducible refine Below.setCell ?_ (by first | omega | (simp [go_sem]; omega) | simp [go_sem]) _ | with_reducible refine Below.alloc ?_ (by first | omega | (simp [go_sem]; omega) | simp [go_sem]) _ | with_reducible refine below_grow ?_ (by first | omega | (simp [go_sem]; omega) | simp [go_sem]) _ _ | with_reducible refine Below.drew ?_)
      · first | omega | (simp [go_sem]; omega) | simp [go_sem]
    have S1 : w.heap.size ≤ w1.heap.size := H1.size
    have s1_0 : w.heap.size < w1.heap.size := Nat.lt_of_lt_of_le (by first | omega | (simp [go_sem]; omega) | simp [go_sem]) hb.size
    have k1_0 := fun o => hb.cell (p := ⟨w.heap.size, o, none⟩) (by first | omega | (simp [go_sem]; omega) | simp [go_sem])
    have f1_0 := fun o => hb.frozen (p := ⟨w.heap.size, o, none⟩) (by first | omega | (simp [go_sem]; omega) | simp [go_sem])
    have s1_1 : w.heap.size + 1 < w1.heap.size := Nat.lt_of_lt_of_le (by first | omega | (simp [go_sem]; omega) | simp [go_sem]) hb.size
    have k1_1 := fun o => hb.cell (p := ⟨w.heap.size + 1, o, none⟩) (by first | omega | (simp [go_sem]; omega) | simp [go_sem])
    have f1_1 := fun o => hb.frozen (p := ⟨w.heap.size + 1, o, none⟩) (by first | omega | (simp [go_sem]; omega) | simp [go_sem])
    have s1_2 : w.heap.size + 1 + 1 < w1.heap.size := Nat.lt_of_lt_of_le (by first | omega | (simp [go_sem]; omega) | simp [go_sem]) hb.size
    have k1_2 := fun o => hb.cell (p := ⟨w.heap.size + 1 + 1, o, none⟩) (by first | omega | (simp [go_sem]; omega) | simp [go_sem])
    have f1_2 := fun o => hb.frozen (p := ⟨w.heap.size + 1 + 1, o, none⟩) (by first | omega | (simp [go_sem]; omega) | simp [go_sem])
    clear hb
    go_wp2_with fail
    (with_reducible refine (c2.out _).mono ?_)
    rintro e w2 ⟨rfl, hb⟩
    have H2 : Below w.heap.size w w2 := by
      refine Below.trans ?_ (hb.mono ?_)
      · repeat (first | with_reducible assumption | with_reducible exact Below.refl _ _ | with_reducible refine Below.setCell ?_ (by first | omega | (simp [go_sem]; omega) | simp [go_sem]) _ | with_reducible refine Below.alloc ?_ (by first | omega | (simp [go_sem]; omega) | simp [go_sem]) _ | with_reducible refine below_grow ?_ (by first | omega | (simp [go_sem]; omega) | simp [go_sem]) _ _ | with_reducible refine Below.drew ?_)
      · first | omega | (simp [go_sem]; omega) | simp [go_sem]
    have S2 : w.heap.size ≤ w2.heap.size := H2.size
    have s2_0 : w.heap.size < w2.heap.size := Nat.lt_of_lt_of_le (by first | omega | (simp [go_sem]; omega) | simp [go_sem]) hb.size
    have k2_0 := fun o => hb.cell (p := ⟨w.heap.size, o, none⟩) (by first | omega | (simp [go_sem]; omega) | simp [go_sem])
    have f2_0 := fun o => hb.frozen (p := ⟨w.heap.size, o, none⟩) (by first | omega | (simp [go_sem]; omega) | simp [go_sem])
    have s2_1 : w.heap.size + 1 < w2.heap.size := Nat.lt_of_lt_of_le (by first | omega | (simp [go_sem]; omega) | simp [go_sem]) hb.size
    have k2_1 := fun o => hb.cell (p := ⟨w.heap.size + 1, o, none⟩) (by first | omega | (simp [go_sem]; omega) | simp [go_sem])
    have f2_1 := fun o => hb.frozen (p := ⟨w.heap.size + 1, o, none⟩) (by first | omega | (simp [go_sem]; omega) | simp [go_sem])
    have s2_2 : w.heap.size + 1 + 1 < w2.heap.size := Nat.lt_of_lt_of_le (by first | omega | (simp [go_sem]; omega) | simp [go_sem]) hb.size
    have k2_2 := fun o => hb.cell (p := ⟨w.heap.size + 1 + 1, o, none⟩) (by first | omega | (simp [go_sem]; omega) | simp [go_sem])
    have f2_2 := fun o => hb.frozen (p := ⟨w.heap.size + 1 + 1, o, none⟩) (by first | omega | (simp [go_sem]; omega) | simp [go_sem])
    clear hb
    go_wp2_with fail
    (with_reducible refine (c3.out _).mono ?_)
    rintro e w3 ⟨rfl, hb⟩
    have H3 : Below w.heap.size w w3 := by
      refine Below.trans ?_ (hb.mono ?_)
      · repeat (first | with_reducible assumption | with_reducible exact Below.refl _ _ | with_reducible refine Below.setCell ?_ (by first | omega | (simp [go_sem]; omega) | simp [go_sem]) _ | with_reducible refine Below.alloc ?_ (by first | omega | (simp [go_sem]; omega) | simp [go_sem]) _ | with_reducible refine below_grow ?_ (by first | omega | (simp [go_sem]; omega) | simp [go_sem]) _ _ | with_reducible refine Below.drew ?_)
      · first | omega | (simp [go_sem]; omega) | simp [go_sem]
    have S3 : w.heap.size ≤ w3.heap.size := H3.size
    have s3_0 : w.heap.size < w3.heap.size := Nat.lt_of_lt_of_le (by first | omega | (simp [go_sem]; omega) | simp [go_sem]) hb.size
    have k3_0 := fun o => hb.cell (p := ⟨w.heap.size, o, none⟩) (by first | omega | (simp [go_sem]; omega) | simp [go_sem])
    have f3_0 := fun o => hb.frozen (p := ⟨w.heap.size, o, none⟩) (by first | omega | (simp [go_sem]; omega) | simp [go_sem])
    have s3_1 : w.heap.size + 1 < w3.heap.size := Nat.lt_of_lt_of_le (by first | omega | (simp [go_sem]; omega) | simp [go_sem]) hb.size
    have k3_1 := fun o => hb.cell (p := ⟨w.heap.size + 1, o, none⟩) (by first | omega | (simp [go_sem]; omega) | simp [go_sem])
    have f3_1 := fun o => hb.frozen (p := ⟨w.heap.size + 1, o, none⟩) (by first | omega | (simp [go_sem]; omega) | simp [go_sem])
    have s3_2 : w.heap.size + 1 + 1 < w3.heap.size := Nat.lt_of_lt_of_le (by first | omega | (simp [go_sem]; omega) | simp [go_sem]) hb.size
    have k3_2 := fun o => hb.cell (p := ⟨w.heap.size + 1 + 1, o, none⟩) (by first | omega | (simp [go_sem]; omega) | simp [go_sem])
    have f3_2 := fun o => hb.frozen (p := ⟨w.heap.size + 1 + 1, o, none⟩) (by first | omega | (simp [go_sem]; omega) | simp [go_sem])
    clear hb
    go_wp2_with fail
    clear c1 c2 c3
    (with_reducible refine (c4.out _ hG _ ?_).mono ?_)
    · repeat (first | with_reducible assumption | with_reducible exact Below.refl _ _ | with_reducible refine Below.setCell ?_ (by first | omega | (simp [go_sem]; omega) | simp [go_sem]) _ | with_reducible refine Below.alloc ?_ (by first | omega | (simp [go_sem]; omega) | simp [go_sem]) _ | with_reducible refine below_grow ?_ (by first | omega | (simp [go_sem]; omega) | simp [go_sem]) _ _ | with_reducible refine Below.drew ?_)
    rintro e w4 ⟨rfl, hb⟩
    have H4 : Below w.heap.size w w4 := by
      refine Below.trans ?_ (hb.mono ?_)
      · repeat (first | with_reducible assumption | with_reducible exact Below.refl _ _ | with_reducible refine Below.setCell ?_ (by first | omega | (simp [go_sem]; omega) | simp [go_sem]) _ | with_reducible refine Below.alloc ?_ (by first | omega | (simp [go_sem]; omega) | simp [go_sem]) _ | with_reducible refine below_grow ?_ (by first | omega | (simp [go_sem]; omega) | simp [go_sem]) _ _ | with_reducible refine Below.drew ?_)
      · first | omega | (simp [go_sem]; omega) | simp [go_sem]
    have S4 : w.heap.size ≤ w4.heap.size := H4.size
    have s4_0 : w.heap.size < w4.heap.size := Nat.lt_of_lt_of_le (by first | omega | (simp [go_sem]; omega) | simp [go_sem]) hb.size
    have k4_0 := fun o => hb.cell (p := ⟨w.heap.size, o, none⟩) (by first | omega | (simp [go_sem]; omega) | simp [go_sem])
    have f4_0 := fun o => hb.frozen (p := ⟨w.heap.size, o, none⟩) (by first | omega | (simp [go_sem]; omega) | simp [go_sem])
    have s4_1 : w.heap.size + 1 < w4.heap.size := Nat.lt_of_lt_of_le (by first | omega | (simp [go_sem]; omega) | simp [go_sem]) hb.size
    have k4_1 := fun o => hb.cell (p := ⟨w.heap.size + 1, o, none⟩) (by first | omega | (simp [go_sem]; omega) | simp [go_sem])
    have f4_1 := fun o => hb.frozen (p := ⟨w.heap.size + 1, o, none⟩) (by first | omega | (simp [go_sem]; omega) | simp [go_sem])
    have s4_2 : w.heap.size + 1 + 1 < w4.heap.size := Nat.lt_of_lt_of_le (by first | omega | (simp [go_sem]; omega) | simp [go_sem]) hb.size
    have k4_2 := fun o => hb.cell (p := ⟨w.heap.size + 1 + 1, o, none⟩) (by first | omega | (simp [go_sem]; omega) | simp [go_sem])
    have f4_2 := fun o => hb.frozen (p := ⟨w.heap.size + 1 + 1, o, none⟩) (by first | omega | (simp [go_sem]; omega) | simp [go_sem])
    clear hb
    clear c4
    go_wp2_with fail
    (with_reducible refine (c5.out _ ?_).mono ?_)
    · repeat (first | with_reducible assumption | with_reducible exact Below.refl _ _ | with_reducible refine Below.setCell ?_ (by first | omega | (simp [go_sem]; omega) | simp [go_sem]) _ | with_reducible refine Below.alloc ?_ (by first | omega | (simp [go_sem]; omega) | simp [go_sem]) _ | with_reducible refine below_grow ?_ (by first | omega | (simp [go_sem]; omega) | simp [go_sem]) _ _ | with_reducible refine Below.drew ?_)
    rintro e w5 ⟨rfl, hb⟩
    have H5 : Below w.heap.size w w5 := by
      refine Below.trans ?_ (hb.mono ?_)
      · repeat (first | with_reducible assumption | with_reducible exact Below.refl _ _ | with_reducible refine Below.setCell ?_ (by first | omega | (simp [go_sem]; omega) | simp [go_sem]) _ | with_reducible refine Below.alloc ?_ (by first | omega | (simp [go_sem]; omega) | simp [go_sem]) _ | with_reducible refine below_grow ?_ (by first | omega | (simp [go_sem]; omega) | simp [go_sem]) _ _ | with_reducible refine Below.drew ?_)
      · first | omega | (simp [go_sem]; omega) | simp [go_sem]
    have S5 : w.heap.size ≤ w5.heap.size := H5.size
    have s5_0 : w.heap.size < w5.heap.size := Nat.lt_of_lt_of_le (by first | omega | (simp [go_sem]; omega) | simp [go_sem]) hb.size
    have k5_0 := fun o => hb.cell (p := ⟨w.heap.size, o, none⟩) (by first | omega | (simp [go_sem]; omega) | simp [go_sem])
    have f5_0 := fun o => hb.frozen (p := ⟨w.heap.size, o, none⟩) (by first | omega | (simp [go_sem]; omega) | simp [go_sem])
    have s5_1 : w.heap.size + 1 < w5.heap.size := Nat.lt_of_lt_of_le (by first | omega | (simp [go_sem]; omega) | simp [go_sem]) hb.size
    have k5_1 := fun o => hb.cell (p := ⟨w.heap.size + 1, o, none⟩) (by first | omega | (simp [go_sem]; omega) | simp [go_sem])
    have f5_1 := fun o => hb.frozen (p := ⟨w.heap.size + 1, o, none⟩) (by first | omega | (simp [go_sem]; omega) | simp [go_sem])
    have s5_2 : w.heap.size + 1 + 1 < w5.heap.size := Nat.lt_of_lt_of_le (by first | omega | (simp [go_sem]; omega) | simp [go_sem]) hb.size
    have k5_2 := fun o => hb.cell (p := ⟨w.heap.size + 1 + 1, o, none⟩) (by first | omega | (simp [go_sem]; omega) | simp [go_sem])
    have f5_2 := fun o => hb.frozen (p := ⟨w.heap.size + 1 + 1, o, none⟩) (by first | omega | (simp [go_sem]; omega) | simp [go_sem])
    have s5_3 : w4.heap.size < w5.heap.size := Nat.lt_of_lt_of_le (by first | omega | (simp [go_sem]; omega) | simp [go_sem]) hb.size
    have k5_3 := fun o => hb.cell (p := ⟨w4.heap.size, o, none⟩) (by first | omega | (simp [go_sem]; omega) | simp [go_sem])
    have f5_3 := fun o => hb.frozen (p := ⟨w4.heap.size, o, none⟩) (by first | omega | (simp [go_sem]; omega) | simp [go_sem])
    clear hb
    clear c5
    go_wp2_with fail
    (with_reducible refine (bTrue2 (w5.heap.size + 1) lo1 hi1 y1.out y2.out _ ?_ ?_ ?_).mono ?_)
    · first | omega | (simp [go_sem]; omega) | (simp (maxDischargeDepth := 4) [go_sem]; done) | (simp (maxDischargeDepth := 6) [*, go_sem]; done)
    · first | omega | (simp [go_sem]; omega) | (simp (maxDischargeDepth := 4) [go_sem]; done) | (simp (maxDischargeDepth := 6) [*, go_sem]; done)
    · first | omega | (simp [go_sem]; omega) | (simp (maxDischargeDepth := 4) [go_sem]; done) | (simp (maxDischargeDepth := 6) [*, go_sem]; done)
    rintro e w6 ⟨rfl, hb⟩
    have H6 : Below w.heap.size w w6 := by
      refine Below.trans ?_ (hb.mono ?_)
      · repeat (first | with_reducible assumption | with_reducible exact Below.refl _ _ | with_reducible refine Below.setCell ?_ (by first | omega | (simp [go_sem]; omega) | simp [go_sem]) _ | with_reducible refine Below.alloc ?_ (by first | omega | (simp [go_sem]; omega) | simp [go_sem]) _ | with_reducible refine below_grow ?_ (by first | omega | (simp [go_sem]; omega) | simp [go_sem]) _ _ | with_reducible refine Below.drew ?_)
      · first | omega | (simp [go_sem]; omega) | simp [go_sem]
    have S6 : w.heap.size ≤ w6.heap.size := H6.size
    have s6_0 : w.heap.size < w6.heap.size := Nat.lt_of_lt_of_le (by first | omega | (simp [go_sem]; omega) | simp [go_sem]) hb.size
    have k6_0 := fun o => hb.cell (p := ⟨w.heap.size, o, none⟩) (by first | omega | (simp [go_sem]; omega) | simp [go_sem])
    have f6_0 := fun o => hb.frozen (p := ⟨w.heap.size, o, none⟩) (by first | omega | (simp [go_sem]; omega) | simp [go_sem])
    have s6_1 : w.heap.size + 1 < w6.heap.size := Nat.lt_of_lt_of_le (by first | omega | (simp [go_sem]; omega) | simp [go_sem]) hb.size
    have k6_1 := fun o => hb.cell (p := ⟨w.heap.size + 1, o, none⟩) (by first | omega | (simp [go_sem]; omega) | simp [go_sem])
    have f6_1 := fun o => hb.frozen (p := ⟨w.heap.size + 1, o, none⟩) (by first | omega | (simp [go_sem]; omega) | simp [go_sem])
    have s6_2 : w.heap.size + 1 + 1 < w6.heap.size := Nat.lt_of_lt_of_le (by first | omega | (simp [go_sem]; omega) | simp [go_sem]) hb.size
    have k6_2 := fun o => hb.cell (p := ⟨w.heap.size + 1 + 1, o, none⟩) (by first | omega | (simp [go_sem]; omega) | simp [go_sem])
    have f6_2 := fun o => hb.frozen (p := ⟨w.heap.size + 1 + 1, o, none⟩) (by first | omega | (simp [go_sem]; omega) | simp [go_sem])
    have s6_3 : w4.heap.size < w6.heap.size := Nat.lt_of_lt_of_le (by first | omega | (simp [go_sem]; omega) | simp [go_sem]) hb.size
    have k6_3 := fun o => hb.cell (p := ⟨w4.heap.size, o, none⟩) (by first | omega | (simp [go_sem]; omega) | simp [go_sem])
    have f6_3 := fun o => hb.frozen (p := ⟨w4.heap.size, o, none⟩) (by first | omega | (simp [go_sem]; omega) | simp [go_sem])
    have s6_4 : w5.heap.size < w6.heap.size := Nat.lt_of_lt_of_le (by first | omega | (simp [go_sem]; omega) | simp [go_sem]) hb.size
    have k6_4 := fun o => hb.cell (p := ⟨w5.heap.size, o, none⟩) (by first | omega | (simp [go_sem]; omega) | simp [go_sem])
    have f6_4 := fun o => hb.frozen (p := ⟨w5.heap.size, o, none⟩) (by first | omega | (simp [go_sem]; omega) | simp [go_sem])
    clear hb
    go_wp2_with fail
    (with_reducible refine (c6.out _).mono ?_)
    rintro e w7 ⟨rfl, hb⟩
    have H7 : Below w.heap.size w w7 := by
      refine Below.trans ?_ (hb.mono ?_)
      · repeat (first | with_reducible assumption | with_reducible exact Below.refl _ _ | with_reducible refine Below.setCell ?_ (by first | omega | (simp [go_sem]; omega) | simp [go_sem]) _ | with_reducible refine Below.alloc ?_ (by first | omega | (simp [go_sem]; omega) | simp [go_sem]) _ | with_reducible refine below_grow ?_ (by first | omega | (simp [go_sem]; omega) | simp [go_sem]) _ _ | with_reducible refine Below.drew ?_)
      · first | omega | (simp [go_sem]; omega) | simp [go_sem]
    have S7 : w.heap.size ≤ w7.heap.size := H7.size
    have s7_0 : w.heap.size < w7.heap.size := Nat.lt_of_lt_of_le (by first | omega | (simp [go_sem]; omega) | simp [go_sem]) hb.size
    have k7_0 := fun o => hb.cell (p := ⟨w.heap.size, o, none⟩) (by first | omega | (simp [go_sem]; omega) | simp [go_sem])
    have f7_0 := fun o => hb.frozen (p := ⟨w.heap.size, o, none⟩) (by first | omega | (simp [go_sem]; omega) | simp [go_sem])
    have s7_1 : w.heap.size + 1 < w7.heap.size := Nat.lt_of_lt_of_le (by first | omega | (simp [go_sem]; omega) | simp [go_sem]) hb.size
    have k7_1 := fun o => hb.cell (p := ⟨w.heap.size + 1, o, none⟩) (by first | omega | (simp [go_sem]; omega) | simp [go_sem])
    have f7_1 := fun o => hb.frozen (p := ⟨w.heap.size + 1, o, none⟩) (by first | omega | (simp [go_sem]; omega) | simp [go_sem])
    have s7_2 : w.heap.size + 1 + 1 < w7.heap.size := Nat.lt_of_lt_of_le (by first | omega | (simp [go_sem]; omega) | simp [go_sem]) hb.size
    have k7_2 := fun o => hb.cell (p := ⟨w.heap.size + 1 + 1, o, none⟩) (by first | omega | (simp [go_sem]; omega) | simp [go_sem])
    have f7_2 := fun o => hb.frozen (p := ⟨w.heap.size + 1 + 1, o, none⟩) (by first | omega | (simp [go_sem]; omega) | simp [go_sem])
    have s7_3 : w4.heap.size < w7.heap.size := Nat.lt_of_lt_of_le (by first | omega | (simp [go_sem]; omega) | simp [go_sem]) hb.size
    have k7_3 := fun o => hb.cell (p := ⟨w4.heap.size, o, none⟩) (by first | omega | (simp [go_sem]; omega) | simp [go_sem])
    have f7_3 := fun o => hb.frozen (p := ⟨w4.heap.size, o, none⟩) (by first | omega | (simp [go_sem]; omega) | simp [go_sem])
    have s7_4 : w5.heap.size < w7.heap.size := Nat.lt_of_lt_of_le (by first | omega | (simp [go_sem]; omega) | simp [go_sem]) hb.size
    have k7_4 := fun o => hb.cell (p := ⟨w5.heap.size, o, none⟩) (by first | omega | (simp [go_sem]; omega) | simp [go_sem])
    have f7_4 := fun o => hb.frozen (p := ⟨w5.heap.size, o, none⟩) (by first | omega | (simp [go_sem]; omega) | simp [go_sem])
    clear hb
    go_wp2_with fail
    clear c6
    refine wp_region_tail 11 (by kernel_rfl) (by kernel_rfl) (by kernel_rfl) ?_
    simp only [List.take_succ_cons, List.take_zero, List.drop_succ_cons, List.drop_zero, List.take_nil, List.drop_nil]
    repeat (quiet_step (first | with_reducible exact Calls.regrown_of (c7.out _) | ((with_reducible refine Calls.regrown_of (c8.out _ hG _ ?_)); repeat (first | with_reducible assumption | with_reducible exact Below.refl _ _ | with_reducible refine Below.setCell ?_ (by first | omega | (simp [go_sem]; omega) | simp [go_sem]) _ | with_reducible refine Below.alloc ?_ (by first | omega | (simp [go_sem]; omega) | simp [go_sem]) _ | with_reducible refine below_grow ?_ (by first | omega | (simp [go_sem]; omega) | simp [go_sem]) _ _ | with_reducible refine Below.drew ?_))))
    refine wpQuiet_nil ?_
    intro w8 hw
    have hb := below_of_regrown hw
    clear hw
    have H8 : Below w.heap.size w w8 := by
      refine Below.trans ?_ (hb.mono ?_)
      · repeat (first | with_reducible assumption | with_reducible exact Below.refl _ _ | with_reducible refine Below.setCell ?_ (by first | omega | (simp [go_sem]; omega) | simp [go_sem]) _ | with_reducible refine Below.alloc ?_ (by first | omega | (simp [go_sem]; omega) | simp [go_sem]) _ | with_reducible refine below_grow ?_ (by first | omega | (simp [go_sem]; omega) | simp [go_sem]) _ _ | with_reducible refine Below.drew ?_)
      · first | omega | (simp [go_sem]; omega) | simp [go_sem]
    have S8 : w.heap.size ≤ w8.heap.size := H8.size
    have s8_0 : w.heap.size < w8.heap.size := Nat.lt_of_lt_of_le (by first | omega | (simp [go_sem]; omega) | simp [go_sem]) hb.size
    have k8_0 := fun o => hb.cell (p := ⟨w.heap.size, o, none⟩) (by first | omega | (simp [go_sem]; omega) | simp [go_sem])
    have f8_0 := fun o => hb.frozen (p := ⟨w.heap.size, o, none⟩) (by first | omega | (simp [go_sem]; omega) | simp [go_sem])
    have s8_1 : w.heap.size + 1 < w8.heap.size := Nat.lt_of_lt_of_le (by first | omega | (simp [go_sem]; omega) | simp [go_sem]) hb.size
    have k8_1 := fun o => hb.cell (p := ⟨w.heap.size + 1, o, none⟩) (by first | omega | (simp [go_sem]; omega) | simp [go_sem])
    have f8_1 := fun o => hb.frozen (p := ⟨w.heap.size + 1, o, none⟩) (by first | omega | (simp [go_sem]; omega) | simp [go_sem])
    have s8_2 : w.heap.size + 1 + 1 < w8.heap.size := Nat.lt_of_lt_of_le (by first | omega | (simp [go_sem]; omega) | simp [go_sem]) hb.size
    have k8_2 := fun o => hb.cell (p := ⟨w.heap.size + 1 + 1, o, none⟩) (by first | omega | (simp [go_sem]; omega) | simp [go_sem])
    have f8_2 := fun o => hb.frozen (p := ⟨w.heap.size + 1 + 1, o, none⟩) (by first | omega | (simp [go_sem]; omega) | simp [go_sem])
    have s8_3 : w4.heap.size < w8.heap.size := Nat.lt_of_lt_of_le (by first | omega | (simp [go_sem]; omega) | simp [go_sem]) hb.size
    have k8_3 := fun o => hb.cell (p := ⟨w4.heap.size, o, none⟩) (by first | omega | (simp [go_sem]; omega) | simp [go_sem])
    have f8_3 := fun o => hb.frozen (p := ⟨w4.heap.size, o, none⟩) (by first | omega | (simp [go_sem]; omega) | simp [go_sem])
    have s8_4 : w5.heap.size < w8.heap.size := Nat.lt_of_lt_of_le (by first | omega | (simp [go_sem]; omega) | simp [go_sem]) hb.size
    have k8_4 := fun o => hb.cell (p := ⟨w5.heap.size, o, none⟩) (by first | omega | (simp [go_sem]; omega) | simp [go_sem])
    have f8_4 := fun o => hb.frozen (p := ⟨w5.heap.size, o, none⟩) (by first | omega | (simp [go_sem]; omega) | simp [go_sem])
    clear hb
    clear c8
    go_wp2_with fail
    refine wp_region_tail 11 (by kernel_rfl) (by kernel_rfl) (by kernel_rfl) ?_
    simp only [List.take_succ_cons, List.take_zero, List.drop_succ_cons, List.drop_zero, List.take_nil, List.drop_nil]
    repeat (quiet_step (first | with_reducible exact Calls.regrown_of (c7.out _) | ((with_reducible refine Calls.regrown_of (c10.out _ hG _ ?_)); repeat (first | with_reducible assumption | with_reducible exact Below.refl _ _ | with_reducible refine Below.setCell ?_ (by first | omega | (simp [go_sem]; omega) | simp [go_sem]) _ | with_reducible refine Below.alloc ?_ (by first | omega | (simp [go_sem]; omega) | simp [go_sem]) _ | with_reducible refine below_grow ?_ (by first | omega | (simp [go_sem]; omega) | simp [go_sem]) _ _ | with_reducible refine Below.drew ?_))))
    refine wpQuiet_nil ?_
    intro w9 hw
    have hb := below_of_regrown hw
    clear hw
    have H9 : Below w.heap.size w w9 := by
      refine Below.trans ?_ (hb.mono ?_)
      · repeat (first | with_reducible assumption | with_reducible exact Below.refl _ _ | with_reducible refine Below.setCell ?_ (by first | omega | (simp [go_sem]; omega) | simp [go_sem]) _ | with_reducible refine Below.alloc ?_ (by first | omega | (simp [go_sem]; omega) | simp [go_sem]) _ | with_reducible refine below_grow ?_ (by first | omega | (simp [go_sem]; omega) | simp [go_sem]) _ _ | with_reducible refine Below.drew ?_)
      · first | omega | (simp [go_sem]; omega) | simp [go_sem]
    have S9 : w.heap.size ≤ w9.heap.size := H9.size
    have s9_0 : w.heap.size < w9.heap.size := Nat.lt_of_lt_of_le (by first | omega | (simp [go_sem]; omega) | simp [go_sem]) hb.size
    have k9_0 := fun o => hb.cell (p := ⟨w.heap.size, o, none⟩) (by first | omega | (simp [go_sem]; omega) | simp [go_sem])
    have f9_0 := fun o => hb.frozen (p := ⟨w.heap.size, o, none⟩) (by first | omega | (simp [go_sem]; omega) | simp [go_sem])
    have s9_1 : w.heap.size + 1 < w9.heap.size := Nat.lt_of_lt_of_le (by first | omega | (simp [go_sem]; omega) | simp [go_sem]) hb.size
    have k9_1 := fun o => hb.cell (p := ⟨w.heap.size + 1, o, none⟩) (by first | omega | (simp [go_sem]; omega) | simp [go_sem])
    have f9_1 := fun o => hb.frozen (p := ⟨w.heap.size + 1, o, none⟩) (by first | omega | (simp [go_sem]; omega) | simp [go_sem])
    have s9_2 : w.heap.size + 1 + 1 < w9.heap.size := Nat.lt_of_lt_of_le (by first | omega | (simp [go_sem]; omega) | simp [go_sem]) hb.size
    have k9_2 := fun o => hb.cell (p := ⟨w.heap.size + 1 + 1, o, none⟩) (by first | omega | (simp [go_sem]; omega) | simp [go_sem])
    have f9_2 := fun o => hb.frozen (p := ⟨w.heap.size + 1 + 1, o, none⟩) (by first | omega | (simp [go_sem]; omega) | simp [go_sem])
    have s9_3 : w4.heap.size < w9.heap.size := Nat.lt_of_lt_of_le (by first | omega | (simp [go_sem]; omega) | simp [go_sem]) hb.size
    have k9_3 := fun o => hb.cell (p := ⟨w4.heap.size, o, none⟩) (by first | omega | (simp [go_sem]; omega) | simp [go_sem])
    have f9_3 := fun o => hb.frozen (p := ⟨w4.heap.size, o, none⟩) (by first | omega | (simp [go_sem]; omega) | simp [go_sem])
    have s9_4 : w5.heap.size < w9.heap.size := Nat.lt_of_lt_of_le (by first | omega | (simp [go_sem]; omega) | simp [go_sem]) hb.size
    have k9_4 := fun o => hb.cell (p := ⟨w5.heap.size, o, none⟩) (by first | omega | (simp [go_sem]; omega) | simp [go_sem])
    have f9_4 := fun o => hb.frozen (p := ⟨w5.heap.size, o, none⟩) (by first | omega | (simp [go_sem]; omega) | simp [go_sem])
    clear hb
    clear c7 c10
    go_wp2_with fail
    (with_reducible refine (c11.out _ hG _ ?_).mono ?_)
    · repeat (first | with_reducible assumption | with_reducible exact Below.refl _ _ | with_reducible refine Below.setCell ?_ (by first | omega | (simp [go_sem]; omega) | simp [go_sem]) _ | with_reducible refine Below.alloc ?_ (by first | omega | (simp [go_sem]; omega) | simp [go_sem]) _ | with_reducible refine below_grow ?_ (by first | omega | (simp [go_sem]; omega) | simp [go_sem]) _ _ | with_reducible refine Below.drew ?_)
    rintro e w10 ⟨rfl, hb⟩
    have H10 : Below w.heap.size w w10 := by
      refine Below.trans ?_ (hb.mono ?_)
      · repeat (first | with_reducible assumption | with_reducible exact Below.refl _ _ | with_reducible refine Below.setCell ?_ (by first | omega | (simp [go_sem]; omega) | simp [go_sem]) _ | with_reducible refine Below.alloc ?_ (by first | omega | (simp [go_sem]; omega) | simp [go_sem]) _ | with_reducible refine below_grow ?_ (by first | omega | (simp [go_sem]; omega) | simp [go_sem]) _ _ | with_reducible refine Below.drew ?_)
      · first | omega | (simp [go_sem]; omega) | simp [go_sem]
    have S10 : w.heap.size ≤ w10.heap.size := H10.size
    have s10_0 : w.heap.size < w10.heap.size := Nat.lt_of_lt_of_le (by first | omega | (simp [go_sem]; omega) | simp [go_sem]) hb.size
    have k10_0 := fun o => hb.cell (p := ⟨w.heap.size, o, none⟩) (by first | omega | (simp [go_sem]; omega) | simp [go_sem])
    have f10_0 := fun o => hb.frozen (p := ⟨w.heap.size, o, none⟩) (by first | omega | (simp [go_sem]; omega) | simp [go_sem])
    have s10_1 : w.heap.size + 1 < w10.heap.size := Nat.lt_of_lt_of_le (by first | omega | (simp [go_sem]; omega) | simp [go_sem]) hb.size
    have k10_1 := fun o => hb.cell (p := ⟨w.heap.size + 1, o, none⟩) (by first | omega | (simp [go_sem]; omega) | simp [go_sem])
    have f10_1 := fun o => hb.frozen (p := ⟨w.heap.size + 1, o, none⟩) (by first | omega | (simp [go_sem]; omega) | simp [go_sem])
    have s10_2 : w.heap.size + 1 + 1 < w10.heap.size := Nat.lt_of_lt_of_le (by first | omega | (simp [go_sem]; omega) | simp [go_sem]) hb.size
    have k10_2 := fun o => hb.cell (p := ⟨w.heap.size + 1 + 1, o, none⟩) (by first | omega | (simp [go_sem]; omega) | simp [go_sem])
    have f10_2 := fun o => hb.frozen (p := ⟨w.heap.size + 1 + 1, o, none⟩) (by first | omega | (simp [go_sem]; omega) | simp [go_sem])
    have s10_3 : w4.heap.size < w10.heap.size := Nat.lt_of_lt_of_le (by first | omega | (simp [go_sem]; omega) | simp [go_sem]) hb.size
    have k10_3 := fun o => hb.cell (p := ⟨w4.heap.size, o, none⟩) (by first | omega | (simp [go_sem]; omega) | simp [go_sem])
    have f10_3 := fun o => hb.frozen (p := ⟨w4.heap.size, o, none⟩) (by first | omega | (simp [go_sem]; omega) | simp [go_sem])
    have s10_4 : w5.heap.size < w10.heap.size := Nat.lt_of_lt_of_le (by first | omega | (simp [go_sem]; omega) | simp [go_sem]) hb.size
    have k10_4 := fun o => hb.cell (p := ⟨w5.heap.size, o, none⟩) (by first | omega | (simp [go_sem]; omega) | simp [go_sem])
    have f10_4 := fun o => hb.frozen (p := ⟨w5.heap.size, o, none⟩) (by first | omega | (simp [go_sem]; omega) | simp [go_sem])
    clear hb
    clear c11
    go_wp2_with fail
    (with_reducible refine (c12.out _ hG _ ?_).mono ?_)
    · repeat (first | with_reducible assumption | with_reducible exact Below.refl _ _ | with_reducible refine Below.setCell ?_ (by first | omega | (simp [go_sem]; omega) | simp [go_sem]) _ | with_reducible refine Below.alloc ?_ (by first | omega | (simp [go_sem]; omega) | simp [go_sem]) _ | with_reducible refine below_grow ?_ (by first | omega | (simp [go_sem]; omega) | simp [go_sem]) _ _ | with_reducible refine Below.drew ?_)
    rintro e w11 ⟨rfl, hb⟩
    have H11 : Below w.heap.size w w11 := by
      refine Below.trans ?_ (hb.mono ?_)
      · repeat (first | with_reducible assumption | with_reducible exact Below.refl _ _ | with_reducible refine Below.setCell ?_ (by first | omega | (simp [go_sem]; omega) | simp [go_sem]) _ | with_reducible refine Below.alloc ?_ (by first | omega | (simp [go_sem]; omega) | simp [go_sem]) _ | with_reducible refine below_grow ?_ (by first | omega | (simp [go_sem]; omega) | simp [go_sem]) _ _ | with_reducible refine Below.drew ?_)
      · first | omega | (simp [go_sem]; omega) | simp [go_sem]
    have S11 : w.heap.size ≤ w11.heap.size := H11.size
    have s11_0 : w.heap.size < w11.heap.size := Nat.lt_of_lt_of_le (by first | omega | (simp [go_sem]; omega) | simp [go_sem]) hb.size
    have k11_0 := fun o => hb.cell (p := ⟨w.heap.size, o, none⟩) (by first | omega | (simp [go_sem]; omega) | simp [go_sem])
    have f11_0 := fun o => hb.frozen (p := ⟨w.heap.size, o, none⟩) (by first | omega | (simp [go_sem]; omega) | simp [go_sem])
    have s11_1 : w.heap.size + 1 < w11.heap.size := Nat.lt_of_lt_of_le (by first | omega | (simp [go_sem]; omega) | simp [go_sem]) hb.size
    have k11_1 := fun o => hb.cell (p := ⟨w.heap.size + 1, o, none⟩) (by first | omega | (simp [go_sem]; omega) | simp [go_sem])
    have f11_1 := fun o => hb.frozen (p := ⟨w.heap.size + 1, o, none⟩) (by first | omega | (simp [go_sem]; omega) | simp [go_sem])
    have s11_2 : w.heap.size + 1 + 1 < w11.heap.size := Nat.lt_of_lt_of_le (by first | omega | (simp [go_sem]; omega) | simp [go_sem]) hb.size
    have k11_2 := fun o => hb.cell (p := ⟨w.heap.size + 1 + 1, o, none⟩) (by first | omega | (simp [go_sem]; omega) | simp [go_sem])
    have f11_2 := fun o => hb.frozen (p := ⟨w.heap.size + 1 + 1, o, none⟩) (by first | omega | (simp [go_sem]; omega) | simp [go_sem])
    have s11_3 : w4.heap.size < w11.heap.size := Nat.lt_of_lt_of_le (by first | omega | (simp [go_sem]; omega) | simp [go_sem]) hb.size
    have k11_3 := fun o => hb.cell (p := ⟨w4.heap.size, o, none⟩) (by first | omega | (simp [go_sem]; omega) | simp [go_sem])
    have f11_3 := fun o => hb.frozen (p := ⟨w4.heap.size, o, none⟩) (by first | omega | (simp [go_sem]; omega) | simp [go_sem])
    have s11_4 : w5.heap.size < w11.heap.size := Nat.lt_of_lt_of_le (by first | omega | (simp [go_sem]; omega) | simp [go_sem]) hb.size
    have k11_4 := fun o => hb.cell (p := ⟨w5.heap.size, o, none⟩) (by first | omega | (simp [go_sem]; omega) | simp [go_sem])
    have f11_4 := fun o => hb.frozen (p := ⟨w5.heap.size, o, none⟩) (by first | omega | (simp [go_sem]; omega) | simp [go_sem])
    clear hb
    clear c12
    go_wp2_with fail
    (with_reducible refine (bTrue2 (w11.heap.size) lo2 hi2 y3.out y4.out _ ?_ ?_ ?_).mono ?_)
    · first | omega | (simp [go_sem]; omega) | (simp (maxDischargeDepth := 4) [go_sem]; done) | (simp (maxDischargeDepth := 6) [*, go_sem]; done)
    · first | omega | (simp [go_sem]; omega) | (simp (maxDischargeDepth := 4) [go_sem]; done) | (simp (maxDischargeDepth := 6) [*, go_sem]; done)
    · first | omega | (simp [go_sem]; omega) | (simp (maxDischargeDepth := 4) [go_sem]; done) | (simp (maxDischargeDepth := 6) [*, go_sem]; done)
    rintro e w12 ⟨rfl, hb⟩
    have H12 : Below w.heap.size w w12 := by
      refine Below.trans ?_ (hb.mono ?_)
      · repeat (first | with_reducible assumption | with_reducible exact Below.refl _ _ | with_reducible refine Below.setCell ?_ (by first | omega | (simp [go_sem]; omega) | simp [go_sem]) _ | with_reducible refine Below.alloc ?_ (by first | omega | (simp [go_sem]; omega) | simp [go_sem]) _ | with_reducible refine below_grow ?_ (by first | omega | (simp [go_sem]; omega) | simp [go_sem]) _ _ | with_reducible refine Below.drew ?_)
      · first | omega | (simp [go_sem]; omega) | simp [go_sem]
    have S12 : w.heap.size ≤ w12.heap.size := H12.size
    have s12_0 : w.heap.size < w12.heap.size := Nat.lt_of_lt_of_le (by first | omega | (simp [go_sem]; omega) | simp [go_sem]) hb.size
    have k12_0 := fun o => hb.cell (p := ⟨w.heap.size, o, none⟩) (by first | omega | (simp [go_sem]; omega) | simp [go_sem])
    have f12_0 := fun o => hb.frozen (p := ⟨w.heap.size, o, none⟩) (by first | omega | (simp [go_sem]; omega) | simp [go_sem])
    have s12_1 : w.heap.size + 1 < w12.heap.size := Nat.lt_of_lt_of_le (by first | omega | (simp [go_sem]; omega) | simp [go_sem]) hb.size
    have k12_1 := fun o => hb.cell (p := ⟨w.heap.size + 1, o, none⟩) (by first | omega | (simp [go_sem]; omega) | simp [go_sem])
    have f12_1 := fun o => hb.frozen (p := ⟨w.heap.size + 1, o, none⟩) (by first | omega | (simp [go_sem]; omega) | simp [go_sem])
    have s12_2 : w.heap.size + 1 + 1 < w12.heap.size := Nat.lt_of_lt_of_le (by first | omega | (simp [go_sem]; omega) | simp [go_sem]) hb.size
    have k12_2 := fun o => hb.cell (p := ⟨w.heap.size + 1 + 1, o, none⟩) (by first | omega | (simp [go_sem]; omega) | simp [go_sem])
    have f12_2 := fun o => hb.frozen (p := ⟨w.heap.size + 1 + 1, o, none⟩) (by first | omega | (simp [go_sem]; omega) | simp [go_sem])
    have s12_3 : w4.heap.size < w12.heap.size := Nat.lt_of_lt_of_le (by first | omega | (simp [go_sem]; omega) | simp [go_sem]) hb.size
    have k12_3 := fun o => hb.cell (p := ⟨w4.heap.size, o, none⟩) (by first | omega | (simp [go_sem]; omega) | simp [go_sem])
    have f12_3 := fun o => hb.frozen (p := ⟨w4.heap.size, o, none⟩) (by first | omega | (simp [go_sem]; omega) | simp [go_sem])
    have s12_4 : w5.heap.size < w12.heap.size := Nat.lt_of_lt_of_le (by first | omega | (simp [go_sem]; omega) | simp [go_sem]) hb.size
    have k12_4 := fun o => hb.cell (p := ⟨w5.heap.size, o, none⟩) (by first | omega | (simp [go_sem]; omega) | simp [go_sem])
    have f12_4 := fun o => hb.frozen (p := ⟨w5.heap.size, o, none⟩) (by first | omega | (simp [go_sem]; omega) | simp [go_sem])
    clear hb
    clear y1 y2 y3 y4
    go_wp2_with fail
    (with_reducible refine (c16.out _).mono ?_)
    rintro e w13 ⟨rfl, hb⟩
    have H13 : Below w.heap.size w w13 := by
      refine Below.trans ?_ (hb.mono ?_)
      · repeat (first | with_reducible assumption | with_reducible exact Below.refl _ _ | with_reducible refine Below.setCell ?_ (by first | omega | (simp [go_sem]; omega) | simp [go_sem]) _ | with_reducible refine Below.alloc ?_ (by first | omega | (simp [go_sem]; omega) | simp [go_sem]) _ | with_reducible refine below_grow ?_ (by first | omega | (simp [go_sem]; omega) | simp [go_sem]) _ _ | with_reducible refine Below.drew ?_)
      · first | omega | (simp [go_sem]; omega) | simp [go_sem]
    have S13 : w.heap.size ≤ w13.heap.size := H13.size
    have s13_0 : w.heap.size < w13.heap.size := Nat.lt_of_lt_of_le (by first | omega | (simp [go_sem]; omega) | simp [go_sem]) hb.size
    have k13_0 := fun o => hb.cell (p := ⟨w.heap.size, o, none⟩) (by first | omega | (simp [go_sem]; omega) | simp [go_sem])
    have f13_0 := fun o => hb.frozen (p := ⟨w.heap.size, o, none⟩) (by first | omega | (simp [go_sem]; omega) | simp [go_sem])
    have s13_1 : w.heap.size + 1 < w13.heap.size := Nat.lt_of_lt_of_le (by first | omega | (simp [go_sem]; omega) | simp [go_sem]) hb.size
    have k13_1 := fun o => hb.cell (p := ⟨w.heap.size + 1, o, none⟩) (by first | omega | (simp [go_sem]; omega) | simp [go_sem])
    have f13_1 := fun o => hb.frozen (p := ⟨w.heap.size + 1, o, none⟩) (by first | omega | (simp [go_sem]; omega) | simp [go_sem])
    have s13_2 : w.heap.size + 1 + 1 < w13.heap.size := Nat.lt_of_lt_of_le (by first | omega | (simp [go_sem]; omega) | simp [go_sem]) hb.size
    have k13_2 := fun o => hb.cell (p := ⟨w.heap.size + 1 + 1, o, none⟩) (by first | omega | (simp [go_sem]; omega) | simp [go_sem])
    have f13_2 := fun o => hb.frozen (p := ⟨w.heap.size + 1 + 1, o, none⟩) (by first | omega | (simp [go_sem]; omega) | simp [go_sem])
    have s13_3 : w4.heap.size < w13.heap.size := Nat.lt_of_lt_of_le (by first | omega | (simp [go_sem]; omega) | simp [go_sem]) hb.size
    have k13_3 := fun o => hb.cell (p := ⟨w4.heap.size, o, none⟩) (by first | omega | (simp [go_sem]; omega) | simp [go_sem])
    have f13_3 := fun o => hb.frozen (p := ⟨w4.heap.size, o, none⟩) (by first | omega | (simp [go_sem]; omega) | simp [go_sem])
    have s13_4 : w5.heap.size < w13.heap.size := Nat.lt_of_lt_of_le (by first | omega | (simp [go_sem]; omega) | simp [go_sem]) hb.size
    have k13_4 := fun o => hb.cell (p := ⟨w5.heap.size, o, none⟩) (by first | omega | (simp [go_sem]; omega) | simp [go_sem])
    have f13_4 := fun o => hb.frozen (p := ⟨w5.heap.size, o, none⟩) (by first | omega | (simp [go_sem]; omega) | simp [go_sem])
    clear hb
    clear c16
    go_wp2_with fail
    (with_reducible refine (c13.out _ hG _ ?_).mono ?_)
    · repeat (first | with_reducible assumption | with_reducible exact Below.refl _ _ | with_reducible refine Below.setCell ?_ (by first | omega | (simp [go_sem]; omega) | simp [go_sem]) _ | with_reducible refine Below.alloc ?_ (by first | omega | (simp [go_sem]; omega) | simp [go_sem]) _ | with_reducible refine below_grow ?_ (by first | omega | (simp [go_sem]; omega) | simp [go_sem]) _ _ | with_reducible refine Below.drew ?_)
    rintro e w14 ⟨rfl, hb⟩
    have H14 : Below w.heap.size w w14 := by
      refine Below.trans ?_ (hb.mono ?_)
      · repeat (first | with_reducible assumption | with_reducible exact Below.refl _ _ | with_reducible refine Below.setCell ?_ (by first | omega | (simp [go_sem]; omega) | simp [go_sem]) _ | with_reducible refine Below.alloc ?_ (by first | omega | (simp [go_sem]; omega) | simp [go_sem]) _ | with_reducible refine below_grow ?_ (by first | omega | (simp [go_sem]; omega) | simp [go_sem]) _ _ | with_reducible refine Below.drew ?_)
      · first | omega | (simp [go_sem]; omega) | simp [go_sem]
    have S14 : w.heap.size ≤ w14.heap.size := H14.size
    have s14_0 : w.heap.size < w14.heap.size := Nat.lt_of_lt_of_le (by first | omega | (simp [go_sem]; omega) | simp [go_sem]) hb.size
    have k14_0 := fun o => hb.cell (p := ⟨w.heap.size, o, none⟩) (by first | omega | (simp [go_sem]; omega) | simp [go_sem])
    have f14_0 := fun o => hb.frozen (p := ⟨w.heap.size, o, none⟩) (by first | omega | (simp [go_sem]; omega) | simp [go_sem])
    have s14_1 : w.heap.size + 1 < w14.heap.size := Nat.lt_of_lt_of_le (by first | omega | (simp [go_sem]; omega) | simp [go_sem]) hb.size
    have k14_1 := fun o => hb.cell (p := ⟨w.heap.size + 1, o, none⟩) (by first | omega | (simp [go_sem]; omega) | simp [go_sem])
    have f14_1 := fun o => hb.frozen (p := ⟨w.heap.size + 1, o, none⟩) (by first | omega | (simp [go_sem]; omega) | simp [go_sem])
    have s14_2 : w.heap.size + 1 + 1 < w14.heap.size := Nat.lt_of_lt_of_le (by first | omega | (simp [go_sem]; omega) | simp [go_sem]) hb.size
    have k14_2 := fun o => hb.cell (p := ⟨w.heap.size + 1 + 1, o, none⟩) (by first | omega | (simp [go_sem]; omega) | simp [go_sem])
    have f14_2 := fun o => hb.frozen (p := ⟨w.heap.size + 1 + 1, o, none⟩) (by first | omega | (simp [go_sem]; omega) | simp [go_sem])
    have s14_3 : w4.heap.size < w14.heap.size := Nat.lt_of_lt_of_le (by first | omega | (simp [go_sem]; omega) | simp [go_sem]) hb.size
    have k14_3 := fun o => hb.cell (p := ⟨w4.heap.size, o, none⟩) (by first | omega | (simp [go_sem]; omega) | simp [go_sem])
    have f14_3 := fun o => hb.frozen (p := ⟨w4.heap.size, o, none⟩) (by first | omega | (simp [go_sem]; omega) | simp [go_sem])
    have s14_4 : w5.heap.size < w14.heap.size := Nat.lt_of_lt_of_le (by first | omega | (simp [go_sem]; omega) | simp [go_sem]) hb.size
    have k14_4 := fun o => hb.cell (p := ⟨w5.heap.size, o, none⟩) (by first | omega | (simp [go_sem]; omega) | simp [go_sem])
    have f14_4 := fun o => hb.frozen (p := ⟨w5.heap.size, o, none⟩) (by first | omega | (simp [go_sem]; omega) | simp [go_sem])
    clear hb
    clear c13
    go_wp2_with fail
    (with_reducible refine (c14.out _).mono ?_)
    rintro e w15 ⟨rfl, hb⟩
    have H15 : Below w.heap.size w w15 := by
      refine Below.trans ?_ (hb.mono ?_)
      · repeat (first | with_reducible assumption | with_reducible exact Below.refl _ _ | with_reducible refine Below.setCell ?_ (by first | omega | (simp [go_sem]; omega) | simp [go_sem]) _ | with_reducible refine Below.alloc ?_ (by first | omega | (simp [go_sem]; omega) | simp [go_sem]) _ | with_reducible refine below_grow ?_ (by first | omega | (simp [go_sem]; omega) | simp [go_sem]) _ _ | with_reducible refine Below.drew ?_)
      · first | omega | (simp [go_sem]; omega) | simp [go_sem]
    have S15 : w.heap.size ≤ w15.heap.size := H15.size
    have s15_0 : w.heap.size < w15.heap.size := Nat.lt_of_lt_of_le (by first | omega | (simp [go_sem]; omega) | simp [go_sem]) hb.size
    have k15_0 := fun o => hb.cell (p := ⟨w.heap.size, o, none⟩) (by first | omega | (simp [go_sem]; omega) | simp [go_sem])
    have f15_0 := fun o => hb.frozen (p := ⟨w.heap.size, o, none⟩) (by first | omega | (simp [go_sem]; omega) | simp [go_sem])
    have s15_1 : w.heap.size + 1 < w15.heap.size := Nat.lt_of_lt_of_le (by first | omega | (simp [go_sem]; omega) | simp [go_sem]) hb.size
    have k15_1 := fun o => hb.cell (p := ⟨w.heap.size + 1, o, none⟩) (by first | omega | (simp [go_sem]; omega) | simp [go_sem])
    have f15_1 := fun o => hb.frozen (p := ⟨w.heap.size + 1, o, none⟩) (by first | omega | (simp [go_sem]; omega) | simp [go_sem])
    have s15_2 : w.heap.size + 1 + 1 < w15.heap.size := Nat.lt_of_lt_of_le (by first | omega | (simp [go_sem]; omega) | simp [go_sem]) hb.size
    have k15_2 := fun o => hb.cell (p := ⟨w.heap.size + 1 + 1, o, none⟩) (by first | omega | (simp [go_sem]; omega) | simp [go_sem])
    have f15_2 := fun o => hb.frozen (p := ⟨w.heap.size + 1 + 1, o, none⟩) (by first | omega | (simp [go_sem]; omega) | simp [go_sem])
    have s15_3 : w4.heap.size < w15.heap.size := Nat.lt_of_lt_of_le (by first | omega | (simp [go_sem]; omega) | simp [go_sem]) hb.size
    have k15_3 := fun o => hb.cell (p := ⟨w4.heap.size, o, none⟩) (by first | omega | (simp [go_sem]; omega) | simp [go_sem])
    have f15_3 := fun o => hb.frozen (p := ⟨w4.heap.size, o, none⟩) (by first | omega | (simp [go_sem]; omega) | simp [go_sem])
    have s15_4 : w5.heap.size < w15.heap.size := Nat.lt_of_lt_of_le (by first | omega | (simp [go_sem]; omega) | simp [go_sem]) hb.size
    have k15_4 := fun o => hb.cell (p := ⟨w5.heap.size, o, none⟩) (by first | omega | (simp [go_sem]; omega) | simp [go_sem])
    have f15_4 := fun o => hb.frozen (p := ⟨w5.heap.size, o, none⟩) (by first | omega | (simp [go_sem]; omega) | simp [go_sem])
    clear hb
    clear c14
    go_wp2_with fail
    by_cases hs' : la' = lb' ∧ pa' = pb'
    · rw [show spotV la' lb' pa' pb' lo3 hi3 = .tuple #[.agg #[.int .i64 la', .int .i64 pa', .string ⟨(lo3).toArray⟩, .string ⟨(hi3).toArray⟩], .int .i64 0] from by unfold spotV; rw [if_pos hs']] at c15
      have g1 : (A : Int) ≤ la' := by have := hst.out; omega
      have g2 : la' ≤ (A : Int) + 1 := by have := hst.out; omega
      clear hs' hst i3
      (with_reducible refine (c15.out _ ?_).mono ?_)
      · repeat (first | with_reducible assumption | with_reducible exact Below.refl _ _ | with_reducible refine Below.setCell ?_ (by first | omega | (simp [go_sem]; omega) | simp [go_sem]) _ | with_reducible refine Below.alloc ?_ (by first | omega | (simp [go_sem]; omega) | simp [go_sem]) _ | with_reducible refine below_grow ?_ (by first | omega | (simp [go_sem]; omega) | simp [go_sem]) _ _ | with_reducible refine Below.drew ?_)
      rintro e w16 ⟨rfl, hb⟩
      have H16 : Below w.heap.size w w16 := by
        refine Below.trans ?_ (hb.mono ?_)
        · repeat (first | with_reducible assumption | with_reducible exact Below.refl _ _ | with_reducible refine Below.setCell ?_ (by first | omega | (simp [go_sem]; omega) | simp [go_sem]) _ | with_reducible refine Below.alloc ?_ (by first | omega | (simp [go_sem]; omega) | simp [go_sem]) _ | with_reducible refine below_grow ?_ (by first | omega | (simp [go_sem]; omega) | simp [go_sem]) _ _ | with_reducible refine Below.drew ?_)
        · first | omega | (simp [go_sem]; omega) | simp [go_sem]
      have S16 : w.heap.size ≤ w16.heap.size := H16.size
      have s16_0 : w.heap.size < w16.heap.size := Nat.lt_of_lt_of_le (by first | omega | (simp [go_sem]; omega) | simp [go_sem]) hb.size
      have k16_0 := fun o => hb.cell (p := ⟨w.heap.size, o, none⟩) (by first | omega | (simp [go_sem]; omega) | simp [go_sem])
      have f16_0 := fun o => hb.frozen (p := ⟨w.heap.size, o, none⟩) (by first | omega | (simp [go_sem]; omega) | simp [go_sem])
      have s16_1 : w.heap.size + 1 < w16.heap.size := Nat.lt_of_lt_of_le (by first | omega | (simp [go_sem]; omega) | simp [go_sem]) hb.size
      have k16_1 := fun o => hb.cell (p := ⟨w.heap.size + 1, o, none⟩) (by first | omega | (simp [go_sem]; omega) | simp [go_sem])
      have f16_1 := fun o => hb.frozen (p := ⟨w.heap.size + 1, o, none⟩) (by first | omega | (simp [go_sem]; omega) | simp [go_sem])
      have s16_2 : w.heap.size + 1 + 1 < w16.heap.size := Nat.lt_of_lt_of_le (by first | omega | (simp [go_sem]; omega) | simp [go_sem]) hb.size
      have k16_2 := fun o => hb.cell (p := ⟨w.heap.size + 1 + 1, o, none⟩) (by first | omega | (simp [go_sem]; omega) | simp [go_sem])
      have f16_2 := fun o => hb.frozen (p := ⟨w.heap.size + 1 + 1, o, none⟩) (by first | omega | (simp [go_sem]; omega) | simp [go_sem])
      have s16_3 : w4.heap.size < w16.heap.size := Nat.lt_of_lt_of_le (by first | omega | (simp [go_sem]; omega) | simp [go_sem]) hb.size
      have k16_3 := fun o => hb.cell (p := ⟨w4.heap.size, o, none⟩) (by first | omega | (simp [go_sem]; omega) | simp [go_sem])
      have f16_3 := fun o => hb.frozen (p := ⟨w4.heap.size, o, none⟩) (by first | omega | (simp [go_sem]; omega) | simp [go_sem])
      have s16_4 : w5.heap.size < w16.heap.size := Nat.lt_of_lt_of_le (by first | omega | (simp [go_sem]; omega) | simp [go_sem]) hb.size
      have k16_4 := fun o => hb.cell (p := ⟨w5.heap.size, o, none⟩) (by first | omega | (simp [go_sem]; omega) | simp [go_sem])
      have f16_4 := fun o => hb.frozen (p := ⟨w5.heap.size, o, none⟩) (by first | omega | (simp [go_sem]; omega) | simp [go_sem])
      clear hb
      clear c15
      go_wp2_with fail
      (with_reducible refine (c9.out _ hG _ ?_).mono ?_)
      · repeat (first | with_reducible assumption | with_reducible exact Below.refl _ _ | with_reducible refine Below.setCell ?_ (by first | omega | (simp [go_sem]; omega) | simp [go_sem]) _ | with_reducible refine Below.alloc ?_ (by first | omega | (simp [go_sem]; omega) | simp [go_sem]) _ | with_reducible refine below_grow ?_ (by first | omega | (simp [go_sem]; omega) | simp [go_sem]) _ _ | with_reducible refine Below.drew ?_)
      rintro e w17 ⟨rfl, hb⟩
      have H17 : Below w.heap.size w w17 := by
        refine Below.trans ?_ (hb.mono ?_)
        · repeat (first | with_reducible assumption | with_reducible exact Below.refl _ _ | with_reducible refine Below.setCell ?_ (by first | omega | (simp [go_sem]; omega) | simp [go_sem]) _ | with_reducible refine Below.alloc ?_ (by first | omega | (simp [go_sem]; omega) | simp [go_sem]) _ | with_reducible refine below_grow ?_ (by first | omega | (simp [go_sem]; omega) | simp [go_sem]) _ _ | with_reducible refine Below.drew ?_)
        · first | omega | (simp [go_sem]; omega) | simp [go_sem]
      have S17 : w.heap.size ≤ w17.heap.size := H17.size
      have s17_0 : w.heap.size < w17.heap.size := Nat.lt_of_lt_of_le (by first | omega | (simp [go_sem]; omega) | simp [go_sem]) hb.size
      have k17_0 := fun o => hb.cell (p := ⟨w.heap.size, o, none⟩) (by first | omega | (simp [go_sem]; omega) | simp [go_sem])
      have f17_0 := fun o => hb.frozen (p := ⟨w.heap.size, o, none⟩) (by first | omega | (simp [go_sem]; omega) | simp [go_sem])
      have s17_1 : w.heap.size + 1 < w17.heap.size := Nat.lt_of_lt_of_le (by first | omega | (simp [go_sem]; omega) | simp [go_sem]) hb.size
      have k17_1 := fun o => hb.cell (p := ⟨w.heap.size + 1, o, none⟩) (by first | omega | (simp [go_sem]; omega) | simp [go_sem])
      have f17_1 := fun o => hb.frozen (p := ⟨w.heap.size + 1, o, none⟩) (by first | omega | (simp [go_sem]; omega) | simp [go_sem])
      have s17_2 : w.heap.size + 1 + 1 < w17.heap.size := Nat.lt_of_lt_of_le (by first | omega | (simp [go_sem]; omega) | simp [go_sem]) hb.size
      have k17_2 := fun o => hb.cell (p := ⟨w.heap.size + 1 + 1, o, none⟩) (by first | omega | (simp [go_sem]; omega) | simp [go_sem])
      have f17_2 := fun o => hb.frozen (p := ⟨w.heap.size + 1 + 1, o, none⟩) (by first | omega | (simp [go_sem]; omega) | simp [go_sem])
      have s17_3 : w4.heap.size < w17.heap.size := Nat.lt_of_lt_of_le (by first | omega | (simp [go_sem]; omega) | simp [go_sem]) hb.size
      have k17_3 := fun o => hb.cell (p := ⟨w4.heap.size, o, none⟩) (by first | omega | (simp [go_sem]; omega) | simp [go_sem])
      have f17_3 := fun o => hb.frozen (p := ⟨w4.heap.size, o, none⟩) (by first | omega | (simp [go_sem]; omega) | simp [go_sem])
      have s17_4 : w5.heap.size < w17.heap.size := Nat.lt_of_lt_of_le (by first | omega | (simp [go_sem]; omega) | simp [go_sem]) hb.size
      have k17_4 := fun o => hb.cell (p := ⟨w5.heap.size, o, none⟩) (by first | omega | (simp [go_sem]; omega) | simp [go_sem])
      have f17_4 := fun o => hb.frozen (p := ⟨w5.heap.size, o, none⟩) (by first | omega | (simp [go_sem]; omega) | simp [go_sem])
      clear hb
      go_wp2_with fail
      go_ret
      refine ⟨rfl, ?_⟩
      repeat (first | with_reducible assumption | with_reducible exact Below.refl _ _ | with_reducible refine Below.setCell ?_ (by first | omega | (simp [go_sem]; omega) | simp [go_sem]) _ | with_reducible refine Below.alloc ?_ (by first | omega | (simp [go_sem]; omega) | simp [go_sem]) _ | with_reducible refine below_grow ?_ (by first | omega | (simp [go_sem]; omega) | simp [go_sem]) _ _ | with_reducible refine Below.drew ?_)
    · rw [show spotV la' lb' pa' pb' lo3 hi3 = .tuple #[.agg #[.int .i64 0, .int .i64 0, .string ⟨#[]⟩, .string ⟨#[]⟩], .int .i64 24] from by unfold spotV; rw [if_neg hs']] at c15
      clear hs' hst i3
      (with_reducible refine (c15.out _ ?_).mono ?_)
      · repeat (first | with_reducible assumption | with_reducible exact Below.refl _ _ | with_reducible refine Below.setCell ?_ (by first | omega | (simp [go_sem]; omega) | simp [go_sem]) _ | with_reducible refine Below.alloc ?_ (by first | omega | (simp [go_sem]; omega) | simp [go_sem]) _ | with_reducible refine below_grow ?_ (by first | omega | (simp [go_sem]; omega) | simp [go_sem]) _ _ | with_reducible refine Below.drew ?_)
      rintro e w18 ⟨rfl, hb⟩
      have H18 : Below w.heap.size w w18 := by
        refine Below.trans ?_ (hb.mono ?_)
        · repeat (first | with_reducible assumption | with_reducible exact Below.refl _ _ | with_reducible refine Below.setCell ?_ (by first | omega | (simp [go_sem]; omega) | simp [go_sem]) _ | with_reducible refine Below.alloc ?_ (by first | omega | (simp [go_sem]; omega) | simp [go_sem]) _ | with_reducible refine below_grow ?_ (by first | omega | (simp [go_sem]; omega) | simp [go_sem]) _ _ | with_reducible refine Below.drew ?_)
        · first | omega | (simp [go_sem]; omega) | simp [go_sem]
      have S18 : w.heap.size ≤ w18.heap.size := H18.size
      have s18_0 : w.heap.size < w18.heap.size := Nat.lt_of_lt_of_le (by first | omega | (simp [go_sem]; omega) | simp [go_sem]) hb.size
      have k18_0 := fun o => hb.cell (p := ⟨w.heap.size, o, none⟩) (by first | omega | (simp [go_sem]; omega) | simp [go_sem])
      have f18_0 := fun o => hb.frozen (p := ⟨w.heap.size, o, none⟩) (by first | omega | (simp [go_sem]; omega) | simp [go_sem])
      have s18_1 : w.heap.size + 1 < w18.heap.size := Nat.lt_of_lt_of_le (by first | omega | (simp [go_sem]; omega) | simp [go_sem]) hb.size
      have k18_1 := fun o => hb.cell (p := ⟨w.heap.size + 1, o, none⟩) (by first | omega | (simp [go_sem]; omega) | simp [go_sem])
      have f18_1 := fun o => hb.frozen (p := ⟨w.heap.size + 1, o, none⟩) (by first | omega | (simp [go_sem]; omega) | simp [go_sem])
      have s18_2 : w.heap.size + 1 + 1 < w18.heap.size := Nat.lt_of_lt_of_le (by first | omega | (simp [go_sem]; omega) | simp [go_sem]) hb.size
      have k18_2 := fun o => hb.cell (p := ⟨w.heap.size + 1 + 1, o, none⟩) (by first | omega | (simp [go_sem]; omega) | simp [go_sem])
      have f18_2 := fun o => hb.frozen (p := ⟨w.heap.size + 1 + 1, o, none⟩) (by first | omega | (simp [go_sem]; omega) | simp [go_sem])
      have s18_3 : w4.heap.size < w18.heap.size := Nat.lt_of_lt_of_le (by first | omega | (simp [go_sem]; omega) | simp [go_sem]) hb.size
      have k18_3 := fun o => hb.cell (p := ⟨w4.heap.size, o, none⟩) (by first | omega | (simp [go_sem]; omega) | simp [go_sem])
      have f18_3 := fun o => hb.frozen (p := ⟨w4.heap.size, o, none⟩) (by first | omega | (simp [go_sem]; omega) | simp [go_sem])
      have s18_4 : w5.heap.size < w18.heap.size := Nat.lt_of_lt_of_le (by first | omega | (simp [go_sem]; omega) | simp [go_sem]) hb.size
      have k18_4 := fun o => hb.cell (p := ⟨w5.heap.size, o, none⟩) (by first | omega | (simp [go_sem]; omega) | simp [go_sem])
      have f18_4 := fun o => hb.frozen (p := ⟨w5.heap.size, o, none⟩) (by first | omega | (simp [go_sem]; omega) | simp [go_sem])
      clear hb
      clear c15
      go_wp2_with fail
      (with_reducible refine (c9.out _ hG _ ?_).mono ?_)
      · repeat (first | with_reducible assumption | with_reducible exact Below.refl _ _ | with_reducible refine Below.setCell ?_ (by first | omega | (simp [go_sem]; omega) | simp [go_sem]) _ | with_reducible refine Below.alloc ?_ (by first | omega | (simp [go_sem]; omega) | simp [go_sem]) _ | with_reducible refine below_grow ?_ (by first | omega | (simp [go_sem]; omega) | simp [go_sem]) _ _ | with_reducible refine Below.drew ?_)
      rintro e w19 ⟨rfl, hb⟩
      have H19 : Below w.heap.size w w19 := by
        refine Below.trans ?_ (hb.mono ?_)
        · repeat (first | with_reducible assumption | with_reducible exact Below.refl _ _ | with_reducible refine Below.setCell ?_ (by first | omega | (simp [go_sem]; omega) | simp [go_sem]) _ | with_reducible refine Below.alloc ?_ (by first | omega | (simp [go_sem]; omega) | simp [go_sem]) _ | with_reducible refine below_grow ?_ (by first | omega | (simp [go_sem]; omega) | simp [go_sem]) _ _ | with_reducible refine Below.drew ?_)
        · first | omega | (simp [go_sem]; omega) | simp [go_sem]
      have S19 : w.heap.size ≤ w19.heap.size := H19.size
      have s19_0 : w.heap.size < w19.heap.size := Nat.lt_of_lt_of_le (by first | omega | (simp [go_sem]; omega) | simp [go_sem]) hb.size
      have k19_0 := fun o => hb.cell (p := ⟨w.heap.size, o, none⟩) (by first | omega | (simp [go_sem]; omega) | simp [go_sem])
      have f19_0 := fun o => hb.frozen (p := ⟨w.heap.size, o, none⟩) (by first | omega | (simp [go_sem]; omega) | simp [go_sem])
      have s19_1 : w.heap.size + 1 < w19.heap.size := Nat.lt_of_lt_of_le (by first | omega | (simp [go_sem]; omega) | simp [go_sem]) hb.size
      have k19_1 := fun o => hb.cell (p := ⟨w.heap.size + 1, o, none⟩) (by first | omega | (simp [go_sem]; omega) | simp [go_sem])
      have f19_1 := fun o => hb.frozen (p := ⟨w.heap.size + 1, o, none⟩) (by first | omega | (simp [go_sem]; omega) | simp [go_sem])
      have s19_2 : w.heap.size + 1 + 1 < w19.heap.size := Nat.lt_of_lt_of_le (by first | omega | (simp [go_sem]; omega) | simp [go_sem]) hb.size
      have k19_2 := fun o => hb.cell (p := ⟨w.heap.size + 1 + 1, o, none⟩) (by first | omega | (simp [go_sem]; omega) | simp [go_sem])
      have f19_2 := fun o => hb.frozen (p := ⟨w.heap.size + 1 + 1, o, none⟩) (by first | omega | (simp [go_sem]; omega) | simp [go_sem])
      have s19_3 : w4.heap.size < w19.heap.size := Nat.lt_of_lt_of_le (by first | omega | (simp [go_sem]; omega) | simp [go_sem]) hb.size
      have k19_3 := fun o => hb.cell (p := ⟨w4.heap.size, o, none⟩) (by first | omega | (simp [go_sem]; omega) | simp [go_sem])
      have f19_3 := fun o => hb.frozen (p := ⟨w4.heap.size, o, none⟩) (by first | omega | (simp [go_sem]; omega) | simp [go_sem])
      have s19_4 : w5.heap.size < w19.heap.size := Nat.lt_of_lt_of_le (by first | omega | (simp [go_sem]; omega) | simp [go_sem]) hb.size
      have k19_4 := fun o => hb.cell (p := ⟨w5.heap.size, o, none⟩) (by first | omega | (simp [go_sem]; omega) | simp [go_sem])
      have f19_4 := fun o => hb.frozen (p := ⟨w5.heap.size, o, none⟩) (by first | omega | (simp [go_sem]; omega) | simp [go_sem])
      clear hb
      go_wp2_with fail
      go_ret
      refine ⟨rfl, ?_⟩
      repeat (first | with_reducible assumption | with_reducible exact Below.refl _ _ | with_reducible refine Below.setCell ?_ (by first | omega | (simp [go_sem]; omega) | simp [go_sem]) _ | with_reducible refine Below.alloc ?_ (by first | omega | (simp [go_sem]; omega) | simp [go_sem]) _ | with_reducible refine below_grow ?_ (by first | omega | (simp [go_sem]; omega) | simp [go_sem]) _ _ | with_reducible refine Below.drew ?_)
  · rw [show spotV (A : Int) B pa pb lo2 hi2 = .tuple #[.agg #[.int .i64 0, .int .i64 0, .string ⟨#[]⟩, .string ⟨#[]⟩], .int .i64 24] from by unfold spotV; rw [if_neg hs]] at c5
    clear hs c13 c14 c15 c16 y3 y4 i1 i2 i3 hk hst
    go_enter Tryz.func4, Tryz.ntmps4
    go_wp2_with fail
    (with_reducible refine (c1.out _).mono ?_)
    rintro e w1 ⟨rfl, hb⟩
    have H1 : Below w.heap.size w w1 := by
      refine Below.trans ?_ (hb.mono ?_)
      · repeat (first | with_reducible assumption | with_reducible exact Below.refl _ _ | with_reducible refine Below.setCell ?_ (by first | omega | (simp [go_sem]; omega) | simp [go_sem]) _ | with_reducible refine Below.alloc ?_ (by first | omega | (simp [go_sem]; omega) | simp [go_sem]) _ | with_reducible refine below_grow ?_ (by first | omega | (simp [go_sem]; omega) | simp [go_sem]) _ _ | with_reducible refine Below.drew ?_)
      · first | omega | (simp [go_sem]; omega) | simp [go_sem]
    have S1 : w.heap.size ≤ w1.heap.size := H1.size
    have s1_0 : w.heap.size < w1.heap.size := Nat.lt_of_lt_of_le (by first | omega | (simp [go_sem]; omega) | simp [go_sem]) hb.size
    have k1_0 := fun o => hb.cell (p := ⟨w.heap.size, o, none⟩) (by first | omega | (simp [go_sem]; omega) | simp [go_sem])
    have f1_0 := fun o => hb.frozen (p := ⟨w.heap.size, o, none⟩) (by first | omega | (simp [go_sem]; omega) | simp [go_sem])
    have s1_1 : w.heap.size + 1 < w1.heap.size := Nat.lt_of_lt_of_le (by first | omega | (simp [go_sem]; omega) | simp [go_sem]) hb.size
    have k1_1 := fun o => hb.cell (p := ⟨w.heap.size + 1, o, none⟩) (by first | omega | (simp [go_sem]; omega) | simp [go_sem])
    have f1_1 := fun o => hb.frozen (p := ⟨w.heap.size + 1, o, none⟩) (by first | omega | (simp [go_sem]; omega) | simp [go_sem])
    have s1_2 : w.heap.size + 1 + 1 < w1.heap.size := Nat.lt_of_lt_of_le (by first | omega | (simp [go_sem]; omega) | simp [go_sem]) hb.size
    have k1_2 := fun o => hb.cell (p := ⟨w.heap.size + 1 + 1, o, none⟩) (by first | omega | (simp [go_sem]; omega) | simp [go_sem])
    have f1_2 := fun o => hb.frozen (p := ⟨w.heap.size + 1 + 1, o, none⟩) (by first | omega | (simp [go_sem]; omega) | simp [go_sem])
    clear hb
    go_wp2_with fail
    (with_reducible refine (c2.out _).mono ?_)
    rintro e w2 ⟨rfl, hb⟩
    have H2 : Below w.heap.size w w2 := by
      refine Below.trans ?_ (hb.mono ?_)
      · repeat (first | with_reducible assumption | with_reducible exact Below.refl _ _ | with_reducible refine Below.setCell ?_ (by first | omega | (simp [go_sem]; omega) | simp [go_sem]) _ | with_reducible refine Below.alloc ?_ (by first | omega | (simp [go_sem]; omega) | simp [go_sem]) _ | with_reducible refine below_grow ?_ (by first | omega | (simp [go_sem]; omega) | simp [go_sem]) _ _ | with_reducible refine Below.drew ?_)
      · first | omega | (simp [go_sem]; omega) | simp [go_sem]
    have S2 : w.heap.size ≤ w2.heap.size := H2.size
    have s2_0 : w.heap.size < w2.heap.size := Nat.lt_of_lt_of_le (by first | omega | (simp [go_sem]; omega) | simp [go_sem]) hb.size
    have k2_0 := fun o => hb.cell (p := ⟨w.heap.size, o, none⟩) (by first | omega | (simp [go_sem]; omega) | simp [go_sem])
    have f2_0 := fun o => hb.frozen (p := ⟨w.heap.size, o, none⟩) (by first | omega | (simp [go_sem]; omega) | simp [go_sem])
    have s2_1 : w.heap.size + 1 < w2.heap.size := Nat.lt_of_lt_of_le (by first | omega | (simp [go_sem]; omega) | simp [go_sem]) hb.size
    have k2_1 := fun o => hb.cell (p := ⟨w.heap.size + 1, o, none⟩) (by first | omega | (simp [go_sem]; omega) | simp [go_sem])
    have f2_1 := fun o => hb.frozen (p := ⟨w.heap.size + 1, o, none⟩) (by first | omega | (simp [go_sem]; omega) | simp [go_sem])
    have s2_2 : w.heap.size + 1 + 1 < w2.heap.size := Nat.lt_of_lt_of_le (by first | omega | (simp [go_sem]; omega) | simp [go_sem]) hb.size
    have k2_2 := fun o => hb.cell (p := ⟨w.heap.size + 1 + 1, o, none⟩) (by first | omega | (simp [go_sem]; omega) | simp [go_sem])
    have f2_2 := fun o => hb.frozen (p := ⟨w.heap.size + 1 + 1, o, none⟩) (by first | omega | (simp [go_sem]; omega) | simp [go_sem])
    clear hb
    go_wp2_with fail
    (with_reducible refine (c3.out _).mono ?_)
    rintro e w3 ⟨rfl, hb⟩
    have H3 : Below w.heap.size w w3 := by
      refine Below.trans ?_ (hb.mono ?_)
      · repeat (first | with_reducible assumption | with_reducible exact Below.refl _ _ | with_reducible refine Below.setCell ?_ (by first | omega | (simp [go_sem]; omega) | simp [go_sem]) _ | with_reducible refine Below.alloc ?_ (by first | omega | (simp [go_sem]; omega) | simp [go_sem]) _ | with_reducible refine below_grow ?_ (by first | omega | (simp [go_sem]; omega) | simp [go_sem]) _ _ | with_reducible refine Below.drew ?_)
      · first | omega | (simp [go_sem]; omega) | simp [go_sem]
    have S3 : w.heap.size ≤ w3.heap.size := H3.size
    have s3_0 : w.heap.size < w3.heap.size := Nat.lt_of_lt_of_le (by first | omega | (simp [go_sem]; omega) | simp [go_sem]) hb.size
    have k3_0 := fun o => hb.cell (p := ⟨w.heap.size, o, none⟩) (by first | omega | (simp [go_sem]; omega) | simp [go_sem])
    have f3_0 := fun o => hb.frozen (p := ⟨w.heap.size, o, none⟩) (by first | omega | (simp [go_sem]; omega) | simp [go_sem])
    have s3_1 : w.heap.size + 1 < w3.heap.size := Nat.lt_of_lt_of_le (by first | omega | (simp [go_sem]; omega) | simp [go_sem]) hb.size
    have k3_1 := fun o => hb.cell (p := ⟨w.heap.size + 1, o, none⟩) (by first | omega | (simp [go_sem]; omega) | simp [go_sem])
    have f3_1 := fun o => hb.frozen (p := ⟨w.heap.size + 1, o, none⟩) (by first | omega | (simp [go_sem]; omega) | simp [go_sem])
    have s3_2 : w.heap.size + 1 + 1 < w3.heap.size := Nat.lt_of_lt_of_le (by first | omega | (simp [go_sem]; omega) | simp [go_sem]) hb.size
    have k3_2 := fun o => hb.cell (p := ⟨w.heap.size + 1 + 1, o, none⟩) (by first | omega | (simp [go_sem]; omega) | simp [go_sem])
    have f3_2 := fun o => hb.frozen (p := ⟨w.heap.size + 1 + 1, o, none⟩) (by first | omega | (simp [go_sem]; omega) | simp [go_sem])
    clear hb
    go_wp2_with fail
    clear c1 c2 c3
    (with_reducible refine (c4.out _ hG _ ?_).mono ?_)
    · repeat (first | with_reducible assumption | with_reducible exact Below.refl _ _ | with_reducible refine Below.setCell ?_ (by first | omega | (simp [go_sem]; omega) | simp [go_sem]) _ | with_reducible refine Below.alloc ?_ (by first | omega | (simp [go_sem]; omega) | simp [go_sem]) _ | with_reducible refine below_grow ?_ (by first | omega | (simp [go_sem]; omega) | simp [go_sem]) _ _ | with_reducible refine Below.drew ?_)
    rintro e w4 ⟨rfl, hb⟩
    have H4 : Below w.heap.size w w4 := by
      refine Below.trans ?_ (hb.mono ?_)
      · repeat (first | with_reducible assumption | with_reducible exact Below.refl _ _ | with_reducible refine Below.setCell ?_ (by first | omega | (simp [go_sem]; omega) | simp [go_sem]) _ | with_reducible refine Below.alloc ?_ (by first | omega | (simp [go_sem]; omega) | simp [go_sem]) _ | with_reducible refine below_grow ?_ (by first | omega | (simp [go_sem]; omega) | simp [go_sem]) _ _ | with_reducible refine Below.drew ?_)
      · first | omega | (simp [go_sem]; omega) | simp [go_sem]
    have S4 : w.heap.size ≤ w4.heap.size := H4.size
    have s4_0 : w.heap.size < w4.heap.size := Nat.lt_of_lt_of_le (by first | omega | (simp [go_sem]; omega) | simp [go_sem]) hb.size
    have k4_0 := fun o => hb.cell (p := ⟨w.heap.size, o, none⟩) (by first | omega | (simp [go_sem]; omega) | simp [go_sem])
    have f4_0 := fun o => hb.frozen (p := ⟨w.heap.size, o, none⟩) (by first | omega | (simp [go_sem]; omega) | simp [go_sem])
    have s4_1 : w.heap.size + 1 < w4.heap.size := Nat.lt_of_lt_of_le (by first | omega | (simp [go_sem]; omega) | simp [go_sem]) hb.size
    have k4_1 := fun o => hb.cell (p := ⟨w.heap.size + 1, o, none⟩) (by first | omega | (simp [go_sem]; omega) | simp [go_sem])
    have f4_1 := fun o => hb.frozen (p := ⟨w.heap.size + 1, o, none⟩) (by first | omega | (simp [go_sem]; omega) | simp [go_sem])
    have s4_2 : w.heap.size + 1 + 1 < w4.heap.size := Nat.lt_of_lt_of_le (by first | omega | (simp [go_sem]; omega) | simp [go_sem]) hb.size
    have k4_2 := fun o => hb.cell (p := ⟨w.heap.size + 1 + 1, o, none⟩) (by first | omega | (simp [go_sem]; omega) | simp [go_sem])
    have f4_2 := fun o => hb.frozen (p := ⟨w.heap.size + 1 + 1, o, none⟩) (by first | omega | (simp [go_sem]; omega) | simp [go_sem])
    clear hb
    clear c4
    go_wp2_with fail
    (with_reducible refine (c5.out _ ?_).mono ?_)
    · repeat (first | with_reducible assumption | with_reducible exact Below.refl _ _ | with_reducible refine Below.setCell ?_ (by first | omega | (simp [go_sem]; omega) | simp [go_sem]) _ | with_reducible refine Below.alloc ?_ (by first | omega | (simp [go_sem]; omega) | simp [go_sem]) _ | with_reducible refine below_grow ?_ (by first | omega | (simp [go_sem]; omega) | simp [go_sem]) _ _ | with_reducible refine Below.drew ?_)
    rintro e w5 ⟨rfl, hb⟩
    have H5 : Below w.heap.size w w5 := by
      refine Below.trans ?_ (hb.mono ?_)
      · repeat (first | with_reducible assumption | with_reducible exact Below.refl _ _ | with_reducible refine Below.setCell ?_ (by first | omega | (simp [go_sem]; omega) | simp [go_sem]) _ | with_reducible refine Below.alloc ?_ (by first | omega | (simp [go_sem]; omega) | simp [go_sem]) _ | with_reducible refine below_grow ?_ (by first | omega | (simp [go_sem]; omega) | simp [go_sem]) _ _ | with_reducible refine Below.drew ?_)
      · first | omega | (simp [go_sem]; omega) | simp [go_sem]
    have S5 : w.heap.size ≤ w5.heap.size := H5.size
    have s5_0 : w.heap.size < w5.heap.size := Nat.lt_of_lt_of_le (by first | omega | (simp [go_sem]; omega) | simp [go_sem]) hb.size
    have k5_0 := fun o => hb.cell (p := ⟨w.heap.size, o, none⟩) (by first | omega | (simp [go_sem]; omega) | simp [go_sem])
    have f5_0 := fun o => hb.frozen (p := ⟨w.heap.size, o, none⟩) (by first | omega | (simp [go_sem]; omega) | simp [go_sem])
    have s5_1 : w.heap.size + 1 < w5.heap.size := Nat.lt_of_lt_of_le (by first | omega | (simp [go_sem]; omega) | simp [go_sem]) hb.size
    have k5_1 := fun o => hb.cell (p := ⟨w.heap.size + 1, o, none⟩) (by first | omega | (simp [go_sem]; omega) | simp [go_sem])
    have f5_1 := fun o => hb.frozen (p := ⟨w.heap.size + 1, o, none⟩) (by first | omega | (simp [go_sem]; omega) | simp [go_sem])
    have s5_2 : w.heap.size + 1 + 1 < w5.heap.size := Nat.lt_of_lt_of_le (by first | omega | (simp [go_sem]; omega) | simp [go_sem]) hb.size
    have k5_2 := fun o => hb.cell (p := ⟨w.heap.size + 1 + 1, o, none⟩) (by first | omega | (simp [go_sem]; omega) | simp [go_sem])
    have f5_2 := fun o => hb.frozen (p := ⟨w.heap.size + 1 + 1, o, none⟩) (by first | omega | (simp [go_sem]; omega) | simp [go_sem])
    have s5_3 : w4.heap.size < w5.heap.size := Nat.lt_of_lt_of_le (by first | omega | (simp [go_sem]; omega) | simp [go_sem]) hb.size
    have k5_3 := fun o => hb.cell (p := ⟨w4.heap.size, o, none⟩) (by first | omega | (simp [go_sem]; omega) | simp [go_sem])
    have f5_3 := fun o => hb.frozen (p := ⟨w4.heap.size, o, none⟩) (by first | omega | (simp [go_sem]; omega) | simp [go_sem])
    clear hb
    clear c5
    go_wp2_with fail
    (with_reducible refine (bTrue2 (w5.heap.size + 1) lo1 hi1 y1.out y2.out _ ?_ ?_ ?_).mono ?_)
    · first | omega | (simp [go_sem]; omega) | (simp (maxDischargeDepth := 4) [go_sem]; done) | (simp (maxDischargeDepth := 6) [*, go_sem]; done)
    · first | omega | (simp [go_sem]; omega) | (simp (maxDischargeDepth := 4) [go_sem]; done) | (simp (maxDischargeDepth := 6) [*, go_sem]; done)
    · first | omega | (simp [go_sem]; omega) | (simp (maxDischargeDepth := 4) [go_sem]; done) | (simp (maxDischargeDepth := 6) [*, go_sem]; done)
    rintro e w6 ⟨rfl, hb⟩
    have H6 : Below w.heap.size w w6 := by
      refine Below.trans ?_ (hb.mono ?_)
      · repeat (first | with_reducible assumption | with_reducible exact Below.refl _ _ | with_reducible refine Below.setCell ?_ (by first | omega | (simp [go_sem]; omega) | simp [go_sem]) _ | with_reducible refine Below.alloc ?_ (by first | omega | (simp [go_sem]; omega) | simp [go_sem]) _ | with_reducible refine below_grow ?_ (by first | omega | (simp [go_sem]; omega) | simp [go_sem]) _ _ | with_reducible refine Below.drew ?_)
      · first | omega | (simp [go_sem]; omega) | simp [go_sem]
    have S6 : w.heap.size ≤ w6.heap.size := H6.size
    have s6_0 : w.heap.size < w6.heap.size := Nat.lt_of_lt_of_le (by first | omega | (simp [go_sem]; omega) | simp [go_sem]) hb.size
    have k6_0 := fun o => hb.cell (p := ⟨w.heap.size, o, none⟩) (by first | omega | (simp [go_sem]; omega) | simp [go_sem])
    have f6_0 := fun o => hb.frozen (p := ⟨w.heap.size, o, none⟩) (by first | omega | (simp [go_sem]; omega) | simp [go_sem])
    have s6_1 : w.heap.size + 1 < w6.heap.size := Nat.lt_of_lt_of_le (by first | omega | (simp [go_sem]; omega) | simp [go_sem]) hb.size
    have k6_1 := fun o => hb.cell (p := ⟨w.heap.size + 1, o, none⟩) (by first | omega | (simp [go_sem]; omega) | simp [go_sem])
    have f6_1 := fun o => hb.frozen (p := ⟨w.heap.size + 1, o, none⟩) (by first | omega | (simp [go_sem]; omega) | simp [go_sem])
    have s6_2 : w.heap.size + 1 + 1 < w6.heap.size := Nat.lt_of_lt_of_le (by first | omega | (simp [go_sem]; omega) | simp [go_sem]) hb.size
    have k6_2 := fun o => hb.cell (p := ⟨w.heap.size + 1 + 1, o, none⟩) (by first | omega | (simp [go_sem]; omega) | simp [go_sem])
    have f6_2 := fun o => hb.frozen (p := ⟨w.heap.size + 1 + 1, o, none⟩) (by first | omega | (simp [go_sem]; omega) | simp [go_sem])
    have s6_3 : w4.heap.size < w6.heap.size := Nat.lt_of_lt_of_le (by first | omega | (simp [go_sem]; omega) | simp [go_sem]) hb.size
    have k6_3 := fun o => hb.cell (p := ⟨w4.heap.size, o, none⟩) (by first | omega | (simp [go_sem]; omega) | simp [go_sem])
    have f6_3 := fun o => hb.frozen (p := ⟨w4.heap.size, o, none⟩) (by first | omega | (simp [go_sem]; omega) | simp [go_sem])
    have s6_4 : w5.heap.size < w6.heap.size := Nat.lt_of_lt_of_le (by first | omega | (simp [go_sem]; omega) | simp [go_sem]) hb.size
    have k6_4 := fun o => hb.cell (p := ⟨w5.heap.size, o, none⟩) (by first | omega | (simp [go_sem]; omega) | simp [go_sem])
    have f6_4 := fun o => hb.frozen (p := ⟨w5.heap.size, o, none⟩) (by first | omega | (simp [go_sem]; omega) | simp [go_sem])
    clear hb
    go_wp2_with fail
    (with_reducible refine (c6.out _).mono ?_)
    rintro e w7 ⟨rfl, hb⟩
    have H7 : Below w.heap.size w w7 := by
      refine Below.trans ?_ (hb.mono ?_)
      · repeat (first | with_reducible assumption | with_reducible exact Below.refl _ _ | with_reducible refine Below.setCell ?_ (by first | omega | (simp [go_sem]; omega) | simp [go_sem]) _ | with_reducible refine Below.alloc ?_ (by first | omega | (simp [go_sem]; omega) | simp [go_sem]) _ | with_reducible refine below_grow ?_ (by first | omega | (simp [go_sem]; omega) | simp [go_sem]) _ _ | with_reducible refine Below.drew ?_)
      · first | omega | (simp [go_sem]; omega) | simp [go_sem]
    have S7 : w.heap.size ≤ w7.heap.size := H7.size
    have s7_0 : w.heap.size < w7.heap.size := Nat.lt_of_lt_of_le (by first | omega | (simp [go_sem]; omega) | simp [go_sem]) hb.size
    have k7_0 := fun o => hb.cell (p := ⟨w.heap.size, o, none⟩) (by first | omega | (simp [go_sem]; omega) | simp [go_sem])
    have f7_0 := fun o => hb.frozen (p := ⟨w.heap.size, o, none⟩) (by first | omega | (simp [go_sem]; omega) | simp [go_sem])
    have s7_1 : w.heap.size + 1 < w7.heap.size := Nat.lt_of_lt_of_le (by first | omega | (simp [go_sem]; omega) | simp [go_sem]) hb.size
    have k7_1 := fun o => hb.cell (p := ⟨w.heap.size + 1, o, none⟩) (by first | omega | (simp [go_sem]; omega) | simp [go_sem])
    have f7_1 := fun o => hb.frozen (p := ⟨w.heap.size + 1, o, none⟩) (by first | omega | (simp [go_sem]; omega) | simp [go_sem])
    have s7_2 : w.heap.size + 1 + 1 < w7.heap.size := Nat.lt_of_lt_of_le (by first | omega | (simp [go_sem]; omega) | simp [go_sem]) hb.size
    have k7_2 := fun o => hb.cell (p := ⟨w.heap.size + 1 + 1, o, none⟩) (by first | omega | (simp [go_sem]; omega) | simp [go_sem])
    have f7_2 := fun o => hb.frozen (p := ⟨w.heap.size + 1 + 1, o, none⟩) (by first | omega | (simp [go_sem]; omega) | simp [go_sem])
    have s7_3 : w4.heap.size < w7.heap.size := Nat.lt_of_lt_of_le (by first | omega | (simp [go_sem]; omega) | simp [go_sem]) hb.size
    have k7_3 := fun o => hb.cell (p := ⟨w4.heap.size, o, none⟩) (by first | omega | (simp [go_sem]; omega) | simp [go_sem])
    have f7_3 := fun o => hb.frozen (p := ⟨w4.heap.size, o, none⟩) (by first | omega | (simp [go_sem]; omega) | simp [go_sem])
    have s7_4 : w5.heap.size < w7.heap.size := Nat.lt_of_lt_of_le (by first | omega | (simp [go_sem]; omega) | simp [go_sem]) hb.size
    have k7_4 := fun o => hb.cell (p := ⟨w5.heap.size, o, none⟩) (by first | omega | (simp [go_sem]; omega) | simp [go_sem])
    have f7_4 := fun o => hb.frozen (p := ⟨w5.heap.size, o, none⟩) (by first | omega | (simp [go_sem]; omega) | simp [go_sem])
    clear hb
    go_wp2_with fail
    clear c6
    refine wp_region_tail 11 (by kernel_rfl) (by kernel_rfl) (by kernel_rfl) ?_
    simp only [List.take_succ_cons, List.take_zero, List.drop_succ_cons, List.drop_zero, List.take_nil, List.drop_nil]
    repeat (quiet_step (first | with_reducible exact Calls.regrown_of (c7.out _) | ((with_reducible refine Calls.regrown_of (c8.out _ hG _ ?_)); repeat (first | with_reducible assumption | with_reducible exact Below.refl _ _ | with_reducible refine Below.setCell ?_ (by first | omega | (simp [go_sem]; omega) | simp [go_sem]) _ | with_reducible refine Below.alloc ?_ (by first | omega | (simp [go_sem]; omega) | simp [go_sem]) _ | with_reducible refine below_grow ?_ (by first | omega | (simp [go_sem]; omega) | simp [go_sem]) _ _ | with_reducible refine Below.drew ?_))))
    refine wpQuiet_nil ?_
    intro w8 hw
    have hb := below_of_regrown hw
    clear hw
    have H8 : Below w.heap.size w w8 := by
      refine Below.trans ?_ (hb.mono ?_)
      · repeat (first | with_reducible assumption | with_reducible exact Below.refl _ _ | with_reducible refine Below.setCell ?_ (by first | omega | (simp [go_sem]; omega) | simp [go_sem]) _ | with_reducible refine Below.alloc ?_ (by first | omega | (simp [go_sem]; omega) | simp [go_sem]) _ | with_reducible refine below_grow ?_ (by first | omega | (simp [go_sem]; omega) | simp [go_sem]) _ _ | with_reducible refine Below.drew ?_)
      · first | omega | (simp [go_sem]; omega) | simp [go_sem]
    have S8 : w.heap.size ≤ w8.heap.size := H8.size
    have s8_0 : w.heap.size < w8.heap.size := Nat.lt_of_lt_of_le (by first | omega | (simp [go_sem]; omega) | simp [go_sem]) hb.size
    have k8_0 := fun o => hb.cell (p := ⟨w.heap.size, o, none⟩) (by first | omega | (simp [go_sem]; omega) | simp [go_sem])
    have f8_0 := fun o => hb.frozen (p := ⟨w.heap.size, o, none⟩) (by first | omega | (simp [go_sem]; omega) | simp [go_sem])
    have s8_1 : w.heap.size + 1 < w8.heap.size := Nat.lt_of_lt_of_le (by first | omega | (simp [go_sem]; omega) | simp [go_sem]) hb.size
    have k8_1 := fun o => hb.cell (p := ⟨w.heap.size + 1, o, none⟩) (by first | omega | (simp [go_sem]; omega) | simp [go_sem])
    have f8_1 := fun o => hb.frozen (p := ⟨w.heap.size + 1, o, none⟩) (by first | omega | (simp [go_sem]; omega) | simp [go_sem])
    have s8_2 : w.heap.size + 1 + 1 < w8.heap.size := Nat.lt_of_lt_of_le (by first | omega | (simp [go_sem]; omega) | simp [go_sem]) hb.size
    have k8_2 := fun o => hb.cell (p := ⟨w.heap.size + 1 + 1, o, none⟩) (by first | omega | (simp [go_sem]; omega) | simp [go_sem])
    have f8_2 := fun o => hb.frozen (p := ⟨w.heap.size + 1 + 1, o, none⟩) (by first | omega | (simp [go_sem]; omega) | simp [go_sem])
    have s8_3 : w4.heap.size < w8.heap.size := Nat.lt_of_lt_of_le (by first | omega | (simp [go_sem]; omega) | simp [go_sem]) hb.size
    have k8_3 := fun o => hb.cell (p := ⟨w4.heap.size, o, none⟩) (by first | omega | (simp [go_sem]; omega) | simp [go_sem])
    have f8_3 := fun o => hb.frozen (p := ⟨w4.heap.size, o, none⟩) (by first | omega | (simp [go_sem]; omega) | simp [go_sem])
    have s8_4 : w5.heap.size < w8.heap.size := Nat.lt_of_lt_of_le (by first | omega | (simp [go_sem]; omega) | simp [go_sem]) hb.size
    have k8_4 := fun o => hb.cell (p := ⟨w5.heap.size, o, none⟩) (by first | omega | (simp [go_sem]; omega) | simp [go_sem])
    have f8_4 := fun o => hb.frozen (p := ⟨w5.heap.size, o, none⟩) (by first | omega | (simp [go_sem]; omega) | simp [go_sem])
    clear hb
    clear c8
    go_wp2_with fail
    refine wp_region_tail 11 (by kernel_rfl) (by kernel_rfl) (by kernel_rfl) ?_
    simp only [List.take_succ_cons, List.take_zero, List.drop_succ_cons, List.drop_zero, List.take_nil, List.drop_nil]
    repeat (quiet_step (first | with_reducible exact Calls.regrown_of (c7.out _) | ((with_reducible refine Calls.regrown_of (c10.out _ hG _ ?_)); repeat (first | with_reducible assumption | with_reducible exact Below.refl _ _ | with_reducible refine Below.setCell ?_ (by first | omega | (simp [go_sem]; omega) | simp [go_sem]) _ | with_reducible refine Below.alloc ?_ (by first | omega | (simp [go_sem]; omega) | simp [go_sem]) _ | with_reducible refine below_grow ?_ (by first | omega | (simp [go_sem]; omega) | simp [go_sem]) _ _ | with_reducible refine Below.drew ?_))))
    refine wpQuiet_nil ?_
    intro w9 hw
    have hb := below_of_regrown hw
    clear hw
    have H9 : Below w.heap.size w w9 := by
      refine Below.trans ?_ (hb.mono ?_)
      · repeat (first | with_reducible assumption | with_reducible exact Below.refl _ _ | with_reducible refine Below.setCell ?_ (by first | omega | (simp [go_sem]; omega) | simp [go_sem]) _ | with_reducible refine Below.alloc ?_ (by first | omega | (simp [go_sem]; omega) | simp [go_sem]) _ | with_reducible refine below_grow ?_ (by first | omega | (simp [go_sem]; omega) | simp [go_sem]) _ _ | with_reducible refine Below.drew ?_)
      · first | omega | (simp [go_sem]; omega) | simp [go_sem]
    have S9 : w.heap.size ≤ w9.heap.size := H9.size
    have s9_0 : w.heap.size < w9.heap.size := Nat.lt_of_lt_of_le (by first | omega | (simp [go_sem]; omega) | simp [go_sem]) hb.size
    have k9_0 := fun o => hb.cell (p := ⟨w.heap.size, o, none⟩) (by first | omega | (simp [go_sem]; omega) | simp [go_sem])
    have f9_0 := fun o => hb.frozen (p := ⟨w.heap.size, o, none⟩) (by first | omega | (simp [go_sem]; omega) | simp [go_sem])
    have s9_1 : w.heap.size + 1 < w9.heap.size := Nat.lt_of_lt_of_le (by first | omega | (simp [go_sem]; omega) | simp [go_sem]) hb.size
    have k9_1 := fun o => hb.cell (p := ⟨w.heap.size + 1, o, none⟩) (by first | omega | (simp [go_sem]; omega) | simp [go_sem])
    have f9_1 := fun o => hb.frozen (p := ⟨w.heap.size + 1, o, none⟩) (by first | omega | (simp [go_sem]; omega) | simp [go_sem])
    have s9_2 : w.heap.size + 1 + 1 < w9.heap.size := Nat.lt_of_lt_of_le (by first | omega | (simp [go_sem]; omega) | simp [go_sem]) hb.size
    have k9_2 := fun o => hb.cell (p := ⟨w.heap.size + 1 + 1, o, none⟩) (by first | omega | (simp [go_sem]; omega) | simp [go_sem])
    have f9_2 := fun o => hb.frozen (p := ⟨w.heap.size + 1 + 1, o, none⟩) (by first | omega | (simp [go_sem]; omega) | simp [go_sem])
    have s9_3 : w4.heap.size < w9.heap.size := Nat.lt_of_lt_of_le (by first | omega | (simp [go_sem]; omega) | simp [go_sem]) hb.size
    have k9_3 := fun o => hb.cell (p := ⟨w4.heap.size, o, none⟩) (by first | omega | (simp [go_sem]; omega) | simp [go_sem])
    have f9_3 := fun o => hb.frozen (p := ⟨w4.heap.size, o, none⟩) (by first | omega | (simp [go_sem]; omega) | simp [go_sem])
    have s9_4 : w5.heap.size < w9.heap.size := Nat.lt_of_lt_of_le (by first | omega | (simp [go_sem]; omega) | simp [go_sem]) hb.size
    have k9_4 := fun o => hb.cell (p := ⟨w5.heap.size, o, none⟩) (by first | omega | (simp [go_sem]; omega) | simp [go_sem])
    have f9_4 := fun o => hb.frozen (p := ⟨w5.heap.size, o, none⟩) (by first | omega | (simp [go_sem]; omega) | simp [go_sem])
    clear hb
    clear c7 c10
    go_wp2_with fail
    (with_reducible refine (c11.out _ hG _ ?_).mono ?_)
    · repeat (first | with_reducible assumption | with_reducible exact Below.refl _ _ | with_reducible refine Below.setCell ?_ (by first | omega | (simp [go_sem]; omega) | simp [go_sem]) _ | with_reducible refine Below.alloc ?_ (by first | omega | (simp [go_sem]; omega) | simp [go_sem]) _ | with_reducible refine below_grow ?_ (by first | omega | (simp [go_sem]; omega) | simp [go_sem]) _ _ | with_reducible refine Below.drew ?_)
    rintro e w10 ⟨rfl, hb⟩
    have H10 : Below w.heap.size w w10 := by
      refine Below.trans ?_ (hb.mono ?_)
      · repeat (first | with_reducible assumption | with_reducible exact Below.refl _ _ | with_reducible refine Below.setCell ?_ (by first | omega | (simp [go_sem]; omega) | simp [go_sem]) _ | with_reducible refine Below.alloc ?_ (by first | omega | (simp [go_sem]; omega) | simp [go_sem]) _ | with_reducible refine below_grow ?_ (by first | omega | (simp [go_sem]; omega) | simp [go_sem]) _ _ | with_reducible refine Below.drew ?_)
      · first | omega | (simp [go_sem]; omega) | simp [go_sem]
    have S10 : w.heap.size ≤ w10.heap.size := H10.size
    have s10_0 : w.heap.size < w10.heap.size := Nat.lt_of_lt_of_le (by first | omega | (simp [go_sem]; omega) | simp [go_sem]) hb.size
    have k10_0 := fun o => hb.cell (p := ⟨w.heap.size, o, none⟩) (by first | omega | (simp [go_sem]; omega) | simp [go_sem])
    have f10_0 := fun o => hb.frozen (p := ⟨w.heap.size, o, none⟩) (by first | omega | (simp [go_sem]; omega) | simp [go_sem])
    have s10_1 : w.heap.size + 1 < w10.heap.size := Nat.lt_of_lt_of_le (by first | omega | (simp [go_sem]; omega) | simp [go_sem]) hb.size
    have k10_1 := fun o => hb.cell (p := ⟨w.heap.size + 1, o, none⟩) (by first | omega | (simp [go_sem]; omega) | simp [go_sem])
    have f10_1 := fun o => hb.frozen (p := ⟨w.heap.size + 1, o, none⟩) (by first | omega | (simp [go_sem]; omega) | simp [go_sem])
    have s10_2 : w.heap.size + 1 + 1 < w10.heap.size := Nat.lt_of_lt_of_le (by first | omega | (simp [go_sem]; omega) | simp [go_sem]) hb.size
    have k10_2 := fun o => hb.cell (p := ⟨w.heap.size + 1 + 1, o, none⟩) (by first | omega | (simp [go_sem]; omega) | simp [go_sem])
    have f10_2 := fun o => hb.frozen (p := ⟨w.heap.size + 1 + 1, o, none⟩) (by first | omega | (simp [go_sem]; omega) | simp [go_sem])
    have s10_3 : w4.heap.size < w10.heap.size := Nat.lt_of_lt_of_le (by first | omega | (simp [go_sem]; omega) | simp [go_sem]) hb.size
    have k10_3 := fun o => hb.cell (p := ⟨w4.heap.size, o, none⟩) (by first | omega | (simp [go_sem]; omega) | simp [go_sem])
    have f10_3 := fun o => hb.frozen (p := ⟨w4.heap.size, o, none⟩) (by first | omega | (simp [go_sem]; omega) | simp [go_sem])
    have s10_4 : w5.heap.size < w10.heap.size := Nat.lt_of_lt_of_le (by first | omega | (simp [go_sem]; omega) | simp [go_sem]) hb.size
    have k10_4 := fun o => hb.cell (p := ⟨w5.heap.size, o, none⟩) (by first | omega | (simp [go_sem]; omega) | simp [go_sem])
    have f10_4 := fun o => hb.frozen (p := ⟨w5.heap.size, o, none⟩) (by first | omega | (simp [go_sem]; omega) | simp [go_sem])
    clear hb
    go_wp2_with fail
    (with_reducible refine (c12.out _ hG _ ?_).mono ?_)
    · repeat (first | with_reducible assumption | with_reducible exact Below.refl _ _ | with_reducible refine Below.setCell ?_ (by first | omega | (simp [go_sem]; omega) | simp [go_sem]) _ | with_reducible refine Below.alloc ?_ (by first | omega | (simp [go_sem]; omega) | simp [go_sem]) _ | with_reducible refine below_grow ?_ (by first | omega | (simp [go_sem]; omega) | simp [go_sem]) _ _ | with_reducible refine Below.drew ?_)
    rintro e w11 ⟨rfl, hb⟩
    have H11 : Below w.heap.size w w11 := by
      refine Below.trans ?_ (hb.mono ?_)
      · repeat (first | with_reducible assumption | with_reducible exact Below.refl _ _ | with_reducible refine Below.setCell ?_ (by first | omega | (simp [go_sem]; omega) | simp [go_sem]) _ | with_reducible refine Below.alloc ?_ (by first | omega | (simp [go_sem]; omega) | simp [go_sem]) _ | with_reducible refine below_grow ?_ (by first | omega | (simp [go_sem]; omega) | simp [go_sem]) _ _ | with_reducible refine Below.drew ?_)
      · first | omega | (simp [go_sem]; omega) | simp [go_sem]
    have S11 : w.heap.size ≤ w11.heap.size := H11.size
    have s11_0 : w.heap.size < w11.heap.size := Nat.lt_of_lt_of_le (by first | omega | (simp [go_sem]; omega) | simp [go_sem]) hb.size
    have k11_0 := fun o => hb.cell (p := ⟨w.heap.size, o, none⟩) (by first | omega | (simp [go_sem]; omega) | simp [go_sem])
    have f11_0 := fun o => hb.frozen (p := ⟨w.heap.size, o, none⟩) (by first | omega | (simp [go_sem]; omega) | simp [go_sem])
    have s11_1 : w.heap.size + 1 < w11.heap.size := Nat.lt_of_lt_of_le (by first | omega | (simp [go_sem]; omega) | simp [go_sem]) hb.size
    have k11_1 := fun o => hb.cell (p := ⟨w.heap.size + 1, o, none⟩) (by first | omega | (simp [go_sem]; omega) | simp [go_sem])
    have f11_1 := fun o => hb.frozen (p := ⟨w.heap.size + 1, o, none⟩) (by first | omega | (simp [go_sem]; omega) | simp [go_sem])
    have s11_2 : w.heap.size + 1 + 1 < w11.heap.size := Nat.lt_of_lt_of_le (by first | omega | (simp [go_sem]; omega) | simp [go_sem]) hb.size
    have k11_2 := fun o => hb.cell (p := ⟨w.heap.size + 1 + 1, o, none⟩) (by first | omega | (simp [go_sem]; omega) | simp [go_sem])
    have f11_2 := fun o => hb.frozen (p := ⟨w.heap.size + 1 + 1, o, none⟩) (by first | omega | (simp [go_sem]; omega) | simp [go_sem])
    have s11_3 : w4.heap.size < w11.heap.size := Nat.lt_of_lt_of_le (by first | omega | (simp [go_sem]; omega) | simp [go_sem]) hb.size
    have k11_3 := fun o => hb.cell (p := ⟨w4.heap.size, o, none⟩) (by first | omega | (simp [go_sem]; omega) | simp [go_sem])
    have f11_3 := fun o => hb.frozen (p := ⟨w4.heap.size, o, none⟩) (by first | omega | (simp [go_sem]; omega) | simp [go_sem])
    have s11_4 : w5.heap.size < w11.heap.size := Nat.lt_of_lt_of_le (by first | omega | (simp [go_sem]; omega) | simp [go_sem]) hb.size
    have k11_4 := fun o => hb.cell (p := ⟨w5.heap.size, o, none⟩) (by first | omega | (simp [go_sem]; omega) | simp [go_sem])
    have f11_4 := fun o => hb.frozen (p := ⟨w5.heap.size, o, none⟩) (by first | omega | (simp [go_sem]; omega) | simp [go_sem])
    clear hb
    go_wp2_with fail
    (with_reducible refine (c9.out _ hG _ ?_).mono ?_)
    · repeat (first | with_reducible assumption | with_reducible exact Below.refl _ _ | with_reducible refine Below.setCell ?_ (by first | omega | (simp [go_sem]; omega) | simp [go_sem]) _ | with_reducible refine Below.alloc ?_ (by first | omega | (simp [go_sem]; omega) | simp [go_sem]) _ | with_reducible refine below_grow ?_ (by first | omega | (simp [go_sem]; omega) | simp [go_sem]) _ _ | with_reducible refine Below.drew ?_)
    rintro e w12 ⟨rfl, hb⟩
    have H12 : Below w.heap.size w w12 := by
      refine Below.trans ?_ (hb.mono ?_)
      · repeat (first | with_reducible assumption | with_reducible exact Below.refl _ _ | with_reducible refine Below.setCell ?_ (by first | omega | (simp [go_sem]; omega) | simp [go_sem]) _ | with_reducible refine Below.alloc ?_ (by first | omega | (simp [go_sem]; omega) | simp [go_sem]) _ | with_reducible refine below_grow ?_ (by first | omega | (simp [go_sem]; omega) | simp [go_sem]) _ _ | with_reducible refine Below.drew ?_)
      · first | omega | (simp [go_sem]; omega) | simp [go_sem]
    have S12 : w.heap.size ≤ w12.heap.size := H12.size
    have s12_0 : w.heap.size < w12.heap.size := Nat.lt_of_lt_of_le (by first | omega | (simp [go_sem]; omega) | simp [go_sem]) hb.size
    have k12_0 := fun o => hb.cell (p := ⟨w.heap.size, o, none⟩) (by first | omega | (simp [go_sem]; omega) | simp [go_sem])
    have f12_0 := fun o => hb.frozen (p := ⟨w.heap.size, o, none⟩) (by first | omega | (simp [go_sem]; omega) | simp [go_sem])
    have s12_1 : w.heap.size + 1 < w12.heap.size := Nat.lt_of_lt_of_le (by first | omega | (simp [go_sem]; omega) | simp [go_sem]) hb.size
    have k12_1 := fun o => hb.cell (p := ⟨w.heap.size + 1, o, none⟩) (by first | omega | (simp [go_sem]; omega) | simp [go_sem])
    have f12_1 := fun o => hb.frozen (p := ⟨w.heap.size + 1, o, none⟩) (by first | omega | (simp [go_sem]; omega) | simp [go_sem])
    have s12_2 : w.heap.size + 1 + 1 < w12.heap.size := Nat.lt_of_lt_of_le (by first | omega | (simp [go_sem]; omega) | simp [go_sem]) hb.size
    have k12_2 := fun o => hb.cell (p := ⟨w.heap.size + 1 + 1, o, none⟩) (by first | omega | (simp [go_sem]; omega) | simp [go_sem])
    have f12_2 := fun o => hb.frozen (p := ⟨w.heap.size + 1 + 1, o, none⟩) (by first | omega | (simp [go_sem]; omega) | simp [go_sem])
    have s12_3 : w4.heap.size < w12.heap.size := Nat.lt_of_lt_of_le (by first | omega | (simp [go_sem]; omega) | simp [go_sem]) hb.size
    have k12_3 := fun o => hb.cell (p := ⟨w4.heap.size, o, none⟩) (by first | omega | (simp [go_sem]; omega) | simp [go_sem])
    have f12_3 := fun o => hb.frozen (p := ⟨w4.heap.size, o, none⟩) (by first | omega | (simp [go_sem]; omega) | simp [go_sem])
    have s12_4 : w5.heap.size < w12.heap.size := Nat.lt_of_lt_of_le (by first | omega | (simp [go_sem]; omega) | simp [go_sem]) hb.size
    have k12_4 := fun o => hb.cell (p := ⟨w5.heap.size, o, none⟩) (by first | omega | (simp [go_sem]; omega) | simp [go_sem])
    have f12_4 := fun o => hb.frozen (p := ⟨w5.heap.size, o, none⟩) (by first | omega | (simp [go_sem]; omega) | simp [go_sem])
    clear hb
    go_wp2_with fail
    go_ret
    refine ⟨rfl, ?_⟩
    repeat (first | with_reducible assumption | with_reducible exact Below.refl _ _ | with_reducible refine Below.setCell ?_ (by first | omega | (simp [go_sem]; omega) | simp [go_sem]) _ | with_reducible refine Below.alloc ?_ (by first | omega | (simp [go_sem]; omega) | simp [go_sem]) _ | with_reducible refine below_grow ?_ (by first | omega | (simp [go_sem]; omega) | simp [go_sem]) _ _ | with_reducible refine Below.drew ?_)
end Go.Proofs.YtgdlehoglpiifaaGreatDoor
