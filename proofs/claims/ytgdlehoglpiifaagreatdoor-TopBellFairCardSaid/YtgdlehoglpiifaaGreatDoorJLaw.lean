/-
  The laws: what both share: the operations of package mark on rational numbers; the fixed example.
  The laws: the fixed example.
  The numbers that Where gives have small denominators; what the law on rounds says of them.
  The law TopBellRound: invalid arguments.
-/
import Derived.Test.YtgdlehoglpiifaaGreatDoorJErrors
import Derived.Test.YtgdlehoglpiifaaGreatDoorJRefR
import Derived.Laws.OwnMore
namespace Go.Proofs.YtgdlehoglpiifaaGreatDoor
open Go.RowKit Go.Sort Go.Lib

theorem mMulR (r s : Rat) {A B A' B' : Int} (h : Bd r A B) (h' : Bd s A' B') (hs : A < 1000000000000000000 ∧ B < 1000000000000000000 ∧ A' < 1000000000000000000 ∧ B' < 1000000000000000000 ∧ A * A' ≤ 9223372036854775807 ∧ B * B' ≤ 9223372036854775807) {w0 : World} (hG : Glob w0) (w : World) (hb : Below w0.heap.size w0 w) : Calls Tryz.prog 19 #[.string ⟨(rt r).toArray⟩, .string ⟨(rt s).toArray⟩] w fun e w' => e = .returned (.tuple #[.string ⟨(rt (r * s)).toArray⟩, .int .i64 0]) ∧ Below w.heap.size w w' := by
  replace hG := hG.keep hb
  clear hb
  have m := mul_abs h.lo h.hi h'.lo h'.hi
  have d := den_mul h.den h'.den
  have e := mul_nd r s
  have a1 := qn_le d.1 m.1 m.2
  have a2 := qd_le (n := r.num * s.num) d.1
  exact mMul r.num r.den s.num s.den (r * s).num ((r * s).den : Int) (h.val ⟨hs.1, hs.2.1⟩) (h'.val ⟨hs.2.2.1, hs.2.2.2.1⟩) ⟨by rw [e.1]; omega, by rw [e.1]; omega⟩ ⟨by have := den_pos (r * s); omega, by rw [e.2]; omega⟩
    (fun w => rMul r s h h' ⟨by omega, by omega, by omega, by omega, by omega, by omega⟩ w) hG w (Below.refl _ _)
theorem mSubR (r s : Rat) {A B A' B' : Int} (h : Bd r A B) (h' : Bd s A' B') (hs : A < 1000000000000000000 ∧ B < 1000000000000000000 ∧ A' < 1000000000000000000 ∧ B' < 1000000000000000000 ∧ A * B' + A' * B ≤ 9223372036854775807 ∧ B * B' ≤ 9223372036854775807) {w0 : World} (hG : Glob w0) (w : World) (hb : Below w0.heap.size w0 w) : Calls Tryz.prog 21 #[.string ⟨(rt r).toArray⟩, .string ⟨(rt s).toArray⟩] w fun e w' => e = .returned (.tuple #[.string ⟨(rt (r - s)).toArray⟩, .int .i64 0]) ∧ Below w.heap.size w w' := by
  replace hG := hG.keep hb
  clear hb
  have m := add_abs h h'.neg
  rw [show (-s).num = -s.num from by simp, show (-s).den = s.den from by simp] at m
  have d := den_mul h.den h'.den
  have e := sub_nd r s
  have a1 := qn_le (n := r.num * s.den + -s.num * r.den) (A := A * B' + A' * B) d.1 (by omega) (by omega)
  have a2 := qd_le (n := r.num * s.den + -s.num * r.den) d.1
  exact mSub r.num r.den s.num s.den (r - s).num ((r - s).den : Int) (h.val ⟨hs.1, hs.2.1⟩) (h'.val ⟨hs.2.2.1, hs.2.2.2.1⟩) ⟨by rw [e.1]; omega, by rw [e.1]; omega⟩ ⟨by have := den_pos (r - s); omega, by rw [e.2]; omega⟩
    (fun w => rSub r s h h' ⟨by omega, by omega, by omega, by omega, by omega, by omega⟩ w) hG w (Below.refl _ _)
theorem mDivR (r s : Rat) {A B A' B' : Int} (h : Bd r A B) (h' : Bd s A' B') (hp : 0 < s.num) (hs : A < 1000000000000000000 ∧ B < 1000000000000000000 ∧ A' < 1000000000000000000 ∧ B' < 1000000000000000000 ∧ A * B' ≤ 9223372036854775807 ∧ B * A' ≤ 9223372036854775807) {w0 : World} (hG : Glob w0) (w : World) (hb : Below w0.heap.size w0 w) : Calls Tryz.prog 28 #[.string ⟨(rt r).toArray⟩, .string ⟨(rt s).toArray⟩] w fun e w' => e = .returned (.tuple #[.string ⟨(rt (r / s)).toArray⟩, .int .i64 0]) ∧ Below w.heap.size w w' := by
  replace hG := hG.keep hb
  clear hb
  have b := h.div h' hp
  exact mDiv r.num r.den s.num s.den (r / s).num ((r / s).den : Int) (h.val ⟨hs.1, hs.2.1⟩) (h'.val ⟨hs.2.2.1, hs.2.2.2.1⟩) ⟨by have := b.lo; omega, by have := b.hi; omega⟩ ⟨by have := den_pos (r / s); omega, by have := b.den; omega⟩ (by omega)
    (fun w => rDiv r s h h' hp ⟨by omega, by omega, by omega, by omega, by omega, by omega⟩ w) hG w (Below.refl _ _)
theorem mFloorR (r : Rat) {A B : Int} (h : Bd r A B) (hs : A < 1000000000000000000 ∧ B < 1000000000000000000) {w0 : World} (hG : Glob w0) (w : World) (hb : Below w0.heap.size w0 w) : Calls Tryz.prog 29 #[.string ⟨(rt r).toArray⟩] w fun e w' => e = .returned (.tuple #[.string ⟨(Lib.itoa r.floor).toArray⟩, .int .i64 0]) ∧ Below w.heap.size w w' := by
  replace hG := hG.keep hb
  clear hb
  have := mFloor r.num r.den (h.val hs) hG w (Below.refl _ _)
  rwa [← Rat.floor_def] at this

theorem len_zero_l (d : Int) (p : Rat) : len 0 d p = (d : Rat) * p := by
  unfold len; rw [show ((0 : Int) : Rat) = 0 from rfl]; grind
theorem pi_lt : piL < piH := by rw [piL_eq, piH_eq]; grind
theorem len_le {a b : Int} (hb : 0 ≤ b) : len a b piL ≤ len a b piH := by
  have h0 : (0 : Rat) ≤ (b : Rat) := Rat.intCast_le_intCast.2 hb
  have := Rat.mul_le_mul_of_nonneg_left (Rat.le_of_lt pi_lt) h0
  unfold len
  grind
theorem rmin_le {r s : Rat} (h : r ≤ s) : rmin r s = r := by unfold rmin; rw [if_neg (Rat.not_lt.2 h)]
theorem rmax_le {r s : Rat} (h : r ≤ s) : rmax r s = s := by unfold rmax; rw [if_neg (Rat.not_lt.2 h)]
theorem span_low {a b : Int} (hb : 0 ≤ b) : spanLow a b = len a b piL := rmin_le (len_le hb)
theorem span_high {a b : Int} (hb : 0 ≤ b) : spanHigh a b = len a b piH := rmax_le (len_le hb)

theorem floor_eq {x : Rat} {n : Int} (h1 : (n : Rat) ≤ x) (h2 : x < (n : Rat) + 1) : x.floor = n := by
  have a1 := Rat.le_floor_iff.2 h1
  have a2 : (x.floor : Rat) < ((n + 1 : Int) : Rat) := by
    have := Rat.floor_le (a := x)
    rw [Rat.intCast_add, show ((1 : Int) : Rat) = 1 from rfl]
    grind
  have a3 := Rat.intCast_lt_intCast.1 a2
  omega
theorem mst_2240 : mst 2240 = 7036 := by
  unfold mst
  rw [len_zero_l, piL_eq, show ((2240 : Int) : Rat) = 2240 from rfl]
  exact floor_eq (by rw [show ((7036 : Int) : Rat) = 7036 from rfl]; grind) (by rw [show ((7036 : Int) : Rat) = 7036 from rfl]; grind)
theorem itoa_4 (a b c d : Nat) (ha : 0 < a ∧ a < 10) (hb : b < 10) (hc : c < 10) (hd : d < 10) : Lib.itoa ((1000 * a + 100 * b + 10 * c + d : Nat) : Int) = [UInt8.ofNat (48 + a), UInt8.ofNat (48 + b), UInt8.ofNat (48 + c), UInt8.ofNat (48 + d)] := by
  rw [itoa_nat, dec_step _ (by omega), dec_step ((1000 * a + 100 * b + 10 * c + d) / 10) (by omega), dec_step ((1000 * a + 100 * b + 10 * c + d) / 10 / 10) (by omega), dec1 _ (by omega)]
  rw [show (1000 * a + 100 * b + 10 * c + d) / 10 / 10 / 10 = a by omega, show (1000 * a + 100 * b + 10 * c + d) / 10 / 10 % 10 = b by omega, show (1000 * a + 100 * b + 10 * c + d) / 10 % 10 = c by omega, show (1000 * a + 100 * b + 10 * c + d) % 10 = d by omega]
  rfl
theorem rt_2240 : rt ((2240 : Int) : Rat) = [50, 50, 52, 48] := by
  rw [rt_int]; exact itoa_4 2 2 4 0 (by decide) (by decide) (by decide) (by decide)
theorem itoa_7036 : Lib.itoa 7036 = [55, 48, 51, 54] := itoa_4 7 0 3 6 (by decide) (by decide) (by decide) (by decide)

theorem lOval (w : World) : Calls Tryz.prog 33 #[] w fun e w' => e = .returned (.agg #[.int .i64 84390, .int .i64 36500, .int .i64 1220, .int .i64 300, .int .i64 200, .int .i64 8]) ∧ Below w.heap.size w w' := by
  go_enter Tryz.func33, Tryz.ntmps33
  go_wp2_with fail
  refine bodyPost_ret (v := .agg #[.int .i64 84390, .int .i64 36500, .int .i64 1220, .int .i64 300, .int .i64 200, .int .i64 8]) (by simp (maxDischargeDepth := 4) [results, Tryz.results33, go_sem]) rfl ⟨rfl, ?_⟩
  repeat (first | with_reducible assumption | with_reducible exact Below.refl _ _ | with_reducible refine Below.setCell ?_ (by first | omega | (simp [go_sem]; omega) | simp [go_sem]) _ | with_reducible refine Below.alloc ?_ (by first | omega | (simp [go_sem]; omega) | simp [go_sem]) _ | with_reducible refine below_grow ?_ (by first | omega | (simp [go_sem]; omega) | simp [go_sem]) _ _ | with_reducible refine Below.drew ?_)
theorem bellO : Oval 84390 36500 1220 300 200 8 := ⟨by omega, by omega, by omega, by omega, by omega, by omega⟩
end Go.Proofs.YtgdlehoglpiifaaGreatDoor
namespace Go.Proofs.YtgdlehoglpiifaaGreatDoor
open Go.RowKit Go.Sort Go.Lib

set_option maxRecDepth 8000 in
theorem lLap {w0 : World} (hG : Glob w0) (w : World) (hb : Below w0.heap.size w0 w) : Calls Tryz.prog 7 #[] w fun e w' => e = .returned (.bool true) ∧ Below w.heap.size w w' := by
  replace hG := hG.keep hb
  clear hb
  have c1 := Lib.hid (fun w => lOval w)
  have c2 := Lib.hid (fun (w0 : World) (hG : Glob w0) (w : World) hb' => trAhead bellO 2 1 1 (by omega) (by omega) (by omega) hG w hb')
  have c3 := Lib.hid (fun w => trMarked bellO 2 (by omega) w)
  have c4 := Lib.hid (fun (w0 : World) (hG : Glob w0) (w : World) hb' => mFloorR (len 0 2240 piL) (Bd.len (A := 0) (B := 2240) (by omega) (by omega) Bd.piL) (by omega) hG w hb')
  have c5 := Lib.hid (fun (w0 : World) (hG : Glob w0) (w : World) hb' => mMulR ((2240 : Int) : Rat) piH (Bd.int 2240 2240 (by omega)) Bd.piH (by omega) hG w hb')
  rw [show 2 * 1 * (rad 36500 1220 300 200 2 - rad 36500 1220 300 200 1) = 2240 from by decide, span_low (by omega), span_high (by omega), len_zero_l 2240 piH] at c2
  rw [show (len 0 2240 piL).floor = 7036 from mst_2240, itoa_7036] at c4
  rw [rt_2240, rt_piH] at c5
  have hm : mstV 36500 1220 300 200 2 2 = .int .i64 7036 := by
    unfold mstV
    rw [show (2 : Int) * (rad 36500 1220 300 200 2 - rad 36500 1220 300 200 1) = 2240 from by decide, mst_2240]
  rw [show firstLanes (8 : Int).toNat = [1, 2, 3, 4, 5, 6, 7, 8] from by decide, show (8 : Int).toNat = 8 from rfl] at c3
  simp only [List.map_cons, List.map_nil, hm] at c3
  generalize rt (((2240 : Int) : Rat) * piH) = hi at *
  generalize rt (len 0 2240 piL) = lo at *
  clear hm
  go_enter Tryz.func7, Tryz.ntmps7
  go_wp2_with fail
  (with_reducible refine (c1.out _).mono ?_)
  rintro e w1 ⟨rfl, hb⟩
  have H1 : Below w.heap.size w w1 := by
    refine Below.trans ?_ (hb.mono ?_)
    · repeat (first | with_reducible assumption | with_reducible exact Below.refl _ _ | with_reducible refine Below.setCell ?_ (by first | omega | (simp [go_sem]; omega) | simp [go_sem]) _ | with_reducible refine Below.alloc ?_ (by first | omega | (simp [go_sem]; omega) | simp [go_sem]) _ | with_reducible refine below_grow ?_ (by first | omega | (simp [go_sem]; omega) | simp [go_sem]) _ _ | with_reducible refine Below.drew ?_)
    · first | omega | (simp [go_sem]; omega) | simp [go_sem]
  have S1 : w.heap.size ≤ w1.heap.size := H1.size
  clear hb
  go_wp2_with fail
  (with_reducible refine (c2.out _ hG _ ?_).mono ?_)
  · repeat (first | with_reducible assumption | with_reducible exact Below.refl _ _ | with_reducible refine Below.setCell ?_ (by first | omega | (simp [go_sem]; omega) | simp [go_sem]) _ | with_reducible refine Below.alloc ?_ (by first | omega | (simp [go_sem]; omega) | simp [go_sem]) _ | with_reducible refine below_grow ?_ (by first | omega | (simp [go_sem]; omega) | simp [go_sem]) _ _ | with_reducible refine Below.drew ?_)
  rintro e w2 ⟨rfl, hb⟩
  have H2 : Below w.heap.size w w2 := by
    refine Below.trans ?_ (hb.mono ?_)
    · repeat (first | with_reducible assumption | with_reducible exact Below.refl _ _ | with_reducible refine Below.setCell ?_ (by first | omega | (simp [go_sem]; omega) | simp [go_sem]) _ | with_reducible refine Below.alloc ?_ (by first | omega | (simp [go_sem]; omega) | simp [go_sem]) _ | with_reducible refine below_grow ?_ (by first | omega | (simp [go_sem]; omega) | simp [go_sem]) _ _ | with_reducible refine Below.drew ?_)
    · first | omega | (simp [go_sem]; omega) | simp [go_sem]
  have S2 : w.heap.size ≤ w2.heap.size := H2.size
  clear hb
  clear c2
  go_wp2_with fail
  (with_reducible refine (c1.out _).mono ?_)
  rintro e w3 ⟨rfl, hb⟩
  have H3 : Below w.heap.size w w3 := by
    refine Below.trans ?_ (hb.mono ?_)
    · repeat (first | with_reducible assumption | with_reducible exact Below.refl _ _ | with_reducible refine Below.setCell ?_ (by first | omega | (simp [go_sem]; omega) | simp [go_sem]) _ | with_reducible refine Below.alloc ?_ (by first | omega | (simp [go_sem]; omega) | simp [go_sem]) _ | with_reducible refine below_grow ?_ (by first | omega | (simp [go_sem]; omega) | simp [go_sem]) _ _ | with_reducible refine Below.drew ?_)
    · first | omega | (simp [go_sem]; omega) | simp [go_sem]
  have S3 : w.heap.size ≤ w3.heap.size := H3.size
  have s3_0 : w2.heap.size < w3.heap.size := Nat.lt_of_lt_of_le (by first | omega | (simp [go_sem]; omega) | simp [go_sem]) hb.size
  have k3_0 := fun o => hb.cell (p := ⟨w2.heap.size, o, none⟩) (by first | omega | (simp [go_sem]; omega) | simp [go_sem])
  have f3_0 := fun o => hb.frozen (p := ⟨w2.heap.size, o, none⟩) (by first | omega | (simp [go_sem]; omega) | simp [go_sem])
  clear hb
  clear c1
  go_wp2_with fail
  (with_reducible refine (c3.out _).mono ?_)
  rintro e w4 ⟨v, rfl, hrow, hb⟩
  have H4 : Below w.heap.size w w4 := by
    refine Below.trans ?_ (hb.mono ?_)
    · repeat (first | with_reducible assumption | with_reducible exact Below.refl _ _ | with_reducible refine Below.setCell ?_ (by first | omega | (simp [go_sem]; omega) | simp [go_sem]) _ | with_reducible refine Below.alloc ?_ (by first | omega | (simp [go_sem]; omega) | simp [go_sem]) _ | with_reducible refine below_grow ?_ (by first | omega | (simp [go_sem]; omega) | simp [go_sem]) _ _ | with_reducible refine Below.drew ?_)
    · first | omega | (simp [go_sem]; omega) | simp [go_sem]
  have S4 : w.heap.size ≤ w4.heap.size := H4.size
  have s4_0 : w2.heap.size < w4.heap.size := Nat.lt_of_lt_of_le (by first | omega | (simp [go_sem]; omega) | simp [go_sem]) hb.size
  have k4_0 := fun o => hb.cell (p := ⟨w2.heap.size, o, none⟩) (by first | omega | (simp [go_sem]; omega) | simp [go_sem])
  have f4_0 := fun o => hb.frozen (p := ⟨w2.heap.size, o, none⟩) (by first | omega | (simp [go_sem]; omega) | simp [go_sem])
  clear hb
  clear c3
  obtain ⟨g, cap, rfl⟩ := ownsRow_succ hrow
  have hc : w4.cell? ⟨g, 1, none⟩ = some (.int .i64 7036) := hrow.cellAt 1 (by decide)
  have hgl : g < w4.heap.size := (hrow.lt g rfl).2
  clear hrow
  go_wp2_with fail
  (with_reducible refine (c4.out _ hG _ ?_).mono ?_)
  · repeat (first | with_reducible assumption | with_reducible exact Below.refl _ _ | with_reducible refine Below.setCell ?_ (by first | omega | (simp [go_sem]; omega) | simp [go_sem]) _ | with_reducible refine Below.alloc ?_ (by first | omega | (simp [go_sem]; omega) | simp [go_sem]) _ | with_reducible refine below_grow ?_ (by first | omega | (simp [go_sem]; omega) | simp [go_sem]) _ _ | with_reducible refine Below.drew ?_)
  rintro e w5 ⟨rfl, hb⟩
  have H5 : Below w.heap.size w w5 := by
    refine Below.trans ?_ (hb.mono ?_)
    · repeat (first | with_reducible assumption | with_reducible exact Below.refl _ _ | with_reducible refine Below.setCell ?_ (by first | omega | (simp [go_sem]; omega) | simp [go_sem]) _ | with_reducible refine Below.alloc ?_ (by first | omega | (simp [go_sem]; omega) | simp [go_sem]) _ | with_reducible refine below_grow ?_ (by first | omega | (simp [go_sem]; omega) | simp [go_sem]) _ _ | with_reducible refine Below.drew ?_)
    · first | omega | (simp [go_sem]; omega) | simp [go_sem]
  have S5 : w.heap.size ≤ w5.heap.size := H5.size
  have s5_0 : w2.heap.size < w5.heap.size := Nat.lt_of_lt_of_le (by first | omega | (simp [go_sem]; omega) | simp [go_sem]) hb.size
  have k5_0 := fun o => hb.cell (p := ⟨w2.heap.size, o, none⟩) (by first | omega | (simp [go_sem]; omega) | simp [go_sem])
  have f5_0 := fun o => hb.frozen (p := ⟨w2.heap.size, o, none⟩) (by first | omega | (simp [go_sem]; omega) | simp [go_sem])
  have s5_1 : g < w5.heap.size := Nat.lt_of_lt_of_le (by first | omega | (simp [go_sem]; omega) | simp [go_sem]) hb.size
  have k5_1 := fun o => hb.cell (p := ⟨g, o, none⟩) (by first | omega | (simp [go_sem]; omega) | simp [go_sem])
  have f5_1 := fun o => hb.frozen (p := ⟨g, o, none⟩) (by first | omega | (simp [go_sem]; omega) | simp [go_sem])
  clear hb
  clear c4
  go_wp2_with fail
  (with_reducible refine (c5.out _ hG _ ?_).mono ?_)
  · repeat (first | with_reducible assumption | with_reducible exact Below.refl _ _ | with_reducible refine Below.setCell ?_ (by first | omega | (simp [go_sem]; omega) | simp [go_sem]) _ | with_reducible refine Below.alloc ?_ (by first | omega | (simp [go_sem]; omega) | simp [go_sem]) _ | with_reducible refine below_grow ?_ (by first | omega | (simp [go_sem]; omega) | simp [go_sem]) _ _ | with_reducible refine Below.drew ?_)
  rintro e w6 ⟨rfl, hb⟩
  have H6 : Below w.heap.size w w6 := by
    refine Below.trans ?_ (hb.mono ?_)
    · repeat (first | with_reducible assumption | with_reducible exact Below.refl _ _ | with_reducible refine Below.setCell ?_ (by first | omega | (simp [go_sem]; omega) | simp [go_sem]) _ | with_reducible refine Below.alloc ?_ (by first | omega | (simp [go_sem]; omega) | simp [go_sem]) _ | with_reducible refine below_grow ?_ (by first | omega | (simp [go_sem]; omega) | simp [go_sem]) _ _ | with_reducible refine Below.drew ?_)
    · first | omega | (simp [go_sem]; omega) | simp [go_sem]
  have S6 : w.heap.size ≤ w6.heap.size := H6.size
  have s6_0 : w2.heap.size < w6.heap.size := Nat.lt_of_lt_of_le (by first | omega | (simp [go_sem]; omega) | simp [go_sem]) hb.size
  have k6_0 := fun o => hb.cell (p := ⟨w2.heap.size, o, none⟩) (by first | omega | (simp [go_sem]; omega) | simp [go_sem])
  have f6_0 := fun o => hb.frozen (p := ⟨w2.heap.size, o, none⟩) (by first | omega | (simp [go_sem]; omega) | simp [go_sem])
  have s6_1 : g < w6.heap.size := Nat.lt_of_lt_of_le (by first | omega | (simp [go_sem]; omega) | simp [go_sem]) hb.size
  have k6_1 := fun o => hb.cell (p := ⟨g, o, none⟩) (by first | omega | (simp [go_sem]; omega) | simp [go_sem])
  have f6_1 := fun o => hb.frozen (p := ⟨g, o, none⟩) (by first | omega | (simp [go_sem]; omega) | simp [go_sem])
  clear hb
  clear c5
  go_wp2_with fail
  go_ret
  refine ⟨rfl, ?_⟩
  repeat (first | with_reducible assumption | with_reducible exact Below.refl _ _ | with_reducible refine Below.setCell ?_ (by first | omega | (simp [go_sem]; omega) | simp [go_sem]) _ | with_reducible refine Below.alloc ?_ (by first | omega | (simp [go_sem]; omega) | simp [go_sem]) _ | with_reducible refine below_grow ?_ (by first | omega | (simp [go_sem]; omega) | simp [go_sem]) _ _ | with_reducible refine Below.drew ?_)
end Go.Proofs.YtgdlehoglpiifaaGreatDoor
namespace Go.Proofs.YtgdlehoglpiifaaGreatDoor

/-- A number whose q-fold is an integer. -/
def Part (q : Nat) (x : Rat) : Prop := ∃ a : Int, x * (q : Rat) = (a : Rat)
theorem Part.int {q : Nat} (n : Int) : Part q (n : Rat) := ⟨n * q, by rw [Rat.intCast_mul]; rfl⟩
theorem Part.add {q : Nat} {x y : Rat} (h : Part q x) (h' : Part q y) : Part q (x + y) := by
  obtain ⟨a, ha⟩ := h; obtain ⟨b, hb⟩ := h'
  exact ⟨a + b, by rw [Rat.intCast_add, ← ha, ← hb]; grind⟩
theorem Part.sub {q : Nat} {x y : Rat} (h : Part q x) (h' : Part q y) : Part q (x - y) := by
  obtain ⟨a, ha⟩ := h; obtain ⟨b, hb⟩ := h'
  exact ⟨a - b, by rw [Rat.intCast_sub, ← ha, ← hb]; grind⟩
theorem Part.mulInt {q : Nat} {x : Rat} (h : Part q x) (n : Int) : Part q (x * (n : Rat)) := by
  obtain ⟨a, ha⟩ := h
  exact ⟨a * n, by rw [Rat.intCast_mul, ← ha]; grind⟩
theorem Part.den {q : Nat} {x : Rat} (hq : 0 < q) (h : Part q x) : (x.den : Int) ≤ q := by
  obtain ⟨a, ha⟩ := h
  have h1 : x * (x.den : Rat) = (x.num : Rat) := by
    have e := Rat.num_divInt_den x
    rw [Rat.divInt_eq_div] at e
    have hne : (((x.den : Nat) : Int) : Rat) ≠ 0 := by
      intro h0
      have := Rat.intCast_inj.1 (h0.trans (show (0 : Rat) = ((0 : Int) : Rat) from rfl))
      have := x.den_pos
      omega
    have h2 := Rat.div_mul_cancel (a := (x.num : Rat)) hne
    rw [e] at h2
    exact h2
  have h2 : ((x.num * (q : Int) : Int) : Rat) = ((a * (x.den : Int) : Int) : Rat) := by
    rw [Rat.intCast_mul, Rat.intCast_mul, ← h1, ← ha]
    show x * (x.den : Rat) * (q : Rat) = x * (q : Rat) * (x.den : Rat)
    grind
  have h3 : x.num * (q : Int) = a * (x.den : Int) := Rat.intCast_inj.1 h2
  have h4 : x.den ∣ x.num.natAbs * q := by
    have : (x.den : Int) ∣ x.num * (q : Int) := ⟨a, by rw [h3, Int.mul_comm]⟩
    have := Int.natAbs_dvd_natAbs.2 this
    simpa [Int.natAbs_mul] using this
  have h5 : x.den ∣ q := (Nat.Coprime.dvd_of_dvd_mul_left (Nat.Coprime.symm x.reduced) h4)
  have := Nat.le_of_dvd hq h5
  omega
theorem Part.piL : Part 106 piL := ⟨333, by rw [piL_eq]; grind⟩
theorem Part.piH : Part 7 piH := ⟨22, by rw [piH_eq]; grind⟩

theorem part_part {q : Nat} {S r D : Int} {p : Rat} (h : Part q p) : Part q (partOf S r D p).2 := by
  have hb : Part q (bendOf r p) := h.mulInt r
  have hl : Part q (lapOf S r p) := (hb.add (.int S)).mulInt 2
  have hr : Part q (restOf S r D p) := (Part.int D).sub (hl.mulInt _)
  unfold partOf
  dsimp only
  split
  · exact hr
  · split
    · exact hr.sub hb
    · split
      · exact (hr.sub hb).sub (.int S)
      · exact ((hr.sub hb).sub (.int S)).sub hb
theorem part_le {S r D : Int} {p : Rat} (h : WhereB S r D p) : 0 ≤ (partOf S r D p).2 ∧ (partOf S r D p).2 ≤ ((3500000 : Int) : Rat) := by
  have h1 := h.rest
  have h3 := h.bend
  have h5 := h.sq
  have e : ((3500000 : Int) : Rat) = 3500000 := rfl
  refine ⟨h.part.2.2.1, ?_⟩
  rw [e]
  unfold partOf
  dsimp only
  by_cases c1 : restOf S r D p < bendOf r p
  · rw [if_pos c1]; grind
  · rw [if_neg c1]
    by_cases c2 : restOf S r D p - bendOf r p < (S : Rat)
    · rw [if_pos c2]; grind
    · rw [if_neg c2]
      by_cases c3 : restOf S r D p - bendOf r p - (S : Rat) < bendOf r p
      · rw [if_pos c3]; grind
      · rw [if_neg c3]
        have := (h.l3 c1 c2 c3).2.1
        grind
theorem part_bd {q : Nat} {S r D : Int} {p : Rat} (h : WhereB S r D p) (hp : Part q p) (hq : 0 < q) (hq2 : q ≤ 106) : Bd (partOf S r D p).2 371000000 106 := by
  have hd := (part_part (S := S) (r := r) (D := D) hp).den hq
  have hl := part_le h
  exact (Bd.of (V := 3500000) ⟨h.part.2.2.2.lo, h.part.2.2.2.hi, (by omega : ((partOf S r D p).2.den : Int) ≤ 106)⟩ hl.1 hl.2 (by omega)).mono (by omega) (by omega)
end Go.Proofs.YtgdlehoglpiifaaGreatDoor
namespace Go.Proofs.YtgdlehoglpiifaaGreatDoor
open Go.RowKit Go.Sort Go.Lib

set_option maxRecDepth 8000 in
theorem lRoundBad (S R W F T L n0 n1 : Int) (h : ¬ (ovalE S R W F T L = 0 ∧ outB n0 1 L = false ∧ outB n1 0 100000000 = false)) {w0 : World} (hG : Glob w0) (w : World) (hb : Below w0.heap.size w0 w) : Calls Tryz.prog 4 #[.agg #[.int .i64 S, .int .i64 R, .int .i64 W, .int .i64 F, .int .i64 T, .int .i64 L], .agg #[.int .i64 n0, .int .i64 n1]] w fun e w' => e = .returned (.bool true) ∧ Below w.heap.size w w' := by
  replace hG := hG.keep hb
  clear hb
  have c1 := Lib.hid (fun w => qOval S R W F T L w)
  have c2 := Lib.hid (fun w => qLane S R W F T L n0 w)
  have c3 := Lib.hid (fun w => qCount n1 100000000 w)
  have c9 := Lib.hid (fun (w0 : World) (hG : Glob w0) (w : World) hb' => lLap hG w hb')
  generalize ovalE S R W F T L = ov at *
  by_cases h1 : ov = 0
  · subst h1
    cases h2 : outB n0 1 L
    · cases h3 : outB n1 0 100000000
      · exact absurd ⟨rfl, h2, h3⟩ h
      · rw [h2] at c2
        rw [h3] at c3
        clear h h2 h3
        go_enter Tryz.func4, Tryz.ntmps4
        go_wp2_with fail
        (with_reducible refine (c1.out _).mono ?_)
        rintro e w1 ⟨rfl, hb⟩
        have H1 : Below w.heap.size w w1 := by
          refine Below.trans ?_ (hb.mono ?_)
          · repeat (first | with_reducible assumption | with_reducible exact Below.refl _ _ | with_reducible refine Below.setCell ?_ (by first | omega | (simp [go_sem]; omega) | simp [go_sem]) _ | with_reducible refine Below.alloc ?_ (by first | omega | (simp [go_sem]; omega) | simp [go_sem]) _ | with_reducible refine below_grow ?_ (by first | omega | (simp [go_sem]; omega) | simp [go_sem]) _ _ | with_reducible refine Below.drew ?_)
          · first | omega | (simp [go_sem]; omega) | simp [go_sem]
        have S1 : w.heap.size ≤ w1.heap.size := H1.size
        have s1_0 : w.heap.size < w1.heap.size := Nat.lt_of_lt_of_le (by first | omega | (simp [go_sem]; omega) | simp [go_sem]) hb.size
        have k1_0 := fun o => hb.cell (p := ⟨w.heap.size, o, none⟩) (by first | omega | (simp [go_sem]; omega) | simp [go_sem])
        have f1_0 := fun o => hb.frozen (p := ⟨w.heap.size, o, none⟩) (by first | omega | (simp [go_sem]; omega) | simp [go_sem])
        have s1_1 : w.heap.size + 1 < w1.heap.size := Nat.lt_of_lt_of_le (by first | omega | (simp [go_sem]; omega) | simp [go_sem]) hb.size
        have k1_1 := fun o => hb.cell (p := ⟨w.heap.size + 1, o, none⟩) (by first | omega | (simp [go_sem]; omega) | simp [go_sem])
        have f1_1 := fun o => hb.frozen (p := ⟨w.heap.size + 1, o, none⟩) (by first | omega | (simp [go_sem]; omega) | simp [go_sem])
        have s1_2 : w.heap.size + 1 + 1 < w1.heap.size := Nat.lt_of_lt_of_le (by first | omega | (simp [go_sem]; omega) | simp [go_sem]) hb.size
        have k1_2 := fun o => hb.cell (p := ⟨w.heap.size + 1 + 1, o, none⟩) (by first | omega | (simp [go_sem]; omega) | simp [go_sem])
        have f1_2 := fun o => hb.frozen (p := ⟨w.heap.size + 1 + 1, o, none⟩) (by first | omega | (simp [go_sem]; omega) | simp [go_sem])
        clear hb
        go_wp2_with fail
        (with_reducible refine (c2.out _).mono ?_)
        rintro e w2 ⟨rfl, hb⟩
        have H2 : Below w.heap.size w w2 := by
          refine Below.trans ?_ (hb.mono ?_)
          · repeat (first | with_reducible assumption | with_reducible exact Below.refl _ _ | with_reducible refine Below.setCell ?_ (by first | omega | (simp [go_sem]; omega) | simp [go_sem]) _ | with_reducible refine Below.alloc ?_ (by first | omega | (simp [go_sem]; omega) | simp [go_sem]) _ | with_reducible refine below_grow ?_ (by first | omega | (simp [go_sem]; omega) | simp [go_sem]) _ _ | with_reducible refine Below.drew ?_)
          · first | omega | (simp [go_sem]; omega) | simp [go_sem]
        have S2 : w.heap.size ≤ w2.heap.size := H2.size
        have s2_0 : w.heap.size < w2.heap.size := Nat.lt_of_lt_of_le (by first | omega | (simp [go_sem]; omega) | simp [go_sem]) hb.size
        have k2_0 := fun o => hb.cell (p := ⟨w.heap.size, o, none⟩) (by first | omega | (simp [go_sem]; omega) | simp [go_sem])
        have f2_0 := fun o => hb.frozen (p := ⟨w.heap.size, o, none⟩) (by first | omega | (simp [go_sem]; omega) | simp [go_sem])
        have s2_1 : w.heap.size + 1 < w2.heap.size := Nat.lt_of_lt_of_le (by first | omega | (simp [go_sem]; omega) | simp [go_sem]) hb.size
        have k2_1 := fun o => hb.cell (p := ⟨w.heap.size + 1, o, none⟩) (by first | omega | (simp [go_sem]; omega) | simp [go_sem])
        have f2_1 := fun o => hb.frozen (p := ⟨w.heap.size + 1, o, none⟩) (by first | omega | (simp [go_sem]; omega) | simp [go_sem])
        have s2_2 : w.heap.size + 1 + 1 < w2.heap.size := Nat.lt_of_lt_of_le (by first | omega | (simp [go_sem]; omega) | simp [go_sem]) hb.size
        have k2_2 := fun o => hb.cell (p := ⟨w.heap.size + 1 + 1, o, none⟩) (by first | omega | (simp [go_sem]; omega) | simp [go_sem])
        have f2_2 := fun o => hb.frozen (p := ⟨w.heap.size + 1 + 1, o, none⟩) (by first | omega | (simp [go_sem]; omega) | simp [go_sem])
        clear hb
        go_wp2_with fail
        (with_reducible refine (c3.out _).mono ?_)
        rintro e w3 ⟨rfl, hb⟩
        have H3 : Below w.heap.size w w3 := by
          refine Below.trans ?_ (hb.mono ?_)
          · repeat (first | with_reducible assumption | with_reducible exact Below.refl _ _ | with_reducible refine Below.setCell ?_ (by first | omega | (simp [go_sem]; omega) | simp [go_sem]) _ | with_reducible refine Below.alloc ?_ (by first | omega | (simp [go_sem]; omega) | simp [go_sem]) _ | with_reducible refine below_grow ?_ (by first | omega | (simp [go_sem]; omega) | simp [go_sem]) _ _ | with_reducible refine Below.drew ?_)
          · first | omega | (simp [go_sem]; omega) | simp [go_sem]
        have S3 : w.heap.size ≤ w3.heap.size := H3.size
        have s3_0 : w.heap.size < w3.heap.size := Nat.lt_of_lt_of_le (by first | omega | (simp [go_sem]; omega) | simp [go_sem]) hb.size
        have k3_0 := fun o => hb.cell (p := ⟨w.heap.size, o, none⟩) (by first | omega | (simp [go_sem]; omega) | simp [go_sem])
        have f3_0 := fun o => hb.frozen (p := ⟨w.heap.size, o, none⟩) (by first | omega | (simp [go_sem]; omega) | simp [go_sem])
        have s3_1 : w.heap.size + 1 < w3.heap.size := Nat.lt_of_lt_of_le (by first | omega | (simp [go_sem]; omega) | simp [go_sem]) hb.size
        have k3_1 := fun o => hb.cell (p := ⟨w.heap.size + 1, o, none⟩) (by first | omega | (simp [go_sem]; omega) | simp [go_sem])
        have f3_1 := fun o => hb.frozen (p := ⟨w.heap.size + 1, o, none⟩) (by first | omega | (simp [go_sem]; omega) | simp [go_sem])
        have s3_2 : w.heap.size + 1 + 1 < w3.heap.size := Nat.lt_of_lt_of_le (by first | omega | (simp [go_sem]; omega) | simp [go_sem]) hb.size
        have k3_2 := fun o => hb.cell (p := ⟨w.heap.size + 1 + 1, o, none⟩) (by first | omega | (simp [go_sem]; omega) | simp [go_sem])
        have f3_2 := fun o => hb.frozen (p := ⟨w.heap.size + 1 + 1, o, none⟩) (by first | omega | (simp [go_sem]; omega) | simp [go_sem])
        clear hb
        go_wp2_with fail
        (with_reducible refine (c9.out _ hG _ ?_).mono ?_)
        · repeat (first | with_reducible assumption | with_reducible exact Below.refl _ _ | with_reducible refine Below.setCell ?_ (by first | omega | (simp [go_sem]; omega) | simp [go_sem]) _ | with_reducible refine Below.alloc ?_ (by first | omega | (simp [go_sem]; omega) | simp [go_sem]) _ | with_reducible refine below_grow ?_ (by first | omega | (simp [go_sem]; omega) | simp [go_sem]) _ _ | with_reducible refine Below.drew ?_)
        rintro e w4 ⟨rfl, hb⟩
        have H4 : Below w.heap.size w w4 := by
          refine Below.trans ?_ (hb.mono ?_)
          · repeat (first | with_reducible assumption | with_reducible exact Below.refl _ _ | with_reducible refine Below.setCell ?_ (by first | omega | (simp [go_sem]; omega) | simp [go_sem]) _ | with_reducible refine Below.alloc ?_ (by first | omega | (simp [go_sem]; omega) | simp [go_sem]) _ | with_reducible refine below_grow ?_ (by first | omega | (simp [go_sem]; omega) | simp [go_sem]) _ _ | with_reducible refine Below.drew ?_)
          · first | omega | (simp [go_sem]; omega) | simp [go_sem]
        have S4 : w.heap.size ≤ w4.heap.size := H4.size
        have s4_0 : w.heap.size < w4.heap.size := Nat.lt_of_lt_of_le (by first | omega | (simp [go_sem]; omega) | simp [go_sem]) hb.size
        have k4_0 := fun o => hb.cell (p := ⟨w.heap.size, o, none⟩) (by first | omega | (simp [go_sem]; omega) | simp [go_sem])
        have f4_0 := fun o => hb.frozen (p := ⟨w.heap.size, o, none⟩) (by first | omega | (simp [go_sem]; omega) | simp [go_sem])
        have s4_1 : w.heap.size + 1 < w4.heap.size := Nat.lt_of_lt_of_le (by first | omega | (simp [go_sem]; omega) | simp [go_sem]) hb.size
        have k4_1 := fun o => hb.cell (p := ⟨w.heap.size + 1, o, none⟩) (by first | omega | (simp [go_sem]; omega) | simp [go_sem])
        have f4_1 := fun o => hb.frozen (p := ⟨w.heap.size + 1, o, none⟩) (by first | omega | (simp [go_sem]; omega) | simp [go_sem])
        have s4_2 : w.heap.size + 1 + 1 < w4.heap.size := Nat.lt_of_lt_of_le (by first | omega | (simp [go_sem]; omega) | simp [go_sem]) hb.size
        have k4_2 := fun o => hb.cell (p := ⟨w.heap.size + 1 + 1, o, none⟩) (by first | omega | (simp [go_sem]; omega) | simp [go_sem])
        have f4_2 := fun o => hb.frozen (p := ⟨w.heap.size + 1 + 1, o, none⟩) (by first | omega | (simp [go_sem]; omega) | simp [go_sem])
        clear hb
        go_wp2_with fail
        go_ret
        refine ⟨rfl, ?_⟩
        repeat (first | with_reducible assumption | with_reducible exact Below.refl _ _ | with_reducible refine Below.setCell ?_ (by first | omega | (simp [go_sem]; omega) | simp [go_sem]) _ | with_reducible refine Below.alloc ?_ (by first | omega | (simp [go_sem]; omega) | simp [go_sem]) _ | with_reducible refine below_grow ?_ (by first | omega | (simp [go_sem]; omega) | simp [go_sem]) _ _ | with_reducible refine Below.drew ?_)
    · rw [h2] at c2
      clear h h2
      go_enter Tryz.func4, Tryz.ntmps4
      go_wp2_with fail
      (with_reducible refine (c1.out _).mono ?_)
      rintro e w1 ⟨rfl, hb⟩
      have H1 : Below w.heap.size w w1 := by
        refine Below.trans ?_ (hb.mono ?_)
        · repeat (first | with_reducible assumption | with_reducible exact Below.refl _ _ | with_reducible refine Below.setCell ?_ (by first | omega | (simp [go_sem]; omega) | simp [go_sem]) _ | with_reducible refine Below.alloc ?_ (by first | omega | (simp [go_sem]; omega) | simp [go_sem]) _ | with_reducible refine below_grow ?_ (by first | omega | (simp [go_sem]; omega) | simp [go_sem]) _ _ | with_reducible refine Below.drew ?_)
        · first | omega | (simp [go_sem]; omega) | simp [go_sem]
      have S1 : w.heap.size ≤ w1.heap.size := H1.size
      have s1_0 : w.heap.size < w1.heap.size := Nat.lt_of_lt_of_le (by first | omega | (simp [go_sem]; omega) | simp [go_sem]) hb.size
      have k1_0 := fun o => hb.cell (p := ⟨w.heap.size, o, none⟩) (by first | omega | (simp [go_sem]; omega) | simp [go_sem])
      have f1_0 := fun o => hb.frozen (p := ⟨w.heap.size, o, none⟩) (by first | omega | (simp [go_sem]; omega) | simp [go_sem])
      have s1_1 : w.heap.size + 1 < w1.heap.size := Nat.lt_of_lt_of_le (by first | omega | (simp [go_sem]; omega) | simp [go_sem]) hb.size
      have k1_1 := fun o => hb.cell (p := ⟨w.heap.size + 1, o, none⟩) (by first | omega | (simp [go_sem]; omega) | simp [go_sem])
      have f1_1 := fun o => hb.frozen (p := ⟨w.heap.size + 1, o, none⟩) (by first | omega | (simp [go_sem]; omega) | simp [go_sem])
      have s1_2 : w.heap.size + 1 + 1 < w1.heap.size := Nat.lt_of_lt_of_le (by first | omega | (simp [go_sem]; omega) | simp [go_sem]) hb.size
      have k1_2 := fun o => hb.cell (p := ⟨w.heap.size + 1 + 1, o, none⟩) (by first | omega | (simp [go_sem]; omega) | simp [go_sem])
      have f1_2 := fun o => hb.frozen (p := ⟨w.heap.size + 1 + 1, o, none⟩) (by first | omega | (simp [go_sem]; omega) | simp [go_sem])
      clear hb
      go_wp2_with fail
      (with_reducible refine (c2.out _).mono ?_)
      rintro e w2 ⟨rfl, hb⟩
      have H2 : Below w.heap.size w w2 := by
        refine Below.trans ?_ (hb.mono ?_)
        · repeat (first | with_reducible assumption | with_reducible exact Below.refl _ _ | with_reducible refine Below.setCell ?_ (by first | omega | (simp [go_sem]; omega) | simp [go_sem]) _ | with_reducible refine Below.alloc ?_ (by first | omega | (simp [go_sem]; omega) | simp [go_sem]) _ | with_reducible refine below_grow ?_ (by first | omega | (simp [go_sem]; omega) | simp [go_sem]) _ _ | with_reducible refine Below.drew ?_)
        · first | omega | (simp [go_sem]; omega) | simp [go_sem]
      have S2 : w.heap.size ≤ w2.heap.size := H2.size
      have s2_0 : w.heap.size < w2.heap.size := Nat.lt_of_lt_of_le (by first | omega | (simp [go_sem]; omega) | simp [go_sem]) hb.size
      have k2_0 := fun o => hb.cell (p := ⟨w.heap.size, o, none⟩) (by first | omega | (simp [go_sem]; omega) | simp [go_sem])
      have f2_0 := fun o => hb.frozen (p := ⟨w.heap.size, o, none⟩) (by first | omega | (simp [go_sem]; omega) | simp [go_sem])
      have s2_1 : w.heap.size + 1 < w2.heap.size := Nat.lt_of_lt_of_le (by first | omega | (simp [go_sem]; omega) | simp [go_sem]) hb.size
      have k2_1 := fun o => hb.cell (p := ⟨w.heap.size + 1, o, none⟩) (by first | omega | (simp [go_sem]; omega) | simp [go_sem])
      have f2_1 := fun o => hb.frozen (p := ⟨w.heap.size + 1, o, none⟩) (by first | omega | (simp [go_sem]; omega) | simp [go_sem])
      have s2_2 : w.heap.size + 1 + 1 < w2.heap.size := Nat.lt_of_lt_of_le (by first | omega | (simp [go_sem]; omega) | simp [go_sem]) hb.size
      have k2_2 := fun o => hb.cell (p := ⟨w.heap.size + 1 + 1, o, none⟩) (by first | omega | (simp [go_sem]; omega) | simp [go_sem])
      have f2_2 := fun o => hb.frozen (p := ⟨w.heap.size + 1 + 1, o, none⟩) (by first | omega | (simp [go_sem]; omega) | simp [go_sem])
      clear hb
      go_wp2_with fail
      (with_reducible refine (c9.out _ hG _ ?_).mono ?_)
      · repeat (first | with_reducible assumption | with_reducible exact Below.refl _ _ | with_reducible refine Below.setCell ?_ (by first | omega | (simp [go_sem]; omega) | simp [go_sem]) _ | with_reducible refine Below.alloc ?_ (by first | omega | (simp [go_sem]; omega) | simp [go_sem]) _ | with_reducible refine below_grow ?_ (by first | omega | (simp [go_sem]; omega) | simp [go_sem]) _ _ | with_reducible refine Below.drew ?_)
      rintro e w3 ⟨rfl, hb⟩
      have H3 : Below w.heap.size w w3 := by
        refine Below.trans ?_ (hb.mono ?_)
        · repeat (first | with_reducible assumption | with_reducible exact Below.refl _ _ | with_reducible refine Below.setCell ?_ (by first | omega | (simp [go_sem]; omega) | simp [go_sem]) _ | with_reducible refine Below.alloc ?_ (by first | omega | (simp [go_sem]; omega) | simp [go_sem]) _ | with_reducible refine below_grow ?_ (by first | omega | (simp [go_sem]; omega) | simp [go_sem]) _ _ | with_reducible refine Below.drew ?_)
        · first | omega | (simp [go_sem]; omega) | simp [go_sem]
      have S3 : w.heap.size ≤ w3.heap.size := H3.size
      have s3_0 : w.heap.size < w3.heap.size := Nat.lt_of_lt_of_le (by first | omega | (simp [go_sem]; omega) | simp [go_sem]) hb.size
      have k3_0 := fun o => hb.cell (p := ⟨w.heap.size, o, none⟩) (by first | omega | (simp [go_sem]; omega) | simp [go_sem])
      have f3_0 := fun o => hb.frozen (p := ⟨w.heap.size, o, none⟩) (by first | omega | (simp [go_sem]; omega) | simp [go_sem])
      have s3_1 : w.heap.size + 1 < w3.heap.size := Nat.lt_of_lt_of_le (by first | omega | (simp [go_sem]; omega) | simp [go_sem]) hb.size
      have k3_1 := fun o => hb.cell (p := ⟨w.heap.size + 1, o, none⟩) (by first | omega | (simp [go_sem]; omega) | simp [go_sem])
      have f3_1 := fun o => hb.frozen (p := ⟨w.heap.size + 1, o, none⟩) (by first | omega | (simp [go_sem]; omega) | simp [go_sem])
      have s3_2 : w.heap.size + 1 + 1 < w3.heap.size := Nat.lt_of_lt_of_le (by first | omega | (simp [go_sem]; omega) | simp [go_sem]) hb.size
      have k3_2 := fun o => hb.cell (p := ⟨w.heap.size + 1 + 1, o, none⟩) (by first | omega | (simp [go_sem]; omega) | simp [go_sem])
      have f3_2 := fun o => hb.frozen (p := ⟨w.heap.size + 1 + 1, o, none⟩) (by first | omega | (simp [go_sem]; omega) | simp [go_sem])
      clear hb
      go_wp2_with fail
      go_ret
      refine ⟨rfl, ?_⟩
      repeat (first | with_reducible assumption | with_reducible exact Below.refl _ _ | with_reducible refine Below.setCell ?_ (by first | omega | (simp [go_sem]; omega) | simp [go_sem]) _ | with_reducible refine Below.alloc ?_ (by first | omega | (simp [go_sem]; omega) | simp [go_sem]) _ | with_reducible refine below_grow ?_ (by first | omega | (simp [go_sem]; omega) | simp [go_sem]) _ _ | with_reducible refine Below.drew ?_)
  · have h1' : (ov != 0) = true := by simpa using h1
    clear h
    go_enter Tryz.func4, Tryz.ntmps4
    go_wp2_with fail
    (with_reducible refine (c1.out _).mono ?_)
    rintro e w1 ⟨rfl, hb⟩
    have H1 : Below w.heap.size w w1 := by
      refine Below.trans ?_ (hb.mono ?_)
      · repeat (first | with_reducible assumption | with_reducible exact Below.refl _ _ | with_reducible refine Below.setCell ?_ (by first | omega | (simp [go_sem]; omega) | simp [go_sem]) _ | with_reducible refine Below.alloc ?_ (by first | omega | (simp [go_sem]; omega) | simp [go_sem]) _ | with_reducible refine below_grow ?_ (by first | omega | (simp [go_sem]; omega) | simp [go_sem]) _ _ | with_reducible refine Below.drew ?_)
      · first | omega | (simp [go_sem]; omega) | simp [go_sem]
    have S1 : w.heap.size ≤ w1.heap.size := H1.size
    have s1_0 : w.heap.size < w1.heap.size := Nat.lt_of_lt_of_le (by first | omega | (simp [go_sem]; omega) | simp [go_sem]) hb.size
    have k1_0 := fun o => hb.cell (p := ⟨w.heap.size, o, none⟩) (by first | omega | (simp [go_sem]; omega) | simp [go_sem])
    have f1_0 := fun o => hb.frozen (p := ⟨w.heap.size, o, none⟩) (by first | omega | (simp [go_sem]; omega) | simp [go_sem])
    have s1_1 : w.heap.size + 1 < w1.heap.size := Nat.lt_of_lt_of_le (by first | omega | (simp [go_sem]; omega) | simp [go_sem]) hb.size
    have k1_1 := fun o => hb.cell (p := ⟨w.heap.size + 1, o, none⟩) (by first | omega | (simp [go_sem]; omega) | simp [go_sem])
    have f1_1 := fun o => hb.frozen (p := ⟨w.heap.size + 1, o, none⟩) (by first | omega | (simp [go_sem]; omega) | simp [go_sem])
    have s1_2 : w.heap.size + 1 + 1 < w1.heap.size := Nat.lt_of_lt_of_le (by first | omega | (simp [go_sem]; omega) | simp [go_sem]) hb.size
    have k1_2 := fun o => hb.cell (p := ⟨w.heap.size + 1 + 1, o, none⟩) (by first | omega | (simp [go_sem]; omega) | simp [go_sem])
    have f1_2 := fun o => hb.frozen (p := ⟨w.heap.size + 1 + 1, o, none⟩) (by first | omega | (simp [go_sem]; omega) | simp [go_sem])
    clear hb
    go_wp2_with fail
    (with_reducible refine (c9.out _ hG _ ?_).mono ?_)
    · repeat (first | with_reducible assumption | with_reducible exact Below.refl _ _ | with_reducible refine Below.setCell ?_ (by first | omega | (simp [go_sem]; omega) | simp [go_sem]) _ | with_reducible refine Below.alloc ?_ (by first | omega | (simp [go_sem]; omega) | simp [go_sem]) _ | with_reducible refine below_grow ?_ (by first | omega | (simp [go_sem]; omega) | simp [go_sem]) _ _ | with_reducible refine Below.drew ?_)
    rintro e w2 ⟨rfl, hb⟩
    have H2 : Below w.heap.size w w2 := by
      refine Below.trans ?_ (hb.mono ?_)
      · repeat (first | with_reducible assumption | with_reducible exact Below.refl _ _ | with_reducible refine Below.setCell ?_ (by first | omega | (simp [go_sem]; omega) | simp [go_sem]) _ | with_reducible refine Below.alloc ?_ (by first | omega | (simp [go_sem]; omega) | simp [go_sem]) _ | with_reducible refine below_grow ?_ (by first | omega | (simp [go_sem]; omega) | simp [go_sem]) _ _ | with_reducible refine Below.drew ?_)
      · first | omega | (simp [go_sem]; omega) | simp [go_sem]
    have S2 : w.heap.size ≤ w2.heap.size := H2.size
    have s2_0 : w.heap.size < w2.heap.size := Nat.lt_of_lt_of_le (by first | omega | (simp [go_sem]; omega) | simp [go_sem]) hb.size
    have k2_0 := fun o => hb.cell (p := ⟨w.heap.size, o, none⟩) (by first | omega | (simp [go_sem]; omega) | simp [go_sem])
    have f2_0 := fun o => hb.frozen (p := ⟨w.heap.size, o, none⟩) (by first | omega | (simp [go_sem]; omega) | simp [go_sem])
    have s2_1 : w.heap.size + 1 < w2.heap.size := Nat.lt_of_lt_of_le (by first | omega | (simp [go_sem]; omega) | simp [go_sem]) hb.size
    have k2_1 := fun o => hb.cell (p := ⟨w.heap.size + 1, o, none⟩) (by first | omega | (simp [go_sem]; omega) | simp [go_sem])
    have f2_1 := fun o => hb.frozen (p := ⟨w.heap.size + 1, o, none⟩) (by first | omega | (simp [go_sem]; omega) | simp [go_sem])
    have s2_2 : w.heap.size + 1 + 1 < w2.heap.size := Nat.lt_of_lt_of_le (by first | omega | (simp [go_sem]; omega) | simp [go_sem]) hb.size
    have k2_2 := fun o => hb.cell (p := ⟨w.heap.size + 1 + 1, o, none⟩) (by first | omega | (simp [go_sem]; omega) | simp [go_sem])
    have f2_2 := fun o => hb.frozen (p := ⟨w.heap.size + 1 + 1, o, none⟩) (by first | omega | (simp [go_sem]; omega) | simp [go_sem])
    clear hb
    go_wp2_with fail
    go_ret
    refine ⟨rfl, ?_⟩
    repeat (first | with_reducible assumption | with_reducible exact Below.refl _ _ | with_reducible refine Below.setCell ?_ (by first | omega | (simp [go_sem]; omega) | simp [go_sem]) _ | with_reducible refine Below.alloc ?_ (by first | omega | (simp [go_sem]; omega) | simp [go_sem]) _ | with_reducible refine below_grow ?_ (by first | omega | (simp [go_sem]; omega) | simp [go_sem]) _ _ | with_reducible refine Below.drew ?_)
end Go.Proofs.YtgdlehoglpiifaaGreatDoor
