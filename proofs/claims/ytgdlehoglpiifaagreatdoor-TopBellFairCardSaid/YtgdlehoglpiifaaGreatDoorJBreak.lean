/-
  Package track: the place of a distance; how much longer a lane is.
  Package mark: the integer part of a square root.
  Package track: the break.
-/
import Derived.Test.YtgdlehoglpiifaaGreatDoorJWhere
namespace Go.Proofs.YtgdlehoglpiifaaGreatDoor
open Go.RowKit Go.Sort

theorem len_one (p : Rat) : len 0 1 p = p := by
  unfold len
  have e0 : ((0 : Int) : Rat) = 0 := rfl
  have e1 : ((1 : Int) : Rat) = 1 := rfl
  rw [e0, e1]; grind
theorem piL_eq : piL = 333 / 106 := rfl
theorem piH_eq : piH = 22 / 7 := rfl
theorem pi_in : 3 ≤ piL ∧ piL ≤ 22 / 7 ∧ 3 ≤ piH ∧ piH ≤ 22 / 7 := by
  rw [piL_eq, piH_eq]
  refine ⟨?_, ?_, ?_, ?_⟩ <;> grind
theorem whereB {S R W F T L : Int} (o : Oval S R W F T L) (lane D : Int) (hl : 1 ≤ lane ∧ lane ≤ L) (hd : 0 ≤ D ∧ D ≤ 200000000) : WhereB S (rad R W F T lane) D piL ∧ WhereB S (rad R W F T lane) D piH :=
  ⟨⟨Bd.piL, pi_in.1, pi_in.2.1, o.s, ⟨(rad_in o hl).1, (rad_in o hl).2.1⟩, hd⟩, ⟨Bd.piH, pi_in.2.2.1, pi_in.2.2.2, o.s, ⟨(rad_in o hl).1, (rad_in o hl).2.1⟩, hd⟩⟩

/-- What Where gives. -/
abbrev Sure (S r D : Int) : Prop := lapsOf S r D piL = lapsOf S r D piH ∧ (partOf S r D piL).1 = (partOf S r D piH).1
def spotV (la lb pa pb : Int) (lo hi : List UInt8) : Value :=
  if la = lb ∧ pa = pb then .tuple #[.agg #[.int .i64 la, .int .i64 pa, .string ⟨(lo).toArray⟩, .string ⟨(hi).toArray⟩], .int .i64 0]
  else .tuple #[.agg #[.int .i64 0, .int .i64 0, .string ⟨#[]⟩, .string ⟨#[]⟩], .int .i64 24]
def whereV (S r D : Int) : Value := spotV (lapsOf S r D piL) (lapsOf S r D piH) (partOf S r D piL).1 (partOf S r D piH).1 (rt (rmin (partOf S r D piL).2 (partOf S r D piH).2)) (rt (rmax (partOf S r D piL).2 (partOf S r D piH).2))

theorem trWhereE {S R W F T L : Int} (o : Oval S R W F T L) (lane D : Int) (hl : 1 ≤ lane ∧ lane ≤ L) (hd : 0 ≤ D ∧ D ≤ 200000000) {w0 : World} (hG : Glob w0) (hB : Bends w0) (w : World) (hb : Below w0.heap.size w0 w) :
    Calls Tryz.prog 27 #[.agg #[.int .i64 S, .int .i64 R, .int .i64 W, .int .i64 F, .int .i64 T, .int .i64 L], .int .i64 lane, .int .i64 D] w fun e w' => e = .returned (whereV S (rad R W F T lane) D) ∧ Below w.heap.size w w' := by
  replace hG := hG.keep hb
  replace hB := hB.keep hb
  clear hb
  obtain ⟨v1, v2⟩ := whereB o lane D hl hd
  have c1 := Lib.hid (trCheck1 o lane hl)
  have c2 := Lib.hid (fun w => trWithin D 0 999999999 (by omega) (by omega) w)
  have c3 := Lib.hid (fun w => trBounds 0 1 (by omega) (by omega) w)
  rw [len_one, len_one] at c3
  have c4 := Lib.hid (fun w' (hb : Below w.heap.size w w') => trWhere o lane D piL hl v1 w' (hB.keep hb))
  have c5 := Lib.hid (fun w' (hb : Below w.heap.size w w') => trWhere o lane D piH hl v2 w' (hB.keep hb))
  have c6 := Lib.hid (fun (w0 : World) (hG : Glob w0) (w : World) hb' => trBetween _ _ v1.part.2.2.2 v2.part.2.2.2 (by omega) hG w hb')
  clear o hl hd v1 v2
  unfold whereV
  generalize lapsOf S (rad R W F T lane) D piL = la at *
  generalize lapsOf S (rad R W F T lane) D piH = lb at *
  generalize partOf S (rad R W F T lane) D piL = pa at *
  generalize partOf S (rad R W F T lane) D piH = pb at *
  obtain ⟨pa, ra⟩ := pa
  obtain ⟨pb, rb⟩ := pb
  dsimp only at *
  generalize rt (rmin ra rb) = lo at *
  generalize rt (rmax ra rb) = hi at *
  generalize piL = qa at *
  generalize piH = qb at *
  have h00 := hB.lt
  generalize hv : spotV la lb pa pb lo hi = v at *
  unfold spotV at hv
  go_enter Tryz.func27, Tryz.ntmps27
  go_wp2_with fail
  (with_reducible refine (c1.out (w.heap.size + 1 + 1) _ ?_ ?_).mono ?_)
  · first | omega | (simp [go_sem]; omega) | (simp (maxDischargeDepth := 4) [go_sem]; done) | (simp (maxDischargeDepth := 6) [*, go_sem]; done)
  · first | omega | (simp [go_sem]; omega) | (simp (maxDischargeDepth := 4) [go_sem]; done) | (simp (maxDischargeDepth := 6) [*, go_sem]; done)
  rintro e w1 ⟨rfl, hb⟩
  have H1 : Below w.heap.size w w1 := by
    refine Below.trans ?_ (hb.mono ?_)
    · repeat (first | with_reducible assumption | with_reducible exact Below.refl _ _ | with_reducible refine Below.setCell ?_ (by first | omega | (simp [go_sem]; omega) | simp [go_sem]) _ | with_reducible refine Below.alloc ?_ (by first | omega | (simp [go_sem]; omega) | simp [go_sem]) _ | with_reducible refine below_grow ?_ (by first | omega | (simp [go_sem]; omega) | simp [go_sem]) _ _ | with_reducible refine Below.drew ?_)
    · first | omega | (simp [go_sem]; omega) | simp [go_sem]
  have S1 : w.heap.size ≤ w1.heap.size := H1.size
  have s1_0 : w.heap.size < w1.heap.size := Nat.lt_of_lt_of_le (by first | omega | (simp [go_sem]; omega) | simp [go_sem]) hb.size
  have k1_0 := fun o => hb.cell (p := ⟨w.heap.size, o, none⟩) (by first | omega | (simp [go_sem]; omega) | simp [go_sem])
  have f1_0 := fun o => hb.frozen (p := ⟨w.heap.size, o, none⟩) (by first | omega | (simp [go_sem]; omega) | simp [go_sem])
  have s1_1 : w.heap.size + 1 < w1.heap.size := Nat.lt_of_lt_of_le (by first | omega | (simp [go_sem]; omega) | simp [go_sem]) hb.size
  have k1_1 := fun o => hb.cell (p := ⟨w.heap.size + 1, o, none⟩) (by first | omega | (simp [go_sem]; omega) | simp [go_sem])
  have f1_1 := fun o => hb.frozen (p := ⟨w.heap.size + 1, o, none⟩) (by first | omega | (simp [go_sem]; omega) | simp [go_sem])
  clear hb
  clear c1
  go_wp2_with fail
  (with_reducible refine (c2.out _).mono ?_)
  rintro e w2 ⟨rfl, hb⟩
  have H2 : Below w.heap.size w w2 := by
    refine Below.trans ?_ (hb.mono ?_)
    · repeat (first | with_reducible assumption | with_reducible exact Below.refl _ _ | with_reducible refine Below.setCell ?_ (by first | omega | (simp [go_sem]; omega) | simp [go_sem]) _ | with_reducible refine Below.alloc ?_ (by first | omega | (simp [go_sem]; omega) | simp [go_sem]) _ | with_reducible refine below_grow ?_ (by first | omega | (simp [go_sem]; omega) | simp [go_sem]) _ _ | with_reducible refine Below.drew ?_)
    · first | omega | (simp [go_sem]; omega) | simp [go_sem]
  have S2 : w.heap.size ≤ w2.heap.size := H2.size
  have s2_0 : w.heap.size < w2.heap.size := Nat.lt_of_lt_of_le (by first | omega | (simp [go_sem]; omega) | simp [go_sem]) hb.size
  have k2_0 := fun o => hb.cell (p := ⟨w.heap.size, o, none⟩) (by first | omega | (simp [go_sem]; omega) | simp [go_sem])
  have f2_0 := fun o => hb.frozen (p := ⟨w.heap.size, o, none⟩) (by first | omega | (simp [go_sem]; omega) | simp [go_sem])
  have s2_1 : w.heap.size + 1 < w2.heap.size := Nat.lt_of_lt_of_le (by first | omega | (simp [go_sem]; omega) | simp [go_sem]) hb.size
  have k2_1 := fun o => hb.cell (p := ⟨w.heap.size + 1, o, none⟩) (by first | omega | (simp [go_sem]; omega) | simp [go_sem])
  have f2_1 := fun o => hb.frozen (p := ⟨w.heap.size + 1, o, none⟩) (by first | omega | (simp [go_sem]; omega) | simp [go_sem])
  clear hb
  clear c2
  go_wp2_with fail
  (with_reducible refine (trFirst _ 2 (by decide) _ ?_).mono ?_)
  · intro j hj; rcases j with _ | _ | j <;> first | omega | simp (maxDischargeDepth := 4) [go_sem]
  rintro e w3 ⟨rfl, hb⟩
  have H3 : Below w.heap.size w w3 := by
    refine Below.trans ?_ (hb.mono ?_)
    · repeat (first | with_reducible assumption | with_reducible exact Below.refl _ _ | with_reducible refine Below.setCell ?_ (by first | omega | (simp [go_sem]; omega) | simp [go_sem]) _ | with_reducible refine Below.alloc ?_ (by first | omega | (simp [go_sem]; omega) | simp [go_sem]) _ | with_reducible refine below_grow ?_ (by first | omega | (simp [go_sem]; omega) | simp [go_sem]) _ _ | with_reducible refine Below.drew ?_)
    · first | omega | (simp [go_sem]; omega) | simp [go_sem]
  have S3 : w.heap.size ≤ w3.heap.size := H3.size
  have s3_0 : w.heap.size < w3.heap.size := Nat.lt_of_lt_of_le (by first | omega | (simp [go_sem]; omega) | simp [go_sem]) hb.size
  have k3_0 := fun o => hb.cell (p := ⟨w.heap.size, o, none⟩) (by first | omega | (simp [go_sem]; omega) | simp [go_sem])
  have f3_0 := fun o => hb.frozen (p := ⟨w.heap.size, o, none⟩) (by first | omega | (simp [go_sem]; omega) | simp [go_sem])
  have s3_1 : w.heap.size + 1 < w3.heap.size := Nat.lt_of_lt_of_le (by first | omega | (simp [go_sem]; omega) | simp [go_sem]) hb.size
  have k3_1 := fun o => hb.cell (p := ⟨w.heap.size + 1, o, none⟩) (by first | omega | (simp [go_sem]; omega) | simp [go_sem])
  have f3_1 := fun o => hb.frozen (p := ⟨w.heap.size + 1, o, none⟩) (by first | omega | (simp [go_sem]; omega) | simp [go_sem])
  clear hb
  go_wp2_with fail
  (with_reducible refine (c3.out _).mono ?_)
  rintro e w4 ⟨rfl, hb⟩
  have H4 : Below w.heap.size w w4 := by
    refine Below.trans ?_ (hb.mono ?_)
    · repeat (first | with_reducible assumption | with_reducible exact Below.refl _ _ | with_reducible refine Below.setCell ?_ (by first | omega | (simp [go_sem]; omega) | simp [go_sem]) _ | with_reducible refine Below.alloc ?_ (by first | omega | (simp [go_sem]; omega) | simp [go_sem]) _ | with_reducible refine below_grow ?_ (by first | omega | (simp [go_sem]; omega) | simp [go_sem]) _ _ | with_reducible refine Below.drew ?_)
    · first | omega | (simp [go_sem]; omega) | simp [go_sem]
  have S4 : w.heap.size ≤ w4.heap.size := H4.size
  have s4_0 : w.heap.size < w4.heap.size := Nat.lt_of_lt_of_le (by first | omega | (simp [go_sem]; omega) | simp [go_sem]) hb.size
  have k4_0 := fun o => hb.cell (p := ⟨w.heap.size, o, none⟩) (by first | omega | (simp [go_sem]; omega) | simp [go_sem])
  have f4_0 := fun o => hb.frozen (p := ⟨w.heap.size, o, none⟩) (by first | omega | (simp [go_sem]; omega) | simp [go_sem])
  have s4_1 : w.heap.size + 1 < w4.heap.size := Nat.lt_of_lt_of_le (by first | omega | (simp [go_sem]; omega) | simp [go_sem]) hb.size
  have k4_1 := fun o => hb.cell (p := ⟨w.heap.size + 1, o, none⟩) (by first | omega | (simp [go_sem]; omega) | simp [go_sem])
  have f4_1 := fun o => hb.frozen (p := ⟨w.heap.size + 1, o, none⟩) (by first | omega | (simp [go_sem]; omega) | simp [go_sem])
  clear hb
  clear c3
  go_wp2_with fail
  (with_reducible refine (c4.out _ ?_).mono ?_)
  · repeat (first | with_reducible assumption | with_reducible exact Below.refl _ _ | with_reducible refine Below.setCell ?_ (by first | omega | (simp [go_sem]; omega) | simp [go_sem]) _ | with_reducible refine Below.alloc ?_ (by first | omega | (simp [go_sem]; omega) | simp [go_sem]) _ | with_reducible refine below_grow ?_ (by first | omega | (simp [go_sem]; omega) | simp [go_sem]) _ _ | with_reducible refine Below.drew ?_)
  rintro e w5 ⟨rfl, hb⟩
  have H5 : Below w.heap.size w w5 := by
    refine Below.trans ?_ (hb.mono ?_)
    · repeat (first | with_reducible assumption | with_reducible exact Below.refl _ _ | with_reducible refine Below.setCell ?_ (by first | omega | (simp [go_sem]; omega) | simp [go_sem]) _ | with_reducible refine Below.alloc ?_ (by first | omega | (simp [go_sem]; omega) | simp [go_sem]) _ | with_reducible refine below_grow ?_ (by first | omega | (simp [go_sem]; omega) | simp [go_sem]) _ _ | with_reducible refine Below.drew ?_)
    · first | omega | (simp [go_sem]; omega) | simp [go_sem]
  have S5 : w.heap.size ≤ w5.heap.size := H5.size
  have s5_0 : w.heap.size < w5.heap.size := Nat.lt_of_lt_of_le (by first | omega | (simp [go_sem]; omega) | simp [go_sem]) hb.size
  have k5_0 := fun o => hb.cell (p := ⟨w.heap.size, o, none⟩) (by first | omega | (simp [go_sem]; omega) | simp [go_sem])
  have f5_0 := fun o => hb.frozen (p := ⟨w.heap.size, o, none⟩) (by first | omega | (simp [go_sem]; omega) | simp [go_sem])
  have s5_1 : w.heap.size + 1 < w5.heap.size := Nat.lt_of_lt_of_le (by first | omega | (simp [go_sem]; omega) | simp [go_sem]) hb.size
  have k5_1 := fun o => hb.cell (p := ⟨w.heap.size + 1, o, none⟩) (by first | omega | (simp [go_sem]; omega) | simp [go_sem])
  have f5_1 := fun o => hb.frozen (p := ⟨w.heap.size + 1, o, none⟩) (by first | omega | (simp [go_sem]; omega) | simp [go_sem])
  have s5_2 : w4.heap.size < w5.heap.size := Nat.lt_of_lt_of_le (by first | omega | (simp [go_sem]; omega) | simp [go_sem]) hb.size
  have k5_2 := fun o => hb.cell (p := ⟨w4.heap.size, o, none⟩) (by first | omega | (simp [go_sem]; omega) | simp [go_sem])
  have f5_2 := fun o => hb.frozen (p := ⟨w4.heap.size, o, none⟩) (by first | omega | (simp [go_sem]; omega) | simp [go_sem])
  have s5_3 : w4.heap.size + 1 < w5.heap.size := Nat.lt_of_lt_of_le (by first | omega | (simp [go_sem]; omega) | simp [go_sem]) hb.size
  have k5_3 := fun o => hb.cell (p := ⟨w4.heap.size + 1, o, none⟩) (by first | omega | (simp [go_sem]; omega) | simp [go_sem])
  have f5_3 := fun o => hb.frozen (p := ⟨w4.heap.size + 1, o, none⟩) (by first | omega | (simp [go_sem]; omega) | simp [go_sem])
  clear hb
  clear c4
  go_wp2_with fail
  (with_reducible refine (c5.out _ ?_).mono ?_)
  · repeat (first | with_reducible assumption | with_reducible exact Below.refl _ _ | with_reducible refine Below.setCell ?_ (by first | omega | (simp [go_sem]; omega) | simp [go_sem]) _ | with_reducible refine Below.alloc ?_ (by first | omega | (simp [go_sem]; omega) | simp [go_sem]) _ | with_reducible refine below_grow ?_ (by first | omega | (simp [go_sem]; omega) | simp [go_sem]) _ _ | with_reducible refine Below.drew ?_)
  rintro e w6 ⟨rfl, hb⟩
  have H6 : Below w.heap.size w w6 := by
    refine Below.trans ?_ (hb.mono ?_)
    · repeat (first | with_reducible assumption | with_reducible exact Below.refl _ _ | with_reducible refine Below.setCell ?_ (by first | omega | (simp [go_sem]; omega) | simp [go_sem]) _ | with_reducible refine Below.alloc ?_ (by first | omega | (simp [go_sem]; omega) | simp [go_sem]) _ | with_reducible refine below_grow ?_ (by first | omega | (simp [go_sem]; omega) | simp [go_sem]) _ _ | with_reducible refine Below.drew ?_)
    · first | omega | (simp [go_sem]; omega) | simp [go_sem]
  have S6 : w.heap.size ≤ w6.heap.size := H6.size
  have s6_0 : w.heap.size < w6.heap.size := Nat.lt_of_lt_of_le (by first | omega | (simp [go_sem]; omega) | simp [go_sem]) hb.size
  have k6_0 := fun o => hb.cell (p := ⟨w.heap.size, o, none⟩) (by first | omega | (simp [go_sem]; omega) | simp [go_sem])
  have f6_0 := fun o => hb.frozen (p := ⟨w.heap.size, o, none⟩) (by first | omega | (simp [go_sem]; omega) | simp [go_sem])
  have s6_1 : w.heap.size + 1 < w6.heap.size := Nat.lt_of_lt_of_le (by first | omega | (simp [go_sem]; omega) | simp [go_sem]) hb.size
  have k6_1 := fun o => hb.cell (p := ⟨w.heap.size + 1, o, none⟩) (by first | omega | (simp [go_sem]; omega) | simp [go_sem])
  have f6_1 := fun o => hb.frozen (p := ⟨w.heap.size + 1, o, none⟩) (by first | omega | (simp [go_sem]; omega) | simp [go_sem])
  have s6_2 : w4.heap.size < w6.heap.size := Nat.lt_of_lt_of_le (by first | omega | (simp [go_sem]; omega) | simp [go_sem]) hb.size
  have k6_2 := fun o => hb.cell (p := ⟨w4.heap.size, o, none⟩) (by first | omega | (simp [go_sem]; omega) | simp [go_sem])
  have f6_2 := fun o => hb.frozen (p := ⟨w4.heap.size, o, none⟩) (by first | omega | (simp [go_sem]; omega) | simp [go_sem])
  have s6_3 : w4.heap.size + 1 < w6.heap.size := Nat.lt_of_lt_of_le (by first | omega | (simp [go_sem]; omega) | simp [go_sem]) hb.size
  have k6_3 := fun o => hb.cell (p := ⟨w4.heap.size + 1, o, none⟩) (by first | omega | (simp [go_sem]; omega) | simp [go_sem])
  have f6_3 := fun o => hb.frozen (p := ⟨w4.heap.size + 1, o, none⟩) (by first | omega | (simp [go_sem]; omega) | simp [go_sem])
  have s6_4 : w5.heap.size < w6.heap.size := Nat.lt_of_lt_of_le (by first | omega | (simp [go_sem]; omega) | simp [go_sem]) hb.size
  have k6_4 := fun o => hb.cell (p := ⟨w5.heap.size, o, none⟩) (by first | omega | (simp [go_sem]; omega) | simp [go_sem])
  have f6_4 := fun o => hb.frozen (p := ⟨w5.heap.size, o, none⟩) (by first | omega | (simp [go_sem]; omega) | simp [go_sem])
  clear hb
  clear c5
  by_cases ha : la = lb
  · subst ha
    by_cases hp : pa = pb
    · subst hp
      rw [if_pos ⟨rfl, rfl⟩] at hv
      subst hv
      go_wp2_with fail
      (with_reducible refine (c6.out _ hG _ ?_).mono ?_)
      · repeat (first | with_reducible assumption | with_reducible exact Below.refl _ _ | with_reducible refine Below.setCell ?_ (by first | omega | (simp [go_sem]; omega) | simp [go_sem]) _ | with_reducible refine Below.alloc ?_ (by first | omega | (simp [go_sem]; omega) | simp [go_sem]) _ | with_reducible refine below_grow ?_ (by first | omega | (simp [go_sem]; omega) | simp [go_sem]) _ _ | with_reducible refine Below.drew ?_)
      rintro e w7 ⟨rfl, hb⟩
      have H7 : Below w.heap.size w w7 := by
        refine Below.trans ?_ (hb.mono ?_)
        · repeat (first | with_reducible assumption | with_reducible exact Below.refl _ _ | with_reducible refine Below.setCell ?_ (by first | omega | (simp [go_sem]; omega) | simp [go_sem]) _ | with_reducible refine Below.alloc ?_ (by first | omega | (simp [go_sem]; omega) | simp [go_sem]) _ | with_reducible refine below_grow ?_ (by first | omega | (simp [go_sem]; omega) | simp [go_sem]) _ _ | with_reducible refine Below.drew ?_)
        · first | omega | (simp [go_sem]; omega) | simp [go_sem]
      have S7 : w.heap.size ≤ w7.heap.size := H7.size
      have s7_0 : w.heap.size < w7.heap.size := Nat.lt_of_lt_of_le (by first | omega | (simp [go_sem]; omega) | simp [go_sem]) hb.size
      have k7_0 := fun o => hb.cell (p := ⟨w.heap.size, o, none⟩) (by first | omega | (simp [go_sem]; omega) | simp [go_sem])
      have f7_0 := fun o => hb.frozen (p := ⟨w.heap.size, o, none⟩) (by first | omega | (simp [go_sem]; omega) | simp [go_sem])
      have s7_1 : w.heap.size + 1 < w7.heap.size := Nat.lt_of_lt_of_le (by first | omega | (simp [go_sem]; omega) | simp [go_sem]) hb.size
      have k7_1 := fun o => hb.cell (p := ⟨w.heap.size + 1, o, none⟩) (by first | omega | (simp [go_sem]; omega) | simp [go_sem])
      have f7_1 := fun o => hb.frozen (p := ⟨w.heap.size + 1, o, none⟩) (by first | omega | (simp [go_sem]; omega) | simp [go_sem])
      have s7_2 : w4.heap.size < w7.heap.size := Nat.lt_of_lt_of_le (by first | omega | (simp [go_sem]; omega) | simp [go_sem]) hb.size
      have k7_2 := fun o => hb.cell (p := ⟨w4.heap.size, o, none⟩) (by first | omega | (simp [go_sem]; omega) | simp [go_sem])
      have f7_2 := fun o => hb.frozen (p := ⟨w4.heap.size, o, none⟩) (by first | omega | (simp [go_sem]; omega) | simp [go_sem])
      have s7_3 : w4.heap.size + 1 < w7.heap.size := Nat.lt_of_lt_of_le (by first | omega | (simp [go_sem]; omega) | simp [go_sem]) hb.size
      have k7_3 := fun o => hb.cell (p := ⟨w4.heap.size + 1, o, none⟩) (by first | omega | (simp [go_sem]; omega) | simp [go_sem])
      have f7_3 := fun o => hb.frozen (p := ⟨w4.heap.size + 1, o, none⟩) (by first | omega | (simp [go_sem]; omega) | simp [go_sem])
      have s7_4 : w5.heap.size < w7.heap.size := Nat.lt_of_lt_of_le (by first | omega | (simp [go_sem]; omega) | simp [go_sem]) hb.size
      have k7_4 := fun o => hb.cell (p := ⟨w5.heap.size, o, none⟩) (by first | omega | (simp [go_sem]; omega) | simp [go_sem])
      have f7_4 := fun o => hb.frozen (p := ⟨w5.heap.size, o, none⟩) (by first | omega | (simp [go_sem]; omega) | simp [go_sem])
      clear hb
      clear c6
      go_wp2_with fail
      refine bodyPost_ret (v := .tuple #[.agg #[.int .i64 la, .int .i64 pa, .string ⟨(lo).toArray⟩, .string ⟨(hi).toArray⟩], .int .i64 0]) (by simp (maxDischargeDepth := 4) [*, results, Tryz.results27, go_sem]) rfl ⟨rfl, ?_⟩
      repeat (first | with_reducible assumption | with_reducible exact Below.refl _ _ | with_reducible refine Below.setCell ?_ (by first | omega | (simp [go_sem]; omega) | simp [go_sem]) _ | with_reducible refine Below.alloc ?_ (by first | omega | (simp [go_sem]; omega) | simp [go_sem]) _ | with_reducible refine below_grow ?_ (by first | omega | (simp [go_sem]; omega) | simp [go_sem]) _ _ | with_reducible refine Below.drew ?_)
    · have hp' : (pa == pb) = false := beq_eq_false_iff_ne.2 hp
      rw [if_neg (fun h => hp h.2)] at hv
      subst hv
      go_wp2_with fail
      refine bodyPost_ret (v := .tuple #[.agg #[.int .i64 0, .int .i64 0, .string ⟨#[]⟩, .string ⟨#[]⟩], .int .i64 24]) (by simp (maxDischargeDepth := 4) [*, results, Tryz.results27, go_sem]) rfl ⟨rfl, ?_⟩
      repeat (first | with_reducible assumption | with_reducible exact Below.refl _ _ | with_reducible refine Below.setCell ?_ (by first | omega | (simp [go_sem]; omega) | simp [go_sem]) _ | with_reducible refine Below.alloc ?_ (by first | omega | (simp [go_sem]; omega) | simp [go_sem]) _ | with_reducible refine below_grow ?_ (by first | omega | (simp [go_sem]; omega) | simp [go_sem]) _ _ | with_reducible refine Below.drew ?_)
  · have ha' : (la == lb) = false := beq_eq_false_iff_ne.2 ha
    rw [if_neg (fun h => ha h.1)] at hv
    subst hv
    go_wp2_with fail
    refine bodyPost_ret (v := .tuple #[.agg #[.int .i64 0, .int .i64 0, .string ⟨#[]⟩, .string ⟨#[]⟩], .int .i64 24]) (by simp (maxDischargeDepth := 4) [*, results, Tryz.results27, go_sem]) rfl ⟨rfl, ?_⟩
    repeat (first | with_reducible assumption | with_reducible exact Below.refl _ _ | with_reducible refine Below.setCell ?_ (by first | omega | (simp [go_sem]; omega) | simp [go_sem]) _ | with_reducible refine Below.alloc ?_ (by first | omega | (simp [go_sem]; omega) | simp [go_sem]) _ | with_reducible refine below_grow ?_ (by first | omega | (simp [go_sem]; omega) | simp [go_sem]) _ _ | with_reducible refine Below.drew ?_)

theorem trAhead {S R W F T L : Int} (o : Oval S R W F T L) (la lb n : Int) (hl : 1 ≤ la ∧ la ≤ L) (hm : 1 ≤ lb ∧ lb ≤ L) (hn : 0 ≤ n ∧ n ≤ 20) {w0 : World} (hG : Glob w0) (w : World) (hb : Below w0.heap.size w0 w) : Calls Tryz.prog 32 #[.agg #[.int .i64 S, .int .i64 R, .int .i64 W, .int .i64 F, .int .i64 T, .int .i64 L], .int .i64 la, .int .i64 lb, .int .i64 n] w fun e w' => e = .returned (.tuple #[.agg #[.string ⟨(rt (spanLow 0 (2 * n * (rad R W F T la - rad R W F T lb)))).toArray⟩, .string ⟨(rt (spanHigh 0 (2 * n * (rad R W F T la - rad R W F T lb)))).toArray⟩], .int .i64 0]) ∧ Below w.heap.size w w' := by
  replace hG := hG.keep hb
  clear hb
  have ra := rad_in o hl
  have rb := rad_in o hm
  have m : -(40 * 1099999) ≤ 2 * n * (rad R W F T la - rad R W F T lb) ∧ 2 * n * (rad R W F T la - rad R W F T lb) ≤ 40 * 1099999 := mul_abs (by omega) (by omega) (by omega) (by omega)
  have w1 : IntKind.i64.wrap (2 * n) = 2 * n := IntWalk.i64_in _ (by omega)
  have w2 : IntKind.i64.wrap (rad R W F T la - rad R W F T lb) = rad R W F T la - rad R W F T lb := IntWalk.i64_in _ (by omega)
  have w3 : IntKind.i64.wrap (2 * n * (rad R W F T la - rad R W F T lb)) = 2 * n * (rad R W F T la - rad R W F T lb) := IntWalk.i64_in _ (by omega)
  have c1 := Lib.hid (trCheck2 o la lb hl hm)
  have c2 := Lib.hid (fun w => trWithin n 0 100 (by omega) (by omega) w)
  have c3 := Lib.hid (fun w => trRadius S R W F T L o la hl w)
  have c4 := Lib.hid (fun w => trRadius S R W F T L o lb hm w)
  have c5 := Lib.hid (fun (w0 : World) (hG : Glob w0) (w : World) hb' => trSpan 0 (2 * n * (rad R W F T la - rad R W F T lb)) (by omega) (by omega) hG w hb')
  clear o hl hm hn ra rb m
  generalize rad R W F T la = ra at *
  generalize rad R W F T lb = rb at *
  generalize hx1 : 2 * n = n2 at *
  generalize hx2 : ra - rb = rd at *
  generalize hx3 : n2 * rd = pd at *
  generalize rt (spanLow 0 pd) = lo at *
  generalize rt (spanHigh 0 pd) = hi at *
  go_enter Tryz.func32, Tryz.ntmps32
  go_wp2_with fail
  (with_reducible refine (c1.out (w.heap.size + 1 + 1) _ ?_ ?_ ?_).mono ?_)
  · first | omega | (simp [go_sem]; omega) | (simp (maxDischargeDepth := 4) [go_sem]; done) | (simp (maxDischargeDepth := 6) [*, go_sem]; done)
  · first | omega | (simp [go_sem]; omega) | (simp (maxDischargeDepth := 4) [go_sem]; done) | (simp (maxDischargeDepth := 6) [*, go_sem]; done)
  · first | omega | (simp [go_sem]; omega) | (simp (maxDischargeDepth := 4) [go_sem]; done) | (simp (maxDischargeDepth := 6) [*, go_sem]; done)
  rintro e w1 ⟨rfl, hb⟩
  have H1 : Below w.heap.size w w1 := by
    refine Below.trans ?_ (hb.mono ?_)
    · repeat (first | with_reducible assumption | with_reducible exact Below.refl _ _ | with_reducible refine Below.setCell ?_ (by first | omega | (simp [go_sem]; omega) | simp [go_sem]) _ | with_reducible refine Below.alloc ?_ (by first | omega | (simp [go_sem]; omega) | simp [go_sem]) _ | with_reducible refine below_grow ?_ (by first | omega | (simp [go_sem]; omega) | simp [go_sem]) _ _ | with_reducible refine Below.drew ?_)
    · first | omega | (simp [go_sem]; omega) | simp [go_sem]
  have S1 : w.heap.size ≤ w1.heap.size := H1.size
  have s1_0 : w.heap.size < w1.heap.size := Nat.lt_of_lt_of_le (by first | omega | (simp [go_sem]; omega) | simp [go_sem]) hb.size
  have k1_0 := fun o => hb.cell (p := ⟨w.heap.size, o, none⟩) (by first | omega | (simp [go_sem]; omega) | simp [go_sem])
  have f1_0 := fun o => hb.frozen (p := ⟨w.heap.size, o, none⟩) (by first | omega | (simp [go_sem]; omega) | simp [go_sem])
  have s1_1 : w.heap.size + 1 < w1.heap.size := Nat.lt_of_lt_of_le (by first | omega | (simp [go_sem]; omega) | simp [go_sem]) hb.size
  have k1_1 := fun o => hb.cell (p := ⟨w.heap.size + 1, o, none⟩) (by first | omega | (simp [go_sem]; omega) | simp [go_sem])
  have f1_1 := fun o => hb.frozen (p := ⟨w.heap.size + 1, o, none⟩) (by first | omega | (simp [go_sem]; omega) | simp [go_sem])
  clear hb
  clear c1
  go_wp2_with fail
  (with_reducible refine (c2.out _).mono ?_)
  rintro e w2 ⟨rfl, hb⟩
  have H2 : Below w.heap.size w w2 := by
    refine Below.trans ?_ (hb.mono ?_)
    · repeat (first | with_reducible assumption | with_reducible exact Below.refl _ _ | with_reducible refine Below.setCell ?_ (by first | omega | (simp [go_sem]; omega) | simp [go_sem]) _ | with_reducible refine Below.alloc ?_ (by first | omega | (simp [go_sem]; omega) | simp [go_sem]) _ | with_reducible refine below_grow ?_ (by first | omega | (simp [go_sem]; omega) | simp [go_sem]) _ _ | with_reducible refine Below.drew ?_)
    · first | omega | (simp [go_sem]; omega) | simp [go_sem]
  have S2 : w.heap.size ≤ w2.heap.size := H2.size
  have s2_0 : w.heap.size < w2.heap.size := Nat.lt_of_lt_of_le (by first | omega | (simp [go_sem]; omega) | simp [go_sem]) hb.size
  have k2_0 := fun o => hb.cell (p := ⟨w.heap.size, o, none⟩) (by first | omega | (simp [go_sem]; omega) | simp [go_sem])
  have f2_0 := fun o => hb.frozen (p := ⟨w.heap.size, o, none⟩) (by first | omega | (simp [go_sem]; omega) | simp [go_sem])
  have s2_1 : w.heap.size + 1 < w2.heap.size := Nat.lt_of_lt_of_le (by first | omega | (simp [go_sem]; omega) | simp [go_sem]) hb.size
  have k2_1 := fun o => hb.cell (p := ⟨w.heap.size + 1, o, none⟩) (by first | omega | (simp [go_sem]; omega) | simp [go_sem])
  have f2_1 := fun o => hb.frozen (p := ⟨w.heap.size + 1, o, none⟩) (by first | omega | (simp [go_sem]; omega) | simp [go_sem])
  clear hb
  clear c2
  go_wp2_with fail
  (with_reducible refine (trFirst _ 2 (by decide) _ ?_).mono ?_)
  · intro j hj; rcases j with _ | _ | j <;> first | omega | simp (maxDischargeDepth := 4) [go_sem]
  rintro e w3 ⟨rfl, hb⟩
  have H3 : Below w.heap.size w w3 := by
    refine Below.trans ?_ (hb.mono ?_)
    · repeat (first | with_reducible assumption | with_reducible exact Below.refl _ _ | with_reducible refine Below.setCell ?_ (by first | omega | (simp [go_sem]; omega) | simp [go_sem]) _ | with_reducible refine Below.alloc ?_ (by first | omega | (simp [go_sem]; omega) | simp [go_sem]) _ | with_reducible refine below_grow ?_ (by first | omega | (simp [go_sem]; omega) | simp [go_sem]) _ _ | with_reducible refine Below.drew ?_)
    · first | omega | (simp [go_sem]; omega) | simp [go_sem]
  have S3 : w.heap.size ≤ w3.heap.size := H3.size
  have s3_0 : w.heap.size < w3.heap.size := Nat.lt_of_lt_of_le (by first | omega | (simp [go_sem]; omega) | simp [go_sem]) hb.size
  have k3_0 := fun o => hb.cell (p := ⟨w.heap.size, o, none⟩) (by first | omega | (simp [go_sem]; omega) | simp [go_sem])
  have f3_0 := fun o => hb.frozen (p := ⟨w.heap.size, o, none⟩) (by first | omega | (simp [go_sem]; omega) | simp [go_sem])
  have s3_1 : w.heap.size + 1 < w3.heap.size := Nat.lt_of_lt_of_le (by first | omega | (simp [go_sem]; omega) | simp [go_sem]) hb.size
  have k3_1 := fun o => hb.cell (p := ⟨w.heap.size + 1, o, none⟩) (by first | omega | (simp [go_sem]; omega) | simp [go_sem])
  have f3_1 := fun o => hb.frozen (p := ⟨w.heap.size + 1, o, none⟩) (by first | omega | (simp [go_sem]; omega) | simp [go_sem])
  clear hb
  go_wp2_with fail
  refine wp_region_tail 12 (by kernel_rfl) (by kernel_rfl) (by kernel_rfl) ?_
  simp only [List.take_succ_cons, List.take_zero, List.drop_succ_cons, List.drop_zero, List.take_nil, List.drop_nil]
  repeat (quiet_step (first | with_reducible exact Calls.regrown_of (c3.out _) | with_reducible exact Calls.regrown_of (c4.out _) | ((with_reducible refine Calls.regrown_of (c5.out _ hG _ ?_)); repeat (first | with_reducible assumption | with_reducible exact Below.refl _ _ | with_reducible refine Below.setCell ?_ (by first | omega | (simp [go_sem]; omega) | simp [go_sem]) _ | with_reducible refine Below.alloc ?_ (by first | omega | (simp [go_sem]; omega) | simp [go_sem]) _ | with_reducible refine below_grow ?_ (by first | omega | (simp [go_sem]; omega) | simp [go_sem]) _ _ | with_reducible refine Below.drew ?_))))
  refine wpQuiet_nil ?_
  intro w1 hw1
  obtain ⟨⟨dq, osq⟩, rfl⟩ := hw1
  clear c3 c4 c5
  go_wp2_with fail
  refine bodyPost_ret (v := .tuple #[.agg #[.string ⟨(lo).toArray⟩, .string ⟨(hi).toArray⟩], .int .i64 0]) (by simp (maxDischargeDepth := 4) [*, results, Tryz.results32, go_sem]) rfl ⟨rfl, ?_⟩
  repeat (first | with_reducible assumption | with_reducible exact Below.refl _ _ | with_reducible refine Below.setCell ?_ (by first | omega | (simp [go_sem]; omega) | simp [go_sem]) _ | with_reducible refine Below.alloc ?_ (by first | omega | (simp [go_sem]; omega) | simp [go_sem]) _ | with_reducible refine below_grow ?_ (by first | omega | (simp [go_sem]; omega) | simp [go_sem]) _ _ | with_reducible refine Below.drew ?_)
end Go.Proofs.YtgdlehoglpiifaaGreatDoor
namespace Go.Proofs.YtgdlehoglpiifaaGreatDoor
open Go.RowKit Go.Sort

theorem sq_le {m r n : Int} (hm : 0 ≤ m) (hr : 0 ≤ r) (h1 : r * r ≤ n) (h2 : n < (r + 1) * (r + 1)) : (m * m ≤ n ↔ m ≤ r) := by
  constructor
  · intro h
    refine Int.not_lt.1 (fun hh => ?_)
    have := Int.mul_le_mul (show r + 1 ≤ m by omega) (show r + 1 ≤ m by omega) (by omega) hm
    omega
  · intro h
    have := Int.mul_le_mul h h hm hr
    omega
theorem root_of (n : Nat) : ∃ r : Nat, r * r ≤ n ∧ n < (r + 1) * (r + 1) := by
  induction n with
  | zero => exact ⟨0, by omega, by omega⟩
  | succ n ih =>
    obtain ⟨r, h1, h2⟩ := ih
    by_cases h : n + 1 < (r + 1) * (r + 1)
    · exact ⟨r, by omega, h⟩
    · refine ⟨r + 1, by omega, ?_⟩
      have : (r + 1 + 1) * (r + 1 + 1) = (r + 1) * (r + 1) + 2 * r + 3 := by grind
      omega

theorem mRoot (n r : Int) (hr : 0 ≤ r ∧ r ≤ 3000000000) (h1 : r * r ≤ n) (h2 : n < (r + 1) * (r + 1)) (w : World) : Calls Tryz.prog 24 #[.int .i64 n] w fun e w' => e = .returned (.tuple #[.int .i64 r, .int .i64 0]) ∧ Below w.heap.size w w' := by
  have h0 : 0 ≤ n := Int.le_trans (Int.mul_nonneg hr.1 hr.1) h1
  have hs : ∀ m : Int, 0 ≤ m → (m * m ≤ n ↔ m ≤ r) := fun m hm => sq_le hm hr.1 h1 h2
  clear h1 h2
  go_enter Tryz.func24, Tryz.ntmps24
  go_wp2_with fail
  go_loop [4, 5] (fun a b => ∃ lo hi : Int, (0 ≤ lo ∧ lo ≤ r ∧ r ≤ hi ∧ hi ≤ 3037000499) ∧ a = .int .i64 lo ∧ b = .int .i64 hi) (fun a b => (intOf b - intOf a).toNat)
  case atStart => exact ⟨0, 3037000499, ⟨by omega, hr.1, by omega, by omega⟩, rfl, rfl⟩
  case round =>
    obtain ⟨lo, hi, hh, rfl, rfl⟩ := hrel
    by_cases hlt : lo < hi
    · have hm : lo < lo + (hi - lo + 1) / 2 ∧ lo + (hi - lo + 1) / 2 ≤ hi := by omega
      have hsm := hs (lo + (hi - lo + 1) / 2) (by omega)
      have hin : 0 ≤ lo + (hi - lo + 1) / 2 ∧ lo + (hi - lo + 1) / 2 ≤ 3037000499 := by omega
      have hb := mul_in hin hin
      have hw : wrap64 ((lo + (hi - lo + 1) / 2) * (lo + (hi - lo + 1) / 2)) = (lo + (hi - lo + 1) / 2) * (lo + (hi - lo + 1) / 2) := IntWalk.wrap64_in _ (by omega)
      by_cases hc : lo + (hi - lo + 1) / 2 ≤ r
      · have hx : wrap64 ((lo + (hi - lo + 1) / 2) * (lo + (hi - lo + 1) / 2)) ≤ n := by rw [hw]; exact hsm.2 hc
        clear hw hb hsm hin
        go_wp2_with fail
        exact ⟨⟨_, _, ⟨by omega, by omega, by omega, by omega⟩, rfl, rfl⟩, by simp only [intOf]; omega⟩
      · have hx : n < wrap64 ((lo + (hi - lo + 1) / 2) * (lo + (hi - lo + 1) / 2)) := by rw [hw]; exact Int.not_le.1 (fun h => hc (hsm.1 h))
        clear hw hb hsm hin
        go_wp2_with fail
        exact ⟨⟨_, _, ⟨by omega, by omega, by omega, by omega⟩, rfl, rfl⟩, by simp only [intOf]; omega⟩
    · obtain rfl : lo = r := by omega
      go_wp2_with fail
      go_ret2
      exact ⟨rfl, Below.refl _ _⟩
end Go.Proofs.YtgdlehoglpiifaaGreatDoor
namespace Go.Proofs.YtgdlehoglpiifaaGreatDoor
open Go.RowKit Go.Sort

theorem rmin_int {a b : Int} (h : a ≤ b) : rmin (a : Rat) (b : Rat) = (a : Rat) := by
  unfold rmin
  rw [if_neg]
  rw [Rat.intCast_lt_intCast]; omega
theorem rmax_int {a b : Int} (h : a ≤ b) : rmax (a : Rat) (b : Rat) = (b : Rat) := by
  unfold rmax
  by_cases h2 : (b : Rat) < (a : Rat)
  · rw [Rat.intCast_lt_intCast] at h2; omega
  · rw [if_neg h2]

/-- The upper end of the way of a break. -/
def up (r q : Int) : Int := if r * r = q then r else r + 1
theorem up_in (r q : Int) : r ≤ up r q ∧ up r q ≤ r + 1 := by unfold up; split <;> omega

theorem trBreak {S R W F T L : Int} (o : Oval S R W F T L) (lane r x : Int) (hl : 1 ≤ lane ∧ lane ≤ L) (hx : rad R W F T lane - rad R W F T 1 = x) (h0 : 0 ≤ r) (h1 : r * r ≤ S * S + x * x) (h2 : S * S + x * x < (r + 1) * (r + 1)) {w0 : World} (hG : Glob w0) (w : World) (hb : Below w0.heap.size w0 w) : Calls Tryz.prog 17 #[.agg #[.int .i64 S, .int .i64 R, .int .i64 W, .int .i64 F, .int .i64 T, .int .i64 L], .int .i64 lane] w fun e w' => e = .returned (.tuple #[.agg #[.string ⟨(Lib.itoa (r - S)).toArray⟩, .string ⟨(Lib.itoa (up r (S * S + x * x) - S)).toArray⟩], .int .i64 0]) ∧ Below w.heap.size w w' := by
  replace hG := hG.keep hb
  clear hb
  have ra := rad_in o hl
  have rb := rad_in o (lane := 1) ⟨by omega, o.l.1⟩
  have hs := o.s
  have m1 := mul_in (show 0 ≤ S ∧ S ≤ 999999 by omega) (show 0 ≤ S ∧ S ≤ 999999 by omega)
  have m2 : -(1099999 * 1099999) ≤ x * x ∧ x * x ≤ 1099999 * 1099999 := mul_abs (by omega) (by omega) (by omega) (by omega)
  have hr : r ≤ 2000000 := by
    refine Int.not_lt.1 (fun hh => ?_)
    have := Int.mul_le_mul (show 2000001 ≤ r by omega) (show 2000001 ≤ r by omega) (by omega) (by omega)
    omega
  have m3 := mul_in (show 0 ≤ r ∧ r ≤ 2000000 by omega) (show 0 ≤ r ∧ r ≤ 2000000 by omega)
  have hu := up_in r (S * S + x * x)
  have w1 : wrap64 (rad R W F T lane - rad R W F T 1) = x := by rw [hx]; exact IntWalk.wrap64_in _ (by omega)
  have w0 : wrap64 x = x := IntWalk.wrap64_in _ (by omega)
  have w2 : wrap64 (S * S) = S * S := IntWalk.wrap64_in _ (by omega)
  have w3 : wrap64 (x * x) = x * x := IntWalk.wrap64_in _ (by omega)
  have w4 : wrap64 (S * S + x * x) = S * S + x * x := IntWalk.wrap64_in _ (by omega)
  have w5 : wrap64 (r * r) = r * r := IntWalk.wrap64_in _ (by omega)
  have c1 := Lib.hid (trCheck1 o lane hl)
  have c2 := Lib.hid (fun w => trRadius S R W F T L o lane hl w)
  have c3 := Lib.hid (fun w => trRadius S R W F T L o 1 ⟨by omega, o.l.1⟩ w)
  have c4 := Lib.hid (fun w => mRoot (S * S + x * x) r (by omega) h1 h2 w)
  have c5 := Lib.hid (fun w => rF (r - S) w)
  have c6 := Lib.hid (fun w => rF (up r (S * S + x * x) - S) w)
  have c7 := Lib.hid (fun (w0 : World) (hG : Glob w0) (w : World) hb' => trBetween _ _ (Bd.int (r - S) 10000000 (by omega)) (Bd.int (up r (S * S + x * x) - S) 10000000 (by omega)) (by omega) hG w hb')
  rw [rmin_int (by omega), rmax_int (by omega), rt_int, rt_int] at c7
  have w6 : wrap64 (r - S) = r - S := IntWalk.wrap64_in _ (by omega)
  have w7 : wrap64 (up r (S * S + x * x) - S) = up r (S * S + x * x) - S := IntWalk.wrap64_in _ (by omega)
  have w8 : wrap64 (r + 1) = r + 1 := IntWalk.wrap64_in _ (by omega)
  have v0 : IntKind.i64.wrap x = x := IntWalk.i64_in _ (by omega)
  have v6 : IntKind.i64.wrap (r - S) = r - S := IntWalk.i64_in _ (by omega)
  have v7 : IntKind.i64.wrap (up r (S * S + x * x) - S) = up r (S * S + x * x) - S := IntWalk.i64_in _ (by omega)
  have hup : up r (S * S + x * x) = if r * r = S * S + x * x then r else r + 1 := rfl
  by_cases hc : r * r = S * S + x * x
  · rw [if_pos hc] at hup
    rw [hup] at c6 c7 w7 v7 ⊢
    generalize ((r - S : Int) : Rat) = rq at *
    generalize Lib.itoa (r - S) = lo at *
    clear hup
    clear o hl h0 h1 h2 ra rb hs m1 m2 hr m3 hu
    generalize rad R W F T lane = ra at *
    generalize rad R W F T 1 = rb at *
    generalize hy3 : r * r = rr at *
    generalize hy1 : S * S = ss at *
    generalize hy2 : x * x = xx at *
    generalize hy4 : ss + xx = q at *
    generalize hz1 : r - S = rS at *
    have hc1 : (rr == q) = true := beq_iff_eq.2 hc
    go_enter Tryz.func17, Tryz.ntmps17
    go_wp2_with fail
    (with_reducible refine (c1.out (w.heap.size + 1 + 1) _ ?_ ?_).mono ?_)
    · first | omega | (simp [go_sem]; omega) | (simp (maxDischargeDepth := 4) [go_sem]; done) | (simp (maxDischargeDepth := 6) [*, go_sem]; done)
    · first | omega | (simp [go_sem]; omega) | (simp (maxDischargeDepth := 4) [go_sem]; done) | (simp (maxDischargeDepth := 6) [*, go_sem]; done)
    rintro e w1 ⟨rfl, hb⟩
    have H1 : Below w.heap.size w w1 := by
      refine Below.trans ?_ (hb.mono ?_)
      · repeat (first | with_reducible assumption | with_reducible exact Below.refl _ _ | with_reducible refine Below.setCell ?_ (by first | omega | (simp [go_sem]; omega) | simp [go_sem]) _ | with_reducible refine Below.alloc ?_ (by first | omega | (simp [go_sem]; omega) | simp [go_sem]) _ | with_reducible refine below_grow ?_ (by first | omega | (simp [go_sem]; omega) | simp [go_sem]) _ _ | with_reducible refine Below.drew ?_)
      · first | omega | (simp [go_sem]; omega) | simp [go_sem]
    have S1 : w.heap.size ≤ w1.heap.size := H1.size
    have s1_0 : w.heap.size < w1.heap.size := Nat.lt_of_lt_of_le (by first | omega | (simp [go_sem]; omega) | simp [go_sem]) hb.size
    have k1_0 := fun o => hb.cell (p := ⟨w.heap.size, o, none⟩) (by first | omega | (simp [go_sem]; omega) | simp [go_sem])
    have f1_0 := fun o => hb.frozen (p := ⟨w.heap.size, o, none⟩) (by first | omega | (simp [go_sem]; omega) | simp [go_sem])
    have s1_1 : w.heap.size + 1 < w1.heap.size := Nat.lt_of_lt_of_le (by first | omega | (simp [go_sem]; omega) | simp [go_sem]) hb.size
    have k1_1 := fun o => hb.cell (p := ⟨w.heap.size + 1, o, none⟩) (by first | omega | (simp [go_sem]; omega) | simp [go_sem])
    have f1_1 := fun o => hb.frozen (p := ⟨w.heap.size + 1, o, none⟩) (by first | omega | (simp [go_sem]; omega) | simp [go_sem])
    clear hb
    clear c1
    go_wp2_with fail
    refine wp_region_tail 7 (by kernel_rfl) (by kernel_rfl) (by kernel_rfl) ?_
    simp only [List.take_succ_cons, List.take_zero, List.drop_succ_cons, List.drop_zero, List.take_nil, List.drop_nil]
    repeat (quiet_step (first | with_reducible exact Calls.regrown_of (c2.out _) | with_reducible exact Calls.regrown_of (c3.out _)))
    refine wpQuiet_nil ?_
    intro w1 hw1
    obtain ⟨⟨dq, osq⟩, rfl⟩ := hw1
    clear c2 c3
    go_wp2_with fail
    (with_reducible refine (c4.out _).mono ?_)
    rintro e w2 ⟨rfl, hb⟩
    have H2 : Below w.heap.size w w2 := by
      refine Below.trans ?_ (hb.mono ?_)
      · repeat (first | with_reducible assumption | with_reducible exact Below.refl _ _ | with_reducible refine Below.setCell ?_ (by first | omega | (simp [go_sem]; omega) | simp [go_sem]) _ | with_reducible refine Below.alloc ?_ (by first | omega | (simp [go_sem]; omega) | simp [go_sem]) _ | with_reducible refine below_grow ?_ (by first | omega | (simp [go_sem]; omega) | simp [go_sem]) _ _ | with_reducible refine Below.drew ?_)
      · first | omega | (simp [go_sem]; omega) | simp [go_sem]
    have S2 : w.heap.size ≤ w2.heap.size := H2.size
    have s2_0 : w.heap.size < w2.heap.size := Nat.lt_of_lt_of_le (by first | omega | (simp [go_sem]; omega) | simp [go_sem]) hb.size
    have k2_0 := fun o => hb.cell (p := ⟨w.heap.size, o, none⟩) (by first | omega | (simp [go_sem]; omega) | simp [go_sem])
    have f2_0 := fun o => hb.frozen (p := ⟨w.heap.size, o, none⟩) (by first | omega | (simp [go_sem]; omega) | simp [go_sem])
    have s2_1 : w.heap.size + 1 < w2.heap.size := Nat.lt_of_lt_of_le (by first | omega | (simp [go_sem]; omega) | simp [go_sem]) hb.size
    have k2_1 := fun o => hb.cell (p := ⟨w.heap.size + 1, o, none⟩) (by first | omega | (simp [go_sem]; omega) | simp [go_sem])
    have f2_1 := fun o => hb.frozen (p := ⟨w.heap.size + 1, o, none⟩) (by first | omega | (simp [go_sem]; omega) | simp [go_sem])
    clear hb
    clear c4
    go_wp2_with fail
    refine wp_region_tail 11 (by kernel_rfl) (by kernel_rfl) (by kernel_rfl) ?_
    simp only [List.take_succ_cons, List.take_zero, List.drop_succ_cons, List.drop_zero, List.take_nil, List.drop_nil]
    repeat (quiet_step (first | with_reducible exact Calls.regrown_of (c5.out _) | ((with_reducible refine Calls.regrown_of (c7.out _ hG _ ?_)); repeat (first | with_reducible assumption | with_reducible exact Below.refl _ _ | with_reducible refine Below.setCell ?_ (by first | omega | (simp [go_sem]; omega) | simp [go_sem]) _ | with_reducible refine Below.alloc ?_ (by first | omega | (simp [go_sem]; omega) | simp [go_sem]) _ | with_reducible refine below_grow ?_ (by first | omega | (simp [go_sem]; omega) | simp [go_sem]) _ _ | with_reducible refine Below.drew ?_))))
    refine wpQuiet_nil ?_
    intro w1 hw1
    obtain ⟨⟨dq, osq⟩, rfl⟩ := hw1
    clear c5 c6 c7
    go_wp2_with fail
    refine bodyPost_ret (v := .tuple #[.agg #[.string ⟨(lo).toArray⟩, .string ⟨(lo).toArray⟩], .int .i64 0]) (by simp (maxDischargeDepth := 4) [*, results, Tryz.results17, go_sem]) rfl ⟨rfl, ?_⟩
    repeat (first | with_reducible assumption | with_reducible exact Below.refl _ _ | with_reducible refine Below.setCell ?_ (by first | omega | (simp [go_sem]; omega) | simp [go_sem]) _ | with_reducible refine Below.alloc ?_ (by first | omega | (simp [go_sem]; omega) | simp [go_sem]) _ | with_reducible refine below_grow ?_ (by first | omega | (simp [go_sem]; omega) | simp [go_sem]) _ _ | with_reducible refine Below.drew ?_)
  · rw [if_neg hc] at hup
    rw [hup] at c6 c7 w7 v7 ⊢
    generalize ((r - S : Int) : Rat) = rq at *
    generalize ((r + 1 - S : Int) : Rat) = uq at *
    generalize Lib.itoa (r - S) = lo at *
    generalize Lib.itoa (r + 1 - S) = hi at *
    clear hup
    clear o hl h0 h1 h2 ra rb hs m1 m2 hr m3 hu
    generalize rad R W F T lane = ra at *
    generalize rad R W F T 1 = rb at *
    generalize hy3 : r * r = rr at *
    generalize hy1 : S * S = ss at *
    generalize hy2 : x * x = xx at *
    generalize hy4 : ss + xx = q at *
    generalize hz1 : r - S = rS at *
    generalize hz2 : r + 1 - S = uS at *
    have hc1 : (rr == q) = false := beq_eq_false_iff_ne.2 hc
    go_enter Tryz.func17, Tryz.ntmps17
    go_wp2_with fail
    (with_reducible refine (c1.out (w.heap.size + 1 + 1) _ ?_ ?_).mono ?_)
    · first | omega | (simp [go_sem]; omega) | (simp (maxDischargeDepth := 4) [go_sem]; done) | (simp (maxDischargeDepth := 6) [*, go_sem]; done)
    · first | omega | (simp [go_sem]; omega) | (simp (maxDischargeDepth := 4) [go_sem]; done) | (simp (maxDischargeDepth := 6) [*, go_sem]; done)
    rintro e w1 ⟨rfl, hb⟩
    have H1 : Below w.heap.size w w1 := by
      refine Below.trans ?_ (hb.mono ?_)
      · repeat (first | with_reducible assumption | with_reducible exact Below.refl _ _ | with_reducible refine Below.setCell ?_ (by first | omega | (simp [go_sem]; omega) | simp [go_sem]) _ | with_reducible refine Below.alloc ?_ (by first | omega | (simp [go_sem]; omega) | simp [go_sem]) _ | with_reducible refine below_grow ?_ (by first | omega | (simp [go_sem]; omega) | simp [go_sem]) _ _ | with_reducible refine Below.drew ?_)
      · first | omega | (simp [go_sem]; omega) | simp [go_sem]
    have S1 : w.heap.size ≤ w1.heap.size := H1.size
    have s1_0 : w.heap.size < w1.heap.size := Nat.lt_of_lt_of_le (by first | omega | (simp [go_sem]; omega) | simp [go_sem]) hb.size
    have k1_0 := fun o => hb.cell (p := ⟨w.heap.size, o, none⟩) (by first | omega | (simp [go_sem]; omega) | simp [go_sem])
    have f1_0 := fun o => hb.frozen (p := ⟨w.heap.size, o, none⟩) (by first | omega | (simp [go_sem]; omega) | simp [go_sem])
    have s1_1 : w.heap.size + 1 < w1.heap.size := Nat.lt_of_lt_of_le (by first | omega | (simp [go_sem]; omega) | simp [go_sem]) hb.size
    have k1_1 := fun o => hb.cell (p := ⟨w.heap.size + 1, o, none⟩) (by first | omega | (simp [go_sem]; omega) | simp [go_sem])
    have f1_1 := fun o => hb.frozen (p := ⟨w.heap.size + 1, o, none⟩) (by first | omega | (simp [go_sem]; omega) | simp [go_sem])
    clear hb
    clear c1
    go_wp2_with fail
    refine wp_region_tail 7 (by kernel_rfl) (by kernel_rfl) (by kernel_rfl) ?_
    simp only [List.take_succ_cons, List.take_zero, List.drop_succ_cons, List.drop_zero, List.take_nil, List.drop_nil]
    repeat (quiet_step (first | with_reducible exact Calls.regrown_of (c2.out _) | with_reducible exact Calls.regrown_of (c3.out _)))
    refine wpQuiet_nil ?_
    intro w1 hw1
    obtain ⟨⟨dq, osq⟩, rfl⟩ := hw1
    clear c2 c3
    go_wp2_with fail
    (with_reducible refine (c4.out _).mono ?_)
    rintro e w2 ⟨rfl, hb⟩
    have H2 : Below w.heap.size w w2 := by
      refine Below.trans ?_ (hb.mono ?_)
      · repeat (first | with_reducible assumption | with_reducible exact Below.refl _ _ | with_reducible refine Below.setCell ?_ (by first | omega | (simp [go_sem]; omega) | simp [go_sem]) _ | with_reducible refine Below.alloc ?_ (by first | omega | (simp [go_sem]; omega) | simp [go_sem]) _ | with_reducible refine below_grow ?_ (by first | omega | (simp [go_sem]; omega) | simp [go_sem]) _ _ | with_reducible refine Below.drew ?_)
      · first | omega | (simp [go_sem]; omega) | simp [go_sem]
    have S2 : w.heap.size ≤ w2.heap.size := H2.size
    have s2_0 : w.heap.size < w2.heap.size := Nat.lt_of_lt_of_le (by first | omega | (simp [go_sem]; omega) | simp [go_sem]) hb.size
    have k2_0 := fun o => hb.cell (p := ⟨w.heap.size, o, none⟩) (by first | omega | (simp [go_sem]; omega) | simp [go_sem])
    have f2_0 := fun o => hb.frozen (p := ⟨w.heap.size, o, none⟩) (by first | omega | (simp [go_sem]; omega) | simp [go_sem])
    have s2_1 : w.heap.size + 1 < w2.heap.size := Nat.lt_of_lt_of_le (by first | omega | (simp [go_sem]; omega) | simp [go_sem]) hb.size
    have k2_1 := fun o => hb.cell (p := ⟨w.heap.size + 1, o, none⟩) (by first | omega | (simp [go_sem]; omega) | simp [go_sem])
    have f2_1 := fun o => hb.frozen (p := ⟨w.heap.size + 1, o, none⟩) (by first | omega | (simp [go_sem]; omega) | simp [go_sem])
    clear hb
    clear c4
    go_wp2_with fail
    refine wp_region_tail 11 (by kernel_rfl) (by kernel_rfl) (by kernel_rfl) ?_
    simp only [List.take_succ_cons, List.take_zero, List.drop_succ_cons, List.drop_zero, List.take_nil, List.drop_nil]
    repeat (quiet_step (first | with_reducible exact Calls.regrown_of (c5.out _) | with_reducible exact Calls.regrown_of (c6.out _) | ((with_reducible refine Calls.regrown_of (c7.out _ hG _ ?_)); repeat (first | with_reducible assumption | with_reducible exact Below.refl _ _ | with_reducible refine Below.setCell ?_ (by first | omega | (simp [go_sem]; omega) | simp [go_sem]) _ | with_reducible refine Below.alloc ?_ (by first | omega | (simp [go_sem]; omega) | simp [go_sem]) _ | with_reducible refine below_grow ?_ (by first | omega | (simp [go_sem]; omega) | simp [go_sem]) _ _ | with_reducible refine Below.drew ?_))))
    refine wpQuiet_nil ?_
    intro w1 hw1
    obtain ⟨⟨dq, osq⟩, rfl⟩ := hw1
    clear c5 c6 c7
    go_wp2_with fail
    refine bodyPost_ret (v := .tuple #[.agg #[.string ⟨(lo).toArray⟩, .string ⟨(hi).toArray⟩], .int .i64 0]) (by simp (maxDischargeDepth := 4) [*, results, Tryz.results17, go_sem]) rfl ⟨rfl, ?_⟩
    repeat (first | with_reducible assumption | with_reducible exact Below.refl _ _ | with_reducible refine Below.setCell ?_ (by first | omega | (simp [go_sem]; omega) | simp [go_sem]) _ | with_reducible refine Below.alloc ?_ (by first | omega | (simp [go_sem]; omega) | simp [go_sem]) _ | with_reducible refine below_grow ?_ (by first | omega | (simp [go_sem]; omega) | simp [go_sem]) _ _ | with_reducible refine Below.drew ?_)
end Go.Proofs.YtgdlehoglpiifaaGreatDoor
