/-
  The reference of chapter 7: its checks.
  The reference of chapter 1: texts, machine integers.
  The reference of chapter 1: the digits of a number read and written.
  The reference of chapter 1: a short number read.
  The reference of chapter 1: a fraction of machine integers as a text.
  The reference of chapter 1: Of, quick at the texts of fractions.
  The reference of chapter 1: sums and products of short numbers.
  The reference of chapter 1: signs, differences, comparisons.
  The reference of chapter 1: the form of a decimal text.
  The reference of chapter 1: integers of at most one digit.
-/
import Derived.Test.YtgdlehoglpiifaaGreatDoorJBreak
namespace Go.Proofs.YtgdlehoglpiifaaGreatDoor
open Go.RowKit Go.Sort

/-- A number outside two bounds. -/
def outB (n a b : Int) : Bool := decide (n < a) || decide (b < n)
theorem outB_false {n a b : Int} : outB n a b = false ↔ a ≤ n ∧ n ≤ b := by simp [outB]
theorem outB_true {n a b : Int} : outB n a b = true ↔ n < a ∨ b < n := by simp [outB]

theorem qOut (n a b : Int) (w : World) : Calls Tryz.prog 31 #[.int .i64 n, .int .i64 a, .int .i64 b] w fun e w' => e = .returned (.bool (outB n a b)) ∧ Below w.heap.size w w' := by
  unfold outB
  by_cases h : n < a
  · have hd : decide (n < a) = true := decide_eq_true h
    rw [hd]
    go_enter Tryz.func31, Tryz.ntmps31
    go_wp2_with fail
    go_ret
    refine ⟨rfl, ?_⟩
    repeat (first | with_reducible assumption | with_reducible exact Below.refl _ _ | with_reducible refine Below.setCell ?_ (by first | omega | (simp [go_sem]; omega) | simp [go_sem]) _ | with_reducible refine Below.alloc ?_ (by first | omega | (simp [go_sem]; omega) | simp [go_sem]) _ | with_reducible refine below_grow ?_ (by first | omega | (simp [go_sem]; omega) | simp [go_sem]) _ _ | with_reducible refine Below.drew ?_)
  · have hd : decide (n < a) = false := decide_eq_false h
    rw [hd]
    go_enter Tryz.func31, Tryz.ntmps31
    go_wp2_with fail
    go_ret
    refine ⟨rfl, ?_⟩
    repeat (first | with_reducible assumption | with_reducible exact Below.refl _ _ | with_reducible refine Below.setCell ?_ (by first | omega | (simp [go_sem]; omega) | simp [go_sem]) _ | with_reducible refine Below.alloc ?_ (by first | omega | (simp [go_sem]; omega) | simp [go_sem]) _ | with_reducible refine below_grow ?_ (by first | omega | (simp [go_sem]; omega) | simp [go_sem]) _ _ | with_reducible refine Below.drew ?_)

theorem qCount (n b : Int) (w : World) : Calls Tryz.prog 6 #[.int .i64 n, .int .i64 b] w fun e w' => e = .returned (.int .i64 (if outB n 0 b then 3 else 0)) ∧ Below w.heap.size w w' := by
  have c1 := Lib.hid (fun w => qOut n 0 b w)
  cases h : outB n 0 b <;> rw [h] at c1
  · go_enter Tryz.func6, Tryz.ntmps6
    go_wp2_with fail
    (with_reducible refine (c1.out _).mono ?_)
    rintro e w1 ⟨rfl, hb1⟩
    obtain ⟨⟨dq, osq⟩, rfl⟩ := regrown_of_below hb1
    clear hb1
    go_wp2_with fail
    go_ret
    refine ⟨rfl, ?_⟩
    repeat (first | with_reducible assumption | with_reducible exact Below.refl _ _ | with_reducible refine Below.setCell ?_ (by first | omega | (simp [go_sem]; omega) | simp [go_sem]) _ | with_reducible refine Below.alloc ?_ (by first | omega | (simp [go_sem]; omega) | simp [go_sem]) _ | with_reducible refine below_grow ?_ (by first | omega | (simp [go_sem]; omega) | simp [go_sem]) _ _ | with_reducible refine Below.drew ?_)
  · go_enter Tryz.func6, Tryz.ntmps6
    go_wp2_with fail
    (with_reducible refine (c1.out _).mono ?_)
    rintro e w1 ⟨rfl, hb1⟩
    obtain ⟨⟨dq, osq⟩, rfl⟩ := regrown_of_below hb1
    clear hb1
    go_wp2_with fail
    go_ret
    refine ⟨rfl, ?_⟩
    repeat (first | with_reducible assumption | with_reducible exact Below.refl _ _ | with_reducible refine Below.setCell ?_ (by first | omega | (simp [go_sem]; omega) | simp [go_sem]) _ | with_reducible refine Below.alloc ?_ (by first | omega | (simp [go_sem]; omega) | simp [go_sem]) _ | with_reducible refine below_grow ?_ (by first | omega | (simp [go_sem]; omega) | simp [go_sem]) _ _ | with_reducible refine Below.drew ?_)

theorem qLane (S R W F T L n : Int) (w : World) : Calls Tryz.prog 25 #[.agg #[.int .i64 S, .int .i64 R, .int .i64 W, .int .i64 F, .int .i64 T, .int .i64 L], .int .i64 n] w fun e w' => e = .returned (.int .i64 (if outB n 1 L then 17 else 0)) ∧ Below w.heap.size w w' := by
  have c1 := Lib.hid (fun w => qOut n 1 L w)
  cases h : outB n 1 L <;> rw [h] at c1
  · go_enter Tryz.func25, Tryz.ntmps25
    go_wp2_with fail
    (with_reducible refine (c1.out _).mono ?_)
    rintro e w1 ⟨rfl, hb1⟩
    obtain ⟨⟨dq, osq⟩, rfl⟩ := regrown_of_below hb1
    clear hb1
    go_wp2_with fail
    go_ret
    refine ⟨rfl, ?_⟩
    repeat (first | with_reducible assumption | with_reducible exact Below.refl _ _ | with_reducible refine Below.setCell ?_ (by first | omega | (simp [go_sem]; omega) | simp [go_sem]) _ | with_reducible refine Below.alloc ?_ (by first | omega | (simp [go_sem]; omega) | simp [go_sem]) _ | with_reducible refine below_grow ?_ (by first | omega | (simp [go_sem]; omega) | simp [go_sem]) _ _ | with_reducible refine Below.drew ?_)
  · go_enter Tryz.func25, Tryz.ntmps25
    go_wp2_with fail
    (with_reducible refine (c1.out _).mono ?_)
    rintro e w1 ⟨rfl, hb1⟩
    obtain ⟨⟨dq, osq⟩, rfl⟩ := regrown_of_below hb1
    clear hb1
    go_wp2_with fail
    go_ret
    refine ⟨rfl, ?_⟩
    repeat (first | with_reducible assumption | with_reducible exact Below.refl _ _ | with_reducible refine Below.setCell ?_ (by first | omega | (simp [go_sem]; omega) | simp [go_sem]) _ | with_reducible refine Below.alloc ?_ (by first | omega | (simp [go_sem]; omega) | simp [go_sem]) _ | with_reducible refine below_grow ?_ (by first | omega | (simp [go_sem]; omega) | simp [go_sem]) _ _ | with_reducible refine Below.drew ?_)

/-- The error of an oval. -/
def ovalE (S R W F T L : Int) : Int := if outB S 1 999999 || outB R 1 999999 || outB W 1 10000 || outB F 0 W || outB T 0 W then 3 else if outB L 1 10 then 17 else 0
theorem ovalE_zero {S R W F T L : Int} : ovalE S R W F T L = 0 ↔ Oval S R W F T L := by
  unfold ovalE
  constructor
  · intro h
    split at h
    · omega
    · split at h
      · omega
      · rename_i h1 h2
        simp only [Bool.or_eq_true, not_or, Bool.not_eq_true, outB_false] at h1 h2
        obtain ⟨⟨⟨⟨a, b⟩, c⟩, d⟩, e⟩ := h1
        exact ⟨a, b, c, d, e, h2⟩
  · intro o
    rw [if_neg, if_neg]
    · rw [outB_false.2 o.l]; decide
    · rw [outB_false.2 o.s, outB_false.2 o.r, outB_false.2 o.w, outB_false.2 o.f, outB_false.2 o.t]; decide

theorem qOval (S R W F T L : Int) (w : World) : Calls Tryz.prog 5 #[.agg #[.int .i64 S, .int .i64 R, .int .i64 W, .int .i64 F, .int .i64 T, .int .i64 L]] w fun e w' => e = .returned (.int .i64 (ovalE S R W F T L)) ∧ Below w.heap.size w w' := by
  have c1 := Lib.hid (fun w => qOut S 1 999999 w)
  have c2 := Lib.hid (fun w => qOut R 1 999999 w)
  have c3 := Lib.hid (fun w => qOut W 1 10000 w)
  have c4 := Lib.hid (fun w => qOut F 0 W w)
  have c5 := Lib.hid (fun w => qOut T 0 W w)
  have c6 := Lib.hid (fun w => qOut L 1 10 w)
  unfold ovalE
  generalize outB S 1 999999 = b1 at *
  generalize outB R 1 999999 = b2 at *
  generalize outB W 1 10000 = b3 at *
  generalize outB F 0 W = b4 at *
  generalize outB T 0 W = b5 at *
  generalize outB L 1 10 = b6 at *
  cases b1
  · cases b2
    · cases b3
      · cases b4
        · cases b5
          · cases b6
            · go_enter Tryz.func5, Tryz.ntmps5
              go_wp2_with fail
              (with_reducible refine (c1.out _).mono ?_)
              rintro e w1 ⟨rfl, hb⟩
              have H1 : Below w.heap.size w w1 := by
                refine Below.trans ?_ (hb.mono ?_)
                · repeat (first | with_reducible assumption | with_reducible exact Below.refl _ _ | with_reducible refine Below.setCell ?_ (by first | omega | (simp [go_sem]; omega) | simp [go_sem]) _ | with_reducible refine Below.alloc ?_ (by first | omega | (simp [go_sem]; omega) | simp [go_sem]) _ | with_reducible refine below_grow ?_ (by first | omega | (simp [go_sem]; omega) | simp [go_sem]) _ _ | with_reducible refine Below.drew ?_)
                · first | omega | (simp [go_sem]; omega) | simp [go_sem]
              have S1 : w.heap.size ≤ w1.heap.size := H1.size
              have s1_0 : w.heap.size < w1.heap.size := Nat.lt_of_lt_of_le (by first | omega | (simp [go_sem]; omega) | simp [go_sem]) hb.size
              have k1_0 := fun o => hb.cell (p := ⟨w.heap.size, o, none⟩) (by first | omega | (simp [go_sem]; omega) | simp [go_sem])
              have f1_0 := fun o => hb.frozen (p := ⟨w.heap.size, o, none⟩) (by first | omega | (simp [go_sem]; omega) | simp [go_sem])
              clear hb
              go_wp2_with fail
              (with_reducible refine (c2.out _).mono ?_)
              rintro e w2 ⟨rfl, hb⟩
              have H2 : Below w.heap.size w w2 := by
                refine Below.trans ?_ (hb.mono ?_)
                · repeat (first | with_reducible assumption | with_reducible exact Below.refl _ _ | with_reducible refine Below.setCell ?_ (by first | omega | (simp [go_sem]; omega) | simp [go_sem]) _ | with_reducible refine Below.alloc ?_ (by first | omega | (simp [go_sem]; omega) | simp [go_sem]) _ | with_reducible refine below_grow ?_ (by first | omega | (simp [go_sem]; omega) | simp [go_sem]) _ _ | with_reducible refine Below.drew ?_)
                · first | omega | (simp [go_sem]; omega) | simp [go_sem]
              have S2 : w.heap.size ≤ w2.heap.size := H2.size
              have s2_0 : w.heap.size < w2.heap.size := Nat.lt_of_lt_of_le (by first | omega | (simp [go_sem]; omega) | simp [go_sem]) hb.size
              have k2_0 := fun o => hb.cell (p := ⟨w.heap.size, o, none⟩) (by first | omega | (simp [go_sem]; omega) | simp [go_sem])
              have f2_0 := fun o => hb.frozen (p := ⟨w.heap.size, o, none⟩) (by first | omega | (simp [go_sem]; omega) | simp [go_sem])
              clear hb
              go_wp2_with fail
              (with_reducible refine (c3.out _).mono ?_)
              rintro e w3 ⟨rfl, hb⟩
              have H3 : Below w.heap.size w w3 := by
                refine Below.trans ?_ (hb.mono ?_)
                · repeat (first | with_reducible assumption | with_reducible exact Below.refl _ _ | with_reducible refine Below.setCell ?_ (by first | omega | (simp [go_sem]; omega) | simp [go_sem]) _ | with_reducible refine Below.alloc ?_ (by first | omega | (simp [go_sem]; omega) | simp [go_sem]) _ | with_reducible refine below_grow ?_ (by first | omega | (simp [go_sem]; omega) | simp [go_sem]) _ _ | with_reducible refine Below.drew ?_)
                · first | omega | (simp [go_sem]; omega) | simp [go_sem]
              have S3 : w.heap.size ≤ w3.heap.size := H3.size
              have s3_0 : w.heap.size < w3.heap.size := Nat.lt_of_lt_of_le (by first | omega | (simp [go_sem]; omega) | simp [go_sem]) hb.size
              have k3_0 := fun o => hb.cell (p := ⟨w.heap.size, o, none⟩) (by first | omega | (simp [go_sem]; omega) | simp [go_sem])
              have f3_0 := fun o => hb.frozen (p := ⟨w.heap.size, o, none⟩) (by first | omega | (simp [go_sem]; omega) | simp [go_sem])
              clear hb
              go_wp2_with fail
              (with_reducible refine (c4.out _).mono ?_)
              rintro e w4 ⟨rfl, hb⟩
              have H4 : Below w.heap.size w w4 := by
                refine Below.trans ?_ (hb.mono ?_)
                · repeat (first | with_reducible assumption | with_reducible exact Below.refl _ _ | with_reducible refine Below.setCell ?_ (by first | omega | (simp [go_sem]; omega) | simp [go_sem]) _ | with_reducible refine Below.alloc ?_ (by first | omega | (simp [go_sem]; omega) | simp [go_sem]) _ | with_reducible refine below_grow ?_ (by first | omega | (simp [go_sem]; omega) | simp [go_sem]) _ _ | with_reducible refine Below.drew ?_)
                · first | omega | (simp [go_sem]; omega) | simp [go_sem]
              have S4 : w.heap.size ≤ w4.heap.size := H4.size
              have s4_0 : w.heap.size < w4.heap.size := Nat.lt_of_lt_of_le (by first | omega | (simp [go_sem]; omega) | simp [go_sem]) hb.size
              have k4_0 := fun o => hb.cell (p := ⟨w.heap.size, o, none⟩) (by first | omega | (simp [go_sem]; omega) | simp [go_sem])
              have f4_0 := fun o => hb.frozen (p := ⟨w.heap.size, o, none⟩) (by first | omega | (simp [go_sem]; omega) | simp [go_sem])
              clear hb
              go_wp2_with fail
              (with_reducible refine (c5.out _).mono ?_)
              rintro e w5 ⟨rfl, hb⟩
              have H5 : Below w.heap.size w w5 := by
                refine Below.trans ?_ (hb.mono ?_)
                · repeat (first | with_reducible assumption | with_reducible exact Below.refl _ _ | with_reducible refine Below.setCell ?_ (by first | omega | (simp [go_sem]; omega) | simp [go_sem]) _ | with_reducible refine Below.alloc ?_ (by first | omega | (simp [go_sem]; omega) | simp [go_sem]) _ | with_reducible refine below_grow ?_ (by first | omega | (simp [go_sem]; omega) | simp [go_sem]) _ _ | with_reducible refine Below.drew ?_)
                · first | omega | (simp [go_sem]; omega) | simp [go_sem]
              have S5 : w.heap.size ≤ w5.heap.size := H5.size
              have s5_0 : w.heap.size < w5.heap.size := Nat.lt_of_lt_of_le (by first | omega | (simp [go_sem]; omega) | simp [go_sem]) hb.size
              have k5_0 := fun o => hb.cell (p := ⟨w.heap.size, o, none⟩) (by first | omega | (simp [go_sem]; omega) | simp [go_sem])
              have f5_0 := fun o => hb.frozen (p := ⟨w.heap.size, o, none⟩) (by first | omega | (simp [go_sem]; omega) | simp [go_sem])
              clear hb
              go_wp2_with fail
              (with_reducible refine (c6.out _).mono ?_)
              rintro e w6 ⟨rfl, hb⟩
              have H6 : Below w.heap.size w w6 := by
                refine Below.trans ?_ (hb.mono ?_)
                · repeat (first | with_reducible assumption | with_reducible exact Below.refl _ _ | with_reducible refine Below.setCell ?_ (by first | omega | (simp [go_sem]; omega) | simp [go_sem]) _ | with_reducible refine Below.alloc ?_ (by first | omega | (simp [go_sem]; omega) | simp [go_sem]) _ | with_reducible refine below_grow ?_ (by first | omega | (simp [go_sem]; omega) | simp [go_sem]) _ _ | with_reducible refine Below.drew ?_)
                · first | omega | (simp [go_sem]; omega) | simp [go_sem]
              have S6 : w.heap.size ≤ w6.heap.size := H6.size
              have s6_0 : w.heap.size < w6.heap.size := Nat.lt_of_lt_of_le (by first | omega | (simp [go_sem]; omega) | simp [go_sem]) hb.size
              have k6_0 := fun o => hb.cell (p := ⟨w.heap.size, o, none⟩) (by first | omega | (simp [go_sem]; omega) | simp [go_sem])
              have f6_0 := fun o => hb.frozen (p := ⟨w.heap.size, o, none⟩) (by first | omega | (simp [go_sem]; omega) | simp [go_sem])
              clear hb
              go_wp2_with fail
              go_ret
              refine ⟨rfl, ?_⟩
              repeat (first | with_reducible assumption | with_reducible exact Below.refl _ _ | with_reducible refine Below.setCell ?_ (by first | omega | (simp [go_sem]; omega) | simp [go_sem]) _ | with_reducible refine Below.alloc ?_ (by first | omega | (simp [go_sem]; omega) | simp [go_sem]) _ | with_reducible refine below_grow ?_ (by first | omega | (simp [go_sem]; omega) | simp [go_sem]) _ _ | with_reducible refine Below.drew ?_)
            · go_enter Tryz.func5, Tryz.ntmps5
              go_wp2_with fail
              (with_reducible refine (c1.out _).mono ?_)
              rintro e w1 ⟨rfl, hb⟩
              have H1 : Below w.heap.size w w1 := by
                refine Below.trans ?_ (hb.mono ?_)
                · repeat (first | with_reducible assumption | with_reducible exact Below.refl _ _ | with_reducible refine Below.setCell ?_ (by first | omega | (simp [go_sem]; omega) | simp [go_sem]) _ | with_reducible refine Below.alloc ?_ (by first | omega | (simp [go_sem]; omega) | simp [go_sem]) _ | with_reducible refine below_grow ?_ (by first | omega | (simp [go_sem]; omega) | simp [go_sem]) _ _ | with_reducible refine Below.drew ?_)
                · first | omega | (simp [go_sem]; omega) | simp [go_sem]
              have S1 : w.heap.size ≤ w1.heap.size := H1.size
              have s1_0 : w.heap.size < w1.heap.size := Nat.lt_of_lt_of_le (by first | omega | (simp [go_sem]; omega) | simp [go_sem]) hb.size
              have k1_0 := fun o => hb.cell (p := ⟨w.heap.size, o, none⟩) (by first | omega | (simp [go_sem]; omega) | simp [go_sem])
              have f1_0 := fun o => hb.frozen (p := ⟨w.heap.size, o, none⟩) (by first | omega | (simp [go_sem]; omega) | simp [go_sem])
              clear hb
              go_wp2_with fail
              (with_reducible refine (c2.out _).mono ?_)
              rintro e w2 ⟨rfl, hb⟩
              have H2 : Below w.heap.size w w2 := by
                refine Below.trans ?_ (hb.mono ?_)
                · repeat (first | with_reducible assumption | with_reducible exact Below.refl _ _ | with_reducible refine Below.setCell ?_ (by first | omega | (simp [go_sem]; omega) | simp [go_sem]) _ | with_reducible refine Below.alloc ?_ (by first | omega | (simp [go_sem]; omega) | simp [go_sem]) _ | with_reducible refine below_grow ?_ (by first | omega | (simp [go_sem]; omega) | simp [go_sem]) _ _ | with_reducible refine Below.drew ?_)
                · first | omega | (simp [go_sem]; omega) | simp [go_sem]
              have S2 : w.heap.size ≤ w2.heap.size := H2.size
              have s2_0 : w.heap.size < w2.heap.size := Nat.lt_of_lt_of_le (by first | omega | (simp [go_sem]; omega) | simp [go_sem]) hb.size
              have k2_0 := fun o => hb.cell (p := ⟨w.heap.size, o, none⟩) (by first | omega | (simp [go_sem]; omega) | simp [go_sem])
              have f2_0 := fun o => hb.frozen (p := ⟨w.heap.size, o, none⟩) (by first | omega | (simp [go_sem]; omega) | simp [go_sem])
              clear hb
              go_wp2_with fail
              (with_reducible refine (c3.out _).mono ?_)
              rintro e w3 ⟨rfl, hb⟩
              have H3 : Below w.heap.size w w3 := by
                refine Below.trans ?_ (hb.mono ?_)
                · repeat (first | with_reducible assumption | with_reducible exact Below.refl _ _ | with_reducible refine Below.setCell ?_ (by first | omega | (simp [go_sem]; omega) | simp [go_sem]) _ | with_reducible refine Below.alloc ?_ (by first | omega | (simp [go_sem]; omega) | simp [go_sem]) _ | with_reducible refine below_grow ?_ (by first | omega | (simp [go_sem]; omega) | simp [go_sem]) _ _ | with_reducible refine Below.drew ?_)
                · first | omega | (simp [go_sem]; omega) | simp [go_sem]
              have S3 : w.heap.size ≤ w3.heap.size := H3.size
              have s3_0 : w.heap.size < w3.heap.size := Nat.lt_of_lt_of_le (by first | omega | (simp [go_sem]; omega) | simp [go_sem]) hb.size
              have k3_0 := fun o => hb.cell (p := ⟨w.heap.size, o, none⟩) (by first | omega | (simp [go_sem]; omega) | simp [go_sem])
              have f3_0 := fun o => hb.frozen (p := ⟨w.heap.size, o, none⟩) (by first | omega | (simp [go_sem]; omega) | simp [go_sem])
              clear hb
              go_wp2_with fail
              (with_reducible refine (c4.out _).mono ?_)
              rintro e w4 ⟨rfl, hb⟩
              have H4 : Below w.heap.size w w4 := by
                refine Below.trans ?_ (hb.mono ?_)
                · repeat (first | with_reducible assumption | with_reducible exact Below.refl _ _ | with_reducible refine Below.setCell ?_ (by first | omega | (simp [go_sem]; omega) | simp [go_sem]) _ | with_reducible refine Below.alloc ?_ (by first | omega | (simp [go_sem]; omega) | simp [go_sem]) _ | with_reducible refine below_grow ?_ (by first | omega | (simp [go_sem]; omega) | simp [go_sem]) _ _ | with_reducible refine Below.drew ?_)
                · first | omega | (simp [go_sem]; omega) | simp [go_sem]
              have S4 : w.heap.size ≤ w4.heap.size := H4.size
              have s4_0 : w.heap.size < w4.heap.size := Nat.lt_of_lt_of_le (by first | omega | (simp [go_sem]; omega) | simp [go_sem]) hb.size
              have k4_0 := fun o => hb.cell (p := ⟨w.heap.size, o, none⟩) (by first | omega | (simp [go_sem]; omega) | simp [go_sem])
              have f4_0 := fun o => hb.frozen (p := ⟨w.heap.size, o, none⟩) (by first | omega | (simp [go_sem]; omega) | simp [go_sem])
              clear hb
              go_wp2_with fail
              (with_reducible refine (c5.out _).mono ?_)
              rintro e w5 ⟨rfl, hb⟩
              have H5 : Below w.heap.size w w5 := by
                refine Below.trans ?_ (hb.mono ?_)
                · repeat (first | with_reducible assumption | with_reducible exact Below.refl _ _ | with_reducible refine Below.setCell ?_ (by first | omega | (simp [go_sem]; omega) | simp [go_sem]) _ | with_reducible refine Below.alloc ?_ (by first | omega | (simp [go_sem]; omega) | simp [go_sem]) _ | with_reducible refine below_grow ?_ (by first | omega | (simp [go_sem]; omega) | simp [go_sem]) _ _ | with_reducible refine Below.drew ?_)
                · first | omega | (simp [go_sem]; omega) | simp [go_sem]
              have S5 : w.heap.size ≤ w5.heap.size := H5.size
              have s5_0 : w.heap.size < w5.heap.size := Nat.lt_of_lt_of_le (by first | omega | (simp [go_sem]; omega) | simp [go_sem]) hb.size
              have k5_0 := fun o => hb.cell (p := ⟨w.heap.size, o, none⟩) (by first | omega | (simp [go_sem]; omega) | simp [go_sem])
              have f5_0 := fun o => hb.frozen (p := ⟨w.heap.size, o, none⟩) (by first | omega | (simp [go_sem]; omega) | simp [go_sem])
              clear hb
              go_wp2_with fail
              (with_reducible refine (c6.out _).mono ?_)
              rintro e w6 ⟨rfl, hb⟩
              have H6 : Below w.heap.size w w6 := by
                refine Below.trans ?_ (hb.mono ?_)
                · repeat (first | with_reducible assumption | with_reducible exact Below.refl _ _ | with_reducible refine Below.setCell ?_ (by first | omega | (simp [go_sem]; omega) | simp [go_sem]) _ | with_reducible refine Below.alloc ?_ (by first | omega | (simp [go_sem]; omega) | simp [go_sem]) _ | with_reducible refine below_grow ?_ (by first | omega | (simp [go_sem]; omega) | simp [go_sem]) _ _ | with_reducible refine Below.drew ?_)
                · first | omega | (simp [go_sem]; omega) | simp [go_sem]
              have S6 : w.heap.size ≤ w6.heap.size := H6.size
              have s6_0 : w.heap.size < w6.heap.size := Nat.lt_of_lt_of_le (by first | omega | (simp [go_sem]; omega) | simp [go_sem]) hb.size
              have k6_0 := fun o => hb.cell (p := ⟨w.heap.size, o, none⟩) (by first | omega | (simp [go_sem]; omega) | simp [go_sem])
              have f6_0 := fun o => hb.frozen (p := ⟨w.heap.size, o, none⟩) (by first | omega | (simp [go_sem]; omega) | simp [go_sem])
              clear hb
              go_wp2_with fail
              go_ret
              refine ⟨rfl, ?_⟩
              repeat (first | with_reducible assumption | with_reducible exact Below.refl _ _ | with_reducible refine Below.setCell ?_ (by first | omega | (simp [go_sem]; omega) | simp [go_sem]) _ | with_reducible refine Below.alloc ?_ (by first | omega | (simp [go_sem]; omega) | simp [go_sem]) _ | with_reducible refine below_grow ?_ (by first | omega | (simp [go_sem]; omega) | simp [go_sem]) _ _ | with_reducible refine Below.drew ?_)
          · go_enter Tryz.func5, Tryz.ntmps5
            go_wp2_with fail
            (with_reducible refine (c1.out _).mono ?_)
            rintro e w1 ⟨rfl, hb⟩
            have H1 : Below w.heap.size w w1 := by
              refine Below.trans ?_ (hb.mono ?_)
              · repeat (first | with_reducible assumption | with_reducible exact Below.refl _ _ | with_reducible refine Below.setCell ?_ (by first | omega | (simp [go_sem]; omega) | simp [go_sem]) _ | with_reducible refine Below.alloc ?_ (by first | omega | (simp [go_sem]; omega) | simp [go_sem]) _ | with_reducible refine below_grow ?_ (by first | omega | (simp [go_sem]; omega) | simp [go_sem]) _ _ | with_reducible refine Below.drew ?_)
              · first | omega | (simp [go_sem]; omega) | simp [go_sem]
            have S1 : w.heap.size ≤ w1.heap.size := H1.size
            have s1_0 : w.heap.size < w1.heap.size := Nat.lt_of_lt_of_le (by first | omega | (simp [go_sem]; omega) | simp [go_sem]) hb.size
            have k1_0 := fun o => hb.cell (p := ⟨w.heap.size, o, none⟩) (by first | omega | (simp [go_sem]; omega) | simp [go_sem])
            have f1_0 := fun o => hb.frozen (p := ⟨w.heap.size, o, none⟩) (by first | omega | (simp [go_sem]; omega) | simp [go_sem])
            clear hb
            go_wp2_with fail
            (with_reducible refine (c2.out _).mono ?_)
            rintro e w2 ⟨rfl, hb⟩
            have H2 : Below w.heap.size w w2 := by
              refine Below.trans ?_ (hb.mono ?_)
              · repeat (first | with_reducible assumption | with_reducible exact Below.refl _ _ | with_reducible refine Below.setCell ?_ (by first | omega | (simp [go_sem]; omega) | simp [go_sem]) _ | with_reducible refine Below.alloc ?_ (by first | omega | (simp [go_sem]; omega) | simp [go_sem]) _ | with_reducible refine below_grow ?_ (by first | omega | (simp [go_sem]; omega) | simp [go_sem]) _ _ | with_reducible refine Below.drew ?_)
              · first | omega | (simp [go_sem]; omega) | simp [go_sem]
            have S2 : w.heap.size ≤ w2.heap.size := H2.size
            have s2_0 : w.heap.size < w2.heap.size := Nat.lt_of_lt_of_le (by first | omega | (simp [go_sem]; omega) | simp [go_sem]) hb.size
            have k2_0 := fun o => hb.cell (p := ⟨w.heap.size, o, none⟩) (by first | omega | (simp [go_sem]; omega) | simp [go_sem])
            have f2_0 := fun o => hb.frozen (p := ⟨w.heap.size, o, none⟩) (by first | omega | (simp [go_sem]; omega) | simp [go_sem])
            clear hb
            go_wp2_with fail
            (with_reducible refine (c3.out _).mono ?_)
            rintro e w3 ⟨rfl, hb⟩
            have H3 : Below w.heap.size w w3 := by
              refine Below.trans ?_ (hb.mono ?_)
              · repeat (first | with_reducible assumption | with_reducible exact Below.refl _ _ | with_reducible refine Below.setCell ?_ (by first | omega | (simp [go_sem]; omega) | simp [go_sem]) _ | with_reducible refine Below.alloc ?_ (by first | omega | (simp [go_sem]; omega) | simp [go_sem]) _ | with_reducible refine below_grow ?_ (by first | omega | (simp [go_sem]; omega) | simp [go_sem]) _ _ | with_reducible refine Below.drew ?_)
              · first | omega | (simp [go_sem]; omega) | simp [go_sem]
            have S3 : w.heap.size ≤ w3.heap.size := H3.size
            have s3_0 : w.heap.size < w3.heap.size := Nat.lt_of_lt_of_le (by first | omega | (simp [go_sem]; omega) | simp [go_sem]) hb.size
            have k3_0 := fun o => hb.cell (p := ⟨w.heap.size, o, none⟩) (by first | omega | (simp [go_sem]; omega) | simp [go_sem])
            have f3_0 := fun o => hb.frozen (p := ⟨w.heap.size, o, none⟩) (by first | omega | (simp [go_sem]; omega) | simp [go_sem])
            clear hb
            go_wp2_with fail
            (with_reducible refine (c4.out _).mono ?_)
            rintro e w4 ⟨rfl, hb⟩
            have H4 : Below w.heap.size w w4 := by
              refine Below.trans ?_ (hb.mono ?_)
              · repeat (first | with_reducible assumption | with_reducible exact Below.refl _ _ | with_reducible refine Below.setCell ?_ (by first | omega | (simp [go_sem]; omega) | simp [go_sem]) _ | with_reducible refine Below.alloc ?_ (by first | omega | (simp [go_sem]; omega) | simp [go_sem]) _ | with_reducible refine below_grow ?_ (by first | omega | (simp [go_sem]; omega) | simp [go_sem]) _ _ | with_reducible refine Below.drew ?_)
              · first | omega | (simp [go_sem]; omega) | simp [go_sem]
            have S4 : w.heap.size ≤ w4.heap.size := H4.size
            have s4_0 : w.heap.size < w4.heap.size := Nat.lt_of_lt_of_le (by first | omega | (simp [go_sem]; omega) | simp [go_sem]) hb.size
            have k4_0 := fun o => hb.cell (p := ⟨w.heap.size, o, none⟩) (by first | omega | (simp [go_sem]; omega) | simp [go_sem])
            have f4_0 := fun o => hb.frozen (p := ⟨w.heap.size, o, none⟩) (by first | omega | (simp [go_sem]; omega) | simp [go_sem])
            clear hb
            go_wp2_with fail
            (with_reducible refine (c5.out _).mono ?_)
            rintro e w5 ⟨rfl, hb⟩
            have H5 : Below w.heap.size w w5 := by
              refine Below.trans ?_ (hb.mono ?_)
              · repeat (first | with_reducible assumption | with_reducible exact Below.refl _ _ | with_reducible refine Below.setCell ?_ (by first | omega | (simp [go_sem]; omega) | simp [go_sem]) _ | with_reducible refine Below.alloc ?_ (by first | omega | (simp [go_sem]; omega) | simp [go_sem]) _ | with_reducible refine below_grow ?_ (by first | omega | (simp [go_sem]; omega) | simp [go_sem]) _ _ | with_reducible refine Below.drew ?_)
              · first | omega | (simp [go_sem]; omega) | simp [go_sem]
            have S5 : w.heap.size ≤ w5.heap.size := H5.size
            have s5_0 : w.heap.size < w5.heap.size := Nat.lt_of_lt_of_le (by first | omega | (simp [go_sem]; omega) | simp [go_sem]) hb.size
            have k5_0 := fun o => hb.cell (p := ⟨w.heap.size, o, none⟩) (by first | omega | (simp [go_sem]; omega) | simp [go_sem])
            have f5_0 := fun o => hb.frozen (p := ⟨w.heap.size, o, none⟩) (by first | omega | (simp [go_sem]; omega) | simp [go_sem])
            clear hb
            go_wp2_with fail
            go_ret
            refine ⟨rfl, ?_⟩
            repeat (first | with_reducible assumption | with_reducible exact Below.refl _ _ | with_reducible refine Below.setCell ?_ (by first | omega | (simp [go_sem]; omega) | simp [go_sem]) _ | with_reducible refine Below.alloc ?_ (by first | omega | (simp [go_sem]; omega) | simp [go_sem]) _ | with_reducible refine below_grow ?_ (by first | omega | (simp [go_sem]; omega) | simp [go_sem]) _ _ | with_reducible refine Below.drew ?_)
        · go_enter Tryz.func5, Tryz.ntmps5
          go_wp2_with fail
          (with_reducible refine (c1.out _).mono ?_)
          rintro e w1 ⟨rfl, hb⟩
          have H1 : Below w.heap.size w w1 := by
            refine Below.trans ?_ (hb.mono ?_)
            · repeat (first | with_reducible assumption | with_reducible exact Below.refl _ _ | with_reducible refine Below.setCell ?_ (by first | omega | (simp [go_sem]; omega) | simp [go_sem]) _ | with_reducible refine Below.alloc ?_ (by first | omega | (simp [go_sem]; omega) | simp [go_sem]) _ | with_reducible refine below_grow ?_ (by first | omega | (simp [go_sem]; omega) | simp [go_sem]) _ _ | with_reducible refine Below.drew ?_)
            · first | omega | (simp [go_sem]; omega) | simp [go_sem]
          have S1 : w.heap.size ≤ w1.heap.size := H1.size
          have s1_0 : w.heap.size < w1.heap.size := Nat.lt_of_lt_of_le (by first | omega | (simp [go_sem]; omega) | simp [go_sem]) hb.size
          have k1_0 := fun o => hb.cell (p := ⟨w.heap.size, o, none⟩) (by first | omega | (simp [go_sem]; omega) | simp [go_sem])
          have f1_0 := fun o => hb.frozen (p := ⟨w.heap.size, o, none⟩) (by first | omega | (simp [go_sem]; omega) | simp [go_sem])
          clear hb
          go_wp2_with fail
          (with_reducible refine (c2.out _).mono ?_)
          rintro e w2 ⟨rfl, hb⟩
          have H2 : Below w.heap.size w w2 := by
            refine Below.trans ?_ (hb.mono ?_)
            · repeat (first | with_reducible assumption | with_reducible exact Below.refl _ _ | with_reducible refine Below.setCell ?_ (by first | omega | (simp [go_sem]; omega) | simp [go_sem]) _ | with_reducible refine Below.alloc ?_ (by first | omega | (simp [go_sem]; omega) | simp [go_sem]) _ | with_reducible refine below_grow ?_ (by first | omega | (simp [go_sem]; omega) | simp [go_sem]) _ _ | with_reducible refine Below.drew ?_)
            · first | omega | (simp [go_sem]; omega) | simp [go_sem]
          have S2 : w.heap.size ≤ w2.heap.size := H2.size
          have s2_0 : w.heap.size < w2.heap.size := Nat.lt_of_lt_of_le (by first | omega | (simp [go_sem]; omega) | simp [go_sem]) hb.size
          have k2_0 := fun o => hb.cell (p := ⟨w.heap.size, o, none⟩) (by first | omega | (simp [go_sem]; omega) | simp [go_sem])
          have f2_0 := fun o => hb.frozen (p := ⟨w.heap.size, o, none⟩) (by first | omega | (simp [go_sem]; omega) | simp [go_sem])
          clear hb
          go_wp2_with fail
          (with_reducible refine (c3.out _).mono ?_)
          rintro e w3 ⟨rfl, hb⟩
          have H3 : Below w.heap.size w w3 := by
            refine Below.trans ?_ (hb.mono ?_)
            · repeat (first | with_reducible assumption | with_reducible exact Below.refl _ _ | with_reducible refine Below.setCell ?_ (by first | omega | (simp [go_sem]; omega) | simp [go_sem]) _ | with_reducible refine Below.alloc ?_ (by first | omega | (simp [go_sem]; omega) | simp [go_sem]) _ | with_reducible refine below_grow ?_ (by first | omega | (simp [go_sem]; omega) | simp [go_sem]) _ _ | with_reducible refine Below.drew ?_)
            · first | omega | (simp [go_sem]; omega) | simp [go_sem]
          have S3 : w.heap.size ≤ w3.heap.size := H3.size
          have s3_0 : w.heap.size < w3.heap.size := Nat.lt_of_lt_of_le (by first | omega | (simp [go_sem]; omega) | simp [go_sem]) hb.size
          have k3_0 := fun o => hb.cell (p := ⟨w.heap.size, o, none⟩) (by first | omega | (simp [go_sem]; omega) | simp [go_sem])
          have f3_0 := fun o => hb.frozen (p := ⟨w.heap.size, o, none⟩) (by first | omega | (simp [go_sem]; omega) | simp [go_sem])
          clear hb
          go_wp2_with fail
          (with_reducible refine (c4.out _).mono ?_)
          rintro e w4 ⟨rfl, hb⟩
          have H4 : Below w.heap.size w w4 := by
            refine Below.trans ?_ (hb.mono ?_)
            · repeat (first | with_reducible assumption | with_reducible exact Below.refl _ _ | with_reducible refine Below.setCell ?_ (by first | omega | (simp [go_sem]; omega) | simp [go_sem]) _ | with_reducible refine Below.alloc ?_ (by first | omega | (simp [go_sem]; omega) | simp [go_sem]) _ | with_reducible refine below_grow ?_ (by first | omega | (simp [go_sem]; omega) | simp [go_sem]) _ _ | with_reducible refine Below.drew ?_)
            · first | omega | (simp [go_sem]; omega) | simp [go_sem]
          have S4 : w.heap.size ≤ w4.heap.size := H4.size
          have s4_0 : w.heap.size < w4.heap.size := Nat.lt_of_lt_of_le (by first | omega | (simp [go_sem]; omega) | simp [go_sem]) hb.size
          have k4_0 := fun o => hb.cell (p := ⟨w.heap.size, o, none⟩) (by first | omega | (simp [go_sem]; omega) | simp [go_sem])
          have f4_0 := fun o => hb.frozen (p := ⟨w.heap.size, o, none⟩) (by first | omega | (simp [go_sem]; omega) | simp [go_sem])
          clear hb
          go_wp2_with fail
          go_ret
          refine ⟨rfl, ?_⟩
          repeat (first | with_reducible assumption | with_reducible exact Below.refl _ _ | with_reducible refine Below.setCell ?_ (by first | omega | (simp [go_sem]; omega) | simp [go_sem]) _ | with_reducible refine Below.alloc ?_ (by first | omega | (simp [go_sem]; omega) | simp [go_sem]) _ | with_reducible refine below_grow ?_ (by first | omega | (simp [go_sem]; omega) | simp [go_sem]) _ _ | with_reducible refine Below.drew ?_)
      · go_enter Tryz.func5, Tryz.ntmps5
        go_wp2_with fail
        (with_reducible refine (c1.out _).mono ?_)
        rintro e w1 ⟨rfl, hb⟩
        have H1 : Below w.heap.size w w1 := by
          refine Below.trans ?_ (hb.mono ?_)
          · repeat (first | with_reducible assumption | with_reducible exact Below.refl _ _ | with_reducible refine Below.setCell ?_ (by first | omega | (simp [go_sem]; omega) | simp [go_sem]) _ | with_reducible refine Below.alloc ?_ (by first | omega | (simp [go_sem]; omega) | simp [go_sem]) _ | with_reducible refine below_grow ?_ (by first | omega | (simp [go_sem]; omega) | simp [go_sem]) _ _ | with_reducible refine Below.drew ?_)
          · first | omega | (simp [go_sem]; omega) | simp [go_sem]
        have S1 : w.heap.size ≤ w1.heap.size := H1.size
        have s1_0 : w.heap.size < w1.heap.size := Nat.lt_of_lt_of_le (by first | omega | (simp [go_sem]; omega) | simp [go_sem]) hb.size
        have k1_0 := fun o => hb.cell (p := ⟨w.heap.size, o, none⟩) (by first | omega | (simp [go_sem]; omega) | simp [go_sem])
        have f1_0 := fun o => hb.frozen (p := ⟨w.heap.size, o, none⟩) (by first | omega | (simp [go_sem]; omega) | simp [go_sem])
        clear hb
        go_wp2_with fail
        (with_reducible refine (c2.out _).mono ?_)
        rintro e w2 ⟨rfl, hb⟩
        have H2 : Below w.heap.size w w2 := by
          refine Below.trans ?_ (hb.mono ?_)
          · repeat (first | with_reducible assumption | with_reducible exact Below.refl _ _ | with_reducible refine Below.setCell ?_ (by first | omega | (simp [go_sem]; omega) | simp [go_sem]) _ | with_reducible refine Below.alloc ?_ (by first | omega | (simp [go_sem]; omega) | simp [go_sem]) _ | with_reducible refine below_grow ?_ (by first | omega | (simp [go_sem]; omega) | simp [go_sem]) _ _ | with_reducible refine Below.drew ?_)
          · first | omega | (simp [go_sem]; omega) | simp [go_sem]
        have S2 : w.heap.size ≤ w2.heap.size := H2.size
        have s2_0 : w.heap.size < w2.heap.size := Nat.lt_of_lt_of_le (by first | omega | (simp [go_sem]; omega) | simp [go_sem]) hb.size
        have k2_0 := fun o => hb.cell (p := ⟨w.heap.size, o, none⟩) (by first | omega | (simp [go_sem]; omega) | simp [go_sem])
        have f2_0 := fun o => hb.frozen (p := ⟨w.heap.size, o, none⟩) (by first | omega | (simp [go_sem]; omega) | simp [go_sem])
        clear hb
        go_wp2_with fail
        (with_reducible refine (c3.out _).mono ?_)
        rintro e w3 ⟨rfl, hb⟩
        have H3 : Below w.heap.size w w3 := by
          refine Below.trans ?_ (hb.mono ?_)
          · repeat (first | with_reducible assumption | with_reducible exact Below.refl _ _ | with_reducible refine Below.setCell ?_ (by first | omega | (simp [go_sem]; omega) | simp [go_sem]) _ | with_reducible refine Below.alloc ?_ (by first | omega | (simp [go_sem]; omega) | simp [go_sem]) _ | with_reducible refine below_grow ?_ (by first | omega | (simp [go_sem]; omega) | simp [go_sem]) _ _ | with_reducible refine Below.drew ?_)
          · first | omega | (simp [go_sem]; omega) | simp [go_sem]
        have S3 : w.heap.size ≤ w3.heap.size := H3.size
        have s3_0 : w.heap.size < w3.heap.size := Nat.lt_of_lt_of_le (by first | omega | (simp [go_sem]; omega) | simp [go_sem]) hb.size
        have k3_0 := fun o => hb.cell (p := ⟨w.heap.size, o, none⟩) (by first | omega | (simp [go_sem]; omega) | simp [go_sem])
        have f3_0 := fun o => hb.frozen (p := ⟨w.heap.size, o, none⟩) (by first | omega | (simp [go_sem]; omega) | simp [go_sem])
        clear hb
        go_wp2_with fail
        go_ret
        refine ⟨rfl, ?_⟩
        repeat (first | with_reducible assumption | with_reducible exact Below.refl _ _ | with_reducible refine Below.setCell ?_ (by first | omega | (simp [go_sem]; omega) | simp [go_sem]) _ | with_reducible refine Below.alloc ?_ (by first | omega | (simp [go_sem]; omega) | simp [go_sem]) _ | with_reducible refine below_grow ?_ (by first | omega | (simp [go_sem]; omega) | simp [go_sem]) _ _ | with_reducible refine Below.drew ?_)
    · go_enter Tryz.func5, Tryz.ntmps5
      go_wp2_with fail
      (with_reducible refine (c1.out _).mono ?_)
      rintro e w1 ⟨rfl, hb⟩
      have H1 : Below w.heap.size w w1 := by
        refine Below.trans ?_ (hb.mono ?_)
        · repeat (first | with_reducible assumption | with_reducible exact Below.refl _ _ | with_reducible refine Below.setCell ?_ (by first | omega | (simp [go_sem]; omega) | simp [go_sem]) _ | with_reducible refine Below.alloc ?_ (by first | omega | (simp [go_sem]; omega) | simp [go_sem]) _ | with_reducible refine below_grow ?_ (by first | omega | (simp [go_sem]; omega) | simp [go_sem]) _ _ | with_reducible refine Below.drew ?_)
        · first | omega | (simp [go_sem]; omega) | simp [go_sem]
      have S1 : w.heap.size ≤ w1.heap.size := H1.size
      have s1_0 : w.heap.size < w1.heap.size := Nat.lt_of_lt_of_le (by first | omega | (simp [go_sem]; omega) | simp [go_sem]) hb.size
      have k1_0 := fun o => hb.cell (p := ⟨w.heap.size, o, none⟩) (by first | omega | (simp [go_sem]; omega) | simp [go_sem])
      have f1_0 := fun o => hb.frozen (p := ⟨w.heap.size, o, none⟩) (by first | omega | (simp [go_sem]; omega) | simp [go_sem])
      clear hb
      go_wp2_with fail
      (with_reducible refine (c2.out _).mono ?_)
      rintro e w2 ⟨rfl, hb⟩
      have H2 : Below w.heap.size w w2 := by
        refine Below.trans ?_ (hb.mono ?_)
        · repeat (first | with_reducible assumption | with_reducible exact Below.refl _ _ | with_reducible refine Below.setCell ?_ (by first | omega | (simp [go_sem]; omega) | simp [go_sem]) _ | with_reducible refine Below.alloc ?_ (by first | omega | (simp [go_sem]; omega) | simp [go_sem]) _ | with_reducible refine below_grow ?_ (by first | omega | (simp [go_sem]; omega) | simp [go_sem]) _ _ | with_reducible refine Below.drew ?_)
        · first | omega | (simp [go_sem]; omega) | simp [go_sem]
      have S2 : w.heap.size ≤ w2.heap.size := H2.size
      have s2_0 : w.heap.size < w2.heap.size := Nat.lt_of_lt_of_le (by first | omega | (simp [go_sem]; omega) | simp [go_sem]) hb.size
      have k2_0 := fun o => hb.cell (p := ⟨w.heap.size, o, none⟩) (by first | omega | (simp [go_sem]; omega) | simp [go_sem])
      have f2_0 := fun o => hb.frozen (p := ⟨w.heap.size, o, none⟩) (by first | omega | (simp [go_sem]; omega) | simp [go_sem])
      clear hb
      go_wp2_with fail
      go_ret
      refine ⟨rfl, ?_⟩
      repeat (first | with_reducible assumption | with_reducible exact Below.refl _ _ | with_reducible refine Below.setCell ?_ (by first | omega | (simp [go_sem]; omega) | simp [go_sem]) _ | with_reducible refine Below.alloc ?_ (by first | omega | (simp [go_sem]; omega) | simp [go_sem]) _ | with_reducible refine below_grow ?_ (by first | omega | (simp [go_sem]; omega) | simp [go_sem]) _ _ | with_reducible refine Below.drew ?_)
  · go_enter Tryz.func5, Tryz.ntmps5
    go_wp2_with fail
    (with_reducible refine (c1.out _).mono ?_)
    rintro e w1 ⟨rfl, hb⟩
    have H1 : Below w.heap.size w w1 := by
      refine Below.trans ?_ (hb.mono ?_)
      · repeat (first | with_reducible assumption | with_reducible exact Below.refl _ _ | with_reducible refine Below.setCell ?_ (by first | omega | (simp [go_sem]; omega) | simp [go_sem]) _ | with_reducible refine Below.alloc ?_ (by first | omega | (simp [go_sem]; omega) | simp [go_sem]) _ | with_reducible refine below_grow ?_ (by first | omega | (simp [go_sem]; omega) | simp [go_sem]) _ _ | with_reducible refine Below.drew ?_)
      · first | omega | (simp [go_sem]; omega) | simp [go_sem]
    have S1 : w.heap.size ≤ w1.heap.size := H1.size
    have s1_0 : w.heap.size < w1.heap.size := Nat.lt_of_lt_of_le (by first | omega | (simp [go_sem]; omega) | simp [go_sem]) hb.size
    have k1_0 := fun o => hb.cell (p := ⟨w.heap.size, o, none⟩) (by first | omega | (simp [go_sem]; omega) | simp [go_sem])
    have f1_0 := fun o => hb.frozen (p := ⟨w.heap.size, o, none⟩) (by first | omega | (simp [go_sem]; omega) | simp [go_sem])
    clear hb
    go_wp2_with fail
    go_ret
    refine ⟨rfl, ?_⟩
    repeat (first | with_reducible assumption | with_reducible exact Below.refl _ _ | with_reducible refine Below.setCell ?_ (by first | omega | (simp [go_sem]; omega) | simp [go_sem]) _ | with_reducible refine Below.alloc ?_ (by first | omega | (simp [go_sem]; omega) | simp [go_sem]) _ | with_reducible refine below_grow ?_ (by first | omega | (simp [go_sem]; omega) | simp [go_sem]) _ _ | with_reducible refine Below.drew ?_)
end Go.Proofs.YtgdlehoglpiifaaGreatDoor
namespace Go.Proofs.YtgdlehoglpiifaaGreatDoor
open Go.RowKit Go.Sort

/-- The place of the slash, or the length. -/
def slashAt (l : List UInt8) : Nat := l.findIdx (fun b => b == 47)
theorem slashAt_le (l : List UInt8) : slashAt l ≤ l.length := List.findIdx_le_length
theorem slashAt_lt {l : List UInt8} {k : Nat} (h : k < slashAt l) (hk : k < l.length) : (l[k] == 47) = false := by
  have := List.not_of_lt_findIdx h
  simpa using this
theorem slashAt_at {l : List UInt8} (h : slashAt l < l.length) : (l[slashAt l] == 47) = true := List.findIdx_getElem (p := fun b => b == 47) (w := h)

theorem byte_ne {b c : UInt8} (h : (b == c) = false) : (((b.toNat : Int) == (c.toNat : Int)) = false) ∧ (¬ (b.toNat : Int) = (c.toNat : Int)) ∧ ¬ b.toNat = c.toNat := by
  have h1 : ¬ b = c := by simpa using h
  have h2 : ¬ b.toNat = c.toNat := fun e => h1 (UInt8.toNat_inj.1 e)
  exact ⟨by rw [beq_eq_false_iff_ne]; omega, by omega, h2⟩
theorem byte_eq {b c : UInt8} (h : (b == c) = true) : (((b.toNat : Int) == (c.toNat : Int)) = true) ∧ (b.toNat : Int) = (c.toNat : Int) ∧ b.toNat = c.toNat := by
  have h1 : b = c := by simpa using h
  subst h1
  exact ⟨by simp, rfl, rfl⟩

theorem qSlash (l : List UInt8) (hlen : l.length < 1000000) (w : World) : Calls Tryz.prog 73 #[.string ⟨(l).toArray⟩] w fun e w' => e = .returned (.int .i64 (slashAt l)) ∧ Below w.heap.size w w' := by
  have hle := slashAt_le l
  have hlt := fun k h hk => slashAt_lt (l := l) (k := k) h hk
  have hat := slashAt_at (l := l)
  generalize slashAt l = m at *
  go_enter Tryz.func73, Tryz.ntmps73
  go_wp2_with fail
  go_loop [3] (fun i => ∃ k : Nat, k ≤ m ∧ i = .int .i64 k) (fun i => l.length - (intOf i).toNat)
  case atStart => exact ⟨0, Nat.zero_le _, rfl⟩
  case round =>
    obtain ⟨k, hk, rfl⟩ := hrel
    by_cases hkl : k < l.length
    · have e0 : ∀ h, (⟨l.toArray⟩ : ByteArray)[k]'h = l[k]'hkl := fun _ => rfl
      by_cases hkm : k < m
      · have hb := byte_ne (hlt k hkm hkl)
        have hb1 : ((l[k].toNat : Int) == 47) = false := hb.1
        have hb2 : ¬ (l[k].toNat : Int) = 47 := hb.2.1
        have hb3 : ¬ l[k].toNat = 47 := hb.2.2
        go_wp2_with fail
        exact ⟨⟨k + 1, by omega, by go_num⟩, by simp only [intOf]; omega⟩
      · obtain rfl : k = m := by omega
        have hb := byte_eq (hat hkl)
        have hb1 : ((l[k].toNat : Int) == 47) = true := hb.1
        have hb2 : (l[k].toNat : Int) = 47 := hb.2.1
        have hb3 : l[k].toNat = 47 := hb.2.2
        go_wp2_with fail
        go_ret
        exact ⟨rfl, Below.refl _ _⟩
    · obtain rfl : m = l.length := by omega
      go_wp2_with fail
      go_ret
      exact ⟨rfl, Below.refl _ _⟩

/-- Between two rounds of gcd. -/
def GcdR (B : Nat) (w : World) (g : Nat) (x y : Value) (wr : World) : Prop := ∃ c d : Nat, x = .int .i64 c ∧ y = .int .i64 d ∧ c < 9223372036854775808 ∧ d < 9223372036854775808 ∧ Nat.gcd c d = g ∧ Below B w wr

theorem qGcd (a b : Nat) (ha : a < 9223372036854775808) (hb : b < 9223372036854775808) (w : World) : Calls Tryz.prog 40 #[.int .i64 a, .int .i64 b] w fun e w' => e = .returned (.int .i64 (Nat.gcd a b)) ∧ Below w.heap.size w w' := by
  have he : Nat.gcd a b = Nat.gcd a b := rfl
  generalize hg : Nat.gcd a b = g
  go_enter Tryz.func40, Tryz.ntmps40
  go_wp2_with fail
  go_loopw [0, 1] (fun x y wr => GcdR w.heap.size w g x y wr) (fun _ y _ => (intOf y).toNat)
  case atStart => exact ⟨a, b, rfl, rfl, ha, hb, hg, Below.refl _ _⟩
  case round =>
    obtain ⟨c, d, rfl, rfl, hc, hd', hgc, hbl⟩ := hrel
    by_cases h0 : d = 0
    · subst h0
      obtain rfl : c = g := by simpa using hgc
      go_wp2_with fail
      go_ret
      exact ⟨rfl, hbl⟩
    · have hd : 0 < d := by omega
      have hlt : c % d < d := Nat.mod_lt _ hd
      have hgc2 : Nat.gcd d (c % d) = g := by rw [← hgc, Nat.gcd_comm c d, Nat.gcd_rec d c, Nat.gcd_comm]
      go_wp2_with fail
      go_region
      all_goals (try (go_wp2_with fail))
      go_roundw
      case rel => exact ⟨d, c % d, by go_num, by go_num, by omega, by omega, hgc2, Below.drew hbl⟩
      all_goals (simp [intOf]; try omega)
end Go.Proofs.YtgdlehoglpiifaaGreatDoor
namespace Go.Proofs.YtgdlehoglpiifaaGreatDoor
open Go.RowKit Go.Sort Go.Lib

/-- The number of some digits. -/
def val (l : List UInt8) : Nat := l.foldl (fun n b => 10 * n + (b.toNat - 48)) 0
theorem val_snoc (l : List UInt8) (b : UInt8) : val (l ++ [b]) = 10 * val l + (b.toNat - 48) := by simp [val]
theorem val_dec (u : Nat) : val (decDigits u) = u := by
  induction u using Nat.strongRecOn with
  | _ u ih =>
    by_cases h : u < 10
    · rw [dec_base u h]
      have := dig_toNat u h
      simp only [val, List.foldl_cons, List.foldl_nil]
      omega
    · rw [dec_step u h, val_snoc, ih (u / 10) (by omega), dig_toNat _ (by omega)]
      omega
theorem val_take {l : List UInt8} {k : Nat} (h : k < l.length) : val (l.take (k + 1)) = 10 * val (l.take k) + (l[k].toNat - 48) := by
  rw [List.take_succ_eq_append_getElem h, val_snoc]
theorem val_lt {l : List UInt8} (hl : AllDig l) : ∀ k, k ≤ l.length → val (l.take k) < 10 ^ k := by
  intro k
  induction k with
  | zero => intro _; simp [val]
  | succ k ih =>
    intro hk
    have h1 := ih (by omega)
    have h2 := hl l[k] (List.getElem_mem _)
    rw [val_take (by omega), Nat.pow_succ]
    omega

theorem qValue (l : List UInt8) (hl : AllDig l) (hlen : l.length ≤ 18) (w : World) : Calls Tryz.prog 74 #[.string ⟨(l).toArray⟩] w fun e w' => e = .returned (.int .i64 (val l)) ∧ Below w.heap.size w w' := by
  go_enter Tryz.func74, Tryz.ntmps74
  go_wp2_with fail
  go_loop [3, 4] (fun n i => ∃ k : Nat, k ≤ l.length ∧ i = .int .i64 k ∧ n = .int .i64 (val (l.take k))) (fun _ i => l.length - (RowKit.intOf i).toNat)
  case atStart => exact ⟨0, Nat.zero_le _, rfl, rfl⟩
  case round =>
    obtain ⟨k, hk, rfl, rfl⟩ := hrel
    by_cases hkl : k < l.length
    · have e0 : ∀ h, (⟨l.toArray⟩ : ByteArray)[k]'h = l[k]'hkl := fun _ => rfl
      have hd := hl l[k] (List.getElem_mem _)
      have hv := val_take hkl
      have hm := val_lt hl k hk
      have hp : (10 : Nat) ^ k ≤ 10 ^ 17 := Nat.pow_le_pow_right (by omega) (by omega)
      have hq : val (l.take k) < 100000000000000000 := Nat.lt_of_lt_of_le hm hp
      clear hm hp
      generalize val (l.take k) = v at *
      go_wp2_with fail
      refine ⟨⟨k + 1, by omega, by go_num, ?_⟩, by simp only [RowKit.intOf]; omega⟩
      rw [hv]
      exact congrArg (Value.int .i64) (by omega)
    · obtain rfl : k = l.length := by omega
      rw [List.take_length]
      go_wp2_with fail
      go_ret
      exact ⟨rfl, Below.refl _ _⟩

/-- Between two rounds of decimal. -/
def DecR (n m : Nat) (s : List UInt8) : Prop := (s = [] ∧ m = n) ∨ (s ≠ [] ∧ m = 0 ∧ s = decDigits n) ∨ (s ≠ [] ∧ 0 < m ∧ decDigits m ++ s = decDigits n)
theorem DecR.step {n m : Nat} {s : List UInt8} (h : DecR n m s) (hg : 0 < m ∨ s = []) : DecR n (m / 10) (UInt8.ofNat (48 + m % 10) :: s) := by
  have key : ∀ t, decDigits m ++ s = t → (m / 10 = 0 → UInt8.ofNat (48 + m % 10) :: s = t) ∧ (0 < m / 10 → decDigits (m / 10) ++ UInt8.ofNat (48 + m % 10) :: s = t) := by
    intro t ht
    refine ⟨fun h0 => ?_, fun h0 => ?_⟩
    · rw [dec_base m (by omega)] at ht
      rw [show m % 10 = m by omega]; simpa using ht
    · rw [dec_step m (by omega)] at ht
      simpa using ht
  have hcase : decDigits m ++ s = decDigits n := by
    rcases h with ⟨rfl, rfl⟩ | ⟨h1, h2, h3⟩ | ⟨_, _, h3⟩
    · simp
    · rcases hg with hg | hg
      · omega
      · exact absurd hg h1
    · exact h3
  have hk := key _ hcase
  by_cases h0 : m / 10 = 0
  · exact .inr (.inl ⟨by simp, h0, hk.1 h0⟩)
  · exact .inr (.inr ⟨by simp, by omega, hk.2 (by omega)⟩)
theorem DecR.len {n m : Nat} {s : List UInt8} (h : DecR n m s) (hn : n < 10 ^ 19) : s.length ≤ 19 := by
  have hl := dec_len (k := 19) (by omega) hn
  rcases h with ⟨rfl, rfl⟩ | ⟨h1, h2, h3⟩ | ⟨_, _, h3⟩
  · simp
  · rw [h3]; exact hl
  · have := congrArg List.length h3
    simp at this
    omega

theorem digit_cut (d : Nat) (h : d < 10) : (⟨#[48, 49, 50, 51, 52, 53, 54, 55, 56, 57]⟩ : ByteArray).extract d (d + 1) = ⟨[UInt8.ofNat (48 + d)].toArray⟩ := by
  rcases d with _ | _ | _ | _ | _ | _ | _ | _ | _ | _ | d
  all_goals first | omega | decide
theorem dec_put (m : Nat) (s : List UInt8) : (⟨#[48, 49, 50, 51, 52, 53, 54, 55, 56, 57]⟩ : ByteArray).extract (m % 10) (m % 10 + 1) ++ ⟨s.toArray⟩ = ⟨(UInt8.ofNat (48 + m % 10) :: s).toArray⟩ := by
  rw [digit_cut _ (Nat.mod_lt _ (by omega)), bcat]; rfl

theorem qDecimal (n : Nat) (hn : n < 9223372036854775808) (w : World) : Calls Tryz.prog 41 #[.int .i64 n, .int .i64 1] w fun e w' => e = .returned (.string ⟨(decDigits n).toArray⟩) ∧ Below w.heap.size w w' := by
  go_enter Tryz.func41, Tryz.ntmps41
  go_wp2_with fail
  go_loop [0, 5] (fun x y => ∃ (m : Nat) (s : List UInt8), m < 9223372036854775808 ∧ DecR n m s ∧ x = .int .i64 m ∧ y = .string ⟨(s).toArray⟩) (fun x y => (RowKit.intOf x).toNat + (match y with | .string b => if b.size = 0 then 1 else 0 | _ => 0))
  case atStart => exact ⟨n, [], hn, .inl ⟨rfl, rfl⟩, rfl, rfl⟩
  case round =>
    obtain ⟨m, s, hm, hr, rfl, rfl⟩ := hrel
    have hlen := hr.len (by omega)
    by_cases hg : 0 < m
    · have hst := hr.step (.inl hg)
      go_wp2_with fail
      rw [dec_put]
      refine ⟨⟨m / 10, _, by omega, hst, by go_num, rfl⟩, ?_⟩
      simp only [RowKit.intOf]
      rw [if_neg (show ¬ ((⟨(UInt8.ofNat (48 + m % 10) :: s).toArray⟩ : ByteArray).size = 0) from by show ¬ (s.length + 1 = 0); omega)]
      split <;> omega
    · obtain rfl : m = 0 := by omega
      by_cases hs : s = []
      · subst hs
        have hst := hr.step (.inr rfl)
        go_wp2_with fail
        exact ⟨⟨0, UInt8.ofNat 48 :: [], by omega, hst, rfl, congrArg Value.string (dec_put 0 [])⟩, by decide⟩
      · have hz : 1 ≤ s.length := by cases s with | nil => exact absurd rfl hs | cons b t => simp
        obtain rfl : s = decDigits n := by
          rcases hr with ⟨h1, _⟩ | ⟨_, _, h3⟩ | ⟨_, h2, _⟩
          · exact absurd h1 hs
          · exact h3
          · omega
        have hz1 : decide (((decDigits n).length : Int) < 1) = false := decide_eq_false (by omega)
        have hz2 : ¬ ((decDigits n).length : Int) < 1 := by omega
        go_wp2_with fail
        go_ret
        exact ⟨rfl, Below.refl _ _⟩
end Go.Proofs.YtgdlehoglpiifaaGreatDoor
namespace Go.Proofs.YtgdlehoglpiifaaGreatDoor
open Go.RowKit Go.Sort Go.Lib

theorem cut_left (a b : List UInt8) : (⟨(a ++ b).toArray⟩ : ByteArray).extract 0 a.length = ⟨a.toArray⟩ := by
  apply ByteArray.ext
  simp [ByteArray.data_extract]
theorem cut_right (a b : List UInt8) : (⟨(a ++ b).toArray⟩ : ByteArray).extract a.length (a ++ b).length = ⟨b.toArray⟩ := by
  apply ByteArray.ext
  simp [ByteArray.data_extract]
theorem slashAt_none {l : List UInt8} (h : ∀ b ∈ l, b ≠ 47) : slashAt l = l.length := by
  unfold slashAt
  exact List.findIdx_eq_length.2 (fun b hb => by simpa using h b hb)
theorem slashAt_some {l r : List UInt8} (h : ∀ b ∈ l, b ≠ 47) : slashAt (l ++ 47 :: r) = l.length := by
  unfold slashAt
  rw [List.findIdx_append, if_neg]
  · simp [List.findIdx_cons]
  · have h2 : List.findIdx (fun b => b == 47) l = l.length := slashAt_none h
    omega
theorem dec_noslash (m : Nat) : ∀ b ∈ decDigits m, b ≠ 47 := by
  intro b hb e
  have := dec_all m b hb
  rw [e] at this
  exact absurd this.1 (by decide)

theorem qQuick0 (m : Nat) (hm : m < 1000000000) (w : World) : Calls Tryz.prog 34 #[.string ⟨(decDigits m).toArray⟩] w fun e w' => e = .returned (.tuple #[.int .i64 m, .int .i64 1, .bool true]) ∧ Below w.heap.size w w' := by
  have hl : (decDigits m).length ≤ 9 := dec_len (by omega) (by omega)
  have hs := slashAt_none (dec_noslash m)
  have c1 := Lib.hid (fun w => qSlash (decDigits m) (by omega) w)
  rw [hs] at c1
  have c2 := Lib.hid (fun w => qValue (decDigits m) (dec_all m) (by omega) w)
  rw [val_dec] at c2
  have hx := cut_left (decDigits m) []
  rw [List.append_nil] at hx
  obtain ⟨b, t, hbt, h1, h2⟩ := dec_head m
  rw [hbt] at c1 c2 hx hl ⊢
  simp only [List.length_cons] at hl hx c1
  have hb1 : ((b.toNat : Int) == 45) = false := by rw [beq_eq_false_iff_ne]; omega
  have hb2 : ¬ (b.toNat : Int) = 45 := by omega
  have hb3 : ¬ b.toNat = 45 := by omega
  have e0 : ∀ h, (⟨(b :: t).toArray⟩ : ByteArray)[0]'h = b := fun _ => rfl
  clear hs hbt h1 h2
  go_enter Tryz.func34, Tryz.ntmps34
  go_wp2_with fail
  (with_reducible refine (c1.out _).mono ?_)
  rintro e w1 ⟨rfl, hb1⟩
  obtain ⟨⟨dq, osq⟩, rfl⟩ := regrown_of_below hb1
  clear hb1
  go_wp2_with fail
  (with_reducible refine (c2.out _).mono ?_)
  rintro e w1 ⟨rfl, hb1⟩
  obtain ⟨⟨dq, osq⟩, rfl⟩ := regrown_of_below hb1
  clear hb1
  go_wp2_with fail
  go_ret3
  refine ⟨rfl, ?_⟩
  repeat (first | with_reducible assumption | with_reducible exact Below.refl _ _ | with_reducible refine Below.setCell ?_ (by first | omega | (simp [go_sem]; omega) | simp [go_sem]) _ | with_reducible refine Below.alloc ?_ (by first | omega | (simp [go_sem]; omega) | simp [go_sem]) _ | with_reducible refine below_grow ?_ (by first | omega | (simp [go_sem]; omega) | simp [go_sem]) _ _ | with_reducible refine Below.drew ?_)

theorem qQuick1 (m d : Nat) (hm : m < 1000000000) (hd : d < 1000000000) (w : World) : Calls Tryz.prog 34 #[.string ⟨(decDigits m ++ 47 :: decDigits d).toArray⟩] w fun e w' => e = .returned (.tuple #[.int .i64 m, .int .i64 d, .bool true]) ∧ Below w.heap.size w w' := by
  have hl : (decDigits m).length ≤ 9 := dec_len (by omega) (by omega)
  have hl2 : (decDigits d).length ≤ 9 := dec_len (by omega) (by omega)
  have hs := slashAt_some (r := decDigits d) (dec_noslash m)
  have c1 := Lib.hid (fun w => qSlash (decDigits m ++ 47 :: decDigits d) (by simp; omega) w)
  rw [hs] at c1
  have c2 := Lib.hid (fun w => qValue (decDigits m) (dec_all m) (by omega) w)
  have c3 := Lib.hid (fun w => qValue (decDigits d) (dec_all d) (by omega) w)
  rw [val_dec] at c2 c3
  have hx := cut_left (decDigits m) (47 :: decDigits d)
  have hy := cut_right (decDigits m ++ [47]) (decDigits d)
  rw [List.append_assoc] at hy
  simp only [List.length_append, List.length_cons, List.length_nil, List.cons_append, List.nil_append] at hx hy
  obtain ⟨b, t, hbt, h1, h2⟩ := dec_head m
  rw [hbt] at c1 c2 hx hy hl ⊢
  simp only [List.length_cons, List.cons_append] at hl hx hy c1 ⊢
  have hb1 : ((b.toNat : Int) == 45) = false := by rw [beq_eq_false_iff_ne]; omega
  have hb2 : ¬ (b.toNat : Int) = 45 := by omega
  have hb3 : ¬ b.toNat = 45 := by omega
  have e0 : ∀ h, (⟨(b :: (t ++ 47 :: decDigits d)).toArray⟩ : ByteArray)[0]'h = b := fun _ => rfl
  clear hs hbt h1 h2
  generalize decDigits d = u at *
  have hy' : (⟨(b :: (t ++ 47 :: u)).toArray⟩ : ByteArray).extract (t.length + 1 + 1) (t.length + (u.length + 1) + 1) = ⟨u.toArray⟩ := by
    rw [← hy]; congr 1; omega
  go_enter Tryz.func34, Tryz.ntmps34
  go_wp2_with fail
  (with_reducible refine (c1.out _).mono ?_)
  rintro e w1 ⟨rfl, hb1⟩
  obtain ⟨⟨dq, osq⟩, rfl⟩ := regrown_of_below hb1
  clear hb1
  go_wp2_with fail
  (with_reducible refine (c2.out _).mono ?_)
  rintro e w1 ⟨rfl, hb1⟩
  obtain ⟨⟨dq, osq⟩, rfl⟩ := regrown_of_below hb1
  clear hb1
  go_wp2_with fail
  (with_reducible refine (c3.out _).mono ?_)
  rintro e w1 ⟨rfl, hb1⟩
  obtain ⟨⟨dq, osq⟩, rfl⟩ := regrown_of_below hb1
  clear hb1
  go_wp2_with fail
  go_ret3
  refine ⟨rfl, ?_⟩
  repeat (first | with_reducible assumption | with_reducible exact Below.refl _ _ | with_reducible refine Below.setCell ?_ (by first | omega | (simp [go_sem]; omega) | simp [go_sem]) _ | with_reducible refine Below.alloc ?_ (by first | omega | (simp [go_sem]; omega) | simp [go_sem]) _ | with_reducible refine below_grow ?_ (by first | omega | (simp [go_sem]; omega) | simp [go_sem]) _ _ | with_reducible refine Below.drew ?_)

theorem cut_sign (l : List UInt8) : (⟨(45 :: l).toArray⟩ : ByteArray).extract 1 (l.length + 1) = ⟨l.toArray⟩ := by
  have := cut_right [45] l
  simpa [Nat.add_comm] using this

theorem qQuick0n (m : Nat) (hm : m < 1000000000) (w : World) : Calls Tryz.prog 34 #[.string ⟨(45 :: decDigits m).toArray⟩] w fun e w' => e = .returned (.tuple #[.int .i64 (-(m : Int)), .int .i64 1, .bool true]) ∧ Below w.heap.size w w' := by
  have hl : (decDigits m).length ≤ 9 := dec_len (by omega) (by omega)
  have hs := slashAt_none (dec_noslash m)
  have c1 := Lib.hid (fun w => qSlash (decDigits m) (by omega) w)
  rw [hs] at c1
  have c2 := Lib.hid (fun w => qValue (decDigits m) (dec_all m) (by omega) w)
  rw [val_dec] at c2
  have hx := cut_left (decDigits m) []
  rw [List.append_nil] at hx
  have hz := cut_sign (decDigits m)
  have e0 : ∀ h, (⟨(45 :: decDigits m).toArray⟩ : ByteArray)[0]'h = 45 := fun _ => rfl
  clear hs
  generalize decDigits m = l at *
  go_enter Tryz.func34, Tryz.ntmps34
  go_wp2_with fail
  (with_reducible refine (c1.out _).mono ?_)
  rintro e w1 ⟨rfl, hb1⟩
  obtain ⟨⟨dq, osq⟩, rfl⟩ := regrown_of_below hb1
  clear hb1
  go_wp2_with fail
  (with_reducible refine (c2.out _).mono ?_)
  rintro e w1 ⟨rfl, hb1⟩
  obtain ⟨⟨dq, osq⟩, rfl⟩ := regrown_of_below hb1
  clear hb1
  go_wp2_with fail
  go_ret3
  refine ⟨rfl, ?_⟩
  repeat (first | with_reducible assumption | with_reducible exact Below.refl _ _ | with_reducible refine Below.setCell ?_ (by first | omega | (simp [go_sem]; omega) | simp [go_sem]) _ | with_reducible refine Below.alloc ?_ (by first | omega | (simp [go_sem]; omega) | simp [go_sem]) _ | with_reducible refine below_grow ?_ (by first | omega | (simp [go_sem]; omega) | simp [go_sem]) _ _ | with_reducible refine Below.drew ?_)

theorem qQuick1n (m d : Nat) (hm : m < 1000000000) (hd : d < 1000000000) (w : World) : Calls Tryz.prog 34 #[.string ⟨(45 :: (decDigits m ++ 47 :: decDigits d)).toArray⟩] w fun e w' => e = .returned (.tuple #[.int .i64 (-(m : Int)), .int .i64 d, .bool true]) ∧ Below w.heap.size w w' := by
  have hl : (decDigits m).length ≤ 9 := dec_len (by omega) (by omega)
  have hl2 : (decDigits d).length ≤ 9 := dec_len (by omega) (by omega)
  have hs := slashAt_some (r := decDigits d) (dec_noslash m)
  have c1 := Lib.hid (fun w => qSlash (decDigits m ++ 47 :: decDigits d) (by simp; omega) w)
  rw [hs] at c1
  have c2 := Lib.hid (fun w => qValue (decDigits m) (dec_all m) (by omega) w)
  have c3 := Lib.hid (fun w => qValue (decDigits d) (dec_all d) (by omega) w)
  rw [val_dec] at c2 c3
  have hx := cut_left (decDigits m) (47 :: decDigits d)
  have hy := cut_right (decDigits m ++ [47]) (decDigits d)
  rw [List.append_assoc] at hy
  simp only [List.length_append, List.length_cons, List.length_nil, List.cons_append, List.nil_append] at hx hy
  have hz := cut_sign (decDigits m ++ 47 :: decDigits d)
  simp only [List.length_append, List.length_cons] at hz
  have e0 : ∀ h, (⟨(45 :: (decDigits m ++ 47 :: decDigits d)).toArray⟩ : ByteArray)[0]'h = 45 := fun _ => rfl
  clear hs
  generalize decDigits m = l at *
  generalize decDigits d = u at *
  have hy' : (⟨(l ++ 47 :: u).toArray⟩ : ByteArray).extract (l.length + 1) (l.length + (u.length + 1)) = ⟨u.toArray⟩ := by
    rw [← hy]
  go_enter Tryz.func34, Tryz.ntmps34
  go_wp2_with fail
  (with_reducible refine (c1.out _).mono ?_)
  rintro e w1 ⟨rfl, hb1⟩
  obtain ⟨⟨dq, osq⟩, rfl⟩ := regrown_of_below hb1
  clear hb1
  go_wp2_with fail
  (with_reducible refine (c2.out _).mono ?_)
  rintro e w1 ⟨rfl, hb1⟩
  obtain ⟨⟨dq, osq⟩, rfl⟩ := regrown_of_below hb1
  clear hb1
  go_wp2_with fail
  (with_reducible refine (c3.out _).mono ?_)
  rintro e w1 ⟨rfl, hb1⟩
  obtain ⟨⟨dq, osq⟩, rfl⟩ := regrown_of_below hb1
  clear hb1
  go_wp2_with fail
  go_ret3
  refine ⟨rfl, ?_⟩
  repeat (first | with_reducible assumption | with_reducible exact Below.refl _ _ | with_reducible refine Below.setCell ?_ (by first | omega | (simp [go_sem]; omega) | simp [go_sem]) _ | with_reducible refine Below.alloc ?_ (by first | omega | (simp [go_sem]; omega) | simp [go_sem]) _ | with_reducible refine below_grow ?_ (by first | omega | (simp [go_sem]; omega) | simp [go_sem]) _ _ | with_reducible refine Below.drew ?_)
end Go.Proofs.YtgdlehoglpiifaaGreatDoor
namespace Go.Proofs.YtgdlehoglpiifaaGreatDoor
open Go.RowKit Go.Sort Go.Lib

/-- What Of writes. -/
def ofT (neg : Bool) (p e : Nat) : List UInt8 := (if neg then [45] else []) ++ decDigits p ++ (if 1 < e then 47 :: decDigits e else [])

theorem cat2 (s p : List UInt8) : (⟨s.toArray⟩ ++ ⟨p.toArray⟩ : ByteArray) = ⟨(s ++ p ++ []).toArray⟩ := by rw [bcat, List.append_nil]
theorem cat4 (s p e : List UInt8) : (⟨s.toArray⟩ ++ ⟨p.toArray⟩ ++ ⟨#[47]⟩ ++ ⟨e.toArray⟩ : ByteArray) = ⟨(s ++ p ++ 47 :: e).toArray⟩ := by
  rw [bcat, show (⟨#[47]⟩ : ByteArray) = ⟨[47].toArray⟩ from rfl, bcat, bcat]
  simp

theorem qOfPos (M D : Nat) (hM : M ≤ 4000000000000000000) (hD : D ≤ 4000000000000000000) (hD0 : 0 < D) (w : World) : Calls Tryz.prog 11 #[.int .i64 M, .int .i64 D] w fun e w' => e = .returned (.string ⟨(ofT false (M / Nat.gcd M D) (D / Nat.gcd M D)).toArray⟩) ∧ Below w.heap.size w w' := by
  have hg : 0 < Nat.gcd M D := Nat.gcd_pos_of_pos_right _ hD0
  have hp1 : M / Nat.gcd M D ≤ M := Nat.div_le_self _ _
  have he1 : D / Nat.gcd M D ≤ D := Nat.div_le_self _ _
  have he0 : 0 < D / Nat.gcd M D := Nat.div_pos (Nat.gcd_le_right _ hD0) hg
  have hgl : Nat.gcd M D ≤ D := Nat.gcd_le_right _ hD0
  have c1 := Lib.hid (fun w => qGcd M D (by omega) (by omega) w)
  have c2 := Lib.hid (fun w => qDecimal (M / Nat.gcd M D) (by omega) w)
  have c3 := Lib.hid (fun w => qDecimal (D / Nat.gcd M D) (by omega) w)
  have hq1 : (M : Int) / ((Nat.gcd M D : Nat) : Int) = ((M / Nat.gcd M D : Nat) : Int) := by simp
  have hq2 : (D : Int) / ((Nat.gcd M D : Nat) : Int) = ((D / Nat.gcd M D : Nat) : Int) := by simp
  have hl1 : (decDigits (M / Nat.gcd M D)).length ≤ 19 := dec_len (by omega) (by omega)
  have hl2 : (decDigits (D / Nat.gcd M D)).length ≤ 19 := dec_len (by omega) (by omega)
  generalize M / Nat.gcd M D = p at *
  generalize D / Nat.gcd M D = e at *
  generalize Nat.gcd M D = g at *
  have hm1 : max (M : Int) (-(M : Int)) = M := by omega
  have hm2 : max (p : Int) (-(p : Int)) = p := by omega
  unfold ofT
  by_cases h1 : 1 < e
  · rw [if_pos h1]
    go_enter Tryz.func11, Tryz.ntmps11
    go_wp2_with fail
    (with_reducible refine (c1.out _).mono ?_)
    rintro e w1 ⟨rfl, hb1⟩
    obtain ⟨⟨dq, osq⟩, rfl⟩ := regrown_of_below hb1
    clear hb1
    go_wp2_with fail
    go_region
    all_goals (try (go_wp2_with fail))
    (with_reducible refine (c2.out _).mono ?_)
    rintro e w1 ⟨rfl, hb1⟩
    obtain ⟨⟨dq, osq⟩, rfl⟩ := regrown_of_below hb1
    clear hb1
    go_wp2_with fail
    (with_reducible refine (c3.out _).mono ?_)
    rintro e w1 ⟨rfl, hb1⟩
    obtain ⟨⟨dq, osq⟩, rfl⟩ := regrown_of_below hb1
    clear hb1
    go_wp2_with fail
    go_ret
    refine ⟨(congrArg (fun b => Ending.returned (.string b)) (cat4 [] (decDigits p) (decDigits e))), ?_⟩
    repeat (first | with_reducible assumption | with_reducible exact Below.refl _ _ | with_reducible refine Below.setCell ?_ (by first | omega | (simp [go_sem]; omega) | simp [go_sem]) _ | with_reducible refine Below.alloc ?_ (by first | omega | (simp [go_sem]; omega) | simp [go_sem]) _ | with_reducible refine below_grow ?_ (by first | omega | (simp [go_sem]; omega) | simp [go_sem]) _ _ | with_reducible refine Below.drew ?_)
  · rw [if_neg h1]
    go_enter Tryz.func11, Tryz.ntmps11
    go_wp2_with fail
    (with_reducible refine (c1.out _).mono ?_)
    rintro e w1 ⟨rfl, hb1⟩
    obtain ⟨⟨dq, osq⟩, rfl⟩ := regrown_of_below hb1
    clear hb1
    go_wp2_with fail
    go_region
    all_goals (try (go_wp2_with fail))
    (with_reducible refine (c2.out _).mono ?_)
    rintro e w1 ⟨rfl, hb1⟩
    obtain ⟨⟨dq, osq⟩, rfl⟩ := regrown_of_below hb1
    clear hb1
    go_wp2_with fail
    go_ret
    refine ⟨(congrArg (fun b => Ending.returned (.string b)) (bcat [] (decDigits p))), ?_⟩
    repeat (first | with_reducible assumption | with_reducible exact Below.refl _ _ | with_reducible refine Below.setCell ?_ (by first | omega | (simp [go_sem]; omega) | simp [go_sem]) _ | with_reducible refine Below.alloc ?_ (by first | omega | (simp [go_sem]; omega) | simp [go_sem]) _ | with_reducible refine below_grow ?_ (by first | omega | (simp [go_sem]; omega) | simp [go_sem]) _ _ | with_reducible refine Below.drew ?_)
theorem qOfNeg (M D : Nat) (hM0 : 0 < M) (hM : M ≤ 4000000000000000000) (hD : D ≤ 4000000000000000000) (hD0 : 0 < D) (w : World) : Calls Tryz.prog 11 #[.int .i64 (-(M : Int)), .int .i64 D] w fun e w' => e = .returned (.string ⟨(ofT true (M / Nat.gcd M D) (D / Nat.gcd M D)).toArray⟩) ∧ Below w.heap.size w w' := by
  have hg : 0 < Nat.gcd M D := Nat.gcd_pos_of_pos_right _ hD0
  have hp1 : M / Nat.gcd M D ≤ M := Nat.div_le_self _ _
  have he1 : D / Nat.gcd M D ≤ D := Nat.div_le_self _ _
  have he0 : 0 < D / Nat.gcd M D := Nat.div_pos (Nat.gcd_le_right _ hD0) hg
  have hgl : Nat.gcd M D ≤ D := Nat.gcd_le_right _ hD0
  have c1 := Lib.hid (fun w => qGcd M D (by omega) (by omega) w)
  have c2 := Lib.hid (fun w => qDecimal (M / Nat.gcd M D) (by omega) w)
  have c3 := Lib.hid (fun w => qDecimal (D / Nat.gcd M D) (by omega) w)
  have hq1 : (-(M : Int)).tdiv ((Nat.gcd M D : Nat) : Int) = -((M / Nat.gcd M D : Nat) : Int) := by rw [Int.neg_tdiv]; rfl
  have hp0 : 0 < M / Nat.gcd M D := Nat.div_pos (Nat.gcd_le_left _ hM0) hg
  have hq2 : (D : Int) / ((Nat.gcd M D : Nat) : Int) = ((D / Nat.gcd M D : Nat) : Int) := by simp
  have hl1 : (decDigits (M / Nat.gcd M D)).length ≤ 19 := dec_len (by omega) (by omega)
  have hl2 : (decDigits (D / Nat.gcd M D)).length ≤ 19 := dec_len (by omega) (by omega)
  generalize M / Nat.gcd M D = p at *
  generalize D / Nat.gcd M D = e at *
  generalize Nat.gcd M D = g at *
  have hm1 : max (-(M : Int)) (M : Int) = M := by omega
  have hm2 : max (-(p : Int)) (p : Int) = p := by omega
  unfold ofT
  by_cases h1 : 1 < e
  · rw [if_pos h1]
    go_enter Tryz.func11, Tryz.ntmps11
    go_wp2_with fail
    (with_reducible refine (c1.out _).mono ?_)
    rintro e w1 ⟨rfl, hb1⟩
    obtain ⟨⟨dq, osq⟩, rfl⟩ := regrown_of_below hb1
    clear hb1
    go_wp2_with fail
    go_region
    all_goals (try (go_wp2_with fail))
    (with_reducible refine (c2.out _).mono ?_)
    rintro e w1 ⟨rfl, hb1⟩
    obtain ⟨⟨dq, osq⟩, rfl⟩ := regrown_of_below hb1
    clear hb1
    go_wp2_with fail
    (with_reducible refine (c3.out _).mono ?_)
    rintro e w1 ⟨rfl, hb1⟩
    obtain ⟨⟨dq, osq⟩, rfl⟩ := regrown_of_below hb1
    clear hb1
    go_wp2_with fail
    go_ret
    refine ⟨(congrArg (fun b => Ending.returned (.string b)) (cat4 [45] (decDigits p) (decDigits e))), ?_⟩
    repeat (first | with_reducible assumption | with_reducible exact Below.refl _ _ | with_reducible refine Below.setCell ?_ (by first | omega | (simp [go_sem]; omega) | simp [go_sem]) _ | with_reducible refine Below.alloc ?_ (by first | omega | (simp [go_sem]; omega) | simp [go_sem]) _ | with_reducible refine below_grow ?_ (by first | omega | (simp [go_sem]; omega) | simp [go_sem]) _ _ | with_reducible refine Below.drew ?_)
  · rw [if_neg h1]
    go_enter Tryz.func11, Tryz.ntmps11
    go_wp2_with fail
    (with_reducible refine (c1.out _).mono ?_)
    rintro e w1 ⟨rfl, hb1⟩
    obtain ⟨⟨dq, osq⟩, rfl⟩ := regrown_of_below hb1
    clear hb1
    go_wp2_with fail
    go_region
    all_goals (try (go_wp2_with fail))
    (with_reducible refine (c2.out _).mono ?_)
    rintro e w1 ⟨rfl, hb1⟩
    obtain ⟨⟨dq, osq⟩, rfl⟩ := regrown_of_below hb1
    clear hb1
    go_wp2_with fail
    go_ret
    refine ⟨(congrArg (fun b => Ending.returned (.string b)) (bcat [45] (decDigits p))), ?_⟩
    repeat (first | with_reducible assumption | with_reducible exact Below.refl _ _ | with_reducible refine Below.setCell ?_ (by first | omega | (simp [go_sem]; omega) | simp [go_sem]) _ | with_reducible refine Below.alloc ?_ (by first | omega | (simp [go_sem]; omega) | simp [go_sem]) _ | with_reducible refine below_grow ?_ (by first | omega | (simp [go_sem]; omega) | simp [go_sem]) _ _ | with_reducible refine Below.drew ?_)
end Go.Proofs.YtgdlehoglpiifaaGreatDoor
namespace Go.Proofs.YtgdlehoglpiifaaGreatDoor
open Go.RowKit Go.Sort Go.Lib

theorem ofT_rtx (p e : Nat) (he : 0 < e) : ofT false p e = rtx p e := by
  unfold ofT rtx
  rw [itoa_nat, itoa_nat]
  simp only [Bool.false_eq_true, if_false]
  by_cases h : 1 < e
  · rw [if_pos h, if_neg (show ¬ (e : Int) = 1 by omega)]; rfl
  · rw [if_neg h, if_pos (show (e : Int) = 1 by omega)]; simp
theorem ofT_rtxn (p e : Nat) (hp : 0 < p) (he : 0 < e) : ofT true p e = rtx (-(p : Int)) e := by
  rw [rtx_neg p e hp, ← ofT_rtx p e he]
  rfl
theorem qn_nat (M D : Nat) : qn (M : Int) (D : Int) = ((M / Nat.gcd M D : Nat) : Int) ∧ qd (M : Int) (D : Int) = ((D / Nat.gcd M D : Nat) : Int) := by
  unfold qn qd
  simp [Int.gcd]
theorem qn_negnat (M D : Nat) : qn (-(M : Int)) (D : Int) = -((M / Nat.gcd M D : Nat) : Int) ∧ qd (-(M : Int)) (D : Int) = ((D / Nat.gcd M D : Nat) : Int) := by
  unfold qn qd
  refine ⟨?_, by simp [Int.gcd]⟩
  have hd : ((Nat.gcd M D : Nat) : Int) ∣ (M : Int) := Int.ofNat_dvd.2 (Nat.gcd_dvd_left M D)
  rw [show Int.gcd (-(M : Int)) (D : Int) = Nat.gcd M D from by simp [Int.gcd], Int.neg_ediv_of_dvd hd]
  rfl

theorem qOf (n d : Int) (hn : -4000000000000000000 ≤ n ∧ n ≤ 4000000000000000000) (hd : 1 ≤ d ∧ d ≤ 4000000000000000000) (w : World) : Calls Tryz.prog 11 #[.int .i64 n, .int .i64 d] w fun e w' => e = .returned (.string ⟨(rtx (qn n d) (qd n d)).toArray⟩) ∧ Below w.heap.size w w' := by
  obtain ⟨D, rfl⟩ : ∃ D : Nat, d = (D : Int) := ⟨d.toNat, by omega⟩
  have hD0 : 0 < D := by omega
  by_cases h : 0 ≤ n
  · obtain ⟨M, rfl⟩ : ∃ M : Nat, n = (M : Int) := ⟨n.toNat, by omega⟩
    have he0 : 0 < D / Nat.gcd M D := Nat.div_pos (Nat.gcd_le_right _ hD0) (Nat.gcd_pos_of_pos_right _ hD0)
    have := qOfPos M D (by omega) (by omega) hD0 w
    rw [ofT_rtx _ _ he0] at this
    rwa [(qn_nat M D).1, (qn_nat M D).2]
  · obtain ⟨M, rfl⟩ : ∃ M : Nat, n = -(M : Int) := ⟨n.natAbs, by omega⟩
    have hM0 : 0 < M := by omega
    have hg : 0 < Nat.gcd M D := Nat.gcd_pos_of_pos_right _ hD0
    have he0 : 0 < D / Nat.gcd M D := Nat.div_pos (Nat.gcd_le_right _ hD0) hg
    have hp0 : 0 < M / Nat.gcd M D := Nat.div_pos (Nat.gcd_le_left _ hM0) hg
    have := qOfNeg M D hM0 (by omega) (by omega) hD0 w
    rw [ofT_rtxn _ _ hp0 he0] at this
    rwa [(qn_negnat M D).1, (qn_negnat M D).2]

theorem qQuick (n d : Int) (hn : -999999999 ≤ n ∧ n ≤ 999999999) (hd : 1 ≤ d ∧ d ≤ 999999999) (w : World) : Calls Tryz.prog 34 #[.string ⟨(rtx n d).toArray⟩] w fun e w' => e = .returned (.tuple #[.int .i64 n, .int .i64 d, .bool true]) ∧ Below w.heap.size w w' := by
  obtain ⟨D, rfl⟩ : ∃ D : Nat, d = (D : Int) := ⟨d.toNat, by omega⟩
  by_cases h : 0 ≤ n
  · obtain ⟨M, rfl⟩ : ∃ M : Nat, n = (M : Int) := ⟨n.toNat, by omega⟩
    unfold rtx
    rw [itoa_nat, itoa_nat]
    by_cases h1 : (D : Int) = 1
    · rw [if_pos h1, h1]
      exact qQuick0 M (by omega) w
    · rw [if_neg h1]
      exact qQuick1 M D (by omega) (by omega) w
  · obtain ⟨M, rfl⟩ : ∃ M : Nat, n = -(M : Int) := ⟨n.natAbs, by omega⟩
    unfold rtx
    rw [itoa_neg M (by omega), itoa_nat]
    by_cases h1 : (D : Int) = 1
    · rw [if_pos h1, h1]
      exact qQuick0n M (by omega) w
    · rw [if_neg h1]
      exact qQuick1n M D (by omega) (by omega) w
end Go.Proofs.YtgdlehoglpiifaaGreatDoor
namespace Go.Proofs.YtgdlehoglpiifaaGreatDoor
open Go.RowKit Go.Sort Go.Lib

/-- A short number. -/
theorem Bd.quick {r : Rat} {A B : Int} (h : Bd r A B) (hA : A ≤ 999999999) (hB : B ≤ 999999999) (w : World) : Calls Tryz.prog 34 #[.string ⟨(rt r).toArray⟩] w fun e w' => e = .returned (.tuple #[.int .i64 r.num, .int .i64 (r.den : Int), .bool true]) ∧ Below w.heap.size w w' :=
  qQuick r.num r.den ⟨by have := h.lo; omega, by have := h.hi; omega⟩ ⟨den_pos r, by have := h.den; omega⟩ w

theorem qAdd (r s : Rat) {A B A' B' : Int} (h : Bd r A B) (h' : Bd s A' B') (hs : A ≤ 999999999 ∧ B ≤ 999999999 ∧ A' ≤ 999999999 ∧ B' ≤ 999999999 ∧ A * B' + A' * B ≤ 4000000000000000000 ∧ B * B' ≤ 4000000000000000000) (w : World) : Calls Tryz.prog 8 #[.string ⟨(rt r).toArray⟩, .string ⟨(rt s).toArray⟩] w fun e w' => e = .returned (.string ⟨(rt (r + s)).toArray⟩) ∧ Below w.heap.size w w' := by
  have c1 := Lib.hid (fun w => h.quick hs.1 hs.2.1 w)
  have c2 := Lib.hid (fun w => h'.quick hs.2.2.1 hs.2.2.2.1 w)
  have m := add_abs h h'
  have d := den_mul h.den h'.den
  have c3 := Lib.hid (fun w => qOf (r.num * s.den + s.num * r.den) (r.den * s.den) ⟨by omega, by omega⟩ ⟨d.1, by omega⟩ w)
  have w1 : wrap64 (r.num * s.den) = r.num * s.den := IntWalk.wrap64_in _ (by omega)
  have w2 : wrap64 (s.num * r.den) = s.num * r.den := IntWalk.wrap64_in _ (by omega)
  have w3 : wrap64 (r.num * s.den + s.num * r.den) = r.num * s.den + s.num * r.den := IntWalk.wrap64_in _ (by omega)
  have w4 : wrap64 ((r.den : Int) * s.den) = (r.den : Int) * s.den := IntWalk.wrap64_in _ (by omega)
  have e : rt (r + s) = rtx (qn (r.num * s.den + s.num * r.den) (r.den * s.den)) (qd (r.num * s.den + s.num * r.den) (r.den * s.den)) := by
    unfold rt; rw [(add_nd r s).1, (add_nd r s).2]
  rw [← e] at c3
  clear e m d hs h h'
  generalize rt (r + s) = t at *
  generalize rt r = tr at *
  generalize rt s = ts at *
  generalize (r.den : Int) = rd at *
  generalize (s.den : Int) = sd at *
  generalize r.num = rn at *
  generalize s.num = sn at *
  generalize hx1 : rn * sd = p1 at *
  generalize hx2 : sn * rd = p2 at *
  generalize hx3 : p1 + p2 = p3 at *
  generalize hx4 : rd * sd = p4 at *
  go_enter Tryz.func8, Tryz.ntmps8
  go_wp2_with fail
  (with_reducible refine (c1.out _).mono ?_)
  rintro e w1 ⟨rfl, hb1⟩
  obtain ⟨⟨dq, osq⟩, rfl⟩ := regrown_of_below hb1
  clear hb1
  go_wp2_with fail
  (with_reducible refine (c2.out _).mono ?_)
  rintro e w1 ⟨rfl, hb1⟩
  obtain ⟨⟨dq, osq⟩, rfl⟩ := regrown_of_below hb1
  clear hb1
  go_wp2_with fail
  (with_reducible refine (c3.out _).mono ?_)
  rintro e w1 ⟨rfl, hb1⟩
  obtain ⟨⟨dq, osq⟩, rfl⟩ := regrown_of_below hb1
  clear hb1
  go_wp2_with fail
  go_ret
  refine ⟨rfl, ?_⟩
  repeat (first | with_reducible assumption | with_reducible exact Below.refl _ _ | with_reducible refine Below.setCell ?_ (by first | omega | (simp [go_sem]; omega) | simp [go_sem]) _ | with_reducible refine Below.alloc ?_ (by first | omega | (simp [go_sem]; omega) | simp [go_sem]) _ | with_reducible refine below_grow ?_ (by first | omega | (simp [go_sem]; omega) | simp [go_sem]) _ _ | with_reducible refine Below.drew ?_)

theorem qMul (r s : Rat) {A B A' B' : Int} (h : Bd r A B) (h' : Bd s A' B') (hs : A ≤ 999999999 ∧ B ≤ 999999999 ∧ A' ≤ 999999999 ∧ B' ≤ 999999999) (w : World) : Calls Tryz.prog 10 #[.string ⟨(rt r).toArray⟩, .string ⟨(rt s).toArray⟩] w fun e w' => e = .returned (.string ⟨(rt (r * s)).toArray⟩) ∧ Below w.heap.size w w' := by
  have c1 := Lib.hid (fun w => h.quick hs.1 hs.2.1 w)
  have c2 := Lib.hid (fun w => h'.quick hs.2.2.1 hs.2.2.2 w)
  have g := h.mono hs.1 hs.2.1
  have g' := h'.mono hs.2.2.1 hs.2.2.2
  have m := mul_abs g.lo g.hi g'.lo g'.hi
  have d := den_mul g.den g'.den
  have c3 := Lib.hid (fun w => qOf (r.num * s.num) (r.den * s.den) ⟨by omega, by omega⟩ ⟨d.1, by omega⟩ w)
  have w1 : wrap64 (r.num * s.num) = r.num * s.num := IntWalk.wrap64_in _ (by omega)
  have w4 : wrap64 ((r.den : Int) * s.den) = (r.den : Int) * s.den := IntWalk.wrap64_in _ (by omega)
  have e : rt (r * s) = rtx (qn (r.num * s.num) (r.den * s.den)) (qd (r.num * s.num) (r.den * s.den)) := by
    unfold rt; rw [(mul_nd r s).1, (mul_nd r s).2]
  rw [← e] at c3
  clear e m d hs h h' g g'
  generalize rt (r * s) = t at *
  generalize rt r = tr at *
  generalize rt s = ts at *
  generalize (r.den : Int) = rd at *
  generalize (s.den : Int) = sd at *
  generalize r.num = rn at *
  generalize s.num = sn at *
  generalize hx1 : rn * sn = p1 at *
  generalize hx4 : rd * sd = p4 at *
  go_enter Tryz.func10, Tryz.ntmps10
  go_wp2_with fail
  (with_reducible refine (c1.out _).mono ?_)
  rintro e w1 ⟨rfl, hb1⟩
  obtain ⟨⟨dq, osq⟩, rfl⟩ := regrown_of_below hb1
  clear hb1
  go_wp2_with fail
  (with_reducible refine (c2.out _).mono ?_)
  rintro e w1 ⟨rfl, hb1⟩
  obtain ⟨⟨dq, osq⟩, rfl⟩ := regrown_of_below hb1
  clear hb1
  go_wp2_with fail
  (with_reducible refine (c3.out _).mono ?_)
  rintro e w1 ⟨rfl, hb1⟩
  obtain ⟨⟨dq, osq⟩, rfl⟩ := regrown_of_below hb1
  clear hb1
  go_wp2_with fail
  go_ret
  refine ⟨rfl, ?_⟩
  repeat (first | with_reducible assumption | with_reducible exact Below.refl _ _ | with_reducible refine Below.setCell ?_ (by first | omega | (simp [go_sem]; omega) | simp [go_sem]) _ | with_reducible refine Below.alloc ?_ (by first | omega | (simp [go_sem]; omega) | simp [go_sem]) _ | with_reducible refine below_grow ?_ (by first | omega | (simp [go_sem]; omega) | simp [go_sem]) _ _ | with_reducible refine Below.drew ?_)
end Go.Proofs.YtgdlehoglpiifaaGreatDoor
namespace Go.Proofs.YtgdlehoglpiifaaGreatDoor
open Go.RowKit Go.Sort Go.Lib

theorem rtx_head (M : Nat) (d : Int) : ∃ b t, rtx (M : Int) d = b :: t ∧ 48 ≤ b.toNat ∧ b.toNat ≤ 57 := by
  obtain ⟨b, t, h, h1, h2⟩ := dec_head M
  unfold rtx
  rw [itoa_nat, h]
  split
  · exact ⟨b, t, rfl, h1, h2⟩
  · exact ⟨b, _, rfl, h1, h2⟩
theorem rt_zero {r : Rat} (h : r.num = 0) : rt r = [48] := by
  have h1 : r = 0 := Rat.num_eq_zero.1 h
  subst h1
  have h2 := rt_int 0
  rw [show itoa 0 = [48] from by rw [show (0 : Int) = ((0 : Nat) : Int) from rfl, itoa_nat, dec_base 0 (by omega)]; rfl] at h2
  exact h2
def sgnq (n : Int) : Int := if n < 0 then -1 else if n = 0 then 0 else 1

theorem qSign (r : Rat) (w : World) : Calls Tryz.prog 22 #[.string ⟨(rt r).toArray⟩] w fun e w' => e = .returned (.int .i64 (sgnq r.num)) ∧ Below w.heap.size w w' := by
  unfold sgnq
  by_cases h0 : r.num = 0
  · rw [rt_zero h0, h0]
    go_enter Tryz.func22, Tryz.ntmps22
    go_wp2_with fail
    go_ret
    refine ⟨rfl, ?_⟩
    repeat (first | with_reducible assumption | with_reducible exact Below.refl _ _ | with_reducible refine Below.setCell ?_ (by first | omega | (simp [go_sem]; omega) | simp [go_sem]) _ | with_reducible refine Below.alloc ?_ (by first | omega | (simp [go_sem]; omega) | simp [go_sem]) _ | with_reducible refine below_grow ?_ (by first | omega | (simp [go_sem]; omega) | simp [go_sem]) _ _ | with_reducible refine Below.drew ?_)
  · by_cases h : r.num < 0
    · rw [if_pos h]
      unfold rt
      generalize (r.den : Int) = d at *
      generalize r.num = n at *
      obtain ⟨M, rfl⟩ : ∃ M : Nat, n = -(M : Int) := ⟨n.natAbs, by omega⟩
      rw [rtx_neg M d (by omega)]
      have e0 : ∀ h, (⟨(45 :: rtx M d).toArray⟩ : ByteArray)[0]'h = 45 := fun _ => rfl
      generalize rtx M d = l at *
      have h48 : ((45 :: l : List UInt8) == [48]) = false := by simp
      clear h0 h
      go_enter Tryz.func22, Tryz.ntmps22
      go_wp2_with fail
      go_ret
      refine ⟨rfl, ?_⟩
      repeat (first | with_reducible assumption | with_reducible exact Below.refl _ _ | with_reducible refine Below.setCell ?_ (by first | omega | (simp [go_sem]; omega) | simp [go_sem]) _ | with_reducible refine Below.alloc ?_ (by first | omega | (simp [go_sem]; omega) | simp [go_sem]) _ | with_reducible refine below_grow ?_ (by first | omega | (simp [go_sem]; omega) | simp [go_sem]) _ _ | with_reducible refine Below.drew ?_)
    · rw [if_neg h, if_neg h0]
      have hn := rtx_not48 r.num r.den h0
      unfold rt
      generalize (r.den : Int) = d at *
      generalize r.num = n at *
      obtain ⟨M, rfl⟩ : ∃ M : Nat, n = (M : Int) := ⟨n.toNat, by omega⟩
      obtain ⟨b, t, hbt, h1, h2⟩ := rtx_head M d
      rw [hbt] at hn ⊢
      have hb1 : ((b.toNat : Int) == 45) = false := by rw [beq_eq_false_iff_ne]; omega
      have hb2 : ¬ (b.toNat : Int) = 45 := by omega
      have hb3 : ¬ b.toNat = 45 := by omega
      have h48 : ((b :: t : List UInt8) == [48]) = false := beq_eq_false_iff_ne.2 hn
      have e0 : ∀ h, (⟨(b :: t).toArray⟩ : ByteArray)[0]'h = b := fun _ => rfl
      clear h0 h hn hbt h1 h2
      go_enter Tryz.func22, Tryz.ntmps22
      go_wp2_with fail
      go_ret
      refine ⟨rfl, ?_⟩
      repeat (first | with_reducible assumption | with_reducible exact Below.refl _ _ | with_reducible refine Below.setCell ?_ (by first | omega | (simp [go_sem]; omega) | simp [go_sem]) _ | with_reducible refine Below.alloc ?_ (by first | omega | (simp [go_sem]; omega) | simp [go_sem]) _ | with_reducible refine below_grow ?_ (by first | omega | (simp [go_sem]; omega) | simp [go_sem]) _ _ | with_reducible refine Below.drew ?_)

theorem rt_neg {r : Rat} (h : 0 < r.num) : rt (-r) = 45 :: rt r := by
  unfold rt
  rw [show (-r).num = -r.num from by simp, show (-r).den = r.den from by simp]
  obtain ⟨M, hM⟩ : ∃ M : Nat, r.num = (M : Int) := ⟨r.num.toNat, by omega⟩
  rw [hM, rtx_neg M _ (by omega)]

theorem qNeg (r : Rat) (hlen : (rt r).length ≤ 1000) (w : World) : Calls Tryz.prog 42 #[.string ⟨(rt r).toArray⟩] w fun e w' => e = .returned (.string ⟨(rt (-r)).toArray⟩) ∧ Below w.heap.size w w' := by
  have c1 := Lib.hid (fun w => qSign r w)
  unfold sgnq at c1
  by_cases h : r.num < 0
  · rw [if_pos h] at c1
    have e : rt r = 45 :: rt (-r) := by
      have := rt_neg (r := -r) (by simp; omega)
      rwa [Rat.neg_neg] at this
    rw [e] at c1 hlen ⊢
    generalize rt (-r) = l at *
    have hz := cut_sign l
    clear e h
    go_enter Tryz.func42, Tryz.ntmps42
    go_wp2_with fail
    (with_reducible refine (c1.out _).mono ?_)
    rintro e w1 ⟨rfl, hb1⟩
    obtain ⟨⟨dq, osq⟩, rfl⟩ := regrown_of_below hb1
    clear hb1
    go_wp2_with fail
    go_ret
    refine ⟨rfl, ?_⟩
    repeat (first | with_reducible assumption | with_reducible exact Below.refl _ _ | with_reducible refine Below.setCell ?_ (by first | omega | (simp [go_sem]; omega) | simp [go_sem]) _ | with_reducible refine Below.alloc ?_ (by first | omega | (simp [go_sem]; omega) | simp [go_sem]) _ | with_reducible refine below_grow ?_ (by first | omega | (simp [go_sem]; omega) | simp [go_sem]) _ _ | with_reducible refine Below.drew ?_)
  · rw [if_neg h] at c1
    by_cases h0 : r.num = 0
    · rw [if_pos h0] at c1
      have e : -r = r := by rw [Rat.num_eq_zero.1 h0]; rfl
      rw [e]
      generalize rt r = l at *
      clear e h h0
      go_enter Tryz.func42, Tryz.ntmps42
      go_wp2_with fail
      (with_reducible refine (c1.out _).mono ?_)
      rintro e w1 ⟨rfl, hb1⟩
      obtain ⟨⟨dq, osq⟩, rfl⟩ := regrown_of_below hb1
      clear hb1
      go_wp2_with fail
      (with_reducible refine (c1.out _).mono ?_)
      rintro e w1 ⟨rfl, hb1⟩
      obtain ⟨⟨dq, osq⟩, rfl⟩ := regrown_of_below hb1
      clear hb1
      go_wp2_with fail
      go_ret
      refine ⟨rfl, ?_⟩
      repeat (first | with_reducible assumption | with_reducible exact Below.refl _ _ | with_reducible refine Below.setCell ?_ (by first | omega | (simp [go_sem]; omega) | simp [go_sem]) _ | with_reducible refine Below.alloc ?_ (by first | omega | (simp [go_sem]; omega) | simp [go_sem]) _ | with_reducible refine below_grow ?_ (by first | omega | (simp [go_sem]; omega) | simp [go_sem]) _ _ | with_reducible refine Below.drew ?_)
    · rw [if_neg h0] at c1
      rw [rt_neg (by omega)]
      generalize rt r = l at *
      clear h h0
      go_enter Tryz.func42, Tryz.ntmps42
      go_wp2_with fail
      (with_reducible refine (c1.out _).mono ?_)
      rintro e w1 ⟨rfl, hb1⟩
      obtain ⟨⟨dq, osq⟩, rfl⟩ := regrown_of_below hb1
      clear hb1
      go_wp2_with fail
      (with_reducible refine (c1.out _).mono ?_)
      rintro e w1 ⟨rfl, hb1⟩
      obtain ⟨⟨dq, osq⟩, rfl⟩ := regrown_of_below hb1
      clear hb1
      go_wp2_with fail
      go_ret
      refine ⟨(congrArg (fun b => Ending.returned (.string b)) (bcat [45] l)), ?_⟩
      repeat (first | with_reducible assumption | with_reducible exact Below.refl _ _ | with_reducible refine Below.setCell ?_ (by first | omega | (simp [go_sem]; omega) | simp [go_sem]) _ | with_reducible refine Below.alloc ?_ (by first | omega | (simp [go_sem]; omega) | simp [go_sem]) _ | with_reducible refine below_grow ?_ (by first | omega | (simp [go_sem]; omega) | simp [go_sem]) _ _ | with_reducible refine Below.drew ?_)

theorem rt_len {r : Rat} {A B : Int} (h : Bd r A B) (hs : A ≤ 9223372036854775807 ∧ B ≤ 9223372036854775807) : (rt r).length ≤ 1000 := by
  have h1 := itoa_len r.num ⟨by have := h.lo; omega, by have := h.hi; omega⟩
  have h2 := itoa_len r.den ⟨by have := den_pos r; omega, by have := h.den; omega⟩
  unfold rt rtx
  split
  · omega
  · simp only [List.length_append, List.length_cons]; omega

theorem qSub (r s : Rat) {A B A' B' : Int} (h : Bd r A B) (h' : Bd s A' B') (hs : A ≤ 999999999 ∧ B ≤ 999999999 ∧ A' ≤ 999999999 ∧ B' ≤ 999999999 ∧ A * B' + A' * B ≤ 4000000000000000000 ∧ B * B' ≤ 4000000000000000000) (w : World) : Calls Tryz.prog 12 #[.string ⟨(rt r).toArray⟩, .string ⟨(rt s).toArray⟩] w fun e w' => e = .returned (.string ⟨(rt (r - s)).toArray⟩) ∧ Below w.heap.size w w' := by
  have c1 := Lib.hid (fun w => qNeg s (rt_len h' ⟨by omega, by omega⟩) w)
  have c2 := Lib.hid (fun w => qAdd r (-s) h h'.neg hs w)
  rw [← Rat.sub_eq_add_neg] at c2
  generalize rt (r - s) = t at *
  generalize rt (-s) = ns at *
  generalize rt r = tr at *
  generalize rt s = ts at *
  clear h h' hs
  go_enter Tryz.func12, Tryz.ntmps12
  go_wp2_with fail
  (with_reducible refine (c1.out _).mono ?_)
  rintro e w1 ⟨rfl, hb1⟩
  obtain ⟨⟨dq, osq⟩, rfl⟩ := regrown_of_below hb1
  clear hb1
  go_wp2_with fail
  (with_reducible refine (c2.out _).mono ?_)
  rintro e w1 ⟨rfl, hb1⟩
  obtain ⟨⟨dq, osq⟩, rfl⟩ := regrown_of_below hb1
  clear hb1
  go_wp2_with fail
  go_ret
  refine ⟨rfl, ?_⟩
  repeat (first | with_reducible assumption | with_reducible exact Below.refl _ _ | with_reducible refine Below.setCell ?_ (by first | omega | (simp [go_sem]; omega) | simp [go_sem]) _ | with_reducible refine Below.alloc ?_ (by first | omega | (simp [go_sem]; omega) | simp [go_sem]) _ | with_reducible refine below_grow ?_ (by first | omega | (simp [go_sem]; omega) | simp [go_sem]) _ _ | with_reducible refine Below.drew ?_)

theorem qCmp (r s : Rat) {A B A' B' : Int} (h : Bd r A B) (h' : Bd s A' B') (hs : A ≤ 999999999 ∧ B ≤ 999999999 ∧ A' ≤ 999999999 ∧ B' ≤ 999999999 ∧ A * B' + A' * B ≤ 4000000000000000000 ∧ B * B' ≤ 4000000000000000000) (w : World) : Calls Tryz.prog 23 #[.string ⟨(rt r).toArray⟩, .string ⟨(rt s).toArray⟩] w fun e w' => e = .returned (.int .i64 (sgnq (r - s).num)) ∧ Below w.heap.size w w' := by
  have c1 := Lib.hid (fun w => qSub r s h h' hs w)
  have c2 := Lib.hid (fun w => qSign (r - s) w)
  generalize sgnq (r - s).num = v at *
  generalize rt (r - s) = t at *
  generalize rt r = tr at *
  generalize rt s = ts at *
  clear h h' hs
  go_enter Tryz.func23, Tryz.ntmps23
  go_wp2_with fail
  (with_reducible refine (c1.out _).mono ?_)
  rintro e w1 ⟨rfl, hb1⟩
  obtain ⟨⟨dq, osq⟩, rfl⟩ := regrown_of_below hb1
  clear hb1
  go_wp2_with fail
  (with_reducible refine (c2.out _).mono ?_)
  rintro e w1 ⟨rfl, hb1⟩
  obtain ⟨⟨dq, osq⟩, rfl⟩ := regrown_of_below hb1
  clear hb1
  go_wp2_with fail
  go_ret
  refine ⟨rfl, ?_⟩
  repeat (first | with_reducible assumption | with_reducible exact Below.refl _ _ | with_reducible refine Below.setCell ?_ (by first | omega | (simp [go_sem]; omega) | simp [go_sem]) _ | with_reducible refine Below.alloc ?_ (by first | omega | (simp [go_sem]; omega) | simp [go_sem]) _ | with_reducible refine below_grow ?_ (by first | omega | (simp [go_sem]; omega) | simp [go_sem]) _ _ | with_reducible refine Below.drew ?_)
end Go.Proofs.YtgdlehoglpiifaaGreatDoor
namespace Go.Proofs.YtgdlehoglpiifaaGreatDoor
open Go.RowKit Go.Sort Go.Lib

theorem qDigits (l : List UInt8) (hl : AllDig l) (hlen : l.length ≤ 1000) (w : World) : Calls Tryz.prog 140 #[.string ⟨(l).toArray⟩] w fun e w' => e = .returned (.bool true) ∧ Below w.heap.size w w' := by
  go_enter Tryz.func140, Tryz.ntmps140
  go_wp2_with fail
  go_loop [3] (fun i => ∃ k : Nat, k ≤ l.length ∧ i = .int .i64 k) (fun i => l.length - (RowKit.intOf i).toNat)
  case atStart => exact ⟨0, Nat.zero_le _, rfl⟩
  case round =>
    obtain ⟨k, hk, rfl⟩ := hrel
    by_cases hkl : k < l.length
    · have e0 : ∀ h, (⟨l.toArray⟩ : ByteArray)[k]'h = l[k]'hkl := fun _ => rfl
      have hd := hl l[k] (List.getElem_mem _)
      have hd1 : ¬ (l[k].toNat : Int) < 48 := by omega
      have hd2 : ¬ 57 < (l[k].toNat : Int) := by omega
      go_wp2_with fail
      exact ⟨⟨k + 1, by omega, by go_num⟩, by simp only [RowKit.intOf]; omega⟩
    · obtain rfl : k = l.length := by omega
      go_wp2_with fail
      go_ret
      exact ⟨rfl, Below.refl _ _⟩

theorem qForm (m : Nat) (hm : m < 1000000000000000000) (w : World) : Calls Tryz.prog 115 #[.string ⟨(decDigits m).toArray⟩] w fun e w' => e = .returned (.bool true) ∧ Below w.heap.size w w' := by
  have hl := dec_len (u := m) (k := 18) (by omega) (by omega)
  have c1 := Lib.hid (fun w => qDigits (decDigits m) (dec_all m) (by omega) w)
  by_cases h0 : m = 0
  · subst h0
    rw [show decDigits 0 = [48] from by rw [dec_base 0 (by decide)]; rfl] at c1 ⊢
    clear hl
    go_enter Tryz.func115, Tryz.ntmps115
    go_wp2_with fail
    (with_reducible refine (c1.out _).mono ?_)
    rintro e w1 ⟨rfl, hb1⟩
    obtain ⟨⟨dq, osq⟩, rfl⟩ := regrown_of_below hb1
    clear hb1
    go_wp2_with fail
    go_ret
    refine ⟨rfl, ?_⟩
    repeat (first | with_reducible assumption | with_reducible exact Below.refl _ _ | with_reducible refine Below.setCell ?_ (by first | omega | (simp [go_sem]; omega) | simp [go_sem]) _ | with_reducible refine Below.alloc ?_ (by first | omega | (simp [go_sem]; omega) | simp [go_sem]) _ | with_reducible refine below_grow ?_ (by first | omega | (simp [go_sem]; omega) | simp [go_sem]) _ _ | with_reducible refine Below.drew ?_)
  · obtain ⟨b, t, hbt, h1, h2⟩ := dec_head' m h0
    rw [hbt] at c1 hl ⊢
    simp only [List.length_cons] at hl
    have hb1 : ((b.toNat : Int) == 48) = false := by rw [beq_eq_false_iff_ne]; omega
    have hb2 : ¬ (b.toNat : Int) = 48 := by omega
    have hb3 : ¬ b.toNat = 48 := by omega
    have e0 : ∀ h, (⟨(b :: t).toArray⟩ : ByteArray)[0]'h = b := fun _ => rfl
    clear h1 h2 hbt
    by_cases ht : t = []
    · subst ht
      go_enter Tryz.func115, Tryz.ntmps115
      go_wp2_with fail
      (with_reducible refine (c1.out _).mono ?_)
      rintro e w1 ⟨rfl, hb1⟩
      obtain ⟨⟨dq, osq⟩, rfl⟩ := regrown_of_below hb1
      clear hb1
      go_wp2_with fail
      go_ret
      refine ⟨rfl, ?_⟩
      repeat (first | with_reducible assumption | with_reducible exact Below.refl _ _ | with_reducible refine Below.setCell ?_ (by first | omega | (simp [go_sem]; omega) | simp [go_sem]) _ | with_reducible refine Below.alloc ?_ (by first | omega | (simp [go_sem]; omega) | simp [go_sem]) _ | with_reducible refine below_grow ?_ (by first | omega | (simp [go_sem]; omega) | simp [go_sem]) _ _ | with_reducible refine Below.drew ?_)
    · have htl : 1 ≤ t.length := by cases t with | nil => exact absurd rfl ht | cons _ _ => simp
      go_enter Tryz.func115, Tryz.ntmps115
      go_wp2_with fail
      (with_reducible refine (c1.out _).mono ?_)
      rintro e w1 ⟨rfl, hb1⟩
      obtain ⟨⟨dq, osq⟩, rfl⟩ := regrown_of_below hb1
      clear hb1
      go_wp2_with fail
      go_ret
      refine ⟨rfl, ?_⟩
      repeat (first | with_reducible assumption | with_reducible exact Below.refl _ _ | with_reducible refine Below.setCell ?_ (by first | omega | (simp [go_sem]; omega) | simp [go_sem]) _ | with_reducible refine Below.alloc ?_ (by first | omega | (simp [go_sem]; omega) | simp [go_sem]) _ | with_reducible refine below_grow ?_ (by first | omega | (simp [go_sem]; omega) | simp [go_sem]) _ _ | with_reducible refine Below.drew ?_)

theorem qIsWhole (l : List UInt8) (h : ∀ b ∈ l, b ≠ 47) (hlen : l.length < 1000000) (w : World) : Calls Tryz.prog 71 #[.string ⟨(l).toArray⟩] w fun e w' => e = .returned (.bool true) ∧ Below w.heap.size w w' := by
  have c1 := Lib.hid (fun w => qSlash l hlen w)
  rw [slashAt_none h] at c1
  go_enter Tryz.func71, Tryz.ntmps71
  go_wp2_with fail
  (with_reducible refine (c1.out _).mono ?_)
  rintro e w1 ⟨rfl, hb1⟩
  obtain ⟨⟨dq, osq⟩, rfl⟩ := regrown_of_below hb1
  clear hb1
  go_wp2_with fail
  go_ret
  refine ⟨rfl, ?_⟩
  repeat (first | with_reducible assumption | with_reducible exact Below.refl _ _ | with_reducible refine Below.setCell ?_ (by first | omega | (simp [go_sem]; omega) | simp [go_sem]) _ | with_reducible refine Below.alloc ?_ (by first | omega | (simp [go_sem]; omega) | simp [go_sem]) _ | with_reducible refine below_grow ?_ (by first | omega | (simp [go_sem]; omega) | simp [go_sem]) _ _ | with_reducible refine Below.drew ?_)
end Go.Proofs.YtgdlehoglpiifaaGreatDoor
namespace Go.Proofs.YtgdlehoglpiifaaGreatDoor
open Go.RowKit Go.Sort Go.Lib

theorem qTrim1 (b cap : Nat) (c : Int) (hc : c ≠ 0) (w : World) (h : w.cell? ⟨b, 0, none⟩ = some (.int .i64 c)) :
    Calls Tryz.prog 106 #[.slice (some ⟨b, 0, none⟩) 1 cap] w fun e w' => e = .returned (.slice (some ⟨b, 0, none⟩) 1 cap) ∧ Below w.heap.size w w' := by
  have hc1 : (c == 0) = false := beq_eq_false_iff_ne.2 hc
  go_enter Tryz.func106, Tryz.ntmps106
  go_wp2_with fail
  refine wp_loop_rounds 1 ?_
  rw [rounds_succ]
  go_wp2_with fail
  go_ret
  refine ⟨rfl, ?_⟩
  repeat (first | with_reducible assumption | with_reducible exact Below.refl _ _ | with_reducible refine Below.setCell ?_ (by first | omega | (simp [go_sem]; omega) | simp [go_sem]) _ | with_reducible refine Below.alloc ?_ (by first | omega | (simp [go_sem]; omega) | simp [go_sem]) _ | with_reducible refine below_grow ?_ (by first | omega | (simp [go_sem]; omega) | simp [go_sem]) _ _ | with_reducible refine Below.drew ?_)
theorem qTrim0 (w : World) : Calls Tryz.prog 106 #[.slice none 0 0] w fun e w' => e = .returned (.slice none 0 0) ∧ Below w.heap.size w w' := by
  go_enter Tryz.func106, Tryz.ntmps106
  go_wp2_with fail
  refine wp_loop_rounds 1 ?_
  rw [rounds_succ]
  go_wp2_with fail
  go_ret
  refine ⟨rfl, ?_⟩
  repeat (first | with_reducible assumption | with_reducible exact Below.refl _ _ | with_reducible refine Below.setCell ?_ (by first | omega | (simp [go_sem]; omega) | simp [go_sem]) _ | with_reducible refine Below.alloc ?_ (by first | omega | (simp [go_sem]; omega) | simp [go_sem]) _ | with_reducible refine below_grow ?_ (by first | omega | (simp [go_sem]; omega) | simp [go_sem]) _ _ | with_reducible refine Below.drew ?_)
theorem qSigned1 (g : Bool) (b cap : Nat) (c : Int) (hc : c ≠ 0) (w : World) (hb : b < w.heap.size) (h : w.cell? ⟨b, 0, none⟩ = some (.int .i64 c)) :
    Calls Tryz.prog 78 #[.bool g, .slice (some ⟨b, 0, none⟩) 1 cap] w fun e w' => e = .returned (.agg #[.bool g, .slice (some ⟨b, 0, none⟩) 1 cap]) ∧ Below w.heap.size w w' := by
  have c1 := Lib.hid (fun w h => qTrim1 b cap c hc w h)
  cases g
  all_goals
    go_enter Tryz.func78, Tryz.ntmps78
    go_wp2_with fail
    (with_reducible refine (c1.out _ ?_).mono ?_)
    · first | omega | (simp [go_sem]; omega) | (simp (maxDischargeDepth := 4) [go_sem]; done) | (simp (maxDischargeDepth := 6) [*, go_sem]; done)
    rintro e w1 ⟨rfl, hb⟩
    have H1 : Below w.heap.size w w1 := by
      refine Below.trans ?_ (hb.mono ?_)
      · repeat (first | with_reducible assumption | with_reducible exact Below.refl _ _ | with_reducible refine Below.setCell ?_ (by first | omega | (simp [go_sem]; omega) | simp [go_sem]) _ | with_reducible refine Below.alloc ?_ (by first | omega | (simp [go_sem]; omega) | simp [go_sem]) _ | with_reducible refine below_grow ?_ (by first | omega | (simp [go_sem]; omega) | simp [go_sem]) _ _ | with_reducible refine Below.drew ?_)
      · first | omega | (simp [go_sem]; omega) | simp [go_sem]
    have S1 : w.heap.size ≤ w1.heap.size := H1.size
    have s1_0 : w.heap.size < w1.heap.size := Nat.lt_of_lt_of_le (by first | omega | (simp [go_sem]; omega) | simp [go_sem]) hb.size
    have k1_0 := fun o => hb.cell (p := ⟨w.heap.size, o, none⟩) (by first | omega | (simp [go_sem]; omega) | simp [go_sem])
    have f1_0 := fun o => hb.frozen (p := ⟨w.heap.size, o, none⟩) (by first | omega | (simp [go_sem]; omega) | simp [go_sem])
    clear hb
    go_wp2_with fail
    refine bodyPost_ret (v := .agg #[.bool _, .slice (some ⟨b, 0, none⟩) 1 cap]) (by simp (maxDischargeDepth := 4) [*, results, Tryz.results78, go_sem]) rfl ⟨rfl, ?_⟩
    repeat (first | with_reducible assumption | with_reducible exact Below.refl _ _ | with_reducible refine Below.setCell ?_ (by first | omega | (simp [go_sem]; omega) | simp [go_sem]) _ | with_reducible refine Below.alloc ?_ (by first | omega | (simp [go_sem]; omega) | simp [go_sem]) _ | with_reducible refine below_grow ?_ (by first | omega | (simp [go_sem]; omega) | simp [go_sem]) _ _ | with_reducible refine Below.drew ?_)
theorem qSigned0 (g : Bool) (w : World) : Calls Tryz.prog 78 #[.bool g, .slice none 0 0] w fun e w' => e = .returned (.agg #[.bool false, .slice none 0 0]) ∧ Below w.heap.size w w' := by
  have c1 := Lib.hid (fun w => qTrim0 w)
  cases g
  all_goals
    go_enter Tryz.func78, Tryz.ntmps78
    go_wp2_with fail
    (with_reducible refine (c1.out _).mono ?_)
    rintro e w1 ⟨rfl, hb⟩
    have H1 : Below w.heap.size w w1 := by
      refine Below.trans ?_ (hb.mono ?_)
      · repeat (first | with_reducible assumption | with_reducible exact Below.refl _ _ | with_reducible refine Below.setCell ?_ (by first | omega | (simp [go_sem]; omega) | simp [go_sem]) _ | with_reducible refine Below.alloc ?_ (by first | omega | (simp [go_sem]; omega) | simp [go_sem]) _ | with_reducible refine below_grow ?_ (by first | omega | (simp [go_sem]; omega) | simp [go_sem]) _ _ | with_reducible refine Below.drew ?_)
      · first | omega | (simp [go_sem]; omega) | simp [go_sem]
    have S1 : w.heap.size ≤ w1.heap.size := H1.size
    have s1_0 : w.heap.size < w1.heap.size := Nat.lt_of_lt_of_le (by first | omega | (simp [go_sem]; omega) | simp [go_sem]) hb.size
    have k1_0 := fun o => hb.cell (p := ⟨w.heap.size, o, none⟩) (by first | omega | (simp [go_sem]; omega) | simp [go_sem])
    have f1_0 := fun o => hb.frozen (p := ⟨w.heap.size, o, none⟩) (by first | omega | (simp [go_sem]; omega) | simp [go_sem])
    clear hb
    go_wp2_with fail
    refine bodyPost_ret (v := .agg #[.bool false, .slice none 0 0]) (by simp (maxDischargeDepth := 4) [*, results, Tryz.results78, go_sem]) rfl ⟨rfl, ?_⟩
    repeat (first | with_reducible assumption | with_reducible exact Below.refl _ _ | with_reducible refine Below.setCell ?_ (by first | omega | (simp [go_sem]; omega) | simp [go_sem]) _ | with_reducible refine Below.alloc ?_ (by first | omega | (simp [go_sem]; omega) | simp [go_sem]) _ | with_reducible refine below_grow ?_ (by first | omega | (simp [go_sem]; omega) | simp [go_sem]) _ _ | with_reducible refine Below.drew ?_)

/-- The text of a sign and a digit to the base 10^9. -/
def sgT (g : Bool) (c : Nat) : List UInt8 := (if g then [45] else []) ++ decDigits c
theorem qText1 (g : Bool) (b cap c : Nat) (hc : c < 1000000000) (w : World) (hb : b < w.heap.size) (h : w.cell? ⟨b, 0, none⟩ = some (.int .i64 c)) :
    Calls Tryz.prog 57 #[.agg #[.bool g, .slice (some ⟨b, 0, none⟩) 1 cap]] w fun e w' => e = .returned (.string ⟨(sgT g c).toArray⟩) ∧ Below w.heap.size w w' := by
  have c1 := Lib.hid (fun w => qDecimal c (by omega) w)
  have hl := dec_len (u := c) (k := 9) (by omega) (by omega)
  unfold sgT
  generalize decDigits c = l at *
  cases g
  · go_enter Tryz.func57, Tryz.ntmps57
    go_wp2_with fail
    (with_reducible refine (c1.out _).mono ?_)
    rintro e w1 ⟨rfl, hb⟩
    have H1 : Below w.heap.size w w1 := by
      refine Below.trans ?_ (hb.mono ?_)
      · repeat (first | with_reducible assumption | with_reducible exact Below.refl _ _ | with_reducible refine Below.setCell ?_ (by first | omega | (simp [go_sem]; omega) | simp [go_sem]) _ | with_reducible refine Below.alloc ?_ (by first | omega | (simp [go_sem]; omega) | simp [go_sem]) _ | with_reducible refine below_grow ?_ (by first | omega | (simp [go_sem]; omega) | simp [go_sem]) _ _ | with_reducible refine Below.drew ?_)
      · first | omega | (simp [go_sem]; omega) | simp [go_sem]
    have S1 : w.heap.size ≤ w1.heap.size := H1.size
    have s1_0 : w.heap.size < w1.heap.size := Nat.lt_of_lt_of_le (by first | omega | (simp [go_sem]; omega) | simp [go_sem]) hb.size
    have k1_0 := fun o => hb.cell (p := ⟨w.heap.size, o, none⟩) (by first | omega | (simp [go_sem]; omega) | simp [go_sem])
    have f1_0 := fun o => hb.frozen (p := ⟨w.heap.size, o, none⟩) (by first | omega | (simp [go_sem]; omega) | simp [go_sem])
    clear hb
    go_wp2_with fail
    refine wp_loop_rounds 1 ?_
    rw [rounds_succ]
    go_wp2_with fail
    go_ret
    refine ⟨rfl, ?_⟩
    repeat (first | with_reducible assumption | with_reducible exact Below.refl _ _ | with_reducible refine Below.setCell ?_ (by first | omega | (simp [go_sem]; omega) | simp [go_sem]) _ | with_reducible refine Below.alloc ?_ (by first | omega | (simp [go_sem]; omega) | simp [go_sem]) _ | with_reducible refine below_grow ?_ (by first | omega | (simp [go_sem]; omega) | simp [go_sem]) _ _ | with_reducible refine Below.drew ?_)
  · go_enter Tryz.func57, Tryz.ntmps57
    go_wp2_with fail
    (with_reducible refine (c1.out _).mono ?_)
    rintro e w1 ⟨rfl, hb⟩
    have H1 : Below w.heap.size w w1 := by
      refine Below.trans ?_ (hb.mono ?_)
      · repeat (first | with_reducible assumption | with_reducible exact Below.refl _ _ | with_reducible refine Below.setCell ?_ (by first | omega | (simp [go_sem]; omega) | simp [go_sem]) _ | with_reducible refine Below.alloc ?_ (by first | omega | (simp [go_sem]; omega) | simp [go_sem]) _ | with_reducible refine below_grow ?_ (by first | omega | (simp [go_sem]; omega) | simp [go_sem]) _ _ | with_reducible refine Below.drew ?_)
      · first | omega | (simp [go_sem]; omega) | simp [go_sem]
    have S1 : w.heap.size ≤ w1.heap.size := H1.size
    have s1_0 : w.heap.size < w1.heap.size := Nat.lt_of_lt_of_le (by first | omega | (simp [go_sem]; omega) | simp [go_sem]) hb.size
    have k1_0 := fun o => hb.cell (p := ⟨w.heap.size, o, none⟩) (by first | omega | (simp [go_sem]; omega) | simp [go_sem])
    have f1_0 := fun o => hb.frozen (p := ⟨w.heap.size, o, none⟩) (by first | omega | (simp [go_sem]; omega) | simp [go_sem])
    clear hb
    go_wp2_with fail
    refine wp_loop_rounds 1 ?_
    rw [rounds_succ]
    go_wp2_with fail
    go_ret
    refine ⟨(congrArg (fun b => Ending.returned (.string b)) (bcat [45] l)), ?_⟩
    repeat (first | with_reducible assumption | with_reducible exact Below.refl _ _ | with_reducible refine Below.setCell ?_ (by first | omega | (simp [go_sem]; omega) | simp [go_sem]) _ | with_reducible refine Below.alloc ?_ (by first | omega | (simp [go_sem]; omega) | simp [go_sem]) _ | with_reducible refine below_grow ?_ (by first | omega | (simp [go_sem]; omega) | simp [go_sem]) _ _ | with_reducible refine Below.drew ?_)
theorem qText0 (g : Bool) (w : World) : Calls Tryz.prog 57 #[.agg #[.bool g, .slice none 0 0]] w fun e w' => e = .returned (.string ⟨([48]).toArray⟩) ∧ Below w.heap.size w w' := by
  go_enter Tryz.func57, Tryz.ntmps57
  go_wp2_with fail
  go_ret
  refine ⟨rfl, ?_⟩
  repeat (first | with_reducible assumption | with_reducible exact Below.refl _ _ | with_reducible refine Below.setCell ?_ (by first | omega | (simp [go_sem]; omega) | simp [go_sem]) _ | with_reducible refine Below.alloc ?_ (by first | omega | (simp [go_sem]; omega) | simp [go_sem]) _ | with_reducible refine below_grow ?_ (by first | omega | (simp [go_sem]; omega) | simp [go_sem]) _ _ | with_reducible refine Below.drew ?_)
end Go.Proofs.YtgdlehoglpiifaaGreatDoor
