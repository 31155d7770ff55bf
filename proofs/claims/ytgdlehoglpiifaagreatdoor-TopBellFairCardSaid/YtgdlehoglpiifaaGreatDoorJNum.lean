/-
  What every walk of this claim stands on: a region that draws its order and ends in stores; a world that has grown by new blocks alone.
  Package num: integers that are machine integers (no list of digits): sums, signs, quotients, common divisors.
  Package num: quotients, common divisors, powers of machine integers.
  Package num: exact quotients, the greatest common divisor.
  Package num: products and texts of machine integers, and how long they are.
  Package num: how long a machine integer is; powers of ten.
-/
import Derived.Test.YtgdlehoglpiifaaGreatDoorJTail
import Derived.Test.YtgdlehoglpiifaaGreatDoorProg
import Derived.WalkKit
import Derived.WalkSpells
import Derived.WalkLawsBesides
import Derived.Deep.QuietTactic
import Derived.BigQuiet
import Derived.Lib.Hide
import Derived.Deep.RegionWith
import Derived.Test.YtgdlehoglpiifaaGreatDoorJShelf
import Derived.KernelRfl
import Derived.Outline
import Derived.Lib.RabinKarpLaws
namespace Go.Proofs.YtgdlehoglpiifaaGreatDoor
open Go.RowKit Go.Sort

theorem cell_grow {w : World} {d : Nat} {os : Array Obj} {b o : Nat} (h : b < w.heap.size) : (grow (redrawn w d) os).cell? ⟨b, o, none⟩ = w.cell? ⟨b, o, none⟩ := (below_regrown w d os).cell (p := ⟨b, o, none⟩) h
theorem frozen_grow {w : World} {d : Nat} {os : Array Obj} {b o : Nat} (h : b < w.heap.size) : (grow (redrawn w d) os).frozen? ⟨b, o, none⟩ = w.frozen? ⟨b, o, none⟩ := (below_regrown w d os).frozen (p := ⟨b, o, none⟩) h
theorem size_grow {w : World} {d : Nat} {os : Array Obj} : (grow (redrawn w d) os).heap.size = w.heap.size + os.size := by simp [grow, redrawn]
theorem size_redrawn {w : World} {d : Nat} : (redrawn w d).heap.size = w.heap.size := rfl
theorem below_grow {B : Nat} {w0 w : World} (h : Below B w0 w) (hB : B ≤ w.heap.size) (d : Nat) (os : Array Obj) : Below B w0 (grow (redrawn w d) os) := h.trans ((below_regrown w d os).mono hB)
theorem grow_twice {w : World} {d d' : Nat} {os os' : Array Obj} : grow (redrawn (grow (redrawn w d) os) d') os' = grow (redrawn w d') (os ++ os') := by simp [grow, redrawn, Array.append_assoc]
theorem lt_add_r1 {a b k0 : Nat} (h : a < b) : (a < b + k0) = True := by simp; omega
theorem lt_add_r2 {a b k0 k1 : Nat} (h : a < b) : (a < b + k0 + k1) = True := by simp; omega
theorem lt_add_r3 {a b k0 k1 k2 : Nat} (h : a < b) : (a < b + k0 + k1 + k2) = True := by simp; omega
theorem lt_add_r4 {a b k0 k1 k2 k3 : Nat} (h : a < b) : (a < b + k0 + k1 + k2 + k3) = True := by simp; omega
theorem lt_add_r5 {a b k0 k1 k2 k3 k4 : Nat} (h : a < b) : (a < b + k0 + k1 + k2 + k3 + k4) = True := by simp; omega
theorem lt_add_r6 {a b k0 k1 k2 k3 k4 k5 : Nat} (h : a < b) : (a < b + k0 + k1 + k2 + k3 + k4 + k5) = True := by simp; omega
theorem lt_add_r7 {a b k0 k1 k2 k3 k4 k5 k6 : Nat} (h : a < b) : (a < b + k0 + k1 + k2 + k3 + k4 + k5 + k6) = True := by simp; omega
theorem lt_sz {a k : Nat} {x : Array Obj} (h : a < x.size) : (a < x.size + k) = True := by simp; omega
theorem eq_sz1 {a : Nat} {x : Array Obj} (h : a < x.size) : (a = x.size) = False := by simp; omega
theorem eq_sz2 {a k : Nat} {x : Array Obj} (h : a < x.size) : (a = x.size + k) = False := by simp; omega
theorem eq_sz3 {a : Nat} {x : Array Obj} (h : a < x.size) : (x.size = a) = False := by simp; omega
theorem eq_sz4 {a k : Nat} {x : Array Obj} (h : a < x.size) : (x.size + k = a) = False := by simp; omega
attribute [go_sem] lt_sz eq_sz1 eq_sz2 eq_sz3 eq_sz4 cell_grow frozen_grow size_grow size_redrawn lt_add_r1 lt_add_r2 lt_add_r3 lt_add_r4 lt_add_r5 lt_add_r6 lt_add_r7

/-- A list of 64-bit digits against nil. -/
theorem eqnil (w : World) (a : Option Addr) (n c : Nat) : (binOp .eql 85 (.slice a n c) (.slice none 0 0)).run Tryz.prog w = .ok (.bool a.isNone) w := Lib.run_eql_slice_nil w 85 149 a n c 0 0 Tryz.underlying85
theorem nenil (w : World) (a : Option Addr) (n c : Nat) : (binOp .neq 85 (.slice a n c) (.slice none 0 0)).run Tryz.prog w = .ok (.bool a.isSome) w := by
  have := run_neq_slice_nil_any (P := Tryz.prog) w 85 149 a n c 0 0 Tryz.underlying85
  cases a <;> simpa using this

theorem gMax : Tryz.prog.globalNamed "internal/strconv.uint64pow10" = some 6 := by kernel_rfl
/-- What the walks lean on of the package-level variables of Go's library. -/
def Glob (w : World) : Prop := (∃ m, w.cell? ⟨1, 0, none⟩ = some (.int .i64 m)) ∧ Lib.TabIs Tryz.prog w "internal/strconv.uint64pow10" .u64 Lib.pow10Tab ∧ 11 ≤ w.heap.size
theorem Glob.keep {w w' : World} (h : Glob w) (hb : Below w.heap.size w w') : Glob w' := by
  obtain ⟨⟨m, h1⟩, h2, h3⟩ := h
  exact ⟨⟨m, (hb.cell (p := ⟨1, 0, none⟩) (by show 1 < _; omega)).trans h1⟩, var?_below hb gMax (by omega) h2, Nat.le_trans h3 hb.size⟩
theorem below_of_regrown {W w' : World} (h : ∃ p : Regrown, w' = grow (redrawn W p.d) p.os) : Below W.heap.size W w' := by
  obtain ⟨p, rfl⟩ := h
  exact below_regrown W p.d p.os
theorem below_drewN {w : World} (n : Nat) : Below w.heap.size w (w.drewN n) := ⟨rfl, rfl, rfl, Nat.le_refl _, fun _ _ => rfl⟩
end Go.Proofs.YtgdlehoglpiifaaGreatDoor
namespace Go.Proofs.YtgdlehoglpiifaaGreatDoor
open Go.RowKit Go.Sort

theorem nOf (n : Int) (w : World) : Calls Tryz.prog 89 #[.int .i64 n] w fun e w' => e = .returned (.agg #[.int .i64 n, .slice none 0 0]) ∧ Below w.heap.size w w' := by
  go_enter Tryz.func89, Tryz.ntmps89
  go_wp2_with fail
  refine bodyPost_ret (v := .agg #[.int .i64 n, .slice none 0 0]) (by simp (maxDischargeDepth := 4) [results, Tryz.results89, go_sem]) rfl ⟨rfl, ?_⟩
  repeat (first | with_reducible assumption | with_reducible exact Below.refl _ _ | with_reducible refine Below.setCell ?_ (by first | omega | (simp [go_sem]; omega) | simp [go_sem]) _ | with_reducible refine Below.alloc ?_ (by first | omega | (simp [go_sem]; omega) | simp [go_sem]) _ | with_reducible refine below_grow ?_ (by first | omega | (simp [go_sem]; omega) | simp [go_sem]) _ _ | with_reducible refine Below.drew ?_)

theorem nSmall (n : Int) (w : World) : Calls Tryz.prog 85 #[.agg #[.int .i64 n, .slice none 0 0]] w fun e w' => e = .returned (.tuple #[.int .i64 n, .bool true]) ∧ Below w.heap.size w w' := by
  have hnil := eqnil
  go_enter Tryz.func85, Tryz.ntmps85
  go_wp2_with fail
  refine wp_region_tail 7 (by kernel_rfl) (by kernel_rfl) (by kernel_rfl) ?_
  simp only [List.take_succ_cons, List.take_zero, List.drop_succ_cons, List.drop_zero, List.take_nil, List.drop_nil]
  repeat (quiet_step (first | fail))
  refine wpQuiet_nil ?_
  intro w1 hw1
  obtain ⟨⟨dq, osq⟩, rfl⟩ := hw1
  go_wp2_with fail
  go_ret2
  refine ⟨rfl, ?_⟩
  repeat (first | with_reducible assumption | with_reducible exact Below.refl _ _ | with_reducible refine Below.setCell ?_ (by first | omega | (simp [go_sem]; omega) | simp [go_sem]) _ | with_reducible refine Below.alloc ?_ (by first | omega | (simp [go_sem]; omega) | simp [go_sem]) _ | with_reducible refine below_grow ?_ (by first | omega | (simp [go_sem]; omega) | simp [go_sem]) _ _ | with_reducible refine Below.drew ?_)

theorem nAdd (a b : Int) (h : -9223372036854775808 ≤ a + b ∧ a + b ≤ 9223372036854775807) (w : World) : Calls Tryz.prog 110 #[.agg #[.int .i64 a, .slice none 0 0], .agg #[.int .i64 b, .slice none 0 0]] w fun e w' => e = .returned (.agg #[.int .i64 (a + b), .slice none 0 0]) ∧ Below w.heap.size w w' := by
  have hnil := eqnil
  obtain ⟨h0, h1⟩ := h
  by_cases hb : 0 < b
  · have hc : a < a + b := by omega
    go_enter Tryz.func110, Tryz.ntmps110
    go_wp2_with fail
    refine bodyPost_ret (v := .agg #[.int .i64 (a + b), .slice none 0 0]) (by simp (maxDischargeDepth := 4) [results, Tryz.results110, go_sem]) rfl ⟨rfl, ?_⟩
    repeat (first | with_reducible assumption | with_reducible exact Below.refl _ _ | with_reducible refine Below.setCell ?_ (by first | omega | (simp [go_sem]; omega) | simp [go_sem]) _ | with_reducible refine Below.alloc ?_ (by first | omega | (simp [go_sem]; omega) | simp [go_sem]) _ | with_reducible refine below_grow ?_ (by first | omega | (simp [go_sem]; omega) | simp [go_sem]) _ _ | with_reducible refine Below.drew ?_)
  · have hc : ¬ a < a + b := by omega
    go_enter Tryz.func110, Tryz.ntmps110
    go_wp2_with fail
    refine bodyPost_ret (v := .agg #[.int .i64 (a + b), .slice none 0 0]) (by simp (maxDischargeDepth := 4) [results, Tryz.results110, go_sem]) rfl ⟨rfl, ?_⟩
    repeat (first | with_reducible assumption | with_reducible exact Below.refl _ _ | with_reducible refine Below.setCell ?_ (by first | omega | (simp [go_sem]; omega) | simp [go_sem]) _ | with_reducible refine Below.alloc ?_ (by first | omega | (simp [go_sem]; omega) | simp [go_sem]) _ | with_reducible refine below_grow ?_ (by first | omega | (simp [go_sem]; omega) | simp [go_sem]) _ _ | with_reducible refine Below.drew ?_)

theorem nNeg (a : Int) (h : -9223372036854775807 ≤ a ∧ a ≤ 9223372036854775807) (w : World) : Calls Tryz.prog 112 #[.agg #[.int .i64 a, .slice none 0 0]] w fun e w' => e = .returned (.agg #[.int .i64 (-a), .slice none 0 0]) ∧ Below w.heap.size w w' := by
  have hnil := eqnil
  obtain ⟨h0, h1⟩ := h
  have hm : (a != (-9223372036854775808 : Int)) = true := by rw [bne_iff_ne]; omega
  go_enter Tryz.func112, Tryz.ntmps112
  go_wp2_with fail
  refine bodyPost_ret (v := .agg #[.int .i64 (-a), .slice none 0 0]) (by simp (maxDischargeDepth := 4) [results, Tryz.results112, go_sem]) rfl ⟨rfl, ?_⟩
  repeat (first | with_reducible assumption | with_reducible exact Below.refl _ _ | with_reducible refine Below.setCell ?_ (by first | omega | (simp [go_sem]; omega) | simp [go_sem]) _ | with_reducible refine Below.alloc ?_ (by first | omega | (simp [go_sem]; omega) | simp [go_sem]) _ | with_reducible refine below_grow ?_ (by first | omega | (simp [go_sem]; omega) | simp [go_sem]) _ _ | with_reducible refine Below.drew ?_)

theorem nAbs (a : Int) (h : -9223372036854775807 ≤ a ∧ a ≤ 9223372036854775807) (w : World) : Calls Tryz.prog 124 #[.agg #[.int .i64 a, .slice none 0 0]] w fun e w' => e = .returned (.agg #[.int .i64 (Int.natAbs a), .slice none 0 0]) ∧ Below w.heap.size w w' := by
  by_cases ha : a < 0
  · obtain ⟨n, hn⟩ : ∃ n : Int, n = (Int.natAbs a : Int) := ⟨_, rfl⟩
    have hn' : -a = n := by omega
    have c := Lib.hid (fun w => nNeg a h w)
    rw [← hn, ← hn']
    clear hn' hn h
    go_enter Tryz.func124, Tryz.ntmps124
    go_wp2_with fail
    (with_reducible refine (c.out _).mono ?_)
    rintro e w1 ⟨rfl, hb1⟩
    obtain ⟨⟨dq, osq⟩, rfl⟩ := regrown_of_below hb1
    clear hb1
    go_wp2_with fail
    refine bodyPost_ret (v := .agg #[.int .i64 (-a), .slice none 0 0]) (by simp (maxDischargeDepth := 4) [results, Tryz.results124, go_sem]) rfl ⟨rfl, ?_⟩
    repeat (first | with_reducible assumption | with_reducible exact Below.refl _ _ | with_reducible refine Below.setCell ?_ (by first | omega | (simp [go_sem]; omega) | simp [go_sem]) _ | with_reducible refine Below.alloc ?_ (by first | omega | (simp [go_sem]; omega) | simp [go_sem]) _ | with_reducible refine below_grow ?_ (by first | omega | (simp [go_sem]; omega) | simp [go_sem]) _ _ | with_reducible refine Below.drew ?_)
  · obtain ⟨n, rfl⟩ := Int.eq_ofNat_of_zero_le (Int.not_lt.1 ha)
    rw [Int.natAbs_natCast]
    clear h
    go_enter Tryz.func124, Tryz.ntmps124
    go_wp2_with fail
    refine bodyPost_ret (v := .agg #[.int .i64 n, .slice none 0 0]) (by simp (maxDischargeDepth := 4) [results, Tryz.results124, go_sem]) rfl ⟨rfl, ?_⟩
    repeat (first | with_reducible assumption | with_reducible exact Below.refl _ _ | with_reducible refine Below.setCell ?_ (by first | omega | (simp [go_sem]; omega) | simp [go_sem]) _ | with_reducible refine Below.alloc ?_ (by first | omega | (simp [go_sem]; omega) | simp [go_sem]) _ | with_reducible refine below_grow ?_ (by first | omega | (simp [go_sem]; omega) | simp [go_sem]) _ _ | with_reducible refine Below.drew ?_)

def sgn (a : Int) : Int := if a < 0 then -1 else if a = 0 then 0 else 1

theorem nSign (a : Int) (w : World) : Calls Tryz.prog 111 #[.agg #[.int .i64 a, .slice none 0 0]] w fun e w' => e = .returned (.int .i64 (sgn a)) ∧ Below w.heap.size w w' := by
  have hs : max (-1) (min 1 a) = sgn a := by unfold sgn; split <;> (try split) <;> omega
  go_enter Tryz.func111, Tryz.ntmps111
  go_wp2_with fail
  go_ret
  refine ⟨rfl, ?_⟩
  repeat (first | with_reducible assumption | with_reducible exact Below.refl _ _ | with_reducible refine Below.setCell ?_ (by first | omega | (simp [go_sem]; omega) | simp [go_sem]) _ | with_reducible refine Below.alloc ?_ (by first | omega | (simp [go_sem]; omega) | simp [go_sem]) _ | with_reducible refine below_grow ?_ (by first | omega | (simp [go_sem]; omega) | simp [go_sem]) _ _ | with_reducible refine Below.drew ?_)

theorem nSign_zero (w : World) : Calls Tryz.prog 111 #[.agg #[.int .i64 0, .slice none 0 0]] w fun e w' => e = .returned (.int .i64 0) ∧ Below w.heap.size w w' := nSign 0 w
theorem nSign_pos (a : Int) (h : 1 ≤ a) (w : World) : Calls Tryz.prog 111 #[.agg #[.int .i64 a, .slice none 0 0]] w fun e w' => e = .returned (.int .i64 1) ∧ Below w.heap.size w w' := by
  have := nSign a w
  rwa [show sgn a = 1 from by unfold sgn; rw [if_neg (by omega), if_neg (by omega)]] at this

theorem nCmp (a b : Int) (w : World) : Calls Tryz.prog 102 #[.agg #[.int .i64 a, .slice none 0 0], .agg #[.int .i64 b, .slice none 0 0]] w fun e w' => e = .returned (.int .i64 (if a < b then -1 else if b < a then 1 else 0)) ∧ Below w.heap.size w w' := by
  have hnil := eqnil
  by_cases h1 : a < b
  · rw [if_pos h1]
    go_enter Tryz.func102, Tryz.ntmps102
    go_wp2_with fail
    go_ret
    refine ⟨rfl, ?_⟩
    repeat (first | with_reducible assumption | with_reducible exact Below.refl _ _ | with_reducible refine Below.setCell ?_ (by first | omega | (simp [go_sem]; omega) | simp [go_sem]) _ | with_reducible refine Below.alloc ?_ (by first | omega | (simp [go_sem]; omega) | simp [go_sem]) _ | with_reducible refine below_grow ?_ (by first | omega | (simp [go_sem]; omega) | simp [go_sem]) _ _ | with_reducible refine Below.drew ?_)
  · rw [if_neg h1]
    by_cases h2 : b < a
    · rw [if_pos h2]
      go_enter Tryz.func102, Tryz.ntmps102
      go_wp2_with fail
      go_ret
      refine ⟨rfl, ?_⟩
      repeat (first | with_reducible assumption | with_reducible exact Below.refl _ _ | with_reducible refine Below.setCell ?_ (by first | omega | (simp [go_sem]; omega) | simp [go_sem]) _ | with_reducible refine Below.alloc ?_ (by first | omega | (simp [go_sem]; omega) | simp [go_sem]) _ | with_reducible refine below_grow ?_ (by first | omega | (simp [go_sem]; omega) | simp [go_sem]) _ _ | with_reducible refine Below.drew ?_)
    · rw [if_neg h2]
      go_enter Tryz.func102, Tryz.ntmps102
      go_wp2_with fail
      go_ret
      refine ⟨rfl, ?_⟩
      repeat (first | with_reducible assumption | with_reducible exact Below.refl _ _ | with_reducible refine Below.setCell ?_ (by first | omega | (simp [go_sem]; omega) | simp [go_sem]) _ | with_reducible refine Below.alloc ?_ (by first | omega | (simp [go_sem]; omega) | simp [go_sem]) _ | with_reducible refine below_grow ?_ (by first | omega | (simp [go_sem]; omega) | simp [go_sem]) _ _ | with_reducible refine Below.drew ?_)

theorem nSub (a b : Int) (hb : -9223372036854775807 ≤ b ∧ b ≤ 9223372036854775807) (h : -9223372036854775808 ≤ a - b ∧ a - b ≤ 9223372036854775807) (w : World) : Calls Tryz.prog 129 #[.agg #[.int .i64 a, .slice none 0 0], .agg #[.int .i64 b, .slice none 0 0]] w fun e w' => e = .returned (.agg #[.int .i64 (a + -b), .slice none 0 0]) ∧ Below w.heap.size w w' := by
  have h' : -9223372036854775808 ≤ a + -b ∧ a + -b ≤ 9223372036854775807 := by omega
  clear h
  go_enter Tryz.func129, Tryz.ntmps129
  go_wp2_with fail
  refine wp_region_tail 4 (by kernel_rfl) (by kernel_rfl) (by kernel_rfl) ?_
  simp only [List.take_succ_cons, List.take_zero, List.drop_succ_cons, List.drop_zero, List.take_nil, List.drop_nil]
  repeat (quiet_step (first | with_reducible exact Calls.regrown_of (nNeg b hb _) | with_reducible exact Calls.regrown_of (nAdd a (-b) h' _)))
  refine wpQuiet_nil ?_
  intro w1 hw1
  obtain ⟨⟨dq, osq⟩, rfl⟩ := hw1
  go_wp2_with fail
  refine bodyPost_ret (v := .agg #[.int .i64 (a + -b), .slice none 0 0]) (by simp (maxDischargeDepth := 4) [results, Tryz.results129, go_sem]) rfl ⟨rfl, ?_⟩
  repeat (first | with_reducible assumption | with_reducible exact Below.refl _ _ | with_reducible refine Below.setCell ?_ (by first | omega | (simp [go_sem]; omega) | simp [go_sem]) _ | with_reducible refine Below.alloc ?_ (by first | omega | (simp [go_sem]; omega) | simp [go_sem]) _ | with_reducible refine below_grow ?_ (by first | omega | (simp [go_sem]; omega) | simp [go_sem]) _ _ | with_reducible refine Below.drew ?_)
end Go.Proofs.YtgdlehoglpiifaaGreatDoor
namespace Go.Proofs.YtgdlehoglpiifaaGreatDoor
open Go.RowKit Go.Sort

theorem tdiv_floor_neg (a b : Int) (hb : 0 < b) (h : a.tmod b < 0) : a.tdiv b - 1 = a / b ∧ a.tmod b + b = a % b := by
  have h1 := Int.tmod_add_mul_tdiv a b
  have h2 := Int.emod_add_mul_ediv a b
  have h3 := Int.emod_nonneg a (by omega : b ≠ 0)
  have h4 := Int.emod_lt_of_pos a hb
  have h5 : a.tmod b > -b := by
    have := Int.tmod_lt_of_pos (-a) hb
    rw [Int.neg_tmod] at this
    omega
  have hq : a.tdiv b - 1 = a / b := by
    have e : b * (a.tdiv b - a / b) = a % b - a.tmod b := by rw [Int.mul_sub]; omega
    have p1 : 0 < b * (a.tdiv b - a / b) := by omega
    have p2 : b * (a.tdiv b - a / b) < b * 2 := by omega
    have p3 : 0 < a.tdiv b - a / b := Int.lt_of_mul_lt_mul_left (a := b) (by rw [Int.mul_zero]; exact p1) (by omega)
    have p4 : a.tdiv b - a / b < 2 := Int.lt_of_mul_lt_mul_left p2 (by omega)
    omega
  refine ⟨hq, ?_⟩
  rw [← hq] at h2
  rw [Int.mul_sub] at h2
  omega
theorem tdiv_floor (a b : Int) (hb : 0 < b) (h : 0 ≤ a.tmod b) : a.tdiv b = a / b ∧ a.tmod b = a % b := by
  have h1 := Int.tmod_add_mul_tdiv a b
  have h2 := Int.emod_add_mul_ediv a b
  have h3 := Int.emod_nonneg a (by omega : b ≠ 0)
  have h4 := Int.emod_lt_of_pos a hb
  have h5 : a.tmod b < b := Int.tmod_lt_of_pos a hb
  have hq : a.tdiv b = a / b := by
    have e : b * (a.tdiv b - a / b) = a % b - a.tmod b := by rw [Int.mul_sub]; omega
    have p2 : b * (a.tdiv b - a / b) < b * 1 := by omega
    have p1 : b * (-1) < b * (a.tdiv b - a / b) := by omega
    have p4 : a.tdiv b - a / b < 1 := Int.lt_of_mul_lt_mul_left p2 (by omega)
    have p3 : -1 < a.tdiv b - a / b := Int.lt_of_mul_lt_mul_left p1 (by omega)
    omega
  refine ⟨hq, ?_⟩
  rw [← hq] at h2
  omega
theorem Int.ediv_le_self' (a b : Int) (hb : 0 < b) : (-9223372036854775807 ≤ a → -9223372036854775807 ≤ a / b) ∧ (a ≤ 9223372036854775807 → a / b ≤ 9223372036854775807) := by
  refine ⟨fun h => ?_, fun h => ?_⟩
  · rw [Int.le_ediv_iff_mul_le hb]
    have : (-9223372036854775807 : Int) * b ≤ -9223372036854775807 * 1 := Int.mul_le_mul_of_nonpos_left (by omega) (by omega)
    omega
  · by_cases h0 : a < 0
    · have := Int.ediv_neg_of_neg_of_pos h0 hb
      omega
    · have := Int.ediv_le_self b (a := a) (by omega)
      omega
theorem nDivMod (a b : Int) (ha : -9223372036854775807 ≤ a ∧ a ≤ 9223372036854775807) (hb : 1 ≤ b ∧ b ≤ 9223372036854775807) (w : World) : Calls Tryz.prog 104 #[.agg #[.int .i64 a, .slice none 0 0], .agg #[.int .i64 b, .slice none 0 0]] w fun e w' => e = .returned (.tuple #[.agg #[.int .i64 (a / b), .slice none 0 0], .agg #[.int .i64 (a % b), .slice none 0 0]]) ∧ Below w.heap.size w w' := by
  have hnil := eqnil
  obtain ⟨ha0, ha1⟩ := ha
  obtain ⟨hb0, hb1⟩ := hb
  have hm : (a != (-9223372036854775808 : Int)) = true := by rw [bne_iff_ne]; omega
  have q1 := Int.emod_nonneg a (by omega : b ≠ 0)
  have q2 := Int.emod_lt_of_pos a (by omega : 0 < b)
  have q3 := (Int.ediv_le_self' a b (by omega)).1 ha0
  have q4 := (Int.ediv_le_self' a b (by omega)).2 ha1
  have hb2 : ¬ b = 0 := by omega
  have hb3 : (b == 0) = false := by rw [beq_eq_false_iff_ne]; omega
  generalize hq : a / b = q at *
  generalize hr : a % b = r at *
  by_cases h : a.tmod b < 0
  · have e := tdiv_floor_neg a b (by omega) h
    have hneg : a < 0 := by
      rcases Int.lt_or_le a 0 with h' | h'
      · exact h'
      · have := Int.tmod_nonneg b h'
        omega
    have hq1 := Int.ediv_neg_of_neg_of_pos hneg (by omega : 0 < b)
    rw [hq] at hq1
    rw [hq, hr] at e
    have e1 : IntKind.i64.wrap (a.tdiv b) = q + 1 := by rw [IntWalk.i64_in _ (by omega)]; omega
    have e2 : a.tmod b = r - b := by omega
    have e3 : r - b < 0 := by omega
    have e4 : IntKind.i64.wrap q = q := IntWalk.i64_in _ (by omega)
    have e5 : IntKind.i64.wrap r = r := IntWalk.i64_in _ (by omega)
    clear h e hq hr
    go_enter Tryz.func104, Tryz.ntmps104
    go_wp2_with fail
    refine wp_region_tail 12 (by kernel_rfl) (by kernel_rfl) (by kernel_rfl) ?_
    simp only [List.take_succ_cons, List.take_zero, List.drop_succ_cons, List.drop_zero, List.take_nil, List.drop_nil]
    repeat (quiet_step (first | fail))
    refine wpQuiet_nil ?_
    intro w1 hw1
    obtain ⟨⟨dq, osq⟩, rfl⟩ := hw1
    go_wp2_with fail
    refine wp_region_tail 8 (by kernel_rfl) (by kernel_rfl) (by kernel_rfl) ?_
    simp only [List.take_succ_cons, List.take_zero, List.drop_succ_cons, List.drop_zero, List.take_nil, List.drop_nil]
    repeat (quiet_step (first | fail))
    refine wpQuiet_nil ?_
    intro w1 hw1
    obtain ⟨⟨dq, osq⟩, rfl⟩ := hw1
    go_wp2_with fail
    refine bodyPost_ret (v := .tuple #[.agg #[.int .i64 q, .slice none 0 0], .agg #[.int .i64 r, .slice none 0 0]]) (by simp (maxDischargeDepth := 4) [results, Tryz.results104, go_sem]) rfl ⟨rfl, ?_⟩
    repeat (first | with_reducible assumption | with_reducible exact Below.refl _ _ | with_reducible refine Below.setCell ?_ (by first | omega | (simp [go_sem]; omega) | simp [go_sem]) _ | with_reducible refine Below.alloc ?_ (by first | omega | (simp [go_sem]; omega) | simp [go_sem]) _ | with_reducible refine below_grow ?_ (by first | omega | (simp [go_sem]; omega) | simp [go_sem]) _ _ | with_reducible refine Below.drew ?_)
  · have e := tdiv_floor a b (by omega) (by omega)
    rw [hq, hr] at e
    have e1 : IntKind.i64.wrap (a.tdiv b) = q := by rw [IntWalk.i64_in _ (by omega)]; omega
    have e2 : a.tmod b = r := by omega
    have e3 : ¬ r < 0 := by omega
    clear h e hq hr
    go_enter Tryz.func104, Tryz.ntmps104
    go_wp2_with fail
    refine wp_region_tail 12 (by kernel_rfl) (by kernel_rfl) (by kernel_rfl) ?_
    simp only [List.take_succ_cons, List.take_zero, List.drop_succ_cons, List.drop_zero, List.take_nil, List.drop_nil]
    repeat (quiet_step (first | fail))
    refine wpQuiet_nil ?_
    intro w1 hw1
    obtain ⟨⟨dq, osq⟩, rfl⟩ := hw1
    go_wp2_with fail
    refine bodyPost_ret (v := .tuple #[.agg #[.int .i64 q, .slice none 0 0], .agg #[.int .i64 r, .slice none 0 0]]) (by simp (maxDischargeDepth := 4) [results, Tryz.results104, go_sem]) rfl ⟨rfl, ?_⟩
    repeat (first | with_reducible assumption | with_reducible exact Below.refl _ _ | with_reducible refine Below.setCell ?_ (by first | omega | (simp [go_sem]; omega) | simp [go_sem]) _ | with_reducible refine Below.alloc ?_ (by first | omega | (simp [go_sem]; omega) | simp [go_sem]) _ | with_reducible refine below_grow ?_ (by first | omega | (simp [go_sem]; omega) | simp [go_sem]) _ _ | with_reducible refine Below.drew ?_)
end Go.Proofs.YtgdlehoglpiifaaGreatDoor
namespace Go.Proofs.YtgdlehoglpiifaaGreatDoor
open Go.RowKit Go.Sort

theorem nQuo (a b : Int) (ha : -9223372036854775807 ≤ a ∧ a ≤ 9223372036854775807) (hb : 1 ≤ b ∧ b ≤ 9223372036854775807) (w : World) : Calls Tryz.prog 113 #[.agg #[.int .i64 a, .slice none 0 0], .agg #[.int .i64 b, .slice none 0 0]] w fun e w' => e = .returned (.agg #[.int .i64 (a / b), .slice none 0 0]) ∧ Below w.heap.size w w' := by
  have c1 := Lib.hid (fun w => nDivMod a b ha hb w)
  have c2 := nSign b
  have e1 : sgn b = 1 := by unfold sgn; rw [if_neg (by omega), if_neg (by omega)]
  rw [e1] at c2
  have c2 := Lib.hid c2
  clear e1 ha hb
  go_enter Tryz.func113, Tryz.ntmps113
  go_wp2_with fail
  (with_reducible refine (c2.out _).mono ?_)
  rintro e w1 ⟨rfl, hb1⟩
  obtain ⟨⟨dq, osq⟩, rfl⟩ := regrown_of_below hb1
  clear hb1
  go_wp2_with fail
  (with_reducible refine (c1.out _).mono ?_)
  rintro e w1 ⟨rfl, hb1⟩
  obtain ⟨⟨dq, osq⟩, rfl⟩ := regrown_of_below hb1
  clear hb1
  go_wp2_with fail
  refine bodyPost_ret (v := .agg #[.int .i64 (a / b), .slice none 0 0]) (by simp (maxDischargeDepth := 4) [results, Tryz.results113, go_sem]) rfl ⟨rfl, ?_⟩
  repeat (first | with_reducible assumption | with_reducible exact Below.refl _ _ | with_reducible refine Below.setCell ?_ (by first | omega | (simp [go_sem]; omega) | simp [go_sem]) _ | with_reducible refine Below.alloc ?_ (by first | omega | (simp [go_sem]; omega) | simp [go_sem]) _ | with_reducible refine below_grow ?_ (by first | omega | (simp [go_sem]; omega) | simp [go_sem]) _ _ | with_reducible refine Below.drew ?_)

/-- What a round of Gcd finds. -/
def GcdRel (B : Nat) (w : World) (g : Nat) (wr : World) : Prop := ∃ x y : Nat, wr.cell? ⟨B, 0, none⟩ = some (.int .i64 x) ∧ wr.cell? ⟨B, 1, none⟩ = some (.slice none 0 0) ∧ wr.cell? ⟨B + 1, 0, none⟩ = some (.int .i64 y) ∧ wr.cell? ⟨B + 1, 1, none⟩ = some (.slice none 0 0) ∧
  wr.cell? ⟨B + 1 + 1, 0, none⟩ = some (.int .i64 0) ∧ wr.cell? ⟨B + 1 + 1, 1, none⟩ = some (.slice none 0 0) ∧ (∀ j, wr.frozen? ⟨B, j, none⟩ = false) ∧ (∀ j, wr.frozen? ⟨B + 1, j, none⟩ = false) ∧ (∀ j, wr.frozen? ⟨B + 1 + 1, j, none⟩ = false) ∧ B + 1 + 1 < wr.heap.size ∧ Below B w wr ∧ x ≤ 9223372036854775807 ∧ y ≤ 9223372036854775807 ∧ Nat.gcd x y = g
/-- The second number, read off the world. -/
def gcdLeft (B : Nat) (wr : World) : Nat := (intOf ((wr.cell? ⟨B + 1, 0, none⟩).getD undef)).toNat

theorem nGcd (a b : Int) (ha : -9223372036854775807 ≤ a ∧ a ≤ 9223372036854775807) (hb : -9223372036854775807 ≤ b ∧ b ≤ 9223372036854775807) (w : World) : Calls Tryz.prog 100 #[.agg #[.int .i64 a, .slice none 0 0], .agg #[.int .i64 b, .slice none 0 0]] w fun e w' => e = .returned (.agg #[.int .i64 (Int.gcd a b), .slice none 0 0]) ∧ Below w.heap.size w w' := by
  have c1 := Lib.hid (fun w => nAbs a ha w)
  have c2 := Lib.hid (fun w => nAbs b hb w)
  have hx : a.natAbs ≤ 9223372036854775807 := by omega
  have hy : b.natAbs ≤ 9223372036854775807 := by omega
  obtain ⟨g, hg⟩ : ∃ g, g = Int.gcd a b := ⟨_, rfl⟩
  rw [← hg]
  have Hg := Lib.hid hg
  clear ha hb hg
  go_enter Tryz.func100, Tryz.ntmps100
  go_wp2_with fail
  refine wp_region_tail 4 (by kernel_rfl) (by kernel_rfl) (by kernel_rfl) ?_
  simp only [List.take_succ_cons, List.take_zero, List.drop_succ_cons, List.drop_zero, List.take_nil, List.drop_nil]
  repeat (quiet_step (first | with_reducible exact Calls.regrown_of (c1.out _) | with_reducible exact Calls.regrown_of (c2.out _)))
  refine wpQuiet_nil ?_
  intro w1 hw1
  obtain ⟨⟨dq, osq⟩, rfl⟩ := hw1
  clear c1 c2
  go_wp2_with fail
  go_loopw [] (fun wr => GcdRel w.heap.size w g wr) (fun wr => gcdLeft w.heap.size wr)
  case atStart =>
    refine ⟨a.natAbs, b.natAbs, ?_, ?_, ?_, ?_, ?_, ?_, ?_, ?_, ?_, ?_, ?_, hx, hy, Hg.out.symm⟩
    all_goals try simp (maxDischargeDepth := 20) [go_sem]
    repeat (first | with_reducible assumption | with_reducible exact Below.refl _ _ | with_reducible refine Below.setCell ?_ (by first | omega | (simp [go_sem]; omega) | simp [go_sem]) _ | with_reducible refine Below.alloc ?_ (by first | omega | (simp [go_sem]; omega) | simp [go_sem]) _ | with_reducible refine below_grow ?_ (by first | omega | (simp [go_sem]; omega) | simp [go_sem]) _ _ | with_reducible refine Below.drew ?_)
  case round =>
    obtain ⟨x, y, h00, h01, h10, h11, h20, h21, f0, f1, f2, hlt, hb, hx', hy', hgcd⟩ := hrel
    have hz0 : w.heap.size < wr.heap.size := by omega
    have hz1 : w.heap.size + 1 < wr.heap.size := by omega
    have Hgcd := Lib.hid hgcd
    clear hgcd
    by_cases hy0 : y = 0
    · subst hy0
      obtain rfl : x = g := by simpa using Hgcd.out
      go_wp2_with fail
      (with_reducible refine (nSign_zero _).mono ?_)
      rintro e w1 ⟨rfl, hb1⟩
      obtain ⟨⟨dq, osq⟩, rfl⟩ := regrown_of_below hb1
      clear hb1
      go_wp2_with fail
      clear Hgcd Hg
      refine bodyPost_ret (v := .agg #[.int .i64 x, .slice none 0 0]) (by simp (maxDischargeDepth := 4) [*, results, Tryz.results100, go_sem]) rfl ⟨rfl, ?_⟩
      repeat (first | with_reducible assumption | with_reducible exact Below.refl _ _ | with_reducible refine Below.setCell ?_ (by first | omega | (simp [go_sem]; omega) | simp [go_sem]) _ | with_reducible refine Below.alloc ?_ (by first | omega | (simp [go_sem]; omega) | simp [go_sem]) _ | with_reducible refine below_grow ?_ (by first | omega | (simp [go_sem]; omega) | simp [go_sem]) _ _ | with_reducible refine Below.drew ?_)
    · have hy1 : (1 : Int) ≤ (y : Int) := by omega
      have c3 := Lib.hid (fun w => nDivMod x y (by omega) (by omega) w)
      go_wp2_with fail
      (with_reducible refine (nSign_pos _ hy1 _).mono ?_)
      rintro e w1 ⟨rfl, hb1⟩
      obtain ⟨⟨dq, osq⟩, rfl⟩ := regrown_of_below hb1
      clear hb1
      go_wp2_with fail
      (with_reducible refine (c3.out _).mono ?_)
      rintro e w1 ⟨rfl, hb1⟩
      obtain ⟨⟨dq, osq⟩, rfl⟩ := regrown_of_below hb1
      clear hb1
      go_wp2_with fail
      go_region
      go_roundw
      case rel =>
        (repeat apply Exists.intro)
        refine ⟨?_, rfl⟩
        refine ⟨y, x % y, ?_, ?_, ?_, ?_, ?_, ?_, ?_, ?_, ?_, ?_, ?_, hy', ?_, ?_⟩
        case refine_11 =>
          repeat (first | with_reducible assumption | with_reducible exact Below.refl _ _ | with_reducible refine Below.setCell ?_ (by first | omega | (simp [go_sem]; omega) | simp [go_sem]) _ | with_reducible refine Below.alloc ?_ (by first | omega | (simp [go_sem]; omega) | simp [go_sem]) _ | with_reducible refine below_grow ?_ (by first | omega | (simp [go_sem]; omega) | simp [go_sem]) _ _ | with_reducible refine Below.drew ?_)
        case refine_12 =>
          have := Nat.mod_lt x (by omega : y > 0)
          omega
        case refine_13 =>
          rw [← Hgcd.out, Nat.gcd_comm x y, Nat.gcd_rec y x, Nat.gcd_comm]
        all_goals simp (maxDischargeDepth := 4) [*, go_sem]
      case measure =>
        unfold gcdLeft
        have hm : x % y < y := Nat.mod_lt x (by omega : y > 0)
        have e : ((x : Int) % (y : Int)).toNat = x % y := by rw [← Int.natCast_emod]; rfl
        simp (maxDischargeDepth := 4) [*, go_sem, intOf]
end Go.Proofs.YtgdlehoglpiifaaGreatDoor
namespace Go.Proofs.YtgdlehoglpiifaaGreatDoor
open Go.RowKit Go.Sort

theorem nSize (n : Int) (h : -9223372036854775807 ≤ n ∧ n ≤ 9223372036854775807) (w : World) : Calls Tryz.prog 117 #[.int .i64 n] w fun e w' => e = .returned (.int .u64 (n.natAbs : Nat)) ∧ Below w.heap.size w w' := by
  by_cases hn : n < 0
  · obtain ⟨m, hm⟩ : ∃ m : Int, m = -n := ⟨_, rfl⟩
    have e1 : (n.natAbs : Int) = m := by omega
    have e2 : IntKind.u64.wrap m = m := IntWalk.u64_in _ (by omega)
    have e3 : -n = m := hm.symm
    rw [e1]
    clear e1 hm
    go_enter Tryz.func117, Tryz.ntmps117
    go_wp2_with fail
    go_ret
    refine ⟨rfl, ?_⟩
    repeat (first | with_reducible assumption | with_reducible exact Below.refl _ _ | with_reducible refine Below.setCell ?_ (by first | omega | (simp [go_sem]; omega) | simp [go_sem]) _ | with_reducible refine Below.alloc ?_ (by first | omega | (simp [go_sem]; omega) | simp [go_sem]) _ | with_reducible refine below_grow ?_ (by first | omega | (simp [go_sem]; omega) | simp [go_sem]) _ _ | with_reducible refine Below.drew ?_)
  · obtain ⟨m, rfl⟩ := Int.eq_ofNat_of_zero_le (Int.not_lt.1 hn)
    have e2 : IntKind.u64.wrap (m : Int) = m := IntWalk.u64_in _ (by omega)
    rw [Int.natAbs_natCast]
    go_enter Tryz.func117, Tryz.ntmps117
    go_wp2_with fail
    go_ret
    refine ⟨rfl, ?_⟩
    repeat (first | with_reducible assumption | with_reducible exact Below.refl _ _ | with_reducible refine Below.setCell ?_ (by first | omega | (simp [go_sem]; omega) | simp [go_sem]) _ | with_reducible refine Below.alloc ?_ (by first | omega | (simp [go_sem]; omega) | simp [go_sem]) _ | with_reducible refine below_grow ?_ (by first | omega | (simp [go_sem]; omega) | simp [go_sem]) _ _ | with_reducible refine Below.drew ?_)

theorem nMul64 (x y : Nat) (h : x * y < 18446744073709551616) (hx : x < 18446744073709551616) (hy : y < 18446744073709551616) (w : World) :
    Calls Tryz.prog 116 #[.int .u64 x, .int .u64 y] w fun e w' => e = .returned (.tuple #[.int .u64 0, .int .u64 (x * y : Nat)]) ∧ Below w.heap.size w w' :=
  (Tryz.bits_Mul64 x y hx hy w).mono fun e w' ⟨h1, h2⟩ => by
    subst h2
    refine ⟨?_, Below.refl _ _⟩
    rw [h1, Nat.div_eq_of_lt h, Nat.mod_eq_of_lt h]; rfl

theorem nMul (a b : Int) (ha : -9223372036854775807 ≤ a ∧ a ≤ 9223372036854775807) (hb : -9223372036854775807 ≤ b ∧ b ≤ 9223372036854775807) (h : -9223372036854775807 ≤ a * b ∧ a * b ≤ 9223372036854775807) (w : World) : Calls Tryz.prog 94 #[.agg #[.int .i64 a, .slice none 0 0], .agg #[.int .i64 b, .slice none 0 0]] w fun e w' => e = .returned (.agg #[.int .i64 (a * b), .slice none 0 0]) ∧ Below w.heap.size w w' := by
  have hnil := eqnil
  have c1 := Lib.hid (fun w => nSize a ha w)
  have c2 := Lib.hid (fun w => nSize b hb w)
  have hab : ((a.natAbs * b.natAbs : Nat) : Int) = ((a * b).natAbs : Nat) := by rw [Int.natAbs_mul]
  have c3 := Lib.hid (fun w => nMul64 a.natAbs b.natAbs (by omega) (by omega) (by omega) w)
  generalize hx : a.natAbs = x at *
  generalize hy : b.natAbs = y at *
  obtain ⟨m, hm⟩ : ∃ m : Nat, m = x * y := ⟨_, rfl⟩
  rw [← hm] at c3 hab
  have hm1 : (m : Int) ≤ 9223372036854775807 := by omega
  have hcv : IntKind.i64.wrap (m : Int) = m := IntWalk.i64_in _ (by omega)
  obtain ⟨p, hp⟩ : ∃ p, p = a * b := ⟨_, rfl⟩
  rw [← hp] at h hab ⊢
  have hpos : (decide (a < 0) = decide (b < 0)) → p = m := by
    intro he
    have : 0 ≤ p := by
      rw [hp]
      by_cases h0 : a < 0
      · have : b < 0 := by simpa [h0] using he
        exact Int.mul_nonneg_of_nonpos_of_nonpos (by omega) (by omega)
      · have : ¬ b < 0 := by simpa [h0] using he
        exact Int.mul_nonneg (by omega) (by omega)
    omega
  have hneg : ¬ (decide (a < 0) = decide (b < 0)) → p = -m := by
    intro he
    have : p ≤ 0 := by
      rw [hp]
      by_cases h0 : a < 0
      · have : ¬ b < 0 := by simpa [h0] using he
        exact Int.mul_nonpos_of_nonpos_of_nonneg (by omega) (by omega)
      · have : b < 0 := by simpa [h0] using he
        exact Int.mul_nonpos_of_nonneg_of_nonpos (by omega) (by omega)
    omega
  clear hx hy hm hp hab ha hb
  by_cases hs : decide (a < 0) = decide (b < 0)
  · obtain rfl := hpos hs
    clear hpos hneg h
    by_cases h0 : a < 0
    · have h1 : b < 0 := by simpa [h0] using hs
      have d1 : decide (a < 0) = true := by simp; omega
      have d2 : decide (b < 0) = true := by simp; omega
      clear hs h0 h1
      go_enter Tryz.func94, Tryz.ntmps94
      go_wp2_with fail
      refine wp_region_tail 12 (by kernel_rfl) (by kernel_rfl) (by kernel_rfl) ?_
      simp only [List.take_succ_cons, List.take_zero, List.drop_succ_cons, List.drop_zero, List.take_nil, List.drop_nil]
      repeat (quiet_step (first | with_reducible exact Calls.regrown_of (c1.out _) | with_reducible exact Calls.regrown_of (c2.out _) | with_reducible exact Calls.regrown_of (c3.out _)))
      refine wpQuiet_nil ?_
      intro w1 hw1
      obtain ⟨⟨dq, osq⟩, rfl⟩ := hw1
      clear c1 c2 c3
      go_wp2_with fail
      refine bodyPost_ret (v := .agg #[.int .i64 m, .slice none 0 0]) (by simp (maxDischargeDepth := 4) [results, Tryz.results94, go_sem]) rfl ⟨rfl, ?_⟩
      repeat (first | with_reducible assumption | with_reducible exact Below.refl _ _ | with_reducible refine Below.setCell ?_ (by first | omega | (simp [go_sem]; omega) | simp [go_sem]) _ | with_reducible refine Below.alloc ?_ (by first | omega | (simp [go_sem]; omega) | simp [go_sem]) _ | with_reducible refine below_grow ?_ (by first | omega | (simp [go_sem]; omega) | simp [go_sem]) _ _ | with_reducible refine Below.drew ?_)
    · have h1 : ¬ b < 0 := by simpa [h0] using hs
      have d1 : decide (a < 0) = false := by simp; omega
      have d2 : decide (b < 0) = false := by simp; omega
      clear hs h0 h1
      go_enter Tryz.func94, Tryz.ntmps94
      go_wp2_with fail
      refine wp_region_tail 12 (by kernel_rfl) (by kernel_rfl) (by kernel_rfl) ?_
      simp only [List.take_succ_cons, List.take_zero, List.drop_succ_cons, List.drop_zero, List.take_nil, List.drop_nil]
      repeat (quiet_step (first | with_reducible exact Calls.regrown_of (c1.out _) | with_reducible exact Calls.regrown_of (c2.out _) | with_reducible exact Calls.regrown_of (c3.out _)))
      refine wpQuiet_nil ?_
      intro w1 hw1
      obtain ⟨⟨dq, osq⟩, rfl⟩ := hw1
      clear c1 c2 c3
      go_wp2_with fail
      refine bodyPost_ret (v := .agg #[.int .i64 m, .slice none 0 0]) (by simp (maxDischargeDepth := 4) [results, Tryz.results94, go_sem]) rfl ⟨rfl, ?_⟩
      repeat (first | with_reducible assumption | with_reducible exact Below.refl _ _ | with_reducible refine Below.setCell ?_ (by first | omega | (simp [go_sem]; omega) | simp [go_sem]) _ | with_reducible refine Below.alloc ?_ (by first | omega | (simp [go_sem]; omega) | simp [go_sem]) _ | with_reducible refine below_grow ?_ (by first | omega | (simp [go_sem]; omega) | simp [go_sem]) _ _ | with_reducible refine Below.drew ?_)
  · obtain rfl := hneg hs
    clear hpos hneg h
    have hcn : IntKind.i64.wrap (-(m : Int)) = -(m : Int) := IntWalk.i64_in _ (by omega)
    by_cases h0 : a < 0
    · have h1 : ¬ b < 0 := by simpa [h0] using hs
      have d1 : decide (a < 0) = true := by simp; omega
      have d2 : decide (b < 0) = false := by simp; omega
      clear hs h0 h1
      go_enter Tryz.func94, Tryz.ntmps94
      go_wp2_with fail
      refine wp_region_tail 12 (by kernel_rfl) (by kernel_rfl) (by kernel_rfl) ?_
      simp only [List.take_succ_cons, List.take_zero, List.drop_succ_cons, List.drop_zero, List.take_nil, List.drop_nil]
      repeat (quiet_step (first | with_reducible exact Calls.regrown_of (c1.out _) | with_reducible exact Calls.regrown_of (c2.out _) | with_reducible exact Calls.regrown_of (c3.out _)))
      refine wpQuiet_nil ?_
      intro w1 hw1
      obtain ⟨⟨dq, osq⟩, rfl⟩ := hw1
      clear c1 c2 c3
      go_wp2_with fail
      refine bodyPost_ret (v := .agg #[.int .i64 (-(m : Int)), .slice none 0 0]) (by simp (maxDischargeDepth := 4) [results, Tryz.results94, go_sem]) rfl ⟨rfl, ?_⟩
      repeat (first | with_reducible assumption | with_reducible exact Below.refl _ _ | with_reducible refine Below.setCell ?_ (by first | omega | (simp [go_sem]; omega) | simp [go_sem]) _ | with_reducible refine Below.alloc ?_ (by first | omega | (simp [go_sem]; omega) | simp [go_sem]) _ | with_reducible refine below_grow ?_ (by first | omega | (simp [go_sem]; omega) | simp [go_sem]) _ _ | with_reducible refine Below.drew ?_)
    · have h1 : b < 0 := by simpa [h0] using hs
      have d1 : decide (a < 0) = false := by simp; omega
      have d2 : decide (b < 0) = true := by simp; omega
      clear hs h0 h1
      go_enter Tryz.func94, Tryz.ntmps94
      go_wp2_with fail
      refine wp_region_tail 12 (by kernel_rfl) (by kernel_rfl) (by kernel_rfl) ?_
      simp only [List.take_succ_cons, List.take_zero, List.drop_succ_cons, List.drop_zero, List.take_nil, List.drop_nil]
      repeat (quiet_step (first | with_reducible exact Calls.regrown_of (c1.out _) | with_reducible exact Calls.regrown_of (c2.out _) | with_reducible exact Calls.regrown_of (c3.out _)))
      refine wpQuiet_nil ?_
      intro w1 hw1
      obtain ⟨⟨dq, osq⟩, rfl⟩ := hw1
      clear c1 c2 c3
      go_wp2_with fail
      refine bodyPost_ret (v := .agg #[.int .i64 (-(m : Int)), .slice none 0 0]) (by simp (maxDischargeDepth := 4) [results, Tryz.results94, go_sem]) rfl ⟨rfl, ?_⟩
      repeat (first | with_reducible assumption | with_reducible exact Below.refl _ _ | with_reducible refine Below.setCell ?_ (by first | omega | (simp [go_sem]; omega) | simp [go_sem]) _ | with_reducible refine Below.alloc ?_ (by first | omega | (simp [go_sem]; omega) | simp [go_sem]) _ | with_reducible refine below_grow ?_ (by first | omega | (simp [go_sem]; omega) | simp [go_sem]) _ _ | with_reducible refine Below.drew ?_)

end Go.Proofs.YtgdlehoglpiifaaGreatDoor
namespace Go.Proofs.YtgdlehoglpiifaaGreatDoor
open Go.RowKit Go.Sort

theorem bitLen_le (x : Nat) : Lib.bitLen x ≤ 64 := by
  unfold Lib.bitLen
  have : ∀ f x, Lib.bitLenAux f x ≤ f := by
    intro f
    induction f with
    | zero => intro x; simp [Lib.bitLenAux]
    | succ f ih => intro x; simp only [Lib.bitLenAux]; split <;> have := ih (x / 2) <;> omega
  exact this 64 x

/-- What parts gives of a machine integer other than 0: its sign, and a new list of one digit. -/
def PartsPost (n : Int) (m : Nat) (w : World) (e : Ending) (w' : World) : Prop :=
  ∃ b, e = .returned (.tuple #[.bool (decide (n < 0)), .slice (some ⟨b, 0, none⟩) 1 1]) ∧ w.heap.size ≤ b ∧ b < w'.heap.size ∧ w'.cell? ⟨b, 0, none⟩ = some (.int .u64 m) ∧ Below w.heap.size w w'
theorem nParts (n : Int) (h : -9223372036854775807 ≤ n ∧ n ≤ 9223372036854775807) (h0 : n ≠ 0) (w : World) : Calls Tryz.prog 118 #[.agg #[.int .i64 n, .slice none 0 0]] w (PartsPost n n.natAbs w) := by
  have hnil := nenil
  have c1 := Lib.hid (fun w => nSize n h w)
  have hb : (n == 0) = false := beq_eq_false_iff_ne.2 h0
  have hd : ¬ n = 0 := h0
  clear h h0
  generalize n.natAbs = m at *
  go_enter Tryz.func118, Tryz.ntmps118
  go_wp2_with fail
  go_region_with ((go_at_call 117; (with_reducible refine (c1.out _).mono ?_); rintro e w1 ⟨rfl, hb1⟩; obtain ⟨⟨dq, osq⟩, rfl⟩ := regrown_of_below hb1; clear hb1))
  all_goals clear c1
  all_goals (go_wp2_with fail; go_ret2; refine ⟨_, rfl, ?_, ?_, ?_, ?_⟩)
  all_goals first | omega | (simp [go_sem]; omega) | (simp (maxDischargeDepth := 4) [go_sem]; done) | (simp (maxDischargeDepth := 4) [*, go_sem]; done) | (repeat (first | with_reducible assumption | with_reducible exact Below.refl _ _ | with_reducible refine Below.setCell ?_ (by first | omega | (simp [go_sem]; omega) | simp [go_sem]) _ | with_reducible refine Below.alloc ?_ (by first | omega | (simp [go_sem]; omega) | simp [go_sem]) _ | with_reducible refine below_grow ?_ (by first | omega | (simp [go_sem]; omega) | simp [go_sem]) _ _ | with_reducible refine Below.drew ?_))
theorem nPartsZero (w : World) : Calls Tryz.prog 118 #[.agg #[.int .i64 0, .slice none 0 0]] w fun e w' => e = .returned (.tuple #[.bool false, .slice none 0 0]) ∧ Below w.heap.size w w' := by
  have hnil := nenil
  go_enter Tryz.func118, Tryz.ntmps118
  go_wp2_with fail
  go_ret2
  refine ⟨rfl, ?_⟩
  repeat (first | with_reducible assumption | with_reducible exact Below.refl _ _ | with_reducible refine Below.setCell ?_ (by first | omega | (simp [go_sem]; omega) | simp [go_sem]) _ | with_reducible refine Below.alloc ?_ (by first | omega | (simp [go_sem]; omega) | simp [go_sem]) _ | with_reducible refine below_grow ?_ (by first | omega | (simp [go_sem]; omega) | simp [go_sem]) _ _ | with_reducible refine Below.drew ?_)

theorem nLen64 (x : Nat) (h : x < 18446744073709551616) (w : World) : Calls Tryz.prog 177 #[.int .u64 x] w fun e w' => e = .returned (.int .i64 (Lib.bitLen x)) ∧ Below w.heap.size w w' :=
  (Tryz.bits_Len64 x w (by omega) (by omega)).mono fun e w' ⟨h1, h2⟩ => by
    subst h2
    exact ⟨by rw [h1]; rfl, Below.refl _ _⟩

theorem nBits (n : Int) (h : -9223372036854775807 ≤ n ∧ n ≤ 9223372036854775807) (w : World) : Calls Tryz.prog 149 #[.agg #[.int .i64 n, .slice none 0 0]] w fun e w' => e = .returned (.int .i64 (Lib.bitLen n.natAbs)) ∧ Below w.heap.size w w' := by
  by_cases h0 : n = 0
  · subst h0
    have e0 : Lib.bitLen (0 : Int).natAbs = 0 := by decide
    rw [e0]
    have c1 := Lib.hid (fun w => nPartsZero w)
    go_enter Tryz.func149, Tryz.ntmps149
    go_wp2_with fail
    (with_reducible refine (c1.out _).mono ?_)
    rintro e w1 ⟨rfl, hb1⟩
    obtain ⟨⟨dq, osq⟩, rfl⟩ := regrown_of_below hb1
    clear hb1
    go_wp2_with fail
    go_ret
    refine ⟨rfl, ?_⟩
    repeat (first | with_reducible assumption | with_reducible exact Below.refl _ _ | with_reducible refine Below.setCell ?_ (by first | omega | (simp [go_sem]; omega) | simp [go_sem]) _ | with_reducible refine Below.alloc ?_ (by first | omega | (simp [go_sem]; omega) | simp [go_sem]) _ | with_reducible refine below_grow ?_ (by first | omega | (simp [go_sem]; omega) | simp [go_sem]) _ _ | with_reducible refine Below.drew ?_)
  · have c1 := Lib.hid (fun w => nParts n h h0 w)
    have c2 := Lib.hid (fun w => nLen64 n.natAbs (by omega) w)
    have hb := bitLen_le n.natAbs
    have hw : IntKind.i64.wrap ((Lib.bitLen n.natAbs : Nat) : Int) = (Lib.bitLen n.natAbs : Nat) := IntWalk.i64_in _ (by omega)
    generalize n.natAbs = m at *
    generalize Lib.bitLen m = k at *
    clear h h0
    go_enter Tryz.func149, Tryz.ntmps149
    go_wp2_with fail
    (with_reducible refine (c1.out _).mono ?_)
    rintro e w1 ⟨b, rfl, hlo, hhi, hcell, hb1⟩
    have hz := hb1.size
    simp only [World.size_alloc] at hz
    go_wp2_with fail
    (with_reducible refine (c2.out _).mono ?_)
    rintro e w1 ⟨rfl, hb1⟩
    obtain ⟨⟨dq, osq⟩, rfl⟩ := regrown_of_below hb1
    clear hb1
    go_wp2_with fail
    go_ret
    refine ⟨rfl, ?_⟩
    repeat (first | with_reducible assumption | with_reducible exact Below.refl _ _ | with_reducible refine Below.setCell ?_ (by first | omega | (simp [go_sem]; omega) | simp [go_sem]) _ | with_reducible refine Below.alloc ?_ (by first | omega | (simp [go_sem]; omega) | simp [go_sem]) _ | with_reducible refine below_grow ?_ (by first | omega | (simp [go_sem]; omega) | simp [go_sem]) _ _ | with_reducible refine Below.drew ?_)
    exact ((Below.refl w.heap.size w).alloc (Nat.le_refl _) _).trans (hb1.mono (B' := w.heap.size) (by simp))

/-- No machine integer has too many digits. -/
theorem nLong (n : Int) (h : -9223372036854775807 ≤ n ∧ n ≤ 9223372036854775807) (w : World) : Calls Tryz.prog 130 #[.agg #[.int .i64 n, .slice none 0 0]] w fun e w' => e = .returned (.bool false) ∧ Below w.heap.size w w' := by
  have c1 := Lib.hid (fun w => nBits n h w)
  have hb := bitLen_le n.natAbs
  generalize Lib.bitLen n.natAbs = k at *
  have hd : ¬ 1800 < (k : Int) := by omega
  clear h hb
  go_enter Tryz.func130, Tryz.ntmps130
  go_wp2_with fail
  (with_reducible refine (c1.out _).mono ?_)
  rintro e w1 ⟨rfl, hb1⟩
  obtain ⟨⟨dq, osq⟩, rfl⟩ := regrown_of_below hb1
  clear hb1
  go_wp2_with fail
  go_ret
  refine ⟨rfl, ?_⟩
  repeat (first | with_reducible assumption | with_reducible exact Below.refl _ _ | with_reducible refine Below.setCell ?_ (by first | omega | (simp [go_sem]; omega) | simp [go_sem]) _ | with_reducible refine Below.alloc ?_ (by first | omega | (simp [go_sem]; omega) | simp [go_sem]) _ | with_reducible refine below_grow ?_ (by first | omega | (simp [go_sem]; omega) | simp [go_sem]) _ _ | with_reducible refine Below.drew ?_)

theorem fLarge (a b : Int) (ha : -9223372036854775807 ≤ a ∧ a ≤ 9223372036854775807) (hb : -9223372036854775807 ≤ b ∧ b ≤ 9223372036854775807) (w : World) : Calls Tryz.prog 103 #[.agg #[.int .i64 a, .slice none 0 0, .int .i64 b, .slice none 0 0]] w fun e w' => e = .returned (.bool false) ∧ Below w.heap.size w w' := by
  have c1 := Lib.hid (fun w => nLong a ha w)
  have c2 := Lib.hid (fun w => nLong b hb w)
  clear ha hb
  go_enter Tryz.func103, Tryz.ntmps103
  go_wp2_with fail
  (with_reducible refine (c1.out _).mono ?_)
  rintro e w1 ⟨rfl, hb1⟩
  obtain ⟨⟨dq, osq⟩, rfl⟩ := regrown_of_below hb1
  clear hb1
  go_wp2_with fail
  (with_reducible refine (c2.out _).mono ?_)
  rintro e w1 ⟨rfl, hb1⟩
  obtain ⟨⟨dq, osq⟩, rfl⟩ := regrown_of_below hb1
  clear hb1
  go_wp2_with fail
  go_ret
  refine ⟨rfl, ?_⟩
  repeat (first | with_reducible assumption | with_reducible exact Below.refl _ _ | with_reducible refine Below.setCell ?_ (by first | omega | (simp [go_sem]; omega) | simp [go_sem]) _ | with_reducible refine Below.alloc ?_ (by first | omega | (simp [go_sem]; omega) | simp [go_sem]) _ | with_reducible refine below_grow ?_ (by first | omega | (simp [go_sem]; omega) | simp [go_sem]) _ _ | with_reducible refine Below.drew ?_)

/-- 10 to the power n: what a round finds. -/
def PowRel (B O : Nat) (w : World) (n : Nat) (s1 : Value) (wr : World) : Prop := ∃ x k y : Nat, s1 = .int .i64 k ∧ wr.cell? ⟨B, 0, none⟩ = some (.int .i64 x) ∧ wr.cell? ⟨B, 1, none⟩ = some (.slice none 0 0) ∧ wr.cell? ⟨B + 1, 0, none⟩ = some (.int .i64 0) ∧ wr.cell? ⟨B + 1, 1, none⟩ = some (.slice none 0 0) ∧
  wr.cell? ⟨O, 0, none⟩ = some (.int .i64 y) ∧ wr.cell? ⟨O, 1, none⟩ = some (.slice none 0 0) ∧ (∀ j, wr.frozen? ⟨B, j, none⟩ = false) ∧ (∀ j, wr.frozen? ⟨B + 1, j, none⟩ = false) ∧ (∀ j, wr.frozen? ⟨O, j, none⟩ = false) ∧ B + 1 < O ∧ O < wr.heap.size ∧ Below B w wr ∧ 1 ≤ x ∧ 1 ≤ y ∧ k ≤ 18 ∧ y * x ^ k = 10 ^ n
theorem pow_odd {x y k T : Nat} (h : y * x ^ k = T) (hk : k % 2 = 1) : y * x * (x * x) ^ (k / 2) = T := by
  rw [← h, ← Nat.pow_two, ← Nat.pow_mul, Nat.mul_assoc, ← Nat.pow_succ']
  congr 2; omega
theorem pow_even {x y k T : Nat} (h : y * x ^ k = T) (hk : k % 2 = 0) : y * (x * x) ^ (k / 2) = T := by
  rw [← h, ← Nat.pow_two, ← Nat.pow_mul]
  congr 2; omega
theorem pow_y {x y k T : Nat} (h : y * x ^ k = T) (hk : k ≠ 0) (hx : 1 ≤ x) : y * x ≤ T := by
  rw [← h]; exact Nat.mul_le_mul_left y (Nat.le_self_pow hk x)
theorem pow_x {x y k T : Nat} (h : y * x ^ k = T) (hk : 2 ≤ k) (hx : 1 ≤ x) (hy : 1 ≤ y) : x * x ≤ T := by
  rw [← h, ← Nat.pow_two]
  exact Nat.le_trans (Nat.pow_le_pow_right hx hk) (Nat.le_mul_of_pos_left _ hy)
theorem nMulN (a b : Nat) (ha : a * b ≤ 9223372036854775807) (h1 : 1 ≤ a) (h2 : 1 ≤ b) (w : World) : Calls Tryz.prog 94 #[.agg #[.int .i64 a, .slice none 0 0], .agg #[.int .i64 b, .slice none 0 0]] w fun e w' => e = .returned (.agg #[.int .i64 ((a * b : Nat) : Int), .slice none 0 0]) ∧ Below w.heap.size w w' := by
  have e1 : a ≤ a * b := Nat.le_mul_of_pos_right a h2
  have e2 : b ≤ a * b := Nat.le_mul_of_pos_left b h1
  have e3 : (a : Int) * (b : Int) = ((a * b : Nat) : Int) := (Int.natCast_mul a b).symm
  have := nMul a b (by omega) (by omega) (by omega) w
  rwa [e3] at this
theorem nPow (n : Nat) (hn : n ≤ 18) (w : World) : Calls Tryz.prog 128 #[.agg #[.int .i64 10, .slice none 0 0], .int .i64 n] w fun e w' => e = .returned (.agg #[.int .i64 ((10 ^ n : Nat) : Int), .slice none 0 0]) ∧ Below w.heap.size w w' := by
  have hp : 10 ^ n ≤ 10 ^ 18 := Nat.pow_le_pow_right (by decide) hn
  have hp := Lib.hid hp
  generalize hT : 10 ^ n = T at *
  have HT := Lib.hid hT
  clear hT
  go_enter Tryz.func128, Tryz.ntmps128
  go_wp2_with fail
  (with_reducible refine (nOf 1 _).mono ?_)
  rintro e w1 ⟨rfl, hb1⟩
  obtain ⟨⟨dq, osq⟩, rfl⟩ := regrown_of_below hb1
  clear hb1
  go_wp2_with fail
  obtain ⟨O, hO⟩ : ∃ O, O = w.heap.size + 1 + 1 + osq.size := ⟨_, rfl⟩
  have HO := Lib.hid hO
  rw [← hO]
  clear hO
  go_loopw [1] (fun s1 wr => PowRel w.heap.size O w n s1 wr) (fun s1 _ => (intOf s1).toNat)
  case atStart =>
    refine ⟨10, n, 1, rfl, ?_, ?_, ?_, ?_, ?_, ?_, ?_, ?_, ?_, ?_, ?_, ?_, by omega, by omega, hn, by simp⟩
    all_goals try rw [HO.out]
    all_goals first | omega | (simp [go_sem]; omega) | (simp (maxDischargeDepth := 4) [go_sem]; done) | (simp (maxDischargeDepth := 4) [*, go_sem]; done) | (repeat (first | with_reducible assumption | with_reducible exact Below.refl _ _ | with_reducible refine Below.setCell ?_ (by first | omega | (simp [go_sem]; omega) | simp [go_sem]) _ | with_reducible refine Below.alloc ?_ (by first | omega | (simp [go_sem]; omega) | simp [go_sem]) _ | with_reducible refine below_grow ?_ (by first | omega | (simp [go_sem]; omega) | simp [go_sem]) _ _ | with_reducible refine Below.drew ?_))
  case round =>
    obtain ⟨x, k, y, rfl, h00, h01, h10, h11, h20, h21, f0, f1, f2, hl1, hl2, hb, hx, hy, hk, he⟩ := hrel
    have He := Lib.hid (he.trans HT.out)
    have hz0 : w.heap.size < wr.heap.size := by omega
    have hz1 : w.heap.size + 1 < wr.heap.size := by omega
    have hn1 : ¬ O = w.heap.size := by omega
    have hn2 : ¬ O = w.heap.size + 1 := by omega
    have hn3 : ¬ w.heap.size = O := by omega
    have hn4 : ¬ w.heap.size + 1 = O := by omega
    clear he
    by_cases hk0 : k = 0
    · subst hk0
      obtain rfl : y = T := by simpa using He.out
      go_wp2_with fail
      clear He HT hp HO
      refine bodyPost_ret (v := .agg #[.int .i64 y, .slice none 0 0]) (by simp (maxDischargeDepth := 4) [*, results, Tryz.results128, go_sem]) rfl ⟨rfl, ?_⟩
      repeat (first | with_reducible assumption | with_reducible exact Below.refl _ _ | with_reducible refine Below.setCell ?_ (by first | omega | (simp [go_sem]; omega) | simp [go_sem]) _ | with_reducible refine Below.alloc ?_ (by first | omega | (simp [go_sem]; omega) | simp [go_sem]) _ | with_reducible refine below_grow ?_ (by first | omega | (simp [go_sem]; omega) | simp [go_sem]) _ _ | with_reducible refine Below.drew ?_)
    · have hT18 : T ≤ 1000000000000000000 := hp.out
      have p1 := pow_y He.out hk0 hx
      have hbit := and_one k (by omega)
      by_cases hpar : k % 2 = 1
      · rw [hpar] at hbit
        have c1 := Lib.hid (fun w => nMulN y x (by omega) hy hx w)
        have ho := Lib.hid (pow_odd He.out hpar)
        have hyx : 1 ≤ y * x := Nat.mul_pos hy hx
        generalize hm : y * x = m at *
        by_cases hk1 : k = 1
        · subst hk1
          have Hm := Lib.hid hm
          clear p1 hT18 hm
          go_wp2_with fail
          (with_reducible refine (c1.out _).mono ?_)
          rintro e w1 ⟨rfl, hb1⟩
          obtain ⟨⟨dq, osq⟩, rfl⟩ := regrown_of_below hb1
          clear hb1
          go_wp2_with fail
          go_roundw
          case rel =>
            (try ((repeat with_reducible refine Exists.intro _ ?_); refine ⟨?_, rfl⟩))
            refine ⟨x, 0, m, rfl, ?_, ?_, ?_, ?_, ?_, ?_, ?_, ?_, ?_, hl1, ?_, ?_, hx, hyx, by omega, ((show m * x ^ 0 = T by rw [← Hm.out]; simpa using He.out)).trans HT.out.symm⟩
            all_goals first | omega | (simp [go_sem]; omega) | (simp (maxDischargeDepth := 4) [go_sem]; done) | (simp (maxDischargeDepth := 4) [*, go_sem]; done) | (repeat (first | with_reducible assumption | with_reducible exact Below.refl _ _ | with_reducible refine Below.setCell ?_ (by first | omega | (simp [go_sem]; omega) | simp [go_sem]) _ | with_reducible refine Below.alloc ?_ (by first | omega | (simp [go_sem]; omega) | simp [go_sem]) _ | with_reducible refine below_grow ?_ (by first | omega | (simp [go_sem]; omega) | simp [go_sem]) _ _ | with_reducible refine Below.drew ?_))
          case measure => first | (simp [intOf]; done) | (simp [intOf]; omega)
        · have p2 := pow_x He.out (by omega) hx hy
          have c2 := Lib.hid (fun w => nMulN x x (by omega) hx hx w)
          have hxx : 1 ≤ x * x := Nat.mul_pos hx hx
          generalize hq : x * x = q at *
          clear p1 p2 hT18 hm hq
          go_wp2_with fail
          (with_reducible refine (c1.out _).mono ?_)
          rintro e w1 ⟨rfl, hb1⟩
          obtain ⟨⟨dq, osq⟩, rfl⟩ := regrown_of_below hb1
          clear hb1
          go_wp2_with fail
          (with_reducible refine (c2.out _).mono ?_)
          rintro e w1 ⟨rfl, hb1⟩
          obtain ⟨⟨dq, osq⟩, rfl⟩ := regrown_of_below hb1
          clear hb1
          go_wp2_with fail
          go_roundw
          case rel =>
            (try ((repeat with_reducible refine Exists.intro _ ?_); refine ⟨?_, rfl⟩))
            refine ⟨q, k / 2, m, rfl, ?_, ?_, ?_, ?_, ?_, ?_, ?_, ?_, ?_, hl1, ?_, ?_, hxx, hyx, by omega, (ho.out).trans HT.out.symm⟩
            all_goals first | omega | (simp [go_sem]; omega) | (simp (maxDischargeDepth := 4) [go_sem]; done) | (simp (maxDischargeDepth := 4) [*, go_sem]; done) | (repeat (first | with_reducible assumption | with_reducible exact Below.refl _ _ | with_reducible refine Below.setCell ?_ (by first | omega | (simp [go_sem]; omega) | simp [go_sem]) _ | with_reducible refine Below.alloc ?_ (by first | omega | (simp [go_sem]; omega) | simp [go_sem]) _ | with_reducible refine below_grow ?_ (by first | omega | (simp [go_sem]; omega) | simp [go_sem]) _ _ | with_reducible refine Below.drew ?_))
          case measure => first | (simp [intOf]; done) | (simp [intOf]; omega)
      · have hpar0 : k % 2 = 0 := by omega
        have hk2 : 2 ≤ k := by omega
        rw [hpar0] at hbit
        have p2 := pow_x He.out (by omega) hx hy
        have c2 := Lib.hid (fun w => nMulN x x (by omega) hx hx w)
        have hxx : 1 ≤ x * x := Nat.mul_pos hx hx
        have ho := Lib.hid (pow_even He.out hpar0)
        have hbz : (((0 : Nat) : Int) == 1) = false := rfl
        generalize hq : x * x = q at *
        clear p1 p2 hT18 hq hpar hpar0
        go_wp2_with fail
        (with_reducible refine (c2.out _).mono ?_)
        rintro e w1 ⟨rfl, hb1⟩
        obtain ⟨⟨dq, osq⟩, rfl⟩ := regrown_of_below hb1
        clear hb1
        go_wp2_with fail
        go_roundw
        case rel =>
          (try ((repeat with_reducible refine Exists.intro _ ?_); refine ⟨?_, rfl⟩))
          refine ⟨q, k / 2, y, rfl, ?_, ?_, ?_, ?_, ?_, ?_, ?_, ?_, ?_, hl1, ?_, ?_, hxx, hy, by omega, (ho.out).trans HT.out.symm⟩
          all_goals first | omega | (simp [go_sem]; omega) | (simp (maxDischargeDepth := 4) [go_sem]; done) | (simp (maxDischargeDepth := 4) [*, go_sem]; done) | (repeat (first | with_reducible assumption | with_reducible exact Below.refl _ _ | with_reducible refine Below.setCell ?_ (by first | omega | (simp [go_sem]; omega) | simp [go_sem]) _ | with_reducible refine Below.alloc ?_ (by first | omega | (simp [go_sem]; omega) | simp [go_sem]) _ | with_reducible refine below_grow ?_ (by first | omega | (simp [go_sem]; omega) | simp [go_sem]) _ _ | with_reducible refine Below.drew ?_))
        case measure => first | (simp [intOf]; done) | (simp [intOf]; omega)
end Go.Proofs.YtgdlehoglpiifaaGreatDoor
