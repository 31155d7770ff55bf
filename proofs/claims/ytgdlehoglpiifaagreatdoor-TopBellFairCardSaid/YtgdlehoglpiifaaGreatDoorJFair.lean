/-
  What the law on fair lanes says, in plain rational numbers.
  The law TopBellFair: invalid arguments.
  The law TopBellFair: one lane: what the calls give, and why the tests pass.
  The law TopBellFair: valid arguments.
-/
import Derived.Test.YtgdlehoglpiifaaGreatDoorJLaw
import Derived.Test.YtgdlehoglpiifaaGreatDoorJErrors
import Derived.Test.YtgdlehoglpiifaaGreatDoorJLanes
namespace Go.Proofs.YtgdlehoglpiifaaGreatDoor
open Go.RowKit

theorem Part.mul {q q' : Nat} {x y : Rat} (h : Part q x) (h' : Part q' y) : Part (q * q') (x * y) := by
  obtain ⟨a, ha⟩ := h; obtain ⟨b, hb⟩ := h'
  refine ⟨a * b, ?_⟩
  rw [Rat.intCast_mul, ← ha, ← hb]
  have : ((q * q' : Nat) : Rat) = (q : Rat) * (q' : Rat) := Rat.natCast_mul q q'
  rw [this]; grind
theorem Part.up {q : Nat} {x : Rat} (h : Part q x) (c : Nat) : Part (q * c) x := by
  obtain ⟨a, ha⟩ := h
  refine ⟨a * c, ?_⟩
  rw [Rat.intCast_mul, ← ha]
  have : ((q * c : Nat) : Rat) = (q : Rat) * (c : Rat) := Rat.natCast_mul q c
  rw [this]
  show x * ((q : Rat) * (c : Rat)) = x * (q : Rat) * (c : Rat)
  grind
/-- The number that the law takes for pi. -/
def piA (at_ : Nat) : Rat := piL + piq at_ 255 * (piH - piL)
theorem at_in (k : Nat) (h : k ≤ 255) : 0 ≤ piq k 255 ∧ piq k 255 ≤ 1 := by
  have h0 : (0 : Rat) ≤ ((k : Int) : Rat) := Rat.intCast_le_intCast.2 (show (0 : Int) ≤ (k : Int) by omega)
  have h1 : ((k : Int) : Rat) ≤ ((255 : Int) : Rat) := Rat.intCast_le_intCast.2 (by omega)
  have e : ((255 : Int) : Rat) = 255 := rfl
  have hm : piq k 255 * 255 = ((k : Int) : Rat) := by
    unfold piq
    rw [e]
    exact Rat.div_mul_cancel (by grind)
  rw [e] at h1
  constructor <;> grind
theorem piA_in (k : Nat) (h : k ≤ 255) : piL ≤ piA k ∧ piA k ≤ piH := by
  have h1 := at_in k h
  have hd : 0 ≤ piH - piL := by have := pi_lt; grind
  have h2 := Rat.mul_nonneg h1.1 hd
  have h3 := Rat.mul_le_mul_of_nonneg_right h1.2 hd
  unfold piA
  constructor <;> grind
theorem part_at (k : Nat) : Part 255 (piq k 255) := ⟨k, by
  unfold piq
  show (((k : Int) : Rat) / ((255 : Int) : Rat)) * (255 : Rat) = _
  rw [show ((255 : Int) : Rat) = 255 from rfl]
  exact Rat.div_mul_cancel (by grind)⟩
theorem part_piA (k : Nat) : Part 189210 (piA k) := by
  have h1 : Part (106 * 1785) piL := Part.piL.up 1785
  have h2 : Part (7 * 106) (piH - piL) := (Part.piH.up 106).sub (by have := Part.piL.up 7; exact this)
  have h3 : Part (255 * (7 * 106)) (piq k 255 * (piH - piL)) := (part_at k).mul h2
  exact Part.add h1 h3
theorem Part.bd {q : Nat} {x : Rat} {V : Int} (hq : 0 < q) (h : Part q x) (h0 : 0 ≤ x) (hv : x ≤ (V : Rat)) (hV : 0 ≤ V) : Bd x (V * q) q := by
  have h1 := num_le_of_le hV (h.den hq) hv
  have h2 : 0 ≤ x.num := Rat.num_nonneg.2 h0
  exact ⟨by omega, h1, h.den hq⟩
theorem bd_piA (k : Nat) (h : k ≤ 255) : Bd (piA k) 756840 189210 := by
  have h1 := piA_in k h
  have h2 := pi_in
  exact (Part.bd (V := 4) (by omega) (part_piA k) (by grind) (by rw [show ((4 : Int) : Rat) = 4 from rfl]; grind) (by omega)).mono (by omega) (by omega)
theorem bd_diff : Bd (piH - piL) 4663 742 := ((Bd.piq (n := 22) (d := 7) (by omega) (by omega)).sub Bd.piL).mono (by omega) (by omega)

theorem diff_eq : piH - piL = 1 / 742 := by rw [piL_eq, piH_eq]; grind
theorem mst_bd {d : Int} (h : 0 ≤ d ∧ d ≤ 1600000) : (mst d : Rat) ≤ (d : Rat) * piL ∧ (d : Rat) * piL < (mst d : Rat) + 1 := by
  unfold mst
  rw [len_zero_l]
  have h1 := Rat.floor_le ((d : Rat) * piL)
  have h2 := Rat.lt_floor_add_one ((d : Rat) * piL)
  rw [Rat.intCast_add, show ((1 : Int) : Rat) = 1 from rfl] at h2
  exact ⟨h1, h2⟩
/-- What is further than the marked stagger. -/
theorem more_in {d : Int} (h : 0 ≤ d ∧ d ≤ 1600000) {p : Rat} (hp : piL ≤ p ∧ p ≤ piH) : 0 ≤ p * (d : Rat) - (mst d : Rat) ∧ p * (d : Rat) - (mst d : Rat) ≤ len (-mst d) d piH ∧ p * (d : Rat) - (mst d : Rat) ≤ ((3000 : Int) : Rat) := by
  have h0 : (0 : Rat) ≤ (d : Rat) := Rat.intCast_le_intCast.2 h.1
  have h1 : (d : Rat) ≤ ((1600000 : Int) : Rat) := Rat.intCast_le_intCast.2 h.2
  have hm := mst_bd h
  have h2 := Rat.mul_le_mul_of_nonneg_right hp.1 h0
  have h3 := Rat.mul_le_mul_of_nonneg_right hp.2 h0
  have h4 : (piH - piL) * (d : Rat) ≤ 3000 - 1 := by
    rw [diff_eq]
    rw [show ((1600000 : Int) : Rat) = 1600000 from rfl] at h1
    grind
  have e : len (-mst d) d piH = (d : Rat) * piH - (mst d : Rat) := by unfold len; rw [Rat.intCast_neg]; grind
  rw [show ((3000 : Int) : Rat) = 3000 from rfl, e]
  refine ⟨by grind, by grind, by grind⟩
theorem err_in {d : Int} (h : 0 ≤ d ∧ d ≤ 1600000) : (0 ≤ len (-mst d) d piL ∧ len (-mst d) d piL ≤ ((3000 : Int) : Rat)) ∧ 0 ≤ len (-mst d) d piH ∧ len (-mst d) d piH ≤ ((3000 : Int) : Rat) := by
  have a := more_in h (p := piL) ⟨Rat.le_refl, Rat.le_of_lt pi_lt⟩
  have b := more_in h (p := piH) ⟨Rat.le_of_lt pi_lt, Rat.le_refl⟩
  have e : ∀ p : Rat, len (-mst d) d p = p * (d : Rat) - (mst d : Rat) := by intro p; unfold len; rw [Rat.intCast_neg]; grind
  rw [e, e]
  exact ⟨⟨a.1, a.2.2⟩, b.1, b.2.2⟩
theorem part_len {q : Nat} {p : Rat} (hp : Part q p) (a b : Int) : Part q (len a b p) := by
  unfold len
  have : Part q (p * (b : Rat)) := hp.mulInt b
  have e : (b : Rat) * p = p * (b : Rat) := by grind
  rw [e]
  exact (Part.int a).add this
theorem sgnq_nonneg {n : Int} (h : 0 ≤ n) : ¬ sgnq n < 0 := by unfold sgnq; rw [if_neg (by omega)]; split <;> omega
theorem sgnq_nonpos {n : Int} (h : n ≤ 0) : ¬ 0 < sgnq n := by unfold sgnq; split <;> (try split) <;> omega
theorem rad_le {S R W F T L : Int} (o : Oval S R W F T L) {k : Int} (h : 1 ≤ k ∧ k ≤ L) : rad R W F T k - rad R W F T 1 ≤ 100000 := by
  have h1 := o.w; have h2 := o.f; have h3 := o.t; have h4 := o.l
  unfold rad
  rw [if_pos (rfl : (1 : Int) = 1)]
  by_cases hk : k = 1
  · rw [if_pos hk]; omega
  · rw [if_neg hk]
    have hm := Int.mul_le_mul (show k - 1 ≤ 9 by omega) h1.2 (by omega) (by omega)
    omega

theorem firstLanes_get {n k : Nat} (h : k < n) : (firstLanes n)[k]? = some ((k : Int) + 1) := by
  simp [firstLanes, h]
theorem flat2_get {α : Type} (f : Int → List α) (hf : ∀ x, (f x).length = 2) : ∀ (l : List Int) (k j : Nat), j < 2 → (l.flatMap f)[2 * k + j]? = (l[k]?).bind (fun x => (f x)[j]?)
  | [], k, j, _ => by simp
  | x :: l, 0, j, hj => by
    rw [List.flatMap_cons, List.getElem?_append_left (by rw [hf]; omega)]
    simp
  | x :: l, k + 1, j, hj => by
    rw [List.flatMap_cons, List.getElem?_append_right (by rw [hf]; omega), hf, show 2 * (k + 1) + j - 2 = 2 * k + j by omega, flat2_get f hf l k j hj]
    simp
end Go.Proofs.YtgdlehoglpiifaaGreatDoor
namespace Go.Proofs.YtgdlehoglpiifaaGreatDoor
open Go.RowKit Go.Sort Go.Lib

set_option maxRecDepth 8000 in
theorem lFairBad (S R W F T L n0 n1 : Int) (a : Nat) (h : ¬ (ovalE S R W F T L = 0 ∧ outB n0 0 16 = false ∧ outB n1 0 16 = false)) {w0 : World} (hG : Glob w0) (w : World) (hb : Below w0.heap.size w0 w) : Calls Tryz.prog 3 #[.agg #[.int .i64 S, .int .i64 R, .int .i64 W, .int .i64 F, .int .i64 T, .int .i64 L], .agg #[.int .i64 n0, .int .i64 n1], .int .u8 a] w fun e w' => e = .returned (.bool true) ∧ Below w.heap.size w w' := by
  replace hG := hG.keep hb
  clear hb
  have c1 := Lib.hid (fun w => qOval S R W F T L w)
  have c2 := Lib.hid (fun w => qCount n0 16 w)
  have c3 := Lib.hid (fun w => qCount n1 16 w)
  have c9 := Lib.hid (fun (w0 : World) (hG : Glob w0) (w : World) hb' => lLap hG w hb')
  generalize ovalE S R W F T L = ov at *
  by_cases h1 : ov = 0
  · subst h1
    cases h2 : outB n0 0 16
    · cases h3 : outB n1 0 16
      · exact absurd ⟨rfl, h2, h3⟩ h
      · rw [h2] at c2
        rw [h3] at c3
        clear h h2 h3
        go_enter Tryz.func3, Tryz.ntmps3
        go_wp2_with fail
        (with_reducible refine (c1.out _).mono ?_)
        rintro e w1 ⟨rfl, hb⟩
        have H1 : Below w.heap.size w w1 := by
          refine Below.trans ?_ (hb.mono ?_)
          · repeat (first | with_reducible assumption | with_reducible exact Below.refl _ _ | with_reducible refine Below.setCell ?_ (by first | omega | (simp [go_sem]; omega) | simp [go_sem]) _ | with_reducible refine Below.alloc ?_ (by first | omega | (simp [go_sem]; omega) | simp [go_sem]) _ | with_reducible refine below_grow ?_ (by first | omega | (simp [go_sem]; omega) | simp [go_sem]) _ _ | with_reducible refine Below.drew ?_)
          · first | omega | (simp [go_sem]; omega) | simp [go_sem]
        have S1 : w.heap.size ≤ w1.heap.size := H1.size
        have s1_0 : w.heap.size < w1.heap.size := Nat.lt_of_lt_of_le (by first | omega | (simp [go_sem]; omega) | simp [go_sem]) hb.size
        have k1_0 := fun o => hb.cell (p := ⟨w.heap.size, o, none⟩) (by first | omega | (simp [go_sem]; omega) | simp [go_sem])
        have f1_0 := fun o => hb.frozen (p := ⟨w.heap.size, o, none⟩) (by first | omega | (simp [go_sem]; omega) | simp [go_sem])
        have s1_1 : w.heap.size + 1 < w1.heap.size := Nat.lt_of_lt_of_le (by first | omega | (simp [go_sem]; omega) | simp [go_sem]) hb.size
        have k1_1 := fun o => hb.cell (p := ⟨w.heap.size + 1, o, none⟩) (by first | omega | (simp [go_sem]; omega) | simp [go_sem])
        have f1_1 := fun o => hb.frozen (p := ⟨w.heap.size + 1, o, none⟩) (by first | omega | (simp [go_sem]; omega) | simp [go_sem])
        have s1_2 : w.heap.size + 1 + 1 < w1.heap.size := Nat.lt_of_lt_of_le (by first | omega | (simp [go_sem]; omega) | simp [go_sem]) hb.size
        have k1_2 := fun o => hb.cell (p := ⟨w.heap.size + 1 + 1, o, none⟩) (by first | omega | (simp [go_sem]; omega) | simp [go_sem])
        have f1_2 := fun o => hb.frozen (p := ⟨w.heap.size + 1 + 1, o, none⟩) (by first | omega | (simp [go_sem]; omega) | simp [go_sem])
        clear hb
        go_wp2_with fail
        (with_reducible refine (c2.out _).mono ?_)
        rintro e w2 ⟨rfl, hb⟩
        have H2 : Below w.heap.size w w2 := by
          refine Below.trans ?_ (hb.mono ?_)
          · repeat (first | with_reducible assumption | with_reducible exact Below.refl _ _ | with_reducible refine Below.setCell ?_ (by first | omega | (simp [go_sem]; omega) | simp [go_sem]) _ | with_reducible refine Below.alloc ?_ (by first | omega | (simp [go_sem]; omega) | simp [go_sem]) _ | with_reducible refine below_grow ?_ (by first | omega | (simp [go_sem]; omega) | simp [go_sem]) _ _ | with_reducible refine Below.drew ?_)
          · first | omega | (simp [go_sem]; omega) | simp [go_sem]
        have S2 : w.heap.size ≤ w2.heap.size := H2.size
        have s2_0 : w.heap.size < w2.heap.size := Nat.lt_of_lt_of_le (by first | omega | (simp [go_sem]; omega) | simp [go_sem]) hb.size
        have k2_0 := fun o => hb.cell (p := ⟨w.heap.size, o, none⟩) (by first | omega | (simp [go_sem]; omega) | simp [go_sem])
        have f2_0 := fun o => hb.frozen (p := ⟨w.heap.size, o, none⟩) (by first | omega | (simp [go_sem]; omega) | simp [go_sem])
        have s2_1 : w.heap.size + 1 < w2.heap.size := Nat.lt_of_lt_of_le (by first | omega | (simp [go_sem]; omega) | simp [go_sem]) hb.size
        have k2_1 := fun o => hb.cell (p := ⟨w.heap.size + 1, o, none⟩) (by first | omega | (simp [go_sem]; omega) | simp [go_sem])
        have f2_1 := fun o => hb.frozen (p := ⟨w.heap.size + 1, o, none⟩) (by first | omega | (simp [go_sem]; omega) | simp [go_sem])
        have s2_2 : w.heap.size + 1 + 1 < w2.heap.size := Nat.lt_of_lt_of_le (by first | omega | (simp [go_sem]; omega) | simp [go_sem]) hb.size
        have k2_2 := fun o => hb.cell (p := ⟨w.heap.size + 1 + 1, o, none⟩) (by first | omega | (simp [go_sem]; omega) | simp [go_sem])
        have f2_2 := fun o => hb.frozen (p := ⟨w.heap.size + 1 + 1, o, none⟩) (by first | omega | (simp [go_sem]; omega) | simp [go_sem])
        clear hb
        go_wp2_with fail
        (with_reducible refine (c3.out _).mono ?_)
        rintro e w3 ⟨rfl, hb⟩
        have H3 : Below w.heap.size w w3 := by
          refine Below.trans ?_ (hb.mono ?_)
          · repeat (first | with_reducible assumption | with_reducible exact Below.refl _ _ | with_reducible refine Below.setCell ?_ (by first | omega | (simp [go_sem]; omega) | simp [go_sem]) _ | with_reducible refine Below.alloc ?_ (by first | omega | (simp [go_sem]; omega) | simp [go_sem]) _ | with_reducible refine below_grow ?_ (by first | omega | (simp [go_sem]; omega) | simp [go_sem]) _ _ | with_reducible refine Below.drew ?_)
          · first | omega | (simp [go_sem]; omega) | simp [go_sem]
        have S3 : w.heap.size ≤ w3.heap.size := H3.size
        have s3_0 : w.heap.size < w3.heap.size := Nat.lt_of_lt_of_le (by first | omega | (simp [go_sem]; omega) | simp [go_sem]) hb.size
        have k3_0 := fun o => hb.cell (p := ⟨w.heap.size, o, none⟩) (by first | omega | (simp [go_sem]; omega) | simp [go_sem])
        have f3_0 := fun o => hb.frozen (p := ⟨w.heap.size, o, none⟩) (by first | omega | (simp [go_sem]; omega) | simp [go_sem])
        have s3_1 : w.heap.size + 1 < w3.heap.size := Nat.lt_of_lt_of_le (by first | omega | (simp [go_sem]; omega) | simp [go_sem]) hb.size
        have k3_1 := fun o => hb.cell (p := ⟨w.heap.size + 1, o, none⟩) (by first | omega | (simp [go_sem]; omega) | simp [go_sem])
        have f3_1 := fun o => hb.frozen (p := ⟨w.heap.size + 1, o, none⟩) (by first | omega | (simp [go_sem]; omega) | simp [go_sem])
        have s3_2 : w.heap.size + 1 + 1 < w3.heap.size := Nat.lt_of_lt_of_le (by first | omega | (simp [go_sem]; omega) | simp [go_sem]) hb.size
        have k3_2 := fun o => hb.cell (p := ⟨w.heap.size + 1 + 1, o, none⟩) (by first | omega | (simp [go_sem]; omega) | simp [go_sem])
        have f3_2 := fun o => hb.frozen (p := ⟨w.heap.size + 1 + 1, o, none⟩) (by first | omega | (simp [go_sem]; omega) | simp [go_sem])
        clear hb
        go_wp2_with fail
        (with_reducible refine (c9.out _ hG _ ?_).mono ?_)
        · repeat (first | with_reducible assumption | with_reducible exact Below.refl _ _ | with_reducible refine Below.setCell ?_ (by first | omega | (simp [go_sem]; omega) | simp [go_sem]) _ | with_reducible refine Below.alloc ?_ (by first | omega | (simp [go_sem]; omega) | simp [go_sem]) _ | with_reducible refine below_grow ?_ (by first | omega | (simp [go_sem]; omega) | simp [go_sem]) _ _ | with_reducible refine Below.drew ?_)
        rintro e w4 ⟨rfl, hb⟩
        have H4 : Below w.heap.size w w4 := by
          refine Below.trans ?_ (hb.mono ?_)
          · repeat (first | with_reducible assumption | with_reducible exact Below.refl _ _ | with_reducible refine Below.setCell ?_ (by first | omega | (simp [go_sem]; omega) | simp [go_sem]) _ | with_reducible refine Below.alloc ?_ (by first | omega | (simp [go_sem]; omega) | simp [go_sem]) _ | with_reducible refine below_grow ?_ (by first | omega | (simp [go_sem]; omega) | simp [go_sem]) _ _ | with_reducible refine Below.drew ?_)
          · first | omega | (simp [go_sem]; omega) | simp [go_sem]
        have S4 : w.heap.size ≤ w4.heap.size := H4.size
        have s4_0 : w.heap.size < w4.heap.size := Nat.lt_of_lt_of_le (by first | omega | (simp [go_sem]; omega) | simp [go_sem]) hb.size
        have k4_0 := fun o => hb.cell (p := ⟨w.heap.size, o, none⟩) (by first | omega | (simp [go_sem]; omega) | simp [go_sem])
        have f4_0 := fun o => hb.frozen (p := ⟨w.heap.size, o, none⟩) (by first | omega | (simp [go_sem]; omega) | simp [go_sem])
        have s4_1 : w.heap.size + 1 < w4.heap.size := Nat.lt_of_lt_of_le (by first | omega | (simp [go_sem]; omega) | simp [go_sem]) hb.size
        have k4_1 := fun o => hb.cell (p := ⟨w.heap.size + 1, o, none⟩) (by first | omega | (simp [go_sem]; omega) | simp [go_sem])
        have f4_1 := fun o => hb.frozen (p := ⟨w.heap.size + 1, o, none⟩) (by first | omega | (simp [go_sem]; omega) | simp [go_sem])
        have s4_2 : w.heap.size + 1 + 1 < w4.heap.size := Nat.lt_of_lt_of_le (by first | omega | (simp [go_sem]; omega) | simp [go_sem]) hb.size
        have k4_2 := fun o => hb.cell (p := ⟨w.heap.size + 1 + 1, o, none⟩) (by first | omega | (simp [go_sem]; omega) | simp [go_sem])
        have f4_2 := fun o => hb.frozen (p := ⟨w.heap.size + 1 + 1, o, none⟩) (by first | omega | (simp [go_sem]; omega) | simp [go_sem])
        clear hb
        go_wp2_with fail
        go_ret
        refine ⟨rfl, ?_⟩
        repeat (first | with_reducible assumption | with_reducible exact Below.refl _ _ | with_reducible refine Below.setCell ?_ (by first | omega | (simp [go_sem]; omega) | simp [go_sem]) _ | with_reducible refine Below.alloc ?_ (by first | omega | (simp [go_sem]; omega) | simp [go_sem]) _ | with_reducible refine below_grow ?_ (by first | omega | (simp [go_sem]; omega) | simp [go_sem]) _ _ | with_reducible refine Below.drew ?_)
    · rw [h2] at c2
      clear h h2
      go_enter Tryz.func3, Tryz.ntmps3
      go_wp2_with fail
      (with_reducible refine (c1.out _).mono ?_)
      rintro e w1 ⟨rfl, hb⟩
      have H1 : Below w.heap.size w w1 := by
        refine Below.trans ?_ (hb.mono ?_)
        · repeat (first | with_reducible assumption | with_reducible exact Below.refl _ _ | with_reducible refine Below.setCell ?_ (by first | omega | (simp [go_sem]; omega) | simp [go_sem]) _ | with_reducible refine Below.alloc ?_ (by first | omega | (simp [go_sem]; omega) | simp [go_sem]) _ | with_reducible refine below_grow ?_ (by first | omega | (simp [go_sem]; omega) | simp [go_sem]) _ _ | with_reducible refine Below.drew ?_)
        · first | omega | (simp [go_sem]; omega) | simp [go_sem]
      have S1 : w.heap.size ≤ w1.heap.size := H1.size
      have s1_0 : w.heap.size < w1.heap.size := Nat.lt_of_lt_of_le (by first | omega | (simp [go_sem]; omega) | simp [go_sem]) hb.size
      have k1_0 := fun o => hb.cell (p := ⟨w.heap.size, o, none⟩) (by first | omega | (simp [go_sem]; omega) | simp [go_sem])
      have f1_0 := fun o => hb.frozen (p := ⟨w.heap.size, o, none⟩) (by first | omega | (simp [go_sem]; omega) | simp [go_sem])
      have s1_1 : w.heap.size + 1 < w1.heap.size := Nat.lt_of_lt_of_le (by first | omega | (simp [go_sem]; omega) | simp [go_sem]) hb.size
      have k1_1 := fun o => hb.cell (p := ⟨w.heap.size + 1, o, none⟩) (by first | omega | (simp [go_sem]; omega) | simp [go_sem])
      have f1_1 := fun o => hb.frozen (p := ⟨w.heap.size + 1, o, none⟩) (by first | omega | (simp [go_sem]; omega) | simp [go_sem])
      have s1_2 : w.heap.size + 1 + 1 < w1.heap.size := Nat.lt_of_lt_of_le (by first | omega | (simp [go_sem]; omega) | simp [go_sem]) hb.size
      have k1_2 := fun o => hb.cell (p := ⟨w.heap.size + 1 + 1, o, none⟩) (by first | omega | (simp [go_sem]; omega) | simp [go_sem])
      have f1_2 := fun o => hb.frozen (p := ⟨w.heap.size + 1 + 1, o, none⟩) (by first | omega | (simp [go_sem]; omega) | simp [go_sem])
      clear hb
      go_wp2_with fail
      (with_reducible refine (c2.out _).mono ?_)
      rintro e w2 ⟨rfl, hb⟩
      have H2 : Below w.heap.size w w2 := by
        refine Below.trans ?_ (hb.mono ?_)
        · repeat (first | with_reducible assumption | with_reducible exact Below.refl _ _ | with_reducible refine Below.setCell ?_ (by first | omega | (simp [go_sem]; omega) | simp [go_sem]) _ | with_reducible refine Below.alloc ?_ (by first | omega | (simp [go_sem]; omega) | simp [go_sem]) _ | with_reducible refine below_grow ?_ (by first | omega | (simp [go_sem]; omega) | simp [go_sem]) _ _ | with_reducible refine Below.drew ?_)
        · first | omega | (simp [go_sem]; omega) | simp [go_sem]
      have S2 : w.heap.size ≤ w2.heap.size := H2.size
      have s2_0 : w.heap.size < w2.heap.size := Nat.lt_of_lt_of_le (by first | omega | (simp [go_sem]; omega) | simp [go_sem]) hb.size
      have k2_0 := fun o => hb.cell (p := ⟨w.heap.size, o, none⟩) (by first | omega | (simp [go_sem]; omega) | simp [go_sem])
      have f2_0 := fun o => hb.frozen (p := ⟨w.heap.size, o, none⟩) (by first | omega | (simp [go_sem]; omega) | simp [go_sem])
      have s2_1 : w.heap.size + 1 < w2.heap.size := Nat.lt_of_lt_of_le (by first | omega | (simp [go_sem]; omega) | simp [go_sem]) hb.size
      have k2_1 := fun o => hb.cell (p := ⟨w.heap.size + 1, o, none⟩) (by first | omega | (simp [go_sem]; omega) | simp [go_sem])
      have f2_1 := fun o => hb.frozen (p := ⟨w.heap.size + 1, o, none⟩) (by first | omega | (simp [go_sem]; omega) | simp [go_sem])
      have s2_2 : w.heap.size + 1 + 1 < w2.heap.size := Nat.lt_of_lt_of_le (by first | omega | (simp [go_sem]; omega) | simp [go_sem]) hb.size
      have k2_2 := fun o => hb.cell (p := ⟨w.heap.size + 1 + 1, o, none⟩) (by first | omega | (simp [go_sem]; omega) | simp [go_sem])
      have f2_2 := fun o => hb.frozen (p := ⟨w.heap.size + 1 + 1, o, none⟩) (by first | omega | (simp [go_sem]; omega) | simp [go_sem])
      clear hb
      go_wp2_with fail
      (with_reducible refine (c9.out _ hG _ ?_).mono ?_)
      · repeat (first | with_reducible assumption | with_reducible exact Below.refl _ _ | with_reducible refine Below.setCell ?_ (by first | omega | (simp [go_sem]; omega) | simp [go_sem]) _ | with_reducible refine Below.alloc ?_ (by first | omega | (simp [go_sem]; omega) | simp [go_sem]) _ | with_reducible refine below_grow ?_ (by first | omega | (simp [go_sem]; omega) | simp [go_sem]) _ _ | with_reducible refine Below.drew ?_)
      rintro e w3 ⟨rfl, hb⟩
      have H3 : Below w.heap.size w w3 := by
        refine Below.trans ?_ (hb.mono ?_)
        · repeat (first | with_reducible assumption | with_reducible exact Below.refl _ _ | with_reducible refine Below.setCell ?_ (by first | omega | (simp [go_sem]; omega) | simp [go_sem]) _ | with_reducible refine Below.alloc ?_ (by first | omega | (simp [go_sem]; omega) | simp [go_sem]) _ | with_reducible refine below_grow ?_ (by first | omega | (simp [go_sem]; omega) | simp [go_sem]) _ _ | with_reducible refine Below.drew ?_)
        · first | omega | (simp [go_sem]; omega) | simp [go_sem]
      have S3 : w.heap.size ≤ w3.heap.size := H3.size
      have s3_0 : w.heap.size < w3.heap.size := Nat.lt_of_lt_of_le (by first | omega | (simp [go_sem]; omega) | simp [go_sem]) hb.size
      have k3_0 := fun o => hb.cell (p := ⟨w.heap.size, o, none⟩) (by first | omega | (simp [go_sem]; omega) | simp [go_sem])
      have f3_0 := fun o => hb.frozen (p := ⟨w.heap.size, o, none⟩) (by first | omega | (simp [go_sem]; omega) | simp [go_sem])
      have s3_1 : w.heap.size + 1 < w3.heap.size := Nat.lt_of_lt_of_le (by first | omega | (simp [go_sem]; omega) | simp [go_sem]) hb.size
      have k3_1 := fun o => hb.cell (p := ⟨w.heap.size + 1, o, none⟩) (by first | omega | (simp [go_sem]; omega) | simp [go_sem])
      have f3_1 := fun o => hb.frozen (p := ⟨w.heap.size + 1, o, none⟩) (by first | omega | (simp [go_sem]; omega) | simp [go_sem])
      have s3_2 : w.heap.size + 1 + 1 < w3.heap.size := Nat.lt_of_lt_of_le (by first | omega | (simp [go_sem]; omega) | simp [go_sem]) hb.size
      have k3_2 := fun o => hb.cell (p := ⟨w.heap.size + 1 + 1, o, none⟩) (by first | omega | (simp [go_sem]; omega) | simp [go_sem])
      have f3_2 := fun o => hb.frozen (p := ⟨w.heap.size + 1 + 1, o, none⟩) (by first | omega | (simp [go_sem]; omega) | simp [go_sem])
      clear hb
      go_wp2_with fail
      go_ret
      refine ⟨rfl, ?_⟩
      repeat (first | with_reducible assumption | with_reducible exact Below.refl _ _ | with_reducible refine Below.setCell ?_ (by first | omega | (simp [go_sem]; omega) | simp [go_sem]) _ | with_reducible refine Below.alloc ?_ (by first | omega | (simp [go_sem]; omega) | simp [go_sem]) _ | with_reducible refine below_grow ?_ (by first | omega | (simp [go_sem]; omega) | simp [go_sem]) _ _ | with_reducible refine Below.drew ?_)
  · have h1' : (ov != 0) = true := by simpa using h1
    clear h
    go_enter Tryz.func3, Tryz.ntmps3
    go_wp2_with fail
    (with_reducible refine (c1.out _).mono ?_)
    rintro e w1 ⟨rfl, hb⟩
    have H1 : Below w.heap.size w w1 := by
      refine Below.trans ?_ (hb.mono ?_)
      · repeat (first | with_reducible assumption | with_reducible exact Below.refl _ _ | with_reducible refine Below.setCell ?_ (by first | omega | (simp [go_sem]; omega) | simp [go_sem]) _ | with_reducible refine Below.alloc ?_ (by first | omega | (simp [go_sem]; omega) | simp [go_sem]) _ | with_reducible refine below_grow ?_ (by first | omega | (simp [go_sem]; omega) | simp [go_sem]) _ _ | with_reducible refine Below.drew ?_)
      · first | omega | (simp [go_sem]; omega) | simp [go_sem]
    have S1 : w.heap.size ≤ w1.heap.size := H1.size
    have s1_0 : w.heap.size < w1.heap.size := Nat.lt_of_lt_of_le (by first | omega | (simp [go_sem]; omega) | simp [go_sem]) hb.size
    have k1_0 := fun o => hb.cell (p := ⟨w.heap.size, o, none⟩) (by first | omega | (simp [go_sem]; omega) | simp [go_sem])
    have f1_0 := fun o => hb.frozen (p := ⟨w.heap.size, o, none⟩) (by first | omega | (simp [go_sem]; omega) | simp [go_sem])
    have s1_1 : w.heap.size + 1 < w1.heap.size := Nat.lt_of_lt_of_le (by first | omega | (simp [go_sem]; omega) | simp [go_sem]) hb.size
    have k1_1 := fun o => hb.cell (p := ⟨w.heap.size + 1, o, none⟩) (by first | omega | (simp [go_sem]; omega) | simp [go_sem])
    have f1_1 := fun o => hb.frozen (p := ⟨w.heap.size + 1, o, none⟩) (by first | omega | (simp [go_sem]; omega) | simp [go_sem])
    have s1_2 : w.heap.size + 1 + 1 < w1.heap.size := Nat.lt_of_lt_of_le (by first | omega | (simp [go_sem]; omega) | simp [go_sem]) hb.size
    have k1_2 := fun o => hb.cell (p := ⟨w.heap.size + 1 + 1, o, none⟩) (by first | omega | (simp [go_sem]; omega) | simp [go_sem])
    have f1_2 := fun o => hb.frozen (p := ⟨w.heap.size + 1 + 1, o, none⟩) (by first | omega | (simp [go_sem]; omega) | simp [go_sem])
    clear hb
    go_wp2_with fail
    (with_reducible refine (c9.out _ hG _ ?_).mono ?_)
    · repeat (first | with_reducible assumption | with_reducible exact Below.refl _ _ | with_reducible refine Below.setCell ?_ (by first | omega | (simp [go_sem]; omega) | simp [go_sem]) _ | with_reducible refine Below.alloc ?_ (by first | omega | (simp [go_sem]; omega) | simp [go_sem]) _ | with_reducible refine below_grow ?_ (by first | omega | (simp [go_sem]; omega) | simp [go_sem]) _ _ | with_reducible refine Below.drew ?_)
    rintro e w2 ⟨rfl, hb⟩
    have H2 : Below w.heap.size w w2 := by
      refine Below.trans ?_ (hb.mono ?_)
      · repeat (first | with_reducible assumption | with_reducible exact Below.refl _ _ | with_reducible refine Below.setCell ?_ (by first | omega | (simp [go_sem]; omega) | simp [go_sem]) _ | with_reducible refine Below.alloc ?_ (by first | omega | (simp [go_sem]; omega) | simp [go_sem]) _ | with_reducible refine below_grow ?_ (by first | omega | (simp [go_sem]; omega) | simp [go_sem]) _ _ | with_reducible refine Below.drew ?_)
      · first | omega | (simp [go_sem]; omega) | simp [go_sem]
    have S2 : w.heap.size ≤ w2.heap.size := H2.size
    have s2_0 : w.heap.size < w2.heap.size := Nat.lt_of_lt_of_le (by first | omega | (simp [go_sem]; omega) | simp [go_sem]) hb.size
    have k2_0 := fun o => hb.cell (p := ⟨w.heap.size, o, none⟩) (by first | omega | (simp [go_sem]; omega) | simp [go_sem])
    have f2_0 := fun o => hb.frozen (p := ⟨w.heap.size, o, none⟩) (by first | omega | (simp [go_sem]; omega) | simp [go_sem])
    have s2_1 : w.heap.size + 1 < w2.heap.size := Nat.lt_of_lt_of_le (by first | omega | (simp [go_sem]; omega) | simp [go_sem]) hb.size
    have k2_1 := fun o => hb.cell (p := ⟨w.heap.size + 1, o, none⟩) (by first | omega | (simp [go_sem]; omega) | simp [go_sem])
    have f2_1 := fun o => hb.frozen (p := ⟨w.heap.size + 1, o, none⟩) (by first | omega | (simp [go_sem]; omega) | simp [go_sem])
    have s2_2 : w.heap.size + 1 + 1 < w2.heap.size := Nat.lt_of_lt_of_le (by first | omega | (simp [go_sem]; omega) | simp [go_sem]) hb.size
    have k2_2 := fun o => hb.cell (p := ⟨w.heap.size + 1 + 1, o, none⟩) (by first | omega | (simp [go_sem]; omega) | simp [go_sem])
    have f2_2 := fun o => hb.frozen (p := ⟨w.heap.size + 1 + 1, o, none⟩) (by first | omega | (simp [go_sem]; omega) | simp [go_sem])
    clear hb
    go_wp2_with fail
    go_ret
    refine ⟨rfl, ?_⟩
    repeat (first | with_reducible assumption | with_reducible exact Below.refl _ _ | with_reducible refine Below.setCell ?_ (by first | omega | (simp [go_sem]; omega) | simp [go_sem]) _ | with_reducible refine Below.alloc ?_ (by first | omega | (simp [go_sem]; omega) | simp [go_sem]) _ | with_reducible refine below_grow ?_ (by first | omega | (simp [go_sem]; omega) | simp [go_sem]) _ _ | with_reducible refine Below.drew ?_)
end Go.Proofs.YtgdlehoglpiifaaGreatDoor
namespace Go.Proofs.YtgdlehoglpiifaaGreatDoor
open Go.RowKit Go.Sort Go.Lib

theorem rt_1 : rt ((1 : Int) : Rat) = [49] := by
  rw [rt_int]
  show Lib.itoa ((1 : Nat) : Int) = _
  rw [itoa_nat, dec1 1 (by decide)]
  rfl
theorem num_nonpos {x : Rat} (h : x ≤ 0) : x.num ≤ 0 := by
  have := (Rat.le_iff _ _).1 h
  simpa using this

/-- What a round of the law meets. -/
structure LaneF (S R W F T : Int) (LN N a k : Nat) (x : Int) (D M A U r : Nat) (el eh t1 t2 t3 : List UInt8) (sg sc sd : Int) : Prop where
  hx : rad R W F T ((k : Int) + 1) - rad R W F T 1 = x
  hri : ¬ rad R W F T ((k : Int) + 1) < rad R W F T 1
  hD : (N : Int) * x = (D : Int)
  hA : (r : Int) - S = (A : Int)
  xb : 0 ≤ x ∧ x ≤ 100000
  Db : D ≤ 1600000
  Ab : A ≤ 3000000
  sb : 0 ≤ S * S ∧ S * S ≤ 999999 * 999999
  qb : 0 ≤ x * x ∧ x * x ≤ 100000 * 100000
  hM : mstV R W F T N ((k : Int) + 1) = .int .i64 M
  hE : errV R W F T N ((k : Int) + 1) = [.string ⟨(el).toArray⟩, .string ⟨(eh).toArray⟩]
  hsg : ¬ sg < 0
  hsc : ¬ 0 < sc
  hsd : ¬ 0 < sd
  a1 : ∀ w, Calls Tryz.prog 16 #[.agg #[.int .i64 S, .int .i64 R, .int .i64 W, .int .i64 F, .int .i64 T, .int .i64 LN], .int .i64 ((k : Int) + 1)] w fun e w' => e = .returned (.tuple #[.int .i64 (rad R W F T ((k : Int) + 1)), .int .i64 0]) ∧ Below w.heap.size w w'
  a2 : ∀ (w0 : World) (_ : Glob w0) (w : World) (_ : Below w0.heap.size w0 w), Calls Tryz.prog 17 #[.agg #[.int .i64 S, .int .i64 R, .int .i64 W, .int .i64 F, .int .i64 T, .int .i64 LN], .int .i64 ((k : Int) + 1)] w fun e w' => e = .returned (.tuple #[.agg #[.string ⟨(decDigits A).toArray⟩, .string ⟨(decDigits U).toArray⟩], .int .i64 0]) ∧ Below w.heap.size w w'
  y1 : ValidT (decDigits A)
  y2 : ValidT (decDigits U)
  y3 : ValidT el
  y4 : ValidT eh
  y5 : ValidT t2
  a3 : ∀ w, Calls Tryz.prog 20 #[.int .i64 D] w fun e w' => e = .returned (.string ⟨(decDigits D).toArray⟩) ∧ Below w.heap.size w w'
  a4 : ∀ (w0 : World) (_ : Glob w0) (w : World) (_ : Below w0.heap.size w0 w), Calls Tryz.prog 19 #[.string ⟨(rt (piA a)).toArray⟩, .string ⟨(decDigits D).toArray⟩] w fun e w' => e = .returned (.tuple #[.string ⟨(t1).toArray⟩, .int .i64 0]) ∧ Below w.heap.size w w'
  a5 : ∀ w, Calls Tryz.prog 20 #[.int .i64 M] w fun e w' => e = .returned (.string ⟨(decDigits M).toArray⟩) ∧ Below w.heap.size w w'
  a6 : ∀ (w0 : World) (_ : Glob w0) (w : World) (_ : Below w0.heap.size w0 w), Calls Tryz.prog 21 #[.string ⟨(t1).toArray⟩, .string ⟨(decDigits M).toArray⟩] w fun e w' => e = .returned (.tuple #[.string ⟨(t2).toArray⟩, .int .i64 0]) ∧ Below w.heap.size w w'
  a7 : ∀ w, Calls Tryz.prog 22 #[.string ⟨(t2).toArray⟩] w fun e w' => e = .returned (.int .i64 sg) ∧ Below w.heap.size w w'
  a8 : ∀ w, Calls Tryz.prog 23 #[.string ⟨(t2).toArray⟩, .string ⟨(eh).toArray⟩] w fun e w' => e = .returned (.int .i64 sc) ∧ Below w.heap.size w w'
  a9 : ∀ w, Calls Tryz.prog 24 #[.int .i64 (S * S + x * x)] w fun e w' => e = .returned (.tuple #[.int .i64 r, .int .i64 0]) ∧ Below w.heap.size w w'
  a10 : ∀ w, Calls Tryz.prog 20 #[.int .i64 A] w fun e w' => e = .returned (.string ⟨(decDigits A).toArray⟩) ∧ Below w.heap.size w w'
  a11 : ∀ w, Calls Tryz.prog 12 #[.string ⟨(decDigits U).toArray⟩, .string ⟨(decDigits A).toArray⟩] w fun e w' => e = .returned (.string ⟨(t3).toArray⟩) ∧ Below w.heap.size w w'
  a12 : ∀ w, Calls Tryz.prog 23 #[.string ⟨(t3).toArray⟩, .string ⟨([49]).toArray⟩] w fun e w' => e = .returned (.int .i64 sd) ∧ Below w.heap.size w w'

set_option maxHeartbeats 1000000 in
theorem laneF {S R W F T : Int} {LN : Nat} (o : Oval S R W F T LN) (N a : Nat) (hN : N ≤ 16) (ha : a ≤ 255) (k : Nat) (hlt : k < LN) :
    ∃ x D M A U r el eh t1 t2 t3 sg sc sd, LaneF S R W F T LN N a k x D M A U r el eh t1 t2 t3 sg sc sd := by
  have hL := o.l
  have hlane : 1 ≤ (k : Int) + 1 ∧ (k : Int) + 1 ≤ LN := by omega
  have hb1 := rad_in o hlane
  have hb2 := rad_in o (lane := 1) ⟨by omega, hL.1⟩
  have hb3 := rad_ge o hlane
  have hb4 := rad_le o hlane
  have hS := o.s
  obtain ⟨x, hx⟩ : ∃ x, rad R W F T ((k : Int) + 1) - rad R W F T 1 = x := ⟨_, rfl⟩
  have hd : 0 ≤ (N : Int) * x ∧ (N : Int) * x ≤ 16 * 100000 := mul_in ⟨by omega, by omega⟩ ⟨by omega, by omega⟩
  obtain ⟨D, hD⟩ : ∃ D : Nat, (N : Int) * x = (D : Int) := ⟨((N : Int) * x).toNat, by omega⟩
  have hD2 : 0 ≤ (D : Int) ∧ (D : Int) ≤ 1600000 := by omega
  have hms := mst_in (d := (D : Int)) ⟨by omega, by omega⟩
  have hmore := more_in hD2 (piA_in a ha)
  have herr := err_in hD2
  have hpm : Part 189210 (piA a * ((D : Int) : Rat) - ((mst (D : Int) : Int) : Rat)) := ((part_piA a).mulInt D).sub (Part.int _)
  have bm := (Part.bd (by omega) hpm hmore.1 hmore.2.2 (by omega)).mono (A' := 567630000) (B' := 189210) (by omega) (by omega)
  have bl := (Part.bd (by omega) (part_len Part.piL (-mst (D : Int)) D) herr.1.1 herr.1.2 (by omega)).mono (A' := 318000) (B' := 106) (by omega) (by omega)
  have bh := (Part.bd (by omega) (part_len Part.piH (-mst (D : Int)) D) herr.2.1 herr.2.2 (by omega)).mono (A' := 318000) (B' := 106) (by omega) (by omega)
  have m1 := mul_in (show 0 ≤ S ∧ S ≤ 999999 by omega) (show 0 ≤ S ∧ S ≤ 999999 by omega)
  have m2 := mul_in (show 0 ≤ x ∧ x ≤ 100000 by omega) (show 0 ≤ x ∧ x ≤ 100000 by omega)
  obtain ⟨r, hr1, hr2⟩ := root_of (S * S + x * x).toNat
  have hr1' : (r : Int) * (r : Int) ≤ S * S + x * x := by
    have : ((r * r : Nat) : Int) ≤ (((S * S + x * x).toNat : Nat) : Int) := Int.ofNat_le.2 hr1
    rw [Int.natCast_mul] at this; omega
  have hr2' : S * S + x * x < ((r : Int) + 1) * ((r : Int) + 1) := by
    have : (((S * S + x * x).toNat : Nat) : Int) < (((r + 1) * (r + 1) : Nat) : Int) := Int.ofNat_lt.2 hr2
    rw [Int.natCast_mul, Int.natCast_add] at this
    have e : ((1 : Nat) : Int) = 1 := rfl
    rw [e] at this; omega
  have hrS : S ≤ (r : Int) := by
    refine Int.not_lt.1 (fun hh => ?_)
    have := Int.mul_le_mul (show (r : Int) + 1 ≤ S by omega) (show (r : Int) + 1 ≤ S by omega) (by omega) (by omega)
    have := Int.mul_nonneg (show 0 ≤ x by omega) (show 0 ≤ x by omega)
    omega
  have hr3 : (r : Int) ≤ 2000000 := by
    refine Int.not_lt.1 (fun hh => ?_)
    have := Int.mul_le_mul (show 2000001 ≤ (r : Int) by omega) (show 2000001 ≤ (r : Int) by omega) (by omega) (by omega)
    omega
  have hu := up_in r (S * S + x * x)
  obtain ⟨A, hA⟩ : ∃ A : Nat, (r : Int) - S = (A : Int) := ⟨((r : Int) - S).toNat, by omega⟩
  obtain ⟨U, hU⟩ : ∃ U : Nat, up r (S * S + x * x) - S = (U : Int) := ⟨(up r (S * S + x * x) - S).toNat, by omega⟩
  obtain ⟨M, hM⟩ : ∃ M : Nat, mst (D : Int) = (M : Int) := ⟨(mst (D : Int)).toNat, by omega⟩
  have hsg : ¬ sgnq (piA a * ((D : Int) : Rat) - ((mst (D : Int) : Int) : Rat)).num < 0 := sgnq_nonneg (Rat.num_nonneg.2 hmore.1)
  have hsc : ¬ 0 < sgnq (piA a * ((D : Int) : Rat) - ((mst (D : Int) : Int) : Rat) - len (-mst (D : Int)) D piH).num := sgnq_nonpos (num_nonpos (by have := hmore.2.1; grind))
  have hsd : ¬ 0 < sgnq ((((U : Int) : Rat) - ((A : Int) : Rat)) - ((1 : Int) : Rat)).num := by
    refine sgnq_nonpos (num_nonpos ?_)
    have : ((U : Int) : Rat) ≤ ((A + 1 : Int) : Rat) := Rat.intCast_le_intCast.2 (by omega)
    rw [Rat.intCast_add] at this
    grind
  have hmc : mstV R W F T N ((k : Int) + 1) = .int .i64 (mst (D : Int)) := by unfold mstV; rw [hx, hD]
  have hec : errV R W F T N ((k : Int) + 1) = [.string ⟨(rt (len (-mst (D : Int)) D piL)).toArray⟩, .string ⟨(rt (len (-mst (D : Int)) D piH)).toArray⟩] := by
    unfold errV errS
    rw [hx, hD]
    dsimp only
    rw [rmin_le (len_le hD2.1), rmax_le (len_le hD2.1)]
  have bD := Bd.int (D : Int) 1600000 (by omega)
  have bM := Bd.int (M : Int) 80000000 (by omega)
  have bA := Bd.int (A : Int) 3000000 (by omega)
  have bU := Bd.int (U : Int) 3000000 (by omega)
  have a1 := Lib.hid (fun w => trRadiusE o ((k : Int) + 1) hlane w)
  have a2 := Lib.hid (fun (w0 : World) (hG : Glob w0) (w : World) hb' => trBreak o ((k : Int) + 1) r x hlane hx (by omega) hr1' hr2' hG w hb')
  rw [hA, hU, itoa_nat, itoa_nat] at a2
  have y1 := bA.valid (by omega) (by omega)
  have y2 := bU.valid (by omega) (by omega)
  rw [rt_int, itoa_nat] at y1 y2
  have y3 := bl.valid (by omega) (by omega)
  have y4 := bh.valid (by omega) (by omega)
  have y5 := bm.valid (by omega) (by omega)
  have a3 := Lib.hid (fun w => qFromInt D (by omega) w)
  have a4 := Lib.hid (fun (w0 : World) (hG : Glob w0) (w : World) hb' => mMulR (piA a) ((D : Int) : Rat) (bd_piA a ha) bD (by omega) hG w hb')
  rw [rt_int, itoa_nat] at a4
  have a5 := Lib.hid (fun w => qFromInt M (by omega) w)
  have a6 := Lib.hid (fun (w0 : World) (hG : Glob w0) (w : World) hb' => mSubR (piA a * ((D : Int) : Rat)) ((M : Int) : Rat) ((bd_piA a ha).mul bD) bM (by omega) hG w hb')
  rw [rt_int, itoa_nat] at a6
  have a7 := Lib.hid (fun w => qSign (piA a * ((D : Int) : Rat) - ((mst (D : Int) : Int) : Rat)) w)
  have a8 := Lib.hid (fun w => qCmp (piA a * ((D : Int) : Rat) - ((mst (D : Int) : Int) : Rat)) (len (-mst (D : Int)) D piH) bm bh (by omega) w)
  have a9 := Lib.hid (fun w => mRoot (S * S + x * x) r (by omega) hr1' hr2' w)
  have a10 := Lib.hid (fun w => qFromInt A (by omega) w)
  have a11 := Lib.hid (fun w => qSub ((U : Int) : Rat) ((A : Int) : Rat) bU bA (by omega) w)
  have a12 := Lib.hid (fun w => qCmp (((U : Int) : Rat) - ((A : Int) : Rat)) ((1 : Int) : Rat) (bU.sub bA) (Bd.int 1 1 (by omega)) (by omega) w)
  rw [rt_1] at a12
  rw [rt_int, rt_int, itoa_nat, itoa_nat] at a11
  rw [hM] at hmc hec hsg hsc a7 a8 y3 y4 y5
  exact ⟨x, D, M, A, U, r, _, _, _, _, _, _, _, _, ⟨hx, by omega, hD, hA, by omega, by omega, by omega, m1, m2, hmc, hec, hsg, hsc, hsd, a1.out, a2.out, y1, y2, y3, y4, y5, a3.out, a4.out, a5.out, a6.out, a7.out, a8.out, a9.out, a10.out, a11.out, a12.out⟩⟩
end Go.Proofs.YtgdlehoglpiifaaGreatDoor
namespace Go.Proofs.YtgdlehoglpiifaaGreatDoor
open Go.RowKit Go.Sort Go.Lib

theorem meas_step {n k : Nat} (h : k < n) : n - ((k : Int) + 1).toNat < n - (k : Int).toNat := by omega
theorem i64_nat {A B : Nat} (h : A ≤ B) (hB : B ≤ 1000000000) : IntKind.i64.wrap (A : Int) = A := IntWalk.i64_in _ (by omega)
theorem w64_nat {A B : Nat} (h : A ≤ B) (hB : B ≤ 1000000000) : wrap64 (A : Int) = A := IntWalk.wrap64_in _ (by omega)
theorem i64_succ {k : Nat} (h : k ≤ 1000) : IntKind.i64.wrap ((k : Int) + 1) = (k : Int) + 1 := IntWalk.i64_in _ (by omega)
theorem w64_succ {k : Nat} (h : k ≤ 1000) : wrap64 ((k : Int) + 1) = (k : Int) + 1 := IntWalk.wrap64_in _ (by omega)
theorem w64_x {x : Int} (h : 0 ≤ x ∧ x ≤ 100000) : wrap64 x = x := IntWalk.wrap64_in _ (by omega)
theorem w64_s {s : Int} (h : 0 ≤ s ∧ s ≤ 999999 * 999999) : wrap64 s = s := IntWalk.wrap64_in _ (by omega)
theorem w64_q {s q : Int} (h : 0 ≤ s ∧ s ≤ 999999 * 999999) (h' : 0 ≤ q ∧ q ≤ 100000 * 100000) : wrap64 q = q ∧ wrap64 (s + q) = s + q := ⟨IntWalk.wrap64_in _ (by omega), IntWalk.wrap64_in _ (by omega)⟩
theorem row_slice {W : World} {base e size k : Nat} {v : Value} {xs : List Value} (h : W.ownsRow base e size v k xs) (h0 : 0 < k) : ∃ g cap, v = .slice (some ⟨g, 0, none⟩) k cap := by
  obtain ⟨m, rfl⟩ : ∃ m, k = m + 1 := ⟨k - 1, by omega⟩
  exact ownsRow_succ h
set_option maxRecDepth 8000 in
set_option maxHeartbeats 8000000 in
theorem lFairOk {S R W F T : Int} {LN : Nat} (o : Oval S R W F T LN) (n0 : Int) (N a : Nat) (h0 : 0 ≤ n0 ∧ n0 ≤ 16) (hN : N ≤ 16) (ha : a ≤ 255) {g0 : World} (hG : Glob g0) (w : World) (hb : Below g0.heap.size g0 w) :
    Calls Tryz.prog 3 #[.agg #[.int .i64 S, .int .i64 R, .int .i64 W, .int .i64 F, .int .i64 T, .int .i64 LN], .agg #[.int .i64 n0, .int .i64 N], .int .u8 a] w fun e w' => e = .returned (.bool true) ∧ Below w.heap.size w w' := by
  replace hG := hG.keep hb
  clear hb
  have hL := o.l
  have c1 := Lib.hid (fun w => qOval S R W F T LN w)
  rw [ovalE_zero.2 o] at c1
  have c2 := Lib.hid (fun w => qCount n0 16 w)
  rw [outB_false.2 h0] at c2
  have c3 := Lib.hid (fun w => qCount N 16 w)
  rw [outB_false.2 (show (0 : Int) ≤ N ∧ (N : Int) ≤ 16 by omega)] at c3
  simp only [Bool.false_eq_true, if_false] at c2 c3
  have c9 := Lib.hid (fun (w0 : World) (hG : Glob w0) (w : World) hb' => lLap hG w hb')
  have p1 := Lib.hid qLow
  have p2 := Lib.hid qHigh
  have p3 := Lib.hid (fun w => qOf (a : Int) 255 (by omega) (by omega) w)
  rw [← rt_piq _ _ (by omega)] at p3
  have p4 := Lib.hid (fun w => qSub piH piL Bd.piH Bd.piL (by omega) w)
  have p5 := Lib.hid (fun w => qMul (piq a 255) (piH - piL) ((Bd.piq (n := (a : Int)) (d := 255) (by omega) (by omega)).mono (A' := 255) (B' := 255) (by omega) (by omega)) bd_diff (by omega) w)
  have p6 := Lib.hid (fun w => qAdd piL (piq a 255 * (piH - piL)) Bd.piL (((Bd.piq (n := (a : Int)) (d := 255) (by omega) (by omega)).mono (A' := 255) (B' := 255) (by omega) (by omega)).mul bd_diff) (by omega) w)
  rw [show piL + piq (a : Int) 255 * (piH - piL) = piA a from rfl] at p6
  have q1 := Lib.hid (fun w => trMarked o N (by omega) w)
  have q2 := Lib.hid (fun w' (hb : Below w.heap.size w w') => trErrors o N (by omega) hG w' hb)
  have q3 := Lib.hid (fun w => trRadiusE o 1 ⟨by omega, hL.1⟩ w)
  have cv1 : IntKind.i64.wrap (a : Int) = a := IntWalk.i64_in _ (by omega)
  have cv2 : wrap64 (a : Int) = a := IntWalk.wrap64_in _ (by omega)
  rw [Int.toNat_natCast] at q1 q2
  generalize rt piL = tL at *
  generalize rt piH = tH at *
  generalize rt (piq (a : Int) 255) = tq at *
  generalize rt (piH - piL) = td at *
  generalize rt (piq (a : Int) 255 * (piH - piL)) = tm at *
  generalize htp0 : rt (piA a) = tp at *
  have htp := Lib.hid htp0
  clear htp0
  go_enter Tryz.func3, Tryz.ntmps3
  go_wp2_with fail
  (with_reducible refine (c1.out _).mono ?_)
  rintro e w1 ⟨rfl, hb⟩
  have H1 : Below w.heap.size w w1 := by
    refine Below.trans ?_ (hb.mono ?_)
    · repeat (first | with_reducible assumption | with_reducible exact Below.refl _ _ | with_reducible refine Below.setCell ?_ (by first | omega | (simp [go_sem]; omega) | simp [go_sem]) _ | with_reducible refine Below.alloc ?_ (by first | omega | (simp [go_sem]; omega) | simp [go_sem]) _ | with_reducible refine below_grow ?_ (by first | omega | (simp [go_sem]; omega) | simp [go_sem]) _ _ | with_reducible refine Below.drew ?_)
    · first | omega | (simp [go_sem]; omega) | simp [go_sem]
  have S1 : w.heap.size ≤ w1.heap.size := H1.size
  have s1_0 : w.heap.size < w1.heap.size := Nat.lt_of_lt_of_le (by first | with_reducible assumption | omega | (simp [go_sem]; omega) | simp [go_sem]) hb.size
  have k1_0 := fun o => hb.cell (p := ⟨w.heap.size, o, none⟩) (by first | with_reducible assumption | omega | (simp [go_sem]; omega) | simp [go_sem])
  have f1_0 := fun o => hb.frozen (p := ⟨w.heap.size, o, none⟩) (by first | with_reducible assumption | omega | (simp [go_sem]; omega) | simp [go_sem])
  have s1_1 : w.heap.size + 1 < w1.heap.size := Nat.lt_of_lt_of_le (by first | with_reducible assumption | omega | (simp [go_sem]; omega) | simp [go_sem]) hb.size
  have k1_1 := fun o => hb.cell (p := ⟨w.heap.size + 1, o, none⟩) (by first | with_reducible assumption | omega | (simp [go_sem]; omega) | simp [go_sem])
  have f1_1 := fun o => hb.frozen (p := ⟨w.heap.size + 1, o, none⟩) (by first | with_reducible assumption | omega | (simp [go_sem]; omega) | simp [go_sem])
  have s1_2 : w.heap.size + 1 + 1 < w1.heap.size := Nat.lt_of_lt_of_le (by first | with_reducible assumption | omega | (simp [go_sem]; omega) | simp [go_sem]) hb.size
  have k1_2 := fun o => hb.cell (p := ⟨w.heap.size + 1 + 1, o, none⟩) (by first | with_reducible assumption | omega | (simp [go_sem]; omega) | simp [go_sem])
  have f1_2 := fun o => hb.frozen (p := ⟨w.heap.size + 1 + 1, o, none⟩) (by first | with_reducible assumption | omega | (simp [go_sem]; omega) | simp [go_sem])
  clear hb
  go_wp2_with fail
  (with_reducible refine (c2.out _).mono ?_)
  rintro e w2 ⟨rfl, hb⟩
  have H2 : Below w.heap.size w w2 := by
    refine Below.trans ?_ (hb.mono ?_)
    · repeat (first | with_reducible assumption | with_reducible exact Below.refl _ _ | with_reducible refine Below.setCell ?_ (by first | omega | (simp [go_sem]; omega) | simp [go_sem]) _ | with_reducible refine Below.alloc ?_ (by first | omega | (simp [go_sem]; omega) | simp [go_sem]) _ | with_reducible refine below_grow ?_ (by first | omega | (simp [go_sem]; omega) | simp [go_sem]) _ _ | with_reducible refine Below.drew ?_)
    · first | omega | (simp [go_sem]; omega) | simp [go_sem]
  have S2 : w.heap.size ≤ w2.heap.size := H2.size
  have s2_0 : w.heap.size < w2.heap.size := Nat.lt_of_lt_of_le (by first | with_reducible assumption | omega | (simp [go_sem]; omega) | simp [go_sem]) hb.size
  have k2_0 := fun o => hb.cell (p := ⟨w.heap.size, o, none⟩) (by first | with_reducible assumption | omega | (simp [go_sem]; omega) | simp [go_sem])
  have f2_0 := fun o => hb.frozen (p := ⟨w.heap.size, o, none⟩) (by first | with_reducible assumption | omega | (simp [go_sem]; omega) | simp [go_sem])
  have s2_1 : w.heap.size + 1 < w2.heap.size := Nat.lt_of_lt_of_le (by first | with_reducible assumption | omega | (simp [go_sem]; omega) | simp [go_sem]) hb.size
  have k2_1 := fun o => hb.cell (p := ⟨w.heap.size + 1, o, none⟩) (by first | with_reducible assumption | omega | (simp [go_sem]; omega) | simp [go_sem])
  have f2_1 := fun o => hb.frozen (p := ⟨w.heap.size + 1, o, none⟩) (by first | with_reducible assumption | omega | (simp [go_sem]; omega) | simp [go_sem])
  have s2_2 : w.heap.size + 1 + 1 < w2.heap.size := Nat.lt_of_lt_of_le (by first | with_reducible assumption | omega | (simp [go_sem]; omega) | simp [go_sem]) hb.size
  have k2_2 := fun o => hb.cell (p := ⟨w.heap.size + 1 + 1, o, none⟩) (by first | with_reducible assumption | omega | (simp [go_sem]; omega) | simp [go_sem])
  have f2_2 := fun o => hb.frozen (p := ⟨w.heap.size + 1 + 1, o, none⟩) (by first | with_reducible assumption | omega | (simp [go_sem]; omega) | simp [go_sem])
  clear hb
  go_wp2_with fail
  (with_reducible refine (c3.out _).mono ?_)
  rintro e w3 ⟨rfl, hb⟩
  have H3 : Below w.heap.size w w3 := by
    refine Below.trans ?_ (hb.mono ?_)
    · repeat (first | with_reducible assumption | with_reducible exact Below.refl _ _ | with_reducible refine Below.setCell ?_ (by first | omega | (simp [go_sem]; omega) | simp [go_sem]) _ | with_reducible refine Below.alloc ?_ (by first | omega | (simp [go_sem]; omega) | simp [go_sem]) _ | with_reducible refine below_grow ?_ (by first | omega | (simp [go_sem]; omega) | simp [go_sem]) _ _ | with_reducible refine Below.drew ?_)
    · first | omega | (simp [go_sem]; omega) | simp [go_sem]
  have S3 : w.heap.size ≤ w3.heap.size := H3.size
  have s3_0 : w.heap.size < w3.heap.size := Nat.lt_of_lt_of_le (by first | with_reducible assumption | omega | (simp [go_sem]; omega) | simp [go_sem]) hb.size
  have k3_0 := fun o => hb.cell (p := ⟨w.heap.size, o, none⟩) (by first | with_reducible assumption | omega | (simp [go_sem]; omega) | simp [go_sem])
  have f3_0 := fun o => hb.frozen (p := ⟨w.heap.size, o, none⟩) (by first | with_reducible assumption | omega | (simp [go_sem]; omega) | simp [go_sem])
  have s3_1 : w.heap.size + 1 < w3.heap.size := Nat.lt_of_lt_of_le (by first | with_reducible assumption | omega | (simp [go_sem]; omega) | simp [go_sem]) hb.size
  have k3_1 := fun o => hb.cell (p := ⟨w.heap.size + 1, o, none⟩) (by first | with_reducible assumption | omega | (simp [go_sem]; omega) | simp [go_sem])
  have f3_1 := fun o => hb.frozen (p := ⟨w.heap.size + 1, o, none⟩) (by first | with_reducible assumption | omega | (simp [go_sem]; omega) | simp [go_sem])
  have s3_2 : w.heap.size + 1 + 1 < w3.heap.size := Nat.lt_of_lt_of_le (by first | with_reducible assumption | omega | (simp [go_sem]; omega) | simp [go_sem]) hb.size
  have k3_2 := fun o => hb.cell (p := ⟨w.heap.size + 1 + 1, o, none⟩) (by first | with_reducible assumption | omega | (simp [go_sem]; omega) | simp [go_sem])
  have f3_2 := fun o => hb.frozen (p := ⟨w.heap.size + 1 + 1, o, none⟩) (by first | with_reducible assumption | omega | (simp [go_sem]; omega) | simp [go_sem])
  clear hb
  go_wp2_with fail
  clear c1 c2 c3
  (with_reducible refine (p1.out _).mono ?_)
  rintro e w4 ⟨rfl, hb⟩
  have H4 : Below w.heap.size w w4 := by
    refine Below.trans ?_ (hb.mono ?_)
    · repeat (first | with_reducible assumption | with_reducible exact Below.refl _ _ | with_reducible refine Below.setCell ?_ (by first | omega | (simp [go_sem]; omega) | simp [go_sem]) _ | with_reducible refine Below.alloc ?_ (by first | omega | (simp [go_sem]; omega) | simp [go_sem]) _ | with_reducible refine below_grow ?_ (by first | omega | (simp [go_sem]; omega) | simp [go_sem]) _ _ | with_reducible refine Below.drew ?_)
    · first | omega | (simp [go_sem]; omega) | simp [go_sem]
  have S4 : w.heap.size ≤ w4.heap.size := H4.size
  have s4_0 : w.heap.size < w4.heap.size := Nat.lt_of_lt_of_le (by first | with_reducible assumption | omega | (simp [go_sem]; omega) | simp [go_sem]) hb.size
  have k4_0 := fun o => hb.cell (p := ⟨w.heap.size, o, none⟩) (by first | with_reducible assumption | omega | (simp [go_sem]; omega) | simp [go_sem])
  have f4_0 := fun o => hb.frozen (p := ⟨w.heap.size, o, none⟩) (by first | with_reducible assumption | omega | (simp [go_sem]; omega) | simp [go_sem])
  have s4_1 : w.heap.size + 1 < w4.heap.size := Nat.lt_of_lt_of_le (by first | with_reducible assumption | omega | (simp [go_sem]; omega) | simp [go_sem]) hb.size
  have k4_1 := fun o => hb.cell (p := ⟨w.heap.size + 1, o, none⟩) (by first | with_reducible assumption | omega | (simp [go_sem]; omega) | simp [go_sem])
  have f4_1 := fun o => hb.frozen (p := ⟨w.heap.size + 1, o, none⟩) (by first | with_reducible assumption | omega | (simp [go_sem]; omega) | simp [go_sem])
  clear hb
  go_wp2_with fail
  (with_reducible refine (p3.out _).mono ?_)
  rintro e w5 ⟨rfl, hb⟩
  have H5 : Below w.heap.size w w5 := by
    refine Below.trans ?_ (hb.mono ?_)
    · repeat (first | with_reducible assumption | with_reducible exact Below.refl _ _ | with_reducible refine Below.setCell ?_ (by first | omega | (simp [go_sem]; omega) | simp [go_sem]) _ | with_reducible refine Below.alloc ?_ (by first | omega | (simp [go_sem]; omega) | simp [go_sem]) _ | with_reducible refine below_grow ?_ (by first | omega | (simp [go_sem]; omega) | simp [go_sem]) _ _ | with_reducible refine Below.drew ?_)
    · first | omega | (simp [go_sem]; omega) | simp [go_sem]
  have S5 : w.heap.size ≤ w5.heap.size := H5.size
  have s5_0 : w.heap.size < w5.heap.size := Nat.lt_of_lt_of_le (by first | with_reducible assumption | omega | (simp [go_sem]; omega) | simp [go_sem]) hb.size
  have k5_0 := fun o => hb.cell (p := ⟨w.heap.size, o, none⟩) (by first | with_reducible assumption | omega | (simp [go_sem]; omega) | simp [go_sem])
  have f5_0 := fun o => hb.frozen (p := ⟨w.heap.size, o, none⟩) (by first | with_reducible assumption | omega | (simp [go_sem]; omega) | simp [go_sem])
  have s5_1 : w.heap.size + 1 < w5.heap.size := Nat.lt_of_lt_of_le (by first | with_reducible assumption | omega | (simp [go_sem]; omega) | simp [go_sem]) hb.size
  have k5_1 := fun o => hb.cell (p := ⟨w.heap.size + 1, o, none⟩) (by first | with_reducible assumption | omega | (simp [go_sem]; omega) | simp [go_sem])
  have f5_1 := fun o => hb.frozen (p := ⟨w.heap.size + 1, o, none⟩) (by first | with_reducible assumption | omega | (simp [go_sem]; omega) | simp [go_sem])
  clear hb
  clear p3
  go_wp2_with fail
  (with_reducible refine (p2.out _).mono ?_)
  rintro e w6 ⟨rfl, hb⟩
  have H6 : Below w.heap.size w w6 := by
    refine Below.trans ?_ (hb.mono ?_)
    · repeat (first | with_reducible assumption | with_reducible exact Below.refl _ _ | with_reducible refine Below.setCell ?_ (by first | omega | (simp [go_sem]; omega) | simp [go_sem]) _ | with_reducible refine Below.alloc ?_ (by first | omega | (simp [go_sem]; omega) | simp [go_sem]) _ | with_reducible refine below_grow ?_ (by first | omega | (simp [go_sem]; omega) | simp [go_sem]) _ _ | with_reducible refine Below.drew ?_)
    · first | omega | (simp [go_sem]; omega) | simp [go_sem]
  have S6 : w.heap.size ≤ w6.heap.size := H6.size
  have s6_0 : w.heap.size < w6.heap.size := Nat.lt_of_lt_of_le (by first | with_reducible assumption | omega | (simp [go_sem]; omega) | simp [go_sem]) hb.size
  have k6_0 := fun o => hb.cell (p := ⟨w.heap.size, o, none⟩) (by first | with_reducible assumption | omega | (simp [go_sem]; omega) | simp [go_sem])
  have f6_0 := fun o => hb.frozen (p := ⟨w.heap.size, o, none⟩) (by first | with_reducible assumption | omega | (simp [go_sem]; omega) | simp [go_sem])
  have s6_1 : w.heap.size + 1 < w6.heap.size := Nat.lt_of_lt_of_le (by first | with_reducible assumption | omega | (simp [go_sem]; omega) | simp [go_sem]) hb.size
  have k6_1 := fun o => hb.cell (p := ⟨w.heap.size + 1, o, none⟩) (by first | with_reducible assumption | omega | (simp [go_sem]; omega) | simp [go_sem])
  have f6_1 := fun o => hb.frozen (p := ⟨w.heap.size + 1, o, none⟩) (by first | with_reducible assumption | omega | (simp [go_sem]; omega) | simp [go_sem])
  clear hb
  clear p2
  go_wp2_with fail
  (with_reducible refine (p1.out _).mono ?_)
  rintro e w7 ⟨rfl, hb⟩
  have H7 : Below w.heap.size w w7 := by
    refine Below.trans ?_ (hb.mono ?_)
    · repeat (first | with_reducible assumption | with_reducible exact Below.refl _ _ | with_reducible refine Below.setCell ?_ (by first | omega | (simp [go_sem]; omega) | simp [go_sem]) _ | with_reducible refine Below.alloc ?_ (by first | omega | (simp [go_sem]; omega) | simp [go_sem]) _ | with_reducible refine below_grow ?_ (by first | omega | (simp [go_sem]; omega) | simp [go_sem]) _ _ | with_reducible refine Below.drew ?_)
    · first | omega | (simp [go_sem]; omega) | simp [go_sem]
  have S7 : w.heap.size ≤ w7.heap.size := H7.size
  have s7_0 : w.heap.size < w7.heap.size := Nat.lt_of_lt_of_le (by first | with_reducible assumption | omega | (simp [go_sem]; omega) | simp [go_sem]) hb.size
  have k7_0 := fun o => hb.cell (p := ⟨w.heap.size, o, none⟩) (by first | with_reducible assumption | omega | (simp [go_sem]; omega) | simp [go_sem])
  have f7_0 := fun o => hb.frozen (p := ⟨w.heap.size, o, none⟩) (by first | with_reducible assumption | omega | (simp [go_sem]; omega) | simp [go_sem])
  have s7_1 : w.heap.size + 1 < w7.heap.size := Nat.lt_of_lt_of_le (by first | with_reducible assumption | omega | (simp [go_sem]; omega) | simp [go_sem]) hb.size
  have k7_1 := fun o => hb.cell (p := ⟨w.heap.size + 1, o, none⟩) (by first | with_reducible assumption | omega | (simp [go_sem]; omega) | simp [go_sem])
  have f7_1 := fun o => hb.frozen (p := ⟨w.heap.size + 1, o, none⟩) (by first | with_reducible assumption | omega | (simp [go_sem]; omega) | simp [go_sem])
  clear hb
  clear p1
  go_wp2_with fail
  (with_reducible refine (p4.out _).mono ?_)
  rintro e w8 ⟨rfl, hb⟩
  have H8 : Below w.heap.size w w8 := by
    refine Below.trans ?_ (hb.mono ?_)
    · repeat (first | with_reducible assumption | with_reducible exact Below.refl _ _ | with_reducible refine Below.setCell ?_ (by first | omega | (simp [go_sem]; omega) | simp [go_sem]) _ | with_reducible refine Below.alloc ?_ (by first | omega | (simp [go_sem]; omega) | simp [go_sem]) _ | with_reducible refine below_grow ?_ (by first | omega | (simp [go_sem]; omega) | simp [go_sem]) _ _ | with_reducible refine Below.drew ?_)
    · first | omega | (simp [go_sem]; omega) | simp [go_sem]
  have S8 : w.heap.size ≤ w8.heap.size := H8.size
  have s8_0 : w.heap.size < w8.heap.size := Nat.lt_of_lt_of_le (by first | with_reducible assumption | omega | (simp [go_sem]; omega) | simp [go_sem]) hb.size
  have k8_0 := fun o => hb.cell (p := ⟨w.heap.size, o, none⟩) (by first | with_reducible assumption | omega | (simp [go_sem]; omega) | simp [go_sem])
  have f8_0 := fun o => hb.frozen (p := ⟨w.heap.size, o, none⟩) (by first | with_reducible assumption | omega | (simp [go_sem]; omega) | simp [go_sem])
  have s8_1 : w.heap.size + 1 < w8.heap.size := Nat.lt_of_lt_of_le (by first | with_reducible assumption | omega | (simp [go_sem]; omega) | simp [go_sem]) hb.size
  have k8_1 := fun o => hb.cell (p := ⟨w.heap.size + 1, o, none⟩) (by first | with_reducible assumption | omega | (simp [go_sem]; omega) | simp [go_sem])
  have f8_1 := fun o => hb.frozen (p := ⟨w.heap.size + 1, o, none⟩) (by first | with_reducible assumption | omega | (simp [go_sem]; omega) | simp [go_sem])
  clear hb
  clear p4
  go_wp2_with fail
  (with_reducible refine (p5.out _).mono ?_)
  rintro e w9 ⟨rfl, hb⟩
  have H9 : Below w.heap.size w w9 := by
    refine Below.trans ?_ (hb.mono ?_)
    · repeat (first | with_reducible assumption | with_reducible exact Below.refl _ _ | with_reducible refine Below.setCell ?_ (by first | omega | (simp [go_sem]; omega) | simp [go_sem]) _ | with_reducible refine Below.alloc ?_ (by first | omega | (simp [go_sem]; omega) | simp [go_sem]) _ | with_reducible refine below_grow ?_ (by first | omega | (simp [go_sem]; omega) | simp [go_sem]) _ _ | with_reducible refine Below.drew ?_)
    · first | omega | (simp [go_sem]; omega) | simp [go_sem]
  have S9 : w.heap.size ≤ w9.heap.size := H9.size
  have s9_0 : w.heap.size < w9.heap.size := Nat.lt_of_lt_of_le (by first | with_reducible assumption | omega | (simp [go_sem]; omega) | simp [go_sem]) hb.size
  have k9_0 := fun o => hb.cell (p := ⟨w.heap.size, o, none⟩) (by first | with_reducible assumption | omega | (simp [go_sem]; omega) | simp [go_sem])
  have f9_0 := fun o => hb.frozen (p := ⟨w.heap.size, o, none⟩) (by first | with_reducible assumption | omega | (simp [go_sem]; omega) | simp [go_sem])
  have s9_1 : w.heap.size + 1 < w9.heap.size := Nat.lt_of_lt_of_le (by first | with_reducible assumption | omega | (simp [go_sem]; omega) | simp [go_sem]) hb.size
  have k9_1 := fun o => hb.cell (p := ⟨w.heap.size + 1, o, none⟩) (by first | with_reducible assumption | omega | (simp [go_sem]; omega) | simp [go_sem])
  have f9_1 := fun o => hb.frozen (p := ⟨w.heap.size + 1, o, none⟩) (by first | with_reducible assumption | omega | (simp [go_sem]; omega) | simp [go_sem])
  clear hb
  clear p5
  go_wp2_with fail
  (with_reducible refine (p6.out _).mono ?_)
  rintro e w10 ⟨rfl, hb⟩
  have H10 : Below w.heap.size w w10 := by
    refine Below.trans ?_ (hb.mono ?_)
    · repeat (first | with_reducible assumption | with_reducible exact Below.refl _ _ | with_reducible refine Below.setCell ?_ (by first | omega | (simp [go_sem]; omega) | simp [go_sem]) _ | with_reducible refine Below.alloc ?_ (by first | omega | (simp [go_sem]; omega) | simp [go_sem]) _ | with_reducible refine below_grow ?_ (by first | omega | (simp [go_sem]; omega) | simp [go_sem]) _ _ | with_reducible refine Below.drew ?_)
    · first | omega | (simp [go_sem]; omega) | simp [go_sem]
  have S10 : w.heap.size ≤ w10.heap.size := H10.size
  have s10_0 : w.heap.size < w10.heap.size := Nat.lt_of_lt_of_le (by first | with_reducible assumption | omega | (simp [go_sem]; omega) | simp [go_sem]) hb.size
  have k10_0 := fun o => hb.cell (p := ⟨w.heap.size, o, none⟩) (by first | with_reducible assumption | omega | (simp [go_sem]; omega) | simp [go_sem])
  have f10_0 := fun o => hb.frozen (p := ⟨w.heap.size, o, none⟩) (by first | with_reducible assumption | omega | (simp [go_sem]; omega) | simp [go_sem])
  have s10_1 : w.heap.size + 1 < w10.heap.size := Nat.lt_of_lt_of_le (by first | with_reducible assumption | omega | (simp [go_sem]; omega) | simp [go_sem]) hb.size
  have k10_1 := fun o => hb.cell (p := ⟨w.heap.size + 1, o, none⟩) (by first | with_reducible assumption | omega | (simp [go_sem]; omega) | simp [go_sem])
  have f10_1 := fun o => hb.frozen (p := ⟨w.heap.size + 1, o, none⟩) (by first | with_reducible assumption | omega | (simp [go_sem]; omega) | simp [go_sem])
  clear hb
  clear p6
  go_wp2_with fail
  clear cv1 cv2
  (with_reducible refine (q1.out _).mono ?_)
  rintro e w11 ⟨v1, rfl, hrow1, hb⟩
  have H11 : Below w.heap.size w w11 := by
    refine Below.trans ?_ (hb.mono ?_)
    · repeat (first | with_reducible assumption | with_reducible exact Below.refl _ _ | with_reducible refine Below.setCell ?_ (by first | omega | (simp [go_sem]; omega) | simp [go_sem]) _ | with_reducible refine Below.alloc ?_ (by first | omega | (simp [go_sem]; omega) | simp [go_sem]) _ | with_reducible refine below_grow ?_ (by first | omega | (simp [go_sem]; omega) | simp [go_sem]) _ _ | with_reducible refine Below.drew ?_)
    · first | omega | (simp [go_sem]; omega) | simp [go_sem]
  have S11 : w.heap.size ≤ w11.heap.size := H11.size
  have s11_0 : w.heap.size < w11.heap.size := Nat.lt_of_lt_of_le (by first | with_reducible assumption | omega | (simp [go_sem]; omega) | simp [go_sem]) hb.size
  have k11_0 := fun o => hb.cell (p := ⟨w.heap.size, o, none⟩) (by first | with_reducible assumption | omega | (simp [go_sem]; omega) | simp [go_sem])
  have f11_0 := fun o => hb.frozen (p := ⟨w.heap.size, o, none⟩) (by first | with_reducible assumption | omega | (simp [go_sem]; omega) | simp [go_sem])
  have s11_1 : w.heap.size + 1 < w11.heap.size := Nat.lt_of_lt_of_le (by first | with_reducible assumption | omega | (simp [go_sem]; omega) | simp [go_sem]) hb.size
  have k11_1 := fun o => hb.cell (p := ⟨w.heap.size + 1, o, none⟩) (by first | with_reducible assumption | omega | (simp [go_sem]; omega) | simp [go_sem])
  have f11_1 := fun o => hb.frozen (p := ⟨w.heap.size + 1, o, none⟩) (by first | with_reducible assumption | omega | (simp [go_sem]; omega) | simp [go_sem])
  clear hb
  clear q1
  obtain ⟨g1, cap1, rfl⟩ := row_slice hrow1 (by omega)
  have l1 : g1 < w11.heap.size := (hrow1.lt g1 rfl).2
  go_wp2_with fail
  (with_reducible refine (q2.out _ ?_).mono ?_)
  · exact H11
  rintro e w12 ⟨v2, rfl, hrow2, hb⟩
  have H12 : Below w.heap.size w w12 := by
    refine Below.trans ?_ (hb.mono ?_)
    · repeat (first | with_reducible assumption | with_reducible exact Below.refl _ _ | with_reducible refine Below.setCell ?_ (by first | omega | (simp [go_sem]; omega) | simp [go_sem]) _ | with_reducible refine Below.alloc ?_ (by first | omega | (simp [go_sem]; omega) | simp [go_sem]) _ | with_reducible refine below_grow ?_ (by first | omega | (simp [go_sem]; omega) | simp [go_sem]) _ _ | with_reducible refine Below.drew ?_)
    · first | omega | (simp [go_sem]; omega) | simp [go_sem]
  have S12 : w.heap.size ≤ w12.heap.size := H12.size
  have s12_0 : w.heap.size < w12.heap.size := Nat.lt_of_lt_of_le (by first | with_reducible assumption | omega | (simp [go_sem]; omega) | simp [go_sem]) hb.size
  have k12_0 := fun o => hb.cell (p := ⟨w.heap.size, o, none⟩) (by first | with_reducible assumption | omega | (simp [go_sem]; omega) | simp [go_sem])
  have f12_0 := fun o => hb.frozen (p := ⟨w.heap.size, o, none⟩) (by first | with_reducible assumption | omega | (simp [go_sem]; omega) | simp [go_sem])
  have s12_1 : w.heap.size + 1 < w12.heap.size := Nat.lt_of_lt_of_le (by first | with_reducible assumption | omega | (simp [go_sem]; omega) | simp [go_sem]) hb.size
  have k12_1 := fun o => hb.cell (p := ⟨w.heap.size + 1, o, none⟩) (by first | with_reducible assumption | omega | (simp [go_sem]; omega) | simp [go_sem])
  have f12_1 := fun o => hb.frozen (p := ⟨w.heap.size + 1, o, none⟩) (by first | with_reducible assumption | omega | (simp [go_sem]; omega) | simp [go_sem])
  have s12_2 : g1 < w12.heap.size := Nat.lt_of_lt_of_le (by first | with_reducible assumption | omega | (simp [go_sem]; omega) | simp [go_sem]) hb.size
  have k12_2 := fun o => hb.cell (p := ⟨g1, o, none⟩) (by first | with_reducible assumption | omega | (simp [go_sem]; omega) | simp [go_sem])
  have f12_2 := fun o => hb.frozen (p := ⟨g1, o, none⟩) (by first | with_reducible assumption | omega | (simp [go_sem]; omega) | simp [go_sem])
  clear hb
  clear q2
  obtain ⟨g2, cap2, rfl⟩ := row_slice hrow2 (by omega)
  have l2 : g2 < w12.heap.size := (hrow2.lt g2 rfl).2
  have l12 : w11.heap.size ≤ g2 := (hrow2.lt g2 rfl).1
  go_wp2_with fail
  (with_reducible refine (q3.out _).mono ?_)
  rintro e w13 ⟨rfl, hb⟩
  have H13 : Below w.heap.size w w13 := by
    refine Below.trans ?_ (hb.mono ?_)
    · repeat (first | with_reducible assumption | with_reducible exact Below.refl _ _ | with_reducible refine Below.setCell ?_ (by first | omega | (simp [go_sem]; omega) | simp [go_sem]) _ | with_reducible refine Below.alloc ?_ (by first | omega | (simp [go_sem]; omega) | simp [go_sem]) _ | with_reducible refine below_grow ?_ (by first | omega | (simp [go_sem]; omega) | simp [go_sem]) _ _ | with_reducible refine Below.drew ?_)
    · first | omega | (simp [go_sem]; omega) | simp [go_sem]
  have S13 : w.heap.size ≤ w13.heap.size := H13.size
  have s13_0 : w.heap.size < w13.heap.size := Nat.lt_of_lt_of_le (by first | with_reducible assumption | omega | (simp [go_sem]; omega) | simp [go_sem]) hb.size
  have k13_0 := fun o => hb.cell (p := ⟨w.heap.size, o, none⟩) (by first | with_reducible assumption | omega | (simp [go_sem]; omega) | simp [go_sem])
  have f13_0 := fun o => hb.frozen (p := ⟨w.heap.size, o, none⟩) (by first | with_reducible assumption | omega | (simp [go_sem]; omega) | simp [go_sem])
  have s13_1 : w.heap.size + 1 < w13.heap.size := Nat.lt_of_lt_of_le (by first | with_reducible assumption | omega | (simp [go_sem]; omega) | simp [go_sem]) hb.size
  have k13_1 := fun o => hb.cell (p := ⟨w.heap.size + 1, o, none⟩) (by first | with_reducible assumption | omega | (simp [go_sem]; omega) | simp [go_sem])
  have f13_1 := fun o => hb.frozen (p := ⟨w.heap.size + 1, o, none⟩) (by first | with_reducible assumption | omega | (simp [go_sem]; omega) | simp [go_sem])
  have s13_2 : g1 < w13.heap.size := Nat.lt_of_lt_of_le (by first | with_reducible assumption | omega | (simp [go_sem]; omega) | simp [go_sem]) hb.size
  have k13_2 := fun o => hb.cell (p := ⟨g1, o, none⟩) (by first | with_reducible assumption | omega | (simp [go_sem]; omega) | simp [go_sem])
  have f13_2 := fun o => hb.frozen (p := ⟨g1, o, none⟩) (by first | with_reducible assumption | omega | (simp [go_sem]; omega) | simp [go_sem])
  have s13_3 : g2 < w13.heap.size := Nat.lt_of_lt_of_le (by first | with_reducible assumption | omega | (simp [go_sem]; omega) | simp [go_sem]) hb.size
  have k13_3 := fun o => hb.cell (p := ⟨g2, o, none⟩) (by first | with_reducible assumption | omega | (simp [go_sem]; omega) | simp [go_sem])
  have f13_3 := fun o => hb.frozen (p := ⟨g2, o, none⟩) (by first | with_reducible assumption | omega | (simp [go_sem]; omega) | simp [go_sem])
  clear hb
  clear q3
  go_wp2_with fail
  have e0 : ∀ j (v : Value), (#[.int .i64 S, .int .i64 R, .int .i64 W, .int .i64 F, .int .i64 T, .int .i64 LN] : Array Value)[j]? = some v → w13.cell? ⟨w.heap.size, j, none⟩ = some v := by
    intro j v hj
    have hj6 : j < 6 := (Array.getElem?_eq_some_iff.1 hj).1
    rcases j with _ | _ | _ | _ | _ | _ | j
    all_goals first | omega | (simp at hj; subst hj; simp (maxDischargeDepth := 6) [*, go_sem]; done)
  have e1 : w13.cell? ⟨w.heap.size + 1, 1, none⟩ = some (.int .i64 N) := by simp (maxDischargeDepth := 6) [*, go_sem]
  have r1 : ∀ k : Nat, k < LN → w13.cell? ⟨g1, k, none⟩ = some (mstV R W F T N ((k : Int) + 1)) := by
    intro k hk
    have h1 := hrow1.cellAt k (by omega)
    rw [List.getElem?_map, firstLanes_get hk] at h1
    rw [k13_2, k12_2]
    exact h1
  have r2 : ∀ k j : Nat, k < LN → j < 2 → w13.cell? ⟨g2, 2 * k + j, none⟩ = (errV R W F T N ((k : Int) + 1))[j]? := by
    intro k j hk hj
    have h1 := hrow2.cellAt (2 * k + j) (by omega)
    rw [flat2_get _ (fun _ => rfl) _ _ _ hj, firstLanes_get hk] at h1
    rw [k13_3]
    exact h1
  have z1 : w.heap.size + 1 < w13.heap.size := by omega
  have z2 : g1 < w13.heap.size := by omega
  have z3 : g2 < w13.heap.size := by omega
  have E0 := Lib.hid e0
  have E1 := Lib.hid e1
  have R1 := Lib.hid r1
  have R2 := Lib.hid r2
  have HB := Lib.hid H13
  clear e0 e1 r1 r2
  clear k13_0 k13_1 k13_2 k13_3 f13_0 f13_1 f13_2 f13_3 s13_0 s13_1 s13_2 s13_3
  try clear k1_0 k1_1 k1_2 f1_0 f1_1 f1_2 s1_0 s1_1 s1_2
  try clear k2_0 k2_1 k2_2 f2_0 f2_1 f2_2 s2_0 s2_1 s2_2
  try clear k3_0 k3_1 k3_2 f3_0 f3_1 f3_2 s3_0 s3_1 s3_2
  try clear k4_0 k4_1 f4_0 f4_1 s4_0 s4_1
  try clear k5_0 k5_1 f5_0 f5_1 s5_0 s5_1
  try clear k6_0 k6_1 f6_0 f6_1 s6_0 s6_1
  try clear k7_0 k7_1 f7_0 f7_1 s7_0 s7_1
  try clear k8_0 k8_1 f8_0 f8_1 s8_0 s8_1
  try clear k9_0 k9_1 f9_0 f9_1 s9_0 s9_1
  try clear k10_0 k10_1 f10_0 f10_1 s10_0 s10_1
  try clear k11_0 k11_1 f11_0 f11_1 s11_0 s11_1
  try clear k12_0 k12_1 k12_2 f12_0 f12_1 f12_2 s12_0 s12_1 s12_2
  clear H1 H2 H3 H4 H5 H6 H7 H8 H9 H10 H11 H12 H13 S1 S2 S3 S4 S5 S6 S7 S8 S9 S10 S11 S12 hrow1 hrow2 l1 l2 l12
  generalize w13 = wl at *
  go_loopw [96] (fun i wr => ∃ k : Nat, k ≤ LN ∧ i = .int .i64 k ∧ Below wl.heap.size wl wr) (fun i _ => LN - (RowKit.intOf i).toNat)
  case atStart => exact ⟨0, Nat.zero_le _, rfl, Below.refl _ _⟩
  case round =>
    obtain ⟨k, hk, rfl, hbl⟩ := hrel
    by_cases hlt : k < LN
    · obtain ⟨x, D, M, A, U, r, el, eh, t1, t2, t3, sg, sc, sd, f⟩ := laneF o N a hN ha k hlt
      have n0c : wr.cell? ⟨g1, k, none⟩ = some (.int .i64 M) := by
        rw [← f.hM]; exact (hbl.cell (p := ⟨g1, k, none⟩) z2).trans (R1.out k hlt)
      have n1c : wr.cell? ⟨g2, k * 2, none⟩ = some (.string ⟨(el).toArray⟩) := by
        rw [Nat.mul_comm k 2]
        have := (hbl.cell (p := ⟨g2, 2 * k + 0, none⟩) z3).trans (R2.out k 0 hlt (by decide))
        rw [f.hE] at this
        exact this
      have n2c : wr.cell? ⟨g2, k * 2 + 1, none⟩ = some (.string ⟨(eh).toArray⟩) := by
        rw [Nat.mul_comm k 2]
        have := (hbl.cell (p := ⟨g2, 2 * k + 1, none⟩) z3).trans (R2.out k 1 hlt (by decide))
        rw [f.hE] at this
        exact this
      have oc := fun j v hj => (hbl.cell (p := ⟨w.heap.size, j, none⟩) (Nat.lt_of_succ_lt z1)).trans (E0.out j v hj)
      have o0 := oc 0 _ rfl; have o1 := oc 1 _ rfl; have o2 := oc 2 _ rfl; have o3 := oc 3 _ rfl; have o4 := oc 4 _ rfl; have o5 := oc 5 _ rfl
      have o6 : wr.cell? ⟨w.heap.size + 1, 1, none⟩ = some (.int .i64 N) := (hbl.cell (p := ⟨w.heap.size + 1, 1, none⟩) z1).trans E1.out
      clear oc
      have hsz := hbl.size
      have hk1000 : k ≤ 1000 := Nat.le_trans hk (Nat.le_trans (Int.ofNat_le.1 hL.2) (by decide))
      have z0r : w.heap.size < wr.heap.size := Nat.lt_of_lt_of_le (Nat.lt_of_succ_lt z1) hsz
      have z1r : w.heap.size + 1 < wr.heap.size := Nat.lt_of_lt_of_le z1 hsz
      have z2r : g1 < wr.heap.size := Nat.lt_of_lt_of_le z2 hsz
      have z3r : g2 < wr.heap.size := Nat.lt_of_lt_of_le z3 hsz
      have w0a := w64_succ hk1000
      have w0b := i64_succ hk1000
      have w1a := w64_x f.xb
      have w2a := w64_nat f.Db (by decide)
      have w3a := w64_s f.sb
      have w4a := (w64_q f.sb f.qb).1
      have w5a := (w64_q f.sb f.qb).2
      have w6a := w64_nat f.Ab (by decide)
      have w6b := i64_nat f.Ab (by decide)
      have hx := f.hx
      have hri := f.hri
      have hD := f.hD
      have hA := f.hA
      have hsg := f.hsg
      have hsc := f.hsc
      have hsd := f.hsd
      have a1 := Lib.hid f.a1
      have a2 := Lib.hid f.a2
      have y1 := Lib.hid f.y1
      have y2 := Lib.hid f.y2
      have y3 := Lib.hid f.y3
      have y4 := Lib.hid f.y4
      have y5 := Lib.hid f.y5
      have a3 := Lib.hid f.a3
      have a4 := Lib.hid f.a4
      rw [htp.out] at a4
      have a5 := Lib.hid f.a5
      have a6 := Lib.hid f.a6
      have a7 := Lib.hid f.a7
      have a8 := Lib.hid f.a8
      have a9 := Lib.hid f.a9
      have a10 := Lib.hid f.a10
      have a11 := Lib.hid f.a11
      have a12 := Lib.hid f.a12
      have hGr := Lib.hid (hG.keep (HB.out.trans (hbl.mono S13)))
      have hbl' := Lib.hid hbl
      clear hbl f o E0 E1 R1 R2 htp
      generalize rad R W F T ((k : Int) + 1) = rk at *
      generalize rad R W F T 1 = ri at *
      generalize hss : S * S = ss at *
      generalize hxx : x * x = xx at *
      generalize hqq : ss + xx = qq at *
      go_wp2_with fail
      (with_reducible refine (a1.out _).mono ?_)
      rintro e w14 ⟨rfl, hb⟩
      have H14 : Below wr.heap.size wr w14 := by
        refine Below.trans ?_ (hb.mono ?_)
        · repeat (first | with_reducible assumption | with_reducible exact Below.refl _ _ | with_reducible refine Below.setCell ?_ (by first | omega | (simp [go_sem]; omega) | simp [go_sem]) _ | with_reducible refine Below.alloc ?_ (by first | omega | (simp [go_sem]; omega) | simp [go_sem]) _ | with_reducible refine below_grow ?_ (by first | omega | (simp [go_sem]; omega) | simp [go_sem]) _ _ | with_reducible refine Below.drew ?_)
        · first | omega | (simp [go_sem]; omega) | simp [go_sem]
      have S14 : wr.heap.size ≤ w14.heap.size := H14.size
      have s14_0 : w.heap.size < w14.heap.size := Nat.lt_of_lt_of_le (by first | with_reducible assumption | omega | (simp [go_sem]; omega) | simp [go_sem]) hb.size
      have k14_0 := fun o => hb.cell (p := ⟨w.heap.size, o, none⟩) (by first | with_reducible assumption | omega | (simp [go_sem]; omega) | simp [go_sem])
      have f14_0 := fun o => hb.frozen (p := ⟨w.heap.size, o, none⟩) (by first | with_reducible assumption | omega | (simp [go_sem]; omega) | simp [go_sem])
      have s14_1 : w.heap.size + 1 < w14.heap.size := Nat.lt_of_lt_of_le (by first | with_reducible assumption | omega | (simp [go_sem]; omega) | simp [go_sem]) hb.size
      have k14_1 := fun o => hb.cell (p := ⟨w.heap.size + 1, o, none⟩) (by first | with_reducible assumption | omega | (simp [go_sem]; omega) | simp [go_sem])
      have f14_1 := fun o => hb.frozen (p := ⟨w.heap.size + 1, o, none⟩) (by first | with_reducible assumption | omega | (simp [go_sem]; omega) | simp [go_sem])
      have s14_2 : g1 < w14.heap.size := Nat.lt_of_lt_of_le (by first | with_reducible assumption | omega | (simp [go_sem]; omega) | simp [go_sem]) hb.size
      have k14_2 := fun o => hb.cell (p := ⟨g1, o, none⟩) (by first | with_reducible assumption | omega | (simp [go_sem]; omega) | simp [go_sem])
      have f14_2 := fun o => hb.frozen (p := ⟨g1, o, none⟩) (by first | with_reducible assumption | omega | (simp [go_sem]; omega) | simp [go_sem])
      have s14_3 : g2 < w14.heap.size := Nat.lt_of_lt_of_le (by first | with_reducible assumption | omega | (simp [go_sem]; omega) | simp [go_sem]) hb.size
      have k14_3 := fun o => hb.cell (p := ⟨g2, o, none⟩) (by first | with_reducible assumption | omega | (simp [go_sem]; omega) | simp [go_sem])
      have f14_3 := fun o => hb.frozen (p := ⟨g2, o, none⟩) (by first | with_reducible assumption | omega | (simp [go_sem]; omega) | simp [go_sem])
      clear hb
      clear a1
      go_wp2_with fail
      (with_reducible refine (a2.out _ hGr.out _ H14).mono ?_)
      rintro e w15 ⟨rfl, hb⟩
      have H15 : Below wr.heap.size wr w15 := by
        refine Below.trans ?_ (hb.mono ?_)
        · repeat (first | with_reducible assumption | with_reducible exact Below.refl _ _ | with_reducible refine Below.setCell ?_ (by first | omega | (simp [go_sem]; omega) | simp [go_sem]) _ | with_reducible refine Below.alloc ?_ (by first | omega | (simp [go_sem]; omega) | simp [go_sem]) _ | with_reducible refine below_grow ?_ (by first | omega | (simp [go_sem]; omega) | simp [go_sem]) _ _ | with_reducible refine Below.drew ?_)
        · first | omega | (simp [go_sem]; omega) | simp [go_sem]
      have S15 : wr.heap.size ≤ w15.heap.size := H15.size
      have s15_0 : w.heap.size < w15.heap.size := Nat.lt_of_lt_of_le (by first | with_reducible assumption | omega | (simp [go_sem]; omega) | simp [go_sem]) hb.size
      have k15_0 := fun o => hb.cell (p := ⟨w.heap.size, o, none⟩) (by first | with_reducible assumption | omega | (simp [go_sem]; omega) | simp [go_sem])
      have f15_0 := fun o => hb.frozen (p := ⟨w.heap.size, o, none⟩) (by first | with_reducible assumption | omega | (simp [go_sem]; omega) | simp [go_sem])
      have s15_1 : w.heap.size + 1 < w15.heap.size := Nat.lt_of_lt_of_le (by first | with_reducible assumption | omega | (simp [go_sem]; omega) | simp [go_sem]) hb.size
      have k15_1 := fun o => hb.cell (p := ⟨w.heap.size + 1, o, none⟩) (by first | with_reducible assumption | omega | (simp [go_sem]; omega) | simp [go_sem])
      have f15_1 := fun o => hb.frozen (p := ⟨w.heap.size + 1, o, none⟩) (by first | with_reducible assumption | omega | (simp [go_sem]; omega) | simp [go_sem])
      have s15_2 : g1 < w15.heap.size := Nat.lt_of_lt_of_le (by first | with_reducible assumption | omega | (simp [go_sem]; omega) | simp [go_sem]) hb.size
      have k15_2 := fun o => hb.cell (p := ⟨g1, o, none⟩) (by first | with_reducible assumption | omega | (simp [go_sem]; omega) | simp [go_sem])
      have f15_2 := fun o => hb.frozen (p := ⟨g1, o, none⟩) (by first | with_reducible assumption | omega | (simp [go_sem]; omega) | simp [go_sem])
      have s15_3 : g2 < w15.heap.size := Nat.lt_of_lt_of_le (by first | with_reducible assumption | omega | (simp [go_sem]; omega) | simp [go_sem]) hb.size
      have k15_3 := fun o => hb.cell (p := ⟨g2, o, none⟩) (by first | with_reducible assumption | omega | (simp [go_sem]; omega) | simp [go_sem])
      have f15_3 := fun o => hb.frozen (p := ⟨g2, o, none⟩) (by first | with_reducible assumption | omega | (simp [go_sem]; omega) | simp [go_sem])
      clear hb
      clear a2
      go_wp2_with fail
      have m1c : w15.cell? ⟨g2, k * 2, none⟩ = some (.string ⟨(el).toArray⟩) := by rw [k15_3, k14_3]; exact n1c
      have m2c : w15.cell? ⟨g2, k * 2 + 1, none⟩ = some (.string ⟨(eh).toArray⟩) := by rw [k15_3, k14_3]; exact n2c
      have hk0 : (0 : Int) ≤ (k : Int) := Int.natCast_nonneg k
      have hk1 : (k : Int) < (LN : Int) := Int.ofNat_lt.2 hlt
      have hne : g2 < w15.heap.size := s15_3
      refine wp_region_heldT (S := fun w' => w'.cell? ⟨w15.heap.size, 0, none⟩ = some (.string ⟨(decDigits A).toArray⟩) ∧ w'.cell? ⟨w15.heap.size, 1, none⟩ = some (.string ⟨(decDigits U).toArray⟩) ∧ w'.cell? ⟨g2, k * 2, none⟩ = some (.string ⟨(el).toArray⟩) ∧ w'.cell? ⟨g2, k * 2 + 1, none⟩ = some (.string ⟨(eh).toArray⟩)) 30 (by kernel_rfl) (by kernel_rfl) ?_ (fun hH => ?_)
      · first | trivial | simp (maxDischargeDepth := 4) [*, go_sem]
      simp only [List.take_succ_cons, List.take_zero, List.drop_succ_cons, List.drop_zero, List.take_nil, List.drop_nil]
      refine wpAnyH_take (i := 0) (v := ?_) rfl (by kernel_rfl) (by kernel_rfl) (by kernel_rfl) (fun _ _ _ h => h) (Or.inl ⟨by rfl, ?_⟩) (by assumption) ?_
      rotate_left
      · intro w' hSw
        try dsimp only at hSw
        first | (go_simp; done) | (go_simp; with_reducible rfl)
      try simp only [Act.put, List.getElem_toArray, List.getElem_cons_zero, List.getElem_cons_succ, List.setIfInBounds_toArray, List.set_cons_zero, List.set_cons_succ]
      refine wpAnyH_take (i := 1) (v := ?_) rfl (by kernel_rfl) (by kernel_rfl) (by kernel_rfl) (fun _ _ _ h => h) (Or.inl ⟨by rfl, ?_⟩) (by assumption) ?_
      rotate_left
      · intro w' hSw
        try dsimp only at hSw
        first | (go_simp; done) | (go_simp; with_reducible rfl)
      try simp only [Act.put, List.getElem_toArray, List.getElem_cons_zero, List.getElem_cons_succ, List.setIfInBounds_toArray, List.set_cons_zero, List.set_cons_succ]
      refine wpAnyH_take (i := 2) (v := ?_) rfl (by kernel_rfl) (by kernel_rfl) (by kernel_rfl) (fun _ _ _ h => h) (Or.inl ⟨by rfl, ?_⟩) (by assumption) ?_
      rotate_left
      · intro w' hSw
        try dsimp only at hSw
        first | (go_simp; done) | (go_simp; with_reducible rfl)
      try simp only [Act.put, List.getElem_toArray, List.getElem_cons_zero, List.getElem_cons_succ, List.setIfInBounds_toArray, List.set_cons_zero, List.set_cons_succ]
      refine wpAnyH_take (i := 3) (v := ?_) rfl (by kernel_rfl) (by kernel_rfl) (by kernel_rfl) (fun _ _ _ h => h) (Or.inl ⟨by rfl, ?_⟩) (by assumption) ?_
      rotate_left
      · intro w' hSw
        try dsimp only at hSw
        first | (go_simp; done) | (go_simp; with_reducible rfl)
      try simp only [Act.put, List.getElem_toArray, List.getElem_cons_zero, List.getElem_cons_succ, List.setIfInBounds_toArray, List.set_cons_zero, List.set_cons_succ]
      refine wpAnyH_take (i := 4) (v := ?_) rfl (by kernel_rfl) (by kernel_rfl) (by kernel_rfl) (fun _ _ _ h => h) (Or.inl ⟨by rfl, ?_⟩) (by assumption) ?_
      rotate_left
      · intro w' hSw
        try dsimp only at hSw
        first | (go_simp; done) | (go_simp; with_reducible rfl)
      try simp only [Act.put, List.getElem_toArray, List.getElem_cons_zero, List.getElem_cons_succ, List.setIfInBounds_toArray, List.set_cons_zero, List.set_cons_succ]
      refine wpAnyH_take (i := 5) (v := ?_) rfl (by kernel_rfl) (by kernel_rfl) (by kernel_rfl) (fun _ _ _ h => h) (Or.inl ⟨by rfl, ?_⟩) (by assumption) ?_
      rotate_left
      · intro w' hSw
        try dsimp only at hSw
        first | (go_simp; done) | (go_simp; with_reducible rfl)
      try simp only [Act.put, List.getElem_toArray, List.getElem_cons_zero, List.getElem_cons_succ, List.setIfInBounds_toArray, List.set_cons_zero, List.set_cons_succ]
      refine wpAnyH_take (i := 6) (v := ?_) rfl (by kernel_rfl) (by kernel_rfl) (by kernel_rfl) (fun _ _ _ h => h) (Or.inl ⟨by rfl, ?_⟩) (by assumption) ?_
      rotate_left
      · intro w' hSw
        try dsimp only at hSw
        first | (go_simp; done) | (go_simp; with_reducible rfl)
      try simp only [Act.put, List.getElem_toArray, List.getElem_cons_zero, List.getElem_cons_succ, List.setIfInBounds_toArray, List.set_cons_zero, List.set_cons_succ]
      refine wpAnyH_take (i := 7) (v := ?_) rfl (by kernel_rfl) (by kernel_rfl) (by kernel_rfl) (fun _ _ _ h => h) (Or.inl ⟨by rfl, ?_⟩) (by assumption) ?_
      rotate_left
      · intro w' hSw
        try dsimp only at hSw
        first | (go_simp; done) | (go_simp; with_reducible rfl)
      try simp only [Act.put, List.getElem_toArray, List.getElem_cons_zero, List.getElem_cons_succ, List.setIfInBounds_toArray, List.set_cons_zero, List.set_cons_succ]
      refine wpAnyH_take (i := 8) (v := ?_) rfl (by kernel_rfl) (by kernel_rfl) (by kernel_rfl) (fun _ _ _ h => h) (Or.inl ⟨by rfl, ?_⟩) (by assumption) ?_
      rotate_left
      · intro w' hSw
        try dsimp only at hSw
        first | (go_simp; done) | (go_simp; with_reducible rfl)
      try simp only [Act.put, List.getElem_toArray, List.getElem_cons_zero, List.getElem_cons_succ, List.setIfInBounds_toArray, List.set_cons_zero, List.set_cons_succ]
      refine wpAnyH_take (i := 9) (v := ?_) rfl (by kernel_rfl) (by kernel_rfl) (by kernel_rfl) (fun _ _ _ h => h) (Or.inl ⟨by rfl, ?_⟩) (by assumption) ?_
      rotate_left
      · intro w' hSw
        try dsimp only at hSw
        first | (go_simp; done) | (go_simp; with_reducible rfl)
      try simp only [Act.put, List.getElem_toArray, List.getElem_cons_zero, List.getElem_cons_succ, List.setIfInBounds_toArray, List.set_cons_zero, List.set_cons_succ]
      refine wpAnyH_take (i := 10) (v := ?_) rfl (by kernel_rfl) (by kernel_rfl) (by kernel_rfl) (fun _ _ _ h => h) (Or.inl ⟨by rfl, ?_⟩) (by assumption) ?_
      rotate_left
      · intro w' hSw
        try dsimp only at hSw
        first | (go_simp; done) | (go_simp; with_reducible rfl)
      try simp only [Act.put, List.getElem_toArray, List.getElem_cons_zero, List.getElem_cons_succ, List.setIfInBounds_toArray, List.set_cons_zero, List.set_cons_succ]
      refine wpAnyH_take (i := 11) (v := ?_) rfl (by kernel_rfl) (by kernel_rfl) (by kernel_rfl) (fun _ _ _ h => h) (Or.inl ⟨by rfl, ?_⟩) (by assumption) ?_
      rotate_left
      · intro w' hSw
        try dsimp only at hSw
        first | (go_simp; done) | (go_simp; with_reducible rfl)
      try simp only [Act.put, List.getElem_toArray, List.getElem_cons_zero, List.getElem_cons_succ, List.setIfInBounds_toArray, List.set_cons_zero, List.set_cons_succ]
      refine wpAnyH_take (i := 12) (v := ?_) rfl (by kernel_rfl) (by kernel_rfl) (by kernel_rfl) (fun _ _ _ h => h) (Or.inl ⟨by rfl, ?_⟩) (by assumption) ?_
      rotate_left
      · intro w' hSw
        try dsimp only at hSw
        first | (go_simp; done) | (go_simp; with_reducible rfl)
      try simp only [Act.put, List.getElem_toArray, List.getElem_cons_zero, List.getElem_cons_succ, List.setIfInBounds_toArray, List.set_cons_zero, List.set_cons_succ]
      refine wpAnyH_take (i := 13) (v := ?_) rfl (by kernel_rfl) (by kernel_rfl) (by kernel_rfl) (fun _ _ _ h => h) (Or.inl ⟨by rfl, ?_⟩) (by assumption) ?_
      rotate_left
      · intro w' hSw
        try dsimp only at hSw
        first | (go_simp; done) | (go_simp; with_reducible rfl)
      try simp only [Act.put, List.getElem_toArray, List.getElem_cons_zero, List.getElem_cons_succ, List.setIfInBounds_toArray, List.set_cons_zero, List.set_cons_succ]
      refine wpAnyH_take (i := 14) (v := ?_) rfl (by kernel_rfl) (by kernel_rfl) (by kernel_rfl) (fun _ _ _ h => h) (Or.inl ⟨by rfl, ?_⟩) (by assumption) ?_
      rotate_left
      · intro w' hSw
        try dsimp only at hSw
        first | (go_simp; done) | (go_simp; with_reducible rfl)
      try simp only [Act.put, List.getElem_toArray, List.getElem_cons_zero, List.getElem_cons_succ, List.setIfInBounds_toArray, List.set_cons_zero, List.set_cons_succ]
      refine wpAnyH_take (i := 15) (v := ?_) rfl (by kernel_rfl) (by kernel_rfl) (by kernel_rfl) (fun _ _ _ h => h) (Or.inl ⟨by rfl, ?_⟩) (by assumption) ?_
      rotate_left
      · intro w' hSw
        try dsimp only at hSw
        first | (go_simp; done) | (go_simp; with_reducible rfl)
      try simp only [Act.put, List.getElem_toArray, List.getElem_cons_zero, List.getElem_cons_succ, List.setIfInBounds_toArray, List.set_cons_zero, List.set_cons_succ]
      refine wpAnyH_take (i := 16) (v := ?_) rfl (by kernel_rfl) (by kernel_rfl) (by kernel_rfl) (fun _ _ _ h => h) (Or.inl ⟨by rfl, ?_⟩) (by assumption) ?_
      rotate_left
      · intro w' hSw
        try dsimp only at hSw
        first | (go_simp; done) | (go_simp; with_reducible rfl)
      try simp only [Act.put, List.getElem_toArray, List.getElem_cons_zero, List.getElem_cons_succ, List.setIfInBounds_toArray, List.set_cons_zero, List.set_cons_succ]
      refine wpAnyH_take (i := 17) (v := ?_) rfl (by kernel_rfl) (by kernel_rfl) (by kernel_rfl) (fun _ _ _ h => h) (Or.inl ⟨by rfl, ?_⟩) (by assumption) ?_
      rotate_left
      · intro w' hSw
        try dsimp only at hSw
        first | (go_simp; done) | (go_simp; with_reducible rfl)
      try simp only [Act.put, List.getElem_toArray, List.getElem_cons_zero, List.getElem_cons_succ, List.setIfInBounds_toArray, List.set_cons_zero, List.set_cons_succ]
      refine wpAnyH_take (i := 18) (v := ?_) rfl (by kernel_rfl) (by kernel_rfl) (by kernel_rfl) (fun _ _ _ h => h) (Or.inl ⟨by rfl, ?_⟩) (by assumption) ?_
      rotate_left
      · intro w' hSw
        try dsimp only at hSw
        first | (go_simp; done) | (go_simp; with_reducible rfl)
      try simp only [Act.put, List.getElem_toArray, List.getElem_cons_zero, List.getElem_cons_succ, List.setIfInBounds_toArray, List.set_cons_zero, List.set_cons_succ]
      refine wpAnyH_take (i := 19) (v := ?_) rfl (by kernel_rfl) (by kernel_rfl) (by kernel_rfl) (fun _ _ _ h => h) (Or.inl ⟨by rfl, ?_⟩) (by assumption) ?_
      rotate_left
      · intro w' hSw
        try dsimp only at hSw
        first | (go_simp; done) | (go_simp; with_reducible rfl)
      try simp only [Act.put, List.getElem_toArray, List.getElem_cons_zero, List.getElem_cons_succ, List.setIfInBounds_toArray, List.set_cons_zero, List.set_cons_succ]
      refine wpAnyH_take (i := 20) (v := ?_) rfl (by kernel_rfl) (by kernel_rfl) (by kernel_rfl) (fun _ _ _ h => h) (Or.inl ⟨by rfl, ?_⟩) (by assumption) ?_
      rotate_left
      · intro w' hSw
        try dsimp only at hSw
        first | (go_simp; done) | (go_simp; with_reducible rfl)
      try simp only [Act.put, List.getElem_toArray, List.getElem_cons_zero, List.getElem_cons_succ, List.setIfInBounds_toArray, List.set_cons_zero, List.set_cons_succ]
      refine wpAnyH_ready (rs := [21]) (by kernel_rfl) (by simp) ?_
      refine AllReadyH.cons rfl (fun K' hK => ?_) ?_
      · go_simp
        refine hK.out _ _ ?_ (fun hH => ?_)
        · first | trivial | simp (maxDischargeDepth := 4) [*, go_sem]
        clear hK K'
        try simp only [Act.put, List.getElem_toArray, List.getElem_cons_zero, List.getElem_cons_succ, List.setIfInBounds_toArray, List.set_cons_zero, List.set_cons_succ]
        refine wpAnyH_ready (rs := [22]) (by kernel_rfl) (by simp) ?_
        refine AllReadyH.cons rfl (fun K' hK => ?_) ?_
        · go_simp
          (with_reducible refine (bTrue4 (w15.heap.size + 1) _ _ _ _ y1.out y2.out y3.out y4.out _ ?_ ?_ ?_ ?_ ?_).mono ?_)
          · first | omega | (simp [go_sem]; omega) | (simp (maxDischargeDepth := 4) [go_sem]; done) | (simp (maxDischargeDepth := 6) [*, go_sem]; done)
          · first | omega | (simp [go_sem]; omega) | (simp (maxDischargeDepth := 4) [go_sem]; done) | (simp (maxDischargeDepth := 6) [*, go_sem]; done)
          · first | omega | (simp [go_sem]; omega) | (simp (maxDischargeDepth := 4) [go_sem]; done) | (simp (maxDischargeDepth := 6) [*, go_sem]; done)
          · first | omega | (simp [go_sem]; omega) | (simp (maxDischargeDepth := 4) [go_sem]; done) | (simp (maxDischargeDepth := 6) [*, go_sem]; done)
          · first | omega | (simp [go_sem]; omega) | (simp (maxDischargeDepth := 4) [go_sem]; done) | (simp (maxDischargeDepth := 6) [*, go_sem]; done)
          rintro e w16 ⟨rfl, hb⟩
          have H16 : Below wr.heap.size wr w16 := by
            refine Below.trans ?_ (hb.mono ?_)
            · repeat (first | with_reducible assumption | with_reducible exact Below.refl _ _ | with_reducible refine Below.setCell ?_ (by first | omega | (simp [go_sem]; omega) | simp [go_sem]) _ | with_reducible refine Below.alloc ?_ (by first | omega | (simp [go_sem]; omega) | simp [go_sem]) _ | with_reducible refine below_grow ?_ (by first | omega | (simp [go_sem]; omega) | simp [go_sem]) _ _ | with_reducible refine Below.drew ?_)
            · first | omega | (simp [go_sem]; omega) | simp [go_sem]
          have S16 : wr.heap.size ≤ w16.heap.size := H16.size
          have s16_0 : w.heap.size < w16.heap.size := Nat.lt_of_lt_of_le (by first | with_reducible assumption | omega | (simp [go_sem]; omega) | simp [go_sem]) hb.size
          have k16_0 := fun o => hb.cell (p := ⟨w.heap.size, o, none⟩) (by first | with_reducible assumption | omega | (simp [go_sem]; omega) | simp [go_sem])
          have f16_0 := fun o => hb.frozen (p := ⟨w.heap.size, o, none⟩) (by first | with_reducible assumption | omega | (simp [go_sem]; omega) | simp [go_sem])
          have s16_1 : w.heap.size + 1 < w16.heap.size := Nat.lt_of_lt_of_le (by first | with_reducible assumption | omega | (simp [go_sem]; omega) | simp [go_sem]) hb.size
          have k16_1 := fun o => hb.cell (p := ⟨w.heap.size + 1, o, none⟩) (by first | with_reducible assumption | omega | (simp [go_sem]; omega) | simp [go_sem])
          have f16_1 := fun o => hb.frozen (p := ⟨w.heap.size + 1, o, none⟩) (by first | with_reducible assumption | omega | (simp [go_sem]; omega) | simp [go_sem])
          have s16_2 : g1 < w16.heap.size := Nat.lt_of_lt_of_le (by first | with_reducible assumption | omega | (simp [go_sem]; omega) | simp [go_sem]) hb.size
          have k16_2 := fun o => hb.cell (p := ⟨g1, o, none⟩) (by first | with_reducible assumption | omega | (simp [go_sem]; omega) | simp [go_sem])
          have f16_2 := fun o => hb.frozen (p := ⟨g1, o, none⟩) (by first | with_reducible assumption | omega | (simp [go_sem]; omega) | simp [go_sem])
          have s16_3 : g2 < w16.heap.size := Nat.lt_of_lt_of_le (by first | with_reducible assumption | omega | (simp [go_sem]; omega) | simp [go_sem]) hb.size
          have k16_3 := fun o => hb.cell (p := ⟨g2, o, none⟩) (by first | with_reducible assumption | omega | (simp [go_sem]; omega) | simp [go_sem])
          have f16_3 := fun o => hb.frozen (p := ⟨g2, o, none⟩) (by first | with_reducible assumption | omega | (simp [go_sem]; omega) | simp [go_sem])
          have s16_4 : w15.heap.size < w16.heap.size := Nat.lt_of_lt_of_le (by first | with_reducible assumption | omega | (simp [go_sem]; omega) | simp [go_sem]) hb.size
          have k16_4 := fun o => hb.cell (p := ⟨w15.heap.size, o, none⟩) (by first | with_reducible assumption | omega | (simp [go_sem]; omega) | simp [go_sem])
          have f16_4 := fun o => hb.frozen (p := ⟨w15.heap.size, o, none⟩) (by first | with_reducible assumption | omega | (simp [go_sem]; omega) | simp [go_sem])
          clear hb
          refine hK.out _ _ ?_ (fun hH => ?_)
          · first | trivial | simp (maxDischargeDepth := 4) [*, go_sem]
          clear hK K'
          try simp only [Act.put, List.getElem_toArray, List.getElem_cons_zero, List.getElem_cons_succ, List.setIfInBounds_toArray, List.set_cons_zero, List.set_cons_succ]
          refine wpAnyH_take (i := 23) (v := ?_) rfl (by kernel_rfl) (by kernel_rfl) (by kernel_rfl) (fun _ _ _ h => h) (Or.inl ⟨by rfl, ?_⟩) (by assumption) ?_
          rotate_left
          · intro w' hSw
            try dsimp only at hSw
            first | (go_simp; done) | (go_simp; with_reducible rfl)
          try simp only [Act.put, List.getElem_toArray, List.getElem_cons_zero, List.getElem_cons_succ, List.setIfInBounds_toArray, List.set_cons_zero, List.set_cons_succ]
          refine wpAnyH_take (i := 24) (v := ?_) rfl (by kernel_rfl) (by kernel_rfl) (by kernel_rfl) (fun _ _ _ h => h) (Or.inl ⟨by rfl, ?_⟩) (by assumption) ?_
          rotate_left
          · intro w' hSw
            try dsimp only at hSw
            first | (go_simp; done) | (go_simp; with_reducible rfl)
          try simp only [Act.put, List.getElem_toArray, List.getElem_cons_zero, List.getElem_cons_succ, List.setIfInBounds_toArray, List.set_cons_zero, List.set_cons_succ]
          refine wpAnyH_take (i := 25) (v := ?_) rfl (by kernel_rfl) (by kernel_rfl) (by kernel_rfl) (fun _ _ _ h => h) (Or.inl ⟨by rfl, ?_⟩) (by assumption) ?_
          rotate_left
          · intro w' hSw
            try dsimp only at hSw
            first | (go_simp; done) | (go_simp; with_reducible rfl)
          try simp only [Act.put, List.getElem_toArray, List.getElem_cons_zero, List.getElem_cons_succ, List.setIfInBounds_toArray, List.set_cons_zero, List.set_cons_succ]
          refine wpAnyH_take (i := 26) (v := ?_) rfl (by kernel_rfl) (by kernel_rfl) (by kernel_rfl) (fun _ _ _ h => h) (Or.inl ⟨by rfl, ?_⟩) (by assumption) ?_
          rotate_left
          · intro w' hSw
            try dsimp only at hSw
            first | (go_simp; done) | (go_simp; with_reducible rfl)
          try simp only [Act.put, List.getElem_toArray, List.getElem_cons_zero, List.getElem_cons_succ, List.setIfInBounds_toArray, List.set_cons_zero, List.set_cons_succ]
          refine wpAnyH_take (i := 27) (v := ?_) rfl (by kernel_rfl) (by kernel_rfl) (by kernel_rfl) (fun _ _ _ h => h) (Or.inl ⟨by rfl, ?_⟩) (by assumption) ?_
          rotate_left
          · intro w' hSw
            try dsimp only at hSw
            first | (go_simp; done) | (go_simp; with_reducible rfl)
          try simp only [Act.put, List.getElem_toArray, List.getElem_cons_zero, List.getElem_cons_succ, List.setIfInBounds_toArray, List.set_cons_zero, List.set_cons_succ]
          refine wpAnyH_take (i := 28) (v := ?_) rfl (by kernel_rfl) (by kernel_rfl) (by kernel_rfl) (fun _ _ _ h => h) (Or.inl ⟨by rfl, ?_⟩) (by assumption) ?_
          rotate_left
          · intro w' hSw
            try dsimp only at hSw
            first | (go_simp; done) | (go_simp; with_reducible rfl)
          try simp only [Act.put, List.getElem_toArray, List.getElem_cons_zero, List.getElem_cons_succ, List.setIfInBounds_toArray, List.set_cons_zero, List.set_cons_succ]
          refine wpAnyH_take (i := 29) (v := ?_) rfl (by kernel_rfl) (by kernel_rfl) (by kernel_rfl) (fun _ _ _ h => h) (Or.inl ⟨by rfl, ?_⟩) (by assumption) ?_
          rotate_left
          · intro w' hSw
            try dsimp only at hSw
            first | (go_simp; done) | (go_simp; with_reducible rfl)
          try simp only [Act.put, List.getElem_toArray, List.getElem_cons_zero, List.getElem_cons_succ, List.setIfInBounds_toArray, List.set_cons_zero, List.set_cons_succ]
          refine wpAnyH_done (by kernel_rfl) (tailPost_normal ?_) _
          simp only [List.drop_succ_cons, List.drop_zero, List.drop_nil]
          clear m1c m2c hne
          go_wp2_with fail
          (with_reducible refine (a3.out _).mono ?_)
          rintro e w17 ⟨rfl, hb⟩
          have H17 : Below wr.heap.size wr w17 := by
            refine Below.trans ?_ (hb.mono ?_)
            · repeat (first | with_reducible assumption | with_reducible exact Below.refl _ _ | with_reducible refine Below.setCell ?_ (by first | omega | (simp [go_sem]; omega) | simp [go_sem]) _ | with_reducible refine Below.alloc ?_ (by first | omega | (simp [go_sem]; omega) | simp [go_sem]) _ | with_reducible refine below_grow ?_ (by first | omega | (simp [go_sem]; omega) | simp [go_sem]) _ _ | with_reducible refine Below.drew ?_)
            · first | omega | (simp [go_sem]; omega) | simp [go_sem]
          have S17 : wr.heap.size ≤ w17.heap.size := H17.size
          have s17_0 : w.heap.size < w17.heap.size := Nat.lt_of_lt_of_le (by first | with_reducible assumption | omega | (simp [go_sem]; omega) | simp [go_sem]) hb.size
          have k17_0 := fun o => hb.cell (p := ⟨w.heap.size, o, none⟩) (by first | with_reducible assumption | omega | (simp [go_sem]; omega) | simp [go_sem])
          have f17_0 := fun o => hb.frozen (p := ⟨w.heap.size, o, none⟩) (by first | with_reducible assumption | omega | (simp [go_sem]; omega) | simp [go_sem])
          have s17_1 : w.heap.size + 1 < w17.heap.size := Nat.lt_of_lt_of_le (by first | with_reducible assumption | omega | (simp [go_sem]; omega) | simp [go_sem]) hb.size
          have k17_1 := fun o => hb.cell (p := ⟨w.heap.size + 1, o, none⟩) (by first | with_reducible assumption | omega | (simp [go_sem]; omega) | simp [go_sem])
          have f17_1 := fun o => hb.frozen (p := ⟨w.heap.size + 1, o, none⟩) (by first | with_reducible assumption | omega | (simp [go_sem]; omega) | simp [go_sem])
          have s17_2 : g1 < w17.heap.size := Nat.lt_of_lt_of_le (by first | with_reducible assumption | omega | (simp [go_sem]; omega) | simp [go_sem]) hb.size
          have k17_2 := fun o => hb.cell (p := ⟨g1, o, none⟩) (by first | with_reducible assumption | omega | (simp [go_sem]; omega) | simp [go_sem])
          have f17_2 := fun o => hb.frozen (p := ⟨g1, o, none⟩) (by first | with_reducible assumption | omega | (simp [go_sem]; omega) | simp [go_sem])
          have s17_3 : g2 < w17.heap.size := Nat.lt_of_lt_of_le (by first | with_reducible assumption | omega | (simp [go_sem]; omega) | simp [go_sem]) hb.size
          have k17_3 := fun o => hb.cell (p := ⟨g2, o, none⟩) (by first | with_reducible assumption | omega | (simp [go_sem]; omega) | simp [go_sem])
          have f17_3 := fun o => hb.frozen (p := ⟨g2, o, none⟩) (by first | with_reducible assumption | omega | (simp [go_sem]; omega) | simp [go_sem])
          have s17_4 : w15.heap.size < w17.heap.size := Nat.lt_of_lt_of_le (by first | with_reducible assumption | omega | (simp [go_sem]; omega) | simp [go_sem]) hb.size
          have k17_4 := fun o => hb.cell (p := ⟨w15.heap.size, o, none⟩) (by first | with_reducible assumption | omega | (simp [go_sem]; omega) | simp [go_sem])
          have f17_4 := fun o => hb.frozen (p := ⟨w15.heap.size, o, none⟩) (by first | with_reducible assumption | omega | (simp [go_sem]; omega) | simp [go_sem])
          clear hb
          go_wp2_with fail
          (with_reducible refine (a4.out _ hGr.out _ H17).mono ?_)
          rintro e w18 ⟨rfl, hb⟩
          have H18 : Below wr.heap.size wr w18 := by
            refine Below.trans ?_ (hb.mono ?_)
            · repeat (first | with_reducible assumption | with_reducible exact Below.refl _ _ | with_reducible refine Below.setCell ?_ (by first | omega | (simp [go_sem]; omega) | simp [go_sem]) _ | with_reducible refine Below.alloc ?_ (by first | omega | (simp [go_sem]; omega) | simp [go_sem]) _ | with_reducible refine below_grow ?_ (by first | omega | (simp [go_sem]; omega) | simp [go_sem]) _ _ | with_reducible refine Below.drew ?_)
            · first | omega | (simp [go_sem]; omega) | simp [go_sem]
          have S18 : wr.heap.size ≤ w18.heap.size := H18.size
          have s18_0 : w.heap.size < w18.heap.size := Nat.lt_of_lt_of_le (by first | with_reducible assumption | omega | (simp [go_sem]; omega) | simp [go_sem]) hb.size
          have k18_0 := fun o => hb.cell (p := ⟨w.heap.size, o, none⟩) (by first | with_reducible assumption | omega | (simp [go_sem]; omega) | simp [go_sem])
          have f18_0 := fun o => hb.frozen (p := ⟨w.heap.size, o, none⟩) (by first | with_reducible assumption | omega | (simp [go_sem]; omega) | simp [go_sem])
          have s18_1 : w.heap.size + 1 < w18.heap.size := Nat.lt_of_lt_of_le (by first | with_reducible assumption | omega | (simp [go_sem]; omega) | simp [go_sem]) hb.size
          have k18_1 := fun o => hb.cell (p := ⟨w.heap.size + 1, o, none⟩) (by first | with_reducible assumption | omega | (simp [go_sem]; omega) | simp [go_sem])
          have f18_1 := fun o => hb.frozen (p := ⟨w.heap.size + 1, o, none⟩) (by first | with_reducible assumption | omega | (simp [go_sem]; omega) | simp [go_sem])
          have s18_2 : g1 < w18.heap.size := Nat.lt_of_lt_of_le (by first | with_reducible assumption | omega | (simp [go_sem]; omega) | simp [go_sem]) hb.size
          have k18_2 := fun o => hb.cell (p := ⟨g1, o, none⟩) (by first | with_reducible assumption | omega | (simp [go_sem]; omega) | simp [go_sem])
          have f18_2 := fun o => hb.frozen (p := ⟨g1, o, none⟩) (by first | with_reducible assumption | omega | (simp [go_sem]; omega) | simp [go_sem])
          have s18_3 : g2 < w18.heap.size := Nat.lt_of_lt_of_le (by first | with_reducible assumption | omega | (simp [go_sem]; omega) | simp [go_sem]) hb.size
          have k18_3 := fun o => hb.cell (p := ⟨g2, o, none⟩) (by first | with_reducible assumption | omega | (simp [go_sem]; omega) | simp [go_sem])
          have f18_3 := fun o => hb.frozen (p := ⟨g2, o, none⟩) (by first | with_reducible assumption | omega | (simp [go_sem]; omega) | simp [go_sem])
          have s18_4 : w15.heap.size < w18.heap.size := Nat.lt_of_lt_of_le (by first | with_reducible assumption | omega | (simp [go_sem]; omega) | simp [go_sem]) hb.size
          have k18_4 := fun o => hb.cell (p := ⟨w15.heap.size, o, none⟩) (by first | with_reducible assumption | omega | (simp [go_sem]; omega) | simp [go_sem])
          have f18_4 := fun o => hb.frozen (p := ⟨w15.heap.size, o, none⟩) (by first | with_reducible assumption | omega | (simp [go_sem]; omega) | simp [go_sem])
          clear hb
          go_wp2_with fail
          (with_reducible refine (a5.out _).mono ?_)
          rintro e w19 ⟨rfl, hb⟩
          have H19 : Below wr.heap.size wr w19 := by
            refine Below.trans ?_ (hb.mono ?_)
            · repeat (first | with_reducible assumption | with_reducible exact Below.refl _ _ | with_reducible refine Below.setCell ?_ (by first | omega | (simp [go_sem]; omega) | simp [go_sem]) _ | with_reducible refine Below.alloc ?_ (by first | omega | (simp [go_sem]; omega) | simp [go_sem]) _ | with_reducible refine below_grow ?_ (by first | omega | (simp [go_sem]; omega) | simp [go_sem]) _ _ | with_reducible refine Below.drew ?_)
            · first | omega | (simp [go_sem]; omega) | simp [go_sem]
          have S19 : wr.heap.size ≤ w19.heap.size := H19.size
          have s19_0 : w.heap.size < w19.heap.size := Nat.lt_of_lt_of_le (by first | with_reducible assumption | omega | (simp [go_sem]; omega) | simp [go_sem]) hb.size
          have k19_0 := fun o => hb.cell (p := ⟨w.heap.size, o, none⟩) (by first | with_reducible assumption | omega | (simp [go_sem]; omega) | simp [go_sem])
          have f19_0 := fun o => hb.frozen (p := ⟨w.heap.size, o, none⟩) (by first | with_reducible assumption | omega | (simp [go_sem]; omega) | simp [go_sem])
          have s19_1 : w.heap.size + 1 < w19.heap.size := Nat.lt_of_lt_of_le (by first | with_reducible assumption | omega | (simp [go_sem]; omega) | simp [go_sem]) hb.size
          have k19_1 := fun o => hb.cell (p := ⟨w.heap.size + 1, o, none⟩) (by first | with_reducible assumption | omega | (simp [go_sem]; omega) | simp [go_sem])
          have f19_1 := fun o => hb.frozen (p := ⟨w.heap.size + 1, o, none⟩) (by first | with_reducible assumption | omega | (simp [go_sem]; omega) | simp [go_sem])
          have s19_2 : g1 < w19.heap.size := Nat.lt_of_lt_of_le (by first | with_reducible assumption | omega | (simp [go_sem]; omega) | simp [go_sem]) hb.size
          have k19_2 := fun o => hb.cell (p := ⟨g1, o, none⟩) (by first | with_reducible assumption | omega | (simp [go_sem]; omega) | simp [go_sem])
          have f19_2 := fun o => hb.frozen (p := ⟨g1, o, none⟩) (by first | with_reducible assumption | omega | (simp [go_sem]; omega) | simp [go_sem])
          have s19_3 : g2 < w19.heap.size := Nat.lt_of_lt_of_le (by first | with_reducible assumption | omega | (simp [go_sem]; omega) | simp [go_sem]) hb.size
          have k19_3 := fun o => hb.cell (p := ⟨g2, o, none⟩) (by first | with_reducible assumption | omega | (simp [go_sem]; omega) | simp [go_sem])
          have f19_3 := fun o => hb.frozen (p := ⟨g2, o, none⟩) (by first | with_reducible assumption | omega | (simp [go_sem]; omega) | simp [go_sem])
          have s19_4 : w15.heap.size < w19.heap.size := Nat.lt_of_lt_of_le (by first | with_reducible assumption | omega | (simp [go_sem]; omega) | simp [go_sem]) hb.size
          have k19_4 := fun o => hb.cell (p := ⟨w15.heap.size, o, none⟩) (by first | with_reducible assumption | omega | (simp [go_sem]; omega) | simp [go_sem])
          have f19_4 := fun o => hb.frozen (p := ⟨w15.heap.size, o, none⟩) (by first | with_reducible assumption | omega | (simp [go_sem]; omega) | simp [go_sem])
          clear hb
          go_wp2_with fail
          (with_reducible refine (a6.out _ hGr.out _ H19).mono ?_)
          rintro e w20 ⟨rfl, hb⟩
          have H20 : Below wr.heap.size wr w20 := by
            refine Below.trans ?_ (hb.mono ?_)
            · repeat (first | with_reducible assumption | with_reducible exact Below.refl _ _ | with_reducible refine Below.setCell ?_ (by first | omega | (simp [go_sem]; omega) | simp [go_sem]) _ | with_reducible refine Below.alloc ?_ (by first | omega | (simp [go_sem]; omega) | simp [go_sem]) _ | with_reducible refine below_grow ?_ (by first | omega | (simp [go_sem]; omega) | simp [go_sem]) _ _ | with_reducible refine Below.drew ?_)
            · first | omega | (simp [go_sem]; omega) | simp [go_sem]
          have S20 : wr.heap.size ≤ w20.heap.size := H20.size
          have s20_0 : w.heap.size < w20.heap.size := Nat.lt_of_lt_of_le (by first | with_reducible assumption | omega | (simp [go_sem]; omega) | simp [go_sem]) hb.size
          have k20_0 := fun o => hb.cell (p := ⟨w.heap.size, o, none⟩) (by first | with_reducible assumption | omega | (simp [go_sem]; omega) | simp [go_sem])
          have f20_0 := fun o => hb.frozen (p := ⟨w.heap.size, o, none⟩) (by first | with_reducible assumption | omega | (simp [go_sem]; omega) | simp [go_sem])
          have s20_1 : w.heap.size + 1 < w20.heap.size := Nat.lt_of_lt_of_le (by first | with_reducible assumption | omega | (simp [go_sem]; omega) | simp [go_sem]) hb.size
          have k20_1 := fun o => hb.cell (p := ⟨w.heap.size + 1, o, none⟩) (by first | with_reducible assumption | omega | (simp [go_sem]; omega) | simp [go_sem])
          have f20_1 := fun o => hb.frozen (p := ⟨w.heap.size + 1, o, none⟩) (by first | with_reducible assumption | omega | (simp [go_sem]; omega) | simp [go_sem])
          have s20_2 : g1 < w20.heap.size := Nat.lt_of_lt_of_le (by first | with_reducible assumption | omega | (simp [go_sem]; omega) | simp [go_sem]) hb.size
          have k20_2 := fun o => hb.cell (p := ⟨g1, o, none⟩) (by first | with_reducible assumption | omega | (simp [go_sem]; omega) | simp [go_sem])
          have f20_2 := fun o => hb.frozen (p := ⟨g1, o, none⟩) (by first | with_reducible assumption | omega | (simp [go_sem]; omega) | simp [go_sem])
          have s20_3 : g2 < w20.heap.size := Nat.lt_of_lt_of_le (by first | with_reducible assumption | omega | (simp [go_sem]; omega) | simp [go_sem]) hb.size
          have k20_3 := fun o => hb.cell (p := ⟨g2, o, none⟩) (by first | with_reducible assumption | omega | (simp [go_sem]; omega) | simp [go_sem])
          have f20_3 := fun o => hb.frozen (p := ⟨g2, o, none⟩) (by first | with_reducible assumption | omega | (simp [go_sem]; omega) | simp [go_sem])
          have s20_4 : w15.heap.size < w20.heap.size := Nat.lt_of_lt_of_le (by first | with_reducible assumption | omega | (simp [go_sem]; omega) | simp [go_sem]) hb.size
          have k20_4 := fun o => hb.cell (p := ⟨w15.heap.size, o, none⟩) (by first | with_reducible assumption | omega | (simp [go_sem]; omega) | simp [go_sem])
          have f20_4 := fun o => hb.frozen (p := ⟨w15.heap.size, o, none⟩) (by first | with_reducible assumption | omega | (simp [go_sem]; omega) | simp [go_sem])
          clear hb
          go_wp2_with fail
          (with_reducible refine (bTrue1 (w20.heap.size) t2 y5.out _ ?_ ?_).mono ?_)
          · first | omega | (simp [go_sem]; omega) | (simp (maxDischargeDepth := 4) [go_sem]; done) | (simp (maxDischargeDepth := 6) [*, go_sem]; done)
          · first | omega | (simp [go_sem]; omega) | (simp (maxDischargeDepth := 4) [go_sem]; done) | (simp (maxDischargeDepth := 6) [*, go_sem]; done)
          rintro e w21 ⟨rfl, hb⟩
          have H21 : Below wr.heap.size wr w21 := by
            refine Below.trans ?_ (hb.mono ?_)
            · repeat (first | with_reducible assumption | with_reducible exact Below.refl _ _ | with_reducible refine Below.setCell ?_ (by first | omega | (simp [go_sem]; omega) | simp [go_sem]) _ | with_reducible refine Below.alloc ?_ (by first | omega | (simp [go_sem]; omega) | simp [go_sem]) _ | with_reducible refine below_grow ?_ (by first | omega | (simp [go_sem]; omega) | simp [go_sem]) _ _ | with_reducible refine Below.drew ?_)
            · first | omega | (simp [go_sem]; omega) | simp [go_sem]
          have S21 : wr.heap.size ≤ w21.heap.size := H21.size
          have s21_0 : w.heap.size < w21.heap.size := Nat.lt_of_lt_of_le (by first | with_reducible assumption | omega | (simp [go_sem]; omega) | simp [go_sem]) hb.size
          have k21_0 := fun o => hb.cell (p := ⟨w.heap.size, o, none⟩) (by first | with_reducible assumption | omega | (simp [go_sem]; omega) | simp [go_sem])
          have f21_0 := fun o => hb.frozen (p := ⟨w.heap.size, o, none⟩) (by first | with_reducible assumption | omega | (simp [go_sem]; omega) | simp [go_sem])
          have s21_1 : w.heap.size + 1 < w21.heap.size := Nat.lt_of_lt_of_le (by first | with_reducible assumption | omega | (simp [go_sem]; omega) | simp [go_sem]) hb.size
          have k21_1 := fun o => hb.cell (p := ⟨w.heap.size + 1, o, none⟩) (by first | with_reducible assumption | omega | (simp [go_sem]; omega) | simp [go_sem])
          have f21_1 := fun o => hb.frozen (p := ⟨w.heap.size + 1, o, none⟩) (by first | with_reducible assumption | omega | (simp [go_sem]; omega) | simp [go_sem])
          have s21_2 : g1 < w21.heap.size := Nat.lt_of_lt_of_le (by first | with_reducible assumption | omega | (simp [go_sem]; omega) | simp [go_sem]) hb.size
          have k21_2 := fun o => hb.cell (p := ⟨g1, o, none⟩) (by first | with_reducible assumption | omega | (simp [go_sem]; omega) | simp [go_sem])
          have f21_2 := fun o => hb.frozen (p := ⟨g1, o, none⟩) (by first | with_reducible assumption | omega | (simp [go_sem]; omega) | simp [go_sem])
          have s21_3 : g2 < w21.heap.size := Nat.lt_of_lt_of_le (by first | with_reducible assumption | omega | (simp [go_sem]; omega) | simp [go_sem]) hb.size
          have k21_3 := fun o => hb.cell (p := ⟨g2, o, none⟩) (by first | with_reducible assumption | omega | (simp [go_sem]; omega) | simp [go_sem])
          have f21_3 := fun o => hb.frozen (p := ⟨g2, o, none⟩) (by first | with_reducible assumption | omega | (simp [go_sem]; omega) | simp [go_sem])
          have s21_4 : w15.heap.size < w21.heap.size := Nat.lt_of_lt_of_le (by first | with_reducible assumption | omega | (simp [go_sem]; omega) | simp [go_sem]) hb.size
          have k21_4 := fun o => hb.cell (p := ⟨w15.heap.size, o, none⟩) (by first | with_reducible assumption | omega | (simp [go_sem]; omega) | simp [go_sem])
          have f21_4 := fun o => hb.frozen (p := ⟨w15.heap.size, o, none⟩) (by first | with_reducible assumption | omega | (simp [go_sem]; omega) | simp [go_sem])
          clear hb
          go_wp2_with fail
          (with_reducible refine (a7.out _).mono ?_)
          rintro e w22 ⟨rfl, hb⟩
          have H22 : Below wr.heap.size wr w22 := by
            refine Below.trans ?_ (hb.mono ?_)
            · repeat (first | with_reducible assumption | with_reducible exact Below.refl _ _ | with_reducible refine Below.setCell ?_ (by first | omega | (simp [go_sem]; omega) | simp [go_sem]) _ | with_reducible refine Below.alloc ?_ (by first | omega | (simp [go_sem]; omega) | simp [go_sem]) _ | with_reducible refine below_grow ?_ (by first | omega | (simp [go_sem]; omega) | simp [go_sem]) _ _ | with_reducible refine Below.drew ?_)
            · first | omega | (simp [go_sem]; omega) | simp [go_sem]
          have S22 : wr.heap.size ≤ w22.heap.size := H22.size
          have s22_0 : w.heap.size < w22.heap.size := Nat.lt_of_lt_of_le (by first | with_reducible assumption | omega | (simp [go_sem]; omega) | simp [go_sem]) hb.size
          have k22_0 := fun o => hb.cell (p := ⟨w.heap.size, o, none⟩) (by first | with_reducible assumption | omega | (simp [go_sem]; omega) | simp [go_sem])
          have f22_0 := fun o => hb.frozen (p := ⟨w.heap.size, o, none⟩) (by first | with_reducible assumption | omega | (simp [go_sem]; omega) | simp [go_sem])
          have s22_1 : w.heap.size + 1 < w22.heap.size := Nat.lt_of_lt_of_le (by first | with_reducible assumption | omega | (simp [go_sem]; omega) | simp [go_sem]) hb.size
          have k22_1 := fun o => hb.cell (p := ⟨w.heap.size + 1, o, none⟩) (by first | with_reducible assumption | omega | (simp [go_sem]; omega) | simp [go_sem])
          have f22_1 := fun o => hb.frozen (p := ⟨w.heap.size + 1, o, none⟩) (by first | with_reducible assumption | omega | (simp [go_sem]; omega) | simp [go_sem])
          have s22_2 : g1 < w22.heap.size := Nat.lt_of_lt_of_le (by first | with_reducible assumption | omega | (simp [go_sem]; omega) | simp [go_sem]) hb.size
          have k22_2 := fun o => hb.cell (p := ⟨g1, o, none⟩) (by first | with_reducible assumption | omega | (simp [go_sem]; omega) | simp [go_sem])
          have f22_2 := fun o => hb.frozen (p := ⟨g1, o, none⟩) (by first | with_reducible assumption | omega | (simp [go_sem]; omega) | simp [go_sem])
          have s22_3 : g2 < w22.heap.size := Nat.lt_of_lt_of_le (by first | with_reducible assumption | omega | (simp [go_sem]; omega) | simp [go_sem]) hb.size
          have k22_3 := fun o => hb.cell (p := ⟨g2, o, none⟩) (by first | with_reducible assumption | omega | (simp [go_sem]; omega) | simp [go_sem])
          have f22_3 := fun o => hb.frozen (p := ⟨g2, o, none⟩) (by first | with_reducible assumption | omega | (simp [go_sem]; omega) | simp [go_sem])
          have s22_4 : w15.heap.size < w22.heap.size := Nat.lt_of_lt_of_le (by first | with_reducible assumption | omega | (simp [go_sem]; omega) | simp [go_sem]) hb.size
          have k22_4 := fun o => hb.cell (p := ⟨w15.heap.size, o, none⟩) (by first | with_reducible assumption | omega | (simp [go_sem]; omega) | simp [go_sem])
          have f22_4 := fun o => hb.frozen (p := ⟨w15.heap.size, o, none⟩) (by first | with_reducible assumption | omega | (simp [go_sem]; omega) | simp [go_sem])
          clear hb
          go_wp2_with fail
          (with_reducible refine (a8.out _).mono ?_)
          rintro e w23 ⟨rfl, hb⟩
          have H23 : Below wr.heap.size wr w23 := by
            refine Below.trans ?_ (hb.mono ?_)
            · repeat (first | with_reducible assumption | with_reducible exact Below.refl _ _ | with_reducible refine Below.setCell ?_ (by first | omega | (simp [go_sem]; omega) | simp [go_sem]) _ | with_reducible refine Below.alloc ?_ (by first | omega | (simp [go_sem]; omega) | simp [go_sem]) _ | with_reducible refine below_grow ?_ (by first | omega | (simp [go_sem]; omega) | simp [go_sem]) _ _ | with_reducible refine Below.drew ?_)
            · first | omega | (simp [go_sem]; omega) | simp [go_sem]
          have S23 : wr.heap.size ≤ w23.heap.size := H23.size
          have s23_0 : w.heap.size < w23.heap.size := Nat.lt_of_lt_of_le (by first | with_reducible assumption | omega | (simp [go_sem]; omega) | simp [go_sem]) hb.size
          have k23_0 := fun o => hb.cell (p := ⟨w.heap.size, o, none⟩) (by first | with_reducible assumption | omega | (simp [go_sem]; omega) | simp [go_sem])
          have f23_0 := fun o => hb.frozen (p := ⟨w.heap.size, o, none⟩) (by first | with_reducible assumption | omega | (simp [go_sem]; omega) | simp [go_sem])
          have s23_1 : w.heap.size + 1 < w23.heap.size := Nat.lt_of_lt_of_le (by first | with_reducible assumption | omega | (simp [go_sem]; omega) | simp [go_sem]) hb.size
          have k23_1 := fun o => hb.cell (p := ⟨w.heap.size + 1, o, none⟩) (by first | with_reducible assumption | omega | (simp [go_sem]; omega) | simp [go_sem])
          have f23_1 := fun o => hb.frozen (p := ⟨w.heap.size + 1, o, none⟩) (by first | with_reducible assumption | omega | (simp [go_sem]; omega) | simp [go_sem])
          have s23_2 : g1 < w23.heap.size := Nat.lt_of_lt_of_le (by first | with_reducible assumption | omega | (simp [go_sem]; omega) | simp [go_sem]) hb.size
          have k23_2 := fun o => hb.cell (p := ⟨g1, o, none⟩) (by first | with_reducible assumption | omega | (simp [go_sem]; omega) | simp [go_sem])
          have f23_2 := fun o => hb.frozen (p := ⟨g1, o, none⟩) (by first | with_reducible assumption | omega | (simp [go_sem]; omega) | simp [go_sem])
          have s23_3 : g2 < w23.heap.size := Nat.lt_of_lt_of_le (by first | with_reducible assumption | omega | (simp [go_sem]; omega) | simp [go_sem]) hb.size
          have k23_3 := fun o => hb.cell (p := ⟨g2, o, none⟩) (by first | with_reducible assumption | omega | (simp [go_sem]; omega) | simp [go_sem])
          have f23_3 := fun o => hb.frozen (p := ⟨g2, o, none⟩) (by first | with_reducible assumption | omega | (simp [go_sem]; omega) | simp [go_sem])
          have s23_4 : w15.heap.size < w23.heap.size := Nat.lt_of_lt_of_le (by first | with_reducible assumption | omega | (simp [go_sem]; omega) | simp [go_sem]) hb.size
          have k23_4 := fun o => hb.cell (p := ⟨w15.heap.size, o, none⟩) (by first | with_reducible assumption | omega | (simp [go_sem]; omega) | simp [go_sem])
          have f23_4 := fun o => hb.frozen (p := ⟨w15.heap.size, o, none⟩) (by first | with_reducible assumption | omega | (simp [go_sem]; omega) | simp [go_sem])
          clear hb
          clear a3 a4 a5 a6 a7 a8 y1 y2 y3 y4 y5
          go_wp2_with fail
          (with_reducible refine (a9.out _).mono ?_)
          rintro e w24 ⟨rfl, hb⟩
          have H24 : Below wr.heap.size wr w24 := by
            refine Below.trans ?_ (hb.mono ?_)
            · repeat (first | with_reducible assumption | with_reducible exact Below.refl _ _ | with_reducible refine Below.setCell ?_ (by first | omega | (simp [go_sem]; omega) | simp [go_sem]) _ | with_reducible refine Below.alloc ?_ (by first | omega | (simp [go_sem]; omega) | simp [go_sem]) _ | with_reducible refine below_grow ?_ (by first | omega | (simp [go_sem]; omega) | simp [go_sem]) _ _ | with_reducible refine Below.drew ?_)
            · first | omega | (simp [go_sem]; omega) | simp [go_sem]
          have S24 : wr.heap.size ≤ w24.heap.size := H24.size
          have s24_0 : w.heap.size < w24.heap.size := Nat.lt_of_lt_of_le (by first | with_reducible assumption | omega | (simp [go_sem]; omega) | simp [go_sem]) hb.size
          have k24_0 := fun o => hb.cell (p := ⟨w.heap.size, o, none⟩) (by first | with_reducible assumption | omega | (simp [go_sem]; omega) | simp [go_sem])
          have f24_0 := fun o => hb.frozen (p := ⟨w.heap.size, o, none⟩) (by first | with_reducible assumption | omega | (simp [go_sem]; omega) | simp [go_sem])
          have s24_1 : w.heap.size + 1 < w24.heap.size := Nat.lt_of_lt_of_le (by first | with_reducible assumption | omega | (simp [go_sem]; omega) | simp [go_sem]) hb.size
          have k24_1 := fun o => hb.cell (p := ⟨w.heap.size + 1, o, none⟩) (by first | with_reducible assumption | omega | (simp [go_sem]; omega) | simp [go_sem])
          have f24_1 := fun o => hb.frozen (p := ⟨w.heap.size + 1, o, none⟩) (by first | with_reducible assumption | omega | (simp [go_sem]; omega) | simp [go_sem])
          have s24_2 : g1 < w24.heap.size := Nat.lt_of_lt_of_le (by first | with_reducible assumption | omega | (simp [go_sem]; omega) | simp [go_sem]) hb.size
          have k24_2 := fun o => hb.cell (p := ⟨g1, o, none⟩) (by first | with_reducible assumption | omega | (simp [go_sem]; omega) | simp [go_sem])
          have f24_2 := fun o => hb.frozen (p := ⟨g1, o, none⟩) (by first | with_reducible assumption | omega | (simp [go_sem]; omega) | simp [go_sem])
          have s24_3 : g2 < w24.heap.size := Nat.lt_of_lt_of_le (by first | with_reducible assumption | omega | (simp [go_sem]; omega) | simp [go_sem]) hb.size
          have k24_3 := fun o => hb.cell (p := ⟨g2, o, none⟩) (by first | with_reducible assumption | omega | (simp [go_sem]; omega) | simp [go_sem])
          have f24_3 := fun o => hb.frozen (p := ⟨g2, o, none⟩) (by first | with_reducible assumption | omega | (simp [go_sem]; omega) | simp [go_sem])
          have s24_4 : w15.heap.size < w24.heap.size := Nat.lt_of_lt_of_le (by first | with_reducible assumption | omega | (simp [go_sem]; omega) | simp [go_sem]) hb.size
          have k24_4 := fun o => hb.cell (p := ⟨w15.heap.size, o, none⟩) (by first | with_reducible assumption | omega | (simp [go_sem]; omega) | simp [go_sem])
          have f24_4 := fun o => hb.frozen (p := ⟨w15.heap.size, o, none⟩) (by first | with_reducible assumption | omega | (simp [go_sem]; omega) | simp [go_sem])
          clear hb
          clear a9
          go_wp2_with fail
          refine wp_region_tail 21 (by kernel_rfl) (by kernel_rfl) (by kernel_rfl) ?_
          simp only [List.take_succ_cons, List.take_zero, List.drop_succ_cons, List.drop_zero, List.take_nil, List.drop_nil]
          repeat (quiet_step (first | with_reducible exact Calls.regrown_of (a10.out _) | with_reducible exact Calls.regrown_of (a11.out _) | with_reducible exact Calls.regrown_of (a12.out _)))
          refine wpQuiet_nil ?_
          intro w25 hw
          have hb := below_of_regrown hw
          clear hw
          have H25 : Below wr.heap.size wr w25 := by
            refine Below.trans ?_ (hb.mono ?_)
            · repeat (first | with_reducible assumption | with_reducible exact Below.refl _ _ | with_reducible refine Below.setCell ?_ (by first | omega | (simp [go_sem]; omega) | simp [go_sem]) _ | with_reducible refine Below.alloc ?_ (by first | omega | (simp [go_sem]; omega) | simp [go_sem]) _ | with_reducible refine below_grow ?_ (by first | omega | (simp [go_sem]; omega) | simp [go_sem]) _ _ | with_reducible refine Below.drew ?_)
            · first | omega | (simp [go_sem]; omega) | simp [go_sem]
          have S25 : wr.heap.size ≤ w25.heap.size := H25.size
          have s25_0 : w.heap.size < w25.heap.size := Nat.lt_of_lt_of_le (by first | with_reducible assumption | omega | (simp [go_sem]; omega) | simp [go_sem]) hb.size
          have k25_0 := fun o => hb.cell (p := ⟨w.heap.size, o, none⟩) (by first | with_reducible assumption | omega | (simp [go_sem]; omega) | simp [go_sem])
          have f25_0 := fun o => hb.frozen (p := ⟨w.heap.size, o, none⟩) (by first | with_reducible assumption | omega | (simp [go_sem]; omega) | simp [go_sem])
          have s25_1 : w.heap.size + 1 < w25.heap.size := Nat.lt_of_lt_of_le (by first | with_reducible assumption | omega | (simp [go_sem]; omega) | simp [go_sem]) hb.size
          have k25_1 := fun o => hb.cell (p := ⟨w.heap.size + 1, o, none⟩) (by first | with_reducible assumption | omega | (simp [go_sem]; omega) | simp [go_sem])
          have f25_1 := fun o => hb.frozen (p := ⟨w.heap.size + 1, o, none⟩) (by first | with_reducible assumption | omega | (simp [go_sem]; omega) | simp [go_sem])
          have s25_2 : g1 < w25.heap.size := Nat.lt_of_lt_of_le (by first | with_reducible assumption | omega | (simp [go_sem]; omega) | simp [go_sem]) hb.size
          have k25_2 := fun o => hb.cell (p := ⟨g1, o, none⟩) (by first | with_reducible assumption | omega | (simp [go_sem]; omega) | simp [go_sem])
          have f25_2 := fun o => hb.frozen (p := ⟨g1, o, none⟩) (by first | with_reducible assumption | omega | (simp [go_sem]; omega) | simp [go_sem])
          have s25_3 : g2 < w25.heap.size := Nat.lt_of_lt_of_le (by first | with_reducible assumption | omega | (simp [go_sem]; omega) | simp [go_sem]) hb.size
          have k25_3 := fun o => hb.cell (p := ⟨g2, o, none⟩) (by first | with_reducible assumption | omega | (simp [go_sem]; omega) | simp [go_sem])
          have f25_3 := fun o => hb.frozen (p := ⟨g2, o, none⟩) (by first | with_reducible assumption | omega | (simp [go_sem]; omega) | simp [go_sem])
          have s25_4 : w15.heap.size < w25.heap.size := Nat.lt_of_lt_of_le (by first | with_reducible assumption | omega | (simp [go_sem]; omega) | simp [go_sem]) hb.size
          have k25_4 := fun o => hb.cell (p := ⟨w15.heap.size, o, none⟩) (by first | with_reducible assumption | omega | (simp [go_sem]; omega) | simp [go_sem])
          have f25_4 := fun o => hb.frozen (p := ⟨w15.heap.size, o, none⟩) (by first | with_reducible assumption | omega | (simp [go_sem]; omega) | simp [go_sem])
          clear hb
          clear a10 a11 a12
          go_wp2_with fail
          go_roundw
          case rel => exact ⟨k + 1, hlt, by go_num, hbl'.out.trans (H25.mono hsz)⟩
          case measure => exact meas_step hlt
        exact AllReadyH.nil
      exact AllReadyH.nil
    · obtain rfl : k = LN := Nat.le_antisymm hk (Nat.not_lt.1 hlt)
      have hGr := Lib.hid (hG.keep (HB.out.trans (hbl.mono S13)))
      have hbl' := Lib.hid hbl
      clear hbl
      go_wp2_with fail
      (with_reducible refine (c9.out _ hGr.out _ (Below.refl _ _)).mono ?_)
      rintro e wz ⟨rfl, hz⟩
      go_wp2_with fail
      go_ret
      exact ⟨rfl, HB.out.trans ((hbl'.out.mono S13).trans (hz.mono (Nat.le_trans S13 hbl'.out.size)))⟩
end Go.Proofs.YtgdlehoglpiifaaGreatDoor
