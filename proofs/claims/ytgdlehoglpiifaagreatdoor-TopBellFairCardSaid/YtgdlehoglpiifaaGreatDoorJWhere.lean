/-
  The place on the track of a distance, in plain rational numbers.
  Package track: the place of a distance for one bound of pi.
-/
import Derived.Test.YtgdlehoglpiifaaGreatDoorJTrack
import Derived.WalkMore
import Derived.Deep.RegionHeld3
namespace Go.Proofs.YtgdlehoglpiifaaGreatDoor

theorem num_le_of_le {x : Rat} {V B : Int} (hV : 0 ≤ V) (hB : (x.den : Int) ≤ B) (hv : x ≤ (V : Rat)) : x.num ≤ V * B := by
  have h := (Rat.le_iff _ _).1 hv
  rw [(int_nd V).1, (int_nd V).2, Int.mul_one] at h
  have := Int.mul_le_mul_of_nonneg_left hB hV
  omega
theorem Bd.of {x : Rat} {A B V : Int} (h : Bd x A B) (h0 : 0 ≤ x) (hv : x ≤ (V : Rat)) (hV : 0 ≤ V) : Bd x (V * B) B := by
  have h1 := num_le_of_le hV h.den hv
  have h2 : 0 ≤ x.num := Rat.num_nonneg.2 h0
  exact ⟨by omega, h1, h.den⟩

theorem num_pos_of {s : Rat} (h : 0 < s) : 0 < s.num := by
  have := (Rat.lt_iff _ _).1 h
  simpa using this
theorem Bd.div {r s : Rat} {A B A' B' : Int} (h : Bd r A B) (h' : Bd s A' B') (hp : 0 < s.num) : Bd (r / s) (A * B') (B * A') := by
  have m := add_abs h h'
  have d1 := den_pos r
  have d : 1 ≤ (r.den : Int) * s.num ∧ (r.den : Int) * s.num ≤ B * A' := by
    refine ⟨?_, Int.mul_le_mul h.den h'.hi (by omega) (by have := h.den; omega)⟩
    have := Int.mul_le_mul d1 (show 1 ≤ s.num by omega) (by omega) (by omega)
    omega
  have e := div_nd r s hp
  have h1 := qn_le d.1 m.1.1 m.1.2
  have h2 := qd_le (n := r.num * s.den) d.1
  exact ⟨by omega, by omega, by omega⟩

/-- The length of a bend, of a lap; the whole laps; what is left. -/
def bendOf (r : Int) (p : Rat) : Rat := p * (r : Rat)
def lapOf (S r : Int) (p : Rat) : Rat := (bendOf r p + (S : Rat)) * ((2 : Int) : Rat)
def lapsOf (S r D : Int) (p : Rat) : Int := ((D : Rat) / lapOf S r p).floor
def restOf (S r D : Int) (p : Rat) : Rat := (D : Rat) - lapOf S r p * ((lapsOf S r D p : Int) : Rat)
/-- The part, and the distance from its beginning. -/
def partOf (S r D : Int) (p : Rat) : Int × Rat :=
  let b := bendOf r p
  let s : Rat := (S : Rat)
  let l := restOf S r D p
  if l < b then (0, l) else if l - b < s then (1, l - b) else if l - b - s < b then (2, l - b - s) else (3, l - b - s - b)

/-- What the walk has to know of the numbers. -/
structure WhereB (S r D : Int) (p : Rat) : Prop where
  bd : Bd p 333 106
  low : 3 ≤ p
  high : p ≤ 22 / 7
  s : 1 ≤ S ∧ S ≤ 999999
  r : 1 ≤ r ∧ r ≤ 1099999
  d : 0 ≤ D ∧ D ≤ 200000000

theorem WhereB.sq {S r D : Int} {p : Rat} (h : WhereB S r D p) : (1 : Rat) ≤ (S : Rat) ∧ (S : Rat) ≤ 999999 := ⟨Rat.intCast_le_intCast.2 h.s.1, Rat.intCast_le_intCast.2 h.s.2⟩
theorem WhereB.rq {S r D : Int} {p : Rat} (h : WhereB S r D p) : (1 : Rat) ≤ (r : Rat) ∧ (r : Rat) ≤ 1099999 := ⟨Rat.intCast_le_intCast.2 h.r.1, Rat.intCast_le_intCast.2 h.r.2⟩
theorem WhereB.dq {S r D : Int} {p : Rat} (h : WhereB S r D p) : (0 : Rat) ≤ (D : Rat) ∧ (D : Rat) ≤ 200000000 := ⟨Rat.intCast_le_intCast.2 h.d.1, Rat.intCast_le_intCast.2 h.d.2⟩
theorem WhereB.bend {S r D : Int} {p : Rat} (h : WhereB S r D p) : 3 ≤ bendOf r p ∧ bendOf r p ≤ 3500000 := by
  have h1 := h.rq
  have h2 := h.low
  have h3 := h.high
  have h4 := Rat.mul_le_mul_of_nonneg_right (c := (r : Rat)) h2 (by grind)
  have h5 := Rat.mul_le_mul_of_nonneg_right (c := (r : Rat)) h3 (by grind)
  unfold bendOf
  constructor <;> grind
theorem WhereB.bendB {S r D : Int} {p : Rat} (h : WhereB S r D p) : Bd (bendOf r p) 366299667 106 := ((h.bd.mul (Bd.int r 1099999 (by have := h.r; omega))).mono (by omega) (by omega))
theorem WhereB.lap {S r D : Int} {p : Rat} (h : WhereB S r D p) : 8 ≤ lapOf S r p ∧ lapOf S r p ≤ 10000000 := by
  have h1 := h.bend
  have h2 := h.sq
  have e : ((2 : Int) : Rat) = 2 := rfl
  unfold lapOf
  rw [e]
  constructor <;> grind
theorem WhereB.sumB {S r D : Int} {p : Rat} (h : WhereB S r D p) : Bd (bendOf r p + (S : Rat)) 472299561 106 := ((h.bendB.add (Bd.int S 999999 (by have := h.s; omega))).mono (by omega) (by omega))
theorem WhereB.lapB {S r D : Int} {p : Rat} (h : WhereB S r D p) : Bd (lapOf S r p) 944599122 106 := ((h.sumB.mul (Bd.int 2 2 (by omega))).mono (by omega) (by omega))
theorem WhereB.laps {S r D : Int} {p : Rat} (h : WhereB S r D p) : lapOf S r p * ((lapsOf S r D p : Int) : Rat) ≤ (D : Rat) ∧ (D : Rat) < lapOf S r p * ((lapsOf S r D p : Int) : Rat) + lapOf S r p := by
  have hl : 0 < lapOf S r p := by have := h.lap; grind
  have h1 := Rat.floor_le ((D : Rat) / lapOf S r p)
  have h2 := Rat.lt_floor_add_one ((D : Rat) / lapOf S r p)
  have h3 := Rat.mul_le_mul_of_nonneg_right h1 (Rat.le_of_lt hl)
  have h4 := Rat.mul_lt_mul_of_pos_right h2 hl
  rw [Rat.div_mul_cancel (by grind)] at h3 h4
  rw [Rat.intCast_add] at h4
  have e : ((1 : Int) : Rat) = 1 := rfl
  rw [e] at h4
  unfold lapsOf
  constructor <;> grind
theorem WhereB.lapsI {S r D : Int} {p : Rat} (h : WhereB S r D p) : 0 ≤ lapsOf S r D p ∧ lapsOf S r D p ≤ D := by
  have h1 := h.laps
  have h2 := h.lap
  have h3 := h.dq
  constructor
  · apply Rat.le_floor_iff.2
    have e : ((0 : Int) : Rat) = 0 := rfl
    rw [e]
    refine Rat.not_lt.1 (fun hh => ?_)
    rw [Rat.div_lt_iff (by grind)] at hh
    grind
  · apply Rat.intCast_le_intCast.1
    by_cases hn : (0 : Rat) ≤ ((lapsOf S r D p : Int) : Rat)
    · have := Rat.mul_le_mul_of_nonneg_right (c := ((lapsOf S r D p : Int) : Rat)) h2.1 hn
      grind
    · grind
theorem WhereB.rest {S r D : Int} {p : Rat} (h : WhereB S r D p) : 0 ≤ restOf S r D p ∧ restOf S r D p < lapOf S r p := by
  have h1 := h.laps
  unfold restOf
  constructor <;> grind
theorem WhereB.restB {S r D : Int} {p : Rat} (h : WhereB S r D p) : Bd (restOf S r D p) 1060000000 106 := by
  have h1 := h.rest
  have h2 := h.lap
  have h3 := h.lapsI
  have h4 := h.d
  have e : ((10000000 : Int) : Rat) = 10000000 := rfl
  have h5 : restOf S r D p ≤ ((10000000 : Int) : Rat) := by grind
  exact (Bd.of (V := 10000000) ((Bd.int D 200000000 (by omega)).sub (h.lapB.mul (Bd.int (lapsOf S r D p) 200000000 (by omega)))) h1.1 h5 (by omega)).mono (by omega) (by omega)
/-- The distances behind the parts. -/
theorem WhereB.l1 {S r D : Int} {p : Rat} (h : WhereB S r D p) (h0 : ¬ restOf S r D p < bendOf r p) : 0 ≤ restOf S r D p - bendOf r p ∧ Bd (restOf S r D p - bendOf r p) 112360000000 11236 := by
  have h1 := h.rest
  have h2 := h.lap
  have h3 := h.bend
  have h4 : 0 ≤ restOf S r D p - bendOf r p := by grind
  refine ⟨h4, (Bd.of (V := 10000000) (h.restB.sub h.bendB) h4 ?_ (by omega)).mono (by omega) (by omega)⟩
  have e : ((10000000 : Int) : Rat) = 10000000 := rfl
  grind
theorem WhereB.l2 {S r D : Int} {p : Rat} (h : WhereB S r D p) (h0 : ¬ restOf S r D p < bendOf r p) (h0' : ¬ restOf S r D p - bendOf r p < (S : Rat)) : 0 ≤ restOf S r D p - bendOf r p - (S : Rat) ∧ Bd (restOf S r D p - bendOf r p - (S : Rat)) 112360000000 11236 := by
  have h1 := h.rest
  have h2 := h.lap
  have h3 := h.bend
  have h5 := h.sq
  have h4 : 0 ≤ restOf S r D p - bendOf r p - (S : Rat) := by grind
  refine ⟨h4, (Bd.of (V := 10000000) ((h.l1 h0).2.sub (Bd.int S 999999 (by have := h.s; omega))) h4 ?_ (by omega)).mono (by omega) (by omega)⟩
  have e : ((10000000 : Int) : Rat) = 10000000 := rfl
  grind
theorem WhereB.l3 {S r D : Int} {p : Rat} (h : WhereB S r D p) (h0 : ¬ restOf S r D p < bendOf r p) (h0' : ¬ restOf S r D p - bendOf r p < (S : Rat)) (h0'' : ¬ restOf S r D p - bendOf r p - (S : Rat) < bendOf r p) : 0 ≤ restOf S r D p - bendOf r p - (S : Rat) - bendOf r p ∧ restOf S r D p - bendOf r p - (S : Rat) - bendOf r p < (S : Rat) ∧ Bd (restOf S r D p - bendOf r p - (S : Rat) - bendOf r p) 1191016000000 1191016 := by
  have h1 := h.rest
  have h2 := h.lap
  have h3 := h.bend
  have h5 := h.sq
  have e2 : ((2 : Int) : Rat) = 2 := rfl
  have hl : lapOf S r p = bendOf r p * 2 + (S : Rat) * 2 := by unfold lapOf; rw [e2]; grind
  have h4 : 0 ≤ restOf S r D p - bendOf r p - (S : Rat) - bendOf r p := by grind
  have h6 : restOf S r D p - bendOf r p - (S : Rat) - bendOf r p < (S : Rat) := by grind
  refine ⟨h4, h6, (Bd.of (V := 1000000) ((h.l2 h0 h0').2.sub h.bendB) h4 ?_ (by omega)).mono (by omega) (by omega)⟩
  have e : ((1000000 : Int) : Rat) = 1000000 := rfl
  grind
theorem WhereB.part {S r D : Int} {p : Rat} (h : WhereB S r D p) : 0 ≤ (partOf S r D p).1 ∧ (partOf S r D p).1 ≤ 3 ∧ 0 ≤ (partOf S r D p).2 ∧ Bd (partOf S r D p).2 4168556000000 1191016 := by
  have h1 := h.rest
  have h2 := h.lap
  have h3 := h.bend
  have h5 := h.sq
  have e : ((3500000 : Int) : Rat) = 3500000 := rfl
  unfold partOf
  dsimp only
  by_cases c1 : restOf S r D p < bendOf r p
  · rw [if_pos c1]
    exact ⟨by omega, by omega, h1.1, (Bd.of (V := 3500000) h.restB h1.1 (by grind) (by omega)).mono (by omega) (by omega)⟩
  · rw [if_neg c1]
    by_cases c2 : restOf S r D p - bendOf r p < (S : Rat)
    · rw [if_pos c2]
      exact ⟨by omega, by omega, (h.l1 c1).1, (Bd.of (V := 3500000) (h.l1 c1).2 (h.l1 c1).1 (by grind) (by omega)).mono (by omega) (by omega)⟩
    · rw [if_neg c2]
      by_cases c3 : restOf S r D p - bendOf r p - (S : Rat) < bendOf r p
      · rw [if_pos c3]
        exact ⟨by omega, by omega, (h.l2 c1 c2).1, (Bd.of (V := 3500000) (h.l2 c1 c2).2 (h.l2 c1 c2).1 (by grind) (by omega)).mono (by omega) (by omega)⟩
      · rw [if_neg c3]
        exact ⟨by omega, by omega, (h.l3 c1 c2 c3).1, (Bd.of (V := 3500000) (h.l3 c1 c2 c3).2.2 (h.l3 c1 c2 c3).1 (by have := (h.l3 c1 c2 c3).2.1; grind) (by omega)).mono (by omega) (by omega)⟩
end Go.Proofs.YtgdlehoglpiifaaGreatDoor
namespace Go.Proofs.YtgdlehoglpiifaaGreatDoor
open Go.RowKit Go.Sort

theorem bend0 (w : World) : (Instr.index 131 (.agg #[.bool true, .bool false, .bool true, .bool false]) (.int .i64 0)).run Tryz.prog w = .ok (.bool true) w := by kernel_rfl
theorem bend1 (w : World) : (Instr.index 131 (.agg #[.bool true, .bool false, .bool true, .bool false]) (.int .i64 1)).run Tryz.prog w = .ok (.bool false) w := by kernel_rfl
theorem bend2 (w : World) : (Instr.index 131 (.agg #[.bool true, .bool false, .bool true, .bool false]) (.int .i64 2)).run Tryz.prog w = .ok (.bool true) w := by kernel_rfl
theorem bend3 (w : World) : (Instr.index 131 (.agg #[.bool true, .bool false, .bool true, .bool false]) (.int .i64 3)).run Tryz.prog w = .ok (.bool false) w := by kernel_rfl
@[go_sem] theorem redrawn_drew (w : World) (d : Nat) : redrawn w.drew d = redrawn w d := rfl

/-- The table of the bends. -/
structure Bends (w : World) : Prop where
  lt : 0 < w.heap.size
  c0 : w.cell? ⟨0, 0, none⟩ = some (.bool true)
  c1 : w.cell? ⟨0, 1, none⟩ = some (.bool false)
  c2 : w.cell? ⟨0, 2, none⟩ = some (.bool true)
  c3 : w.cell? ⟨0, 3, none⟩ = some (.bool false)
theorem Bends.keep {w w' : World} (h : Bends w) (hb : Below w.heap.size w w') : Bends w' := by
  have hl := h.lt
  have hk := fun o => hb.cell (p := ⟨0, o, none⟩) hl
  exact ⟨Nat.lt_of_lt_of_le hl hb.size, (hk 0).trans h.c0, (hk 1).trans h.c1, (hk 2).trans h.c2, (hk 3).trans h.c3⟩

theorem rcmp_lt {r s : Rat} (h : r < s) : rcmp r s < 0 := by unfold rcmp; rw [if_pos h]; omega
theorem rcmp_ge {r s : Rat} (h : ¬ r < s) : ¬ rcmp r s < 0 := by unfold rcmp; rw [if_neg h]; split <;> omega

set_option maxHeartbeats 4000000 in
theorem trWhere {S R W F T L : Int} (o : Oval S R W F T L) (lane D : Int) (p : Rat) (hl : 1 ≤ lane ∧ lane ≤ L) (hw : WhereB S (rad R W F T lane) D p) (w : World) (hbe : Bends w) :
    Calls Tryz.prog 61 #[.agg #[.int .i64 S, .int .i64 R, .int .i64 W, .int .i64 F, .int .i64 T, .int .i64 L], .int .i64 lane, .int .i64 D, .agg #[.int .i64 (Rat.num p), .slice none 0 0, .int .i64 ((Rat.den p : Nat) : Int), .slice none 0 0]] w fun e w' => e = .returned (.tuple #[.int .i64 (lapsOf S (rad R W F T lane) D p), .int .i64 (partOf S (rad R W F T lane) D p).1, .agg #[.int .i64 (Rat.num (partOf S (rad R W F T lane) D p).2), .slice none 0 0, .int .i64 ((Rat.den (partOf S (rad R W F T lane) D p).2 : Nat) : Int), .slice none 0 0]]) ∧ Below w.heap.size w w' := by
  have m := hw.lapsI
  have m2 := hw.d
  have m3 := hw.lap
  have b1 := Bd.int (rad R W F T lane) 1099999 (by have := hw.r; omega)
  have b2 := Bd.int S 999999 (by have := hw.s; omega)
  have b3 := Bd.int 2 2 (by omega)
  have b4 := Bd.int D 200000000 (by omega)
  have b5 := Bd.int (lapsOf S (rad R W F T lane) D p) 200000000 (by omega)
  have d1 := Lib.hid (fun w => trRadius S R W F T L o lane hl w)
  have d2 := Lib.hid (fun w => rF (rad R W F T lane) w)
  have d3 := Lib.hid (fun w => rMul p _ hw.bd b1 (by omega) w)
  have d4 := Lib.hid (fun w => rF S w)
  have d5 := Lib.hid (fun w => rAdd (bendOf (rad R W F T lane) p) _ hw.bendB b2 (by omega) w)
  have d6 := Lib.hid (fun w => rF 2 w)
  have d7 := Lib.hid (fun w => rMul (bendOf (rad R W F T lane) p + (S : Rat)) _ hw.sumB b3 (by omega) w)
  have d8 := Lib.hid (fun w => rF D w)
  have hlp : 0 < (lapOf S (rad R W F T lane) p).num := num_pos_of (by grind)
  have d9 := Lib.hid (fun w => rDiv (D : Rat) (lapOf S (rad R W F T lane) p) b4 hw.lapB hlp (by omega) w)
  have d10 := Lib.hid (fun w => rFloor ((D : Rat) / lapOf S (rad R W F T lane) p) (b4.div hw.lapB hlp) (by omega) w)
  have d11 := Lib.hid (fun w => nSmall (lapsOf S (rad R W F T lane) D p) w)
  have d12 := Lib.hid (fun w => rF (lapsOf S (rad R W F T lane) D p) w)
  have d13 := Lib.hid (fun w => rMul (lapOf S (rad R W F T lane) p) _ hw.lapB b5 (by omega) w)
  have d14 := Lib.hid (fun w => rSub (D : Rat) _ b4 (hw.lapB.mul b5) (by omega) w)
  have d15 := Lib.hid (fun w => rCmp (restOf S (rad R W F T lane) D p) _ hw.restB hw.bendB (by omega) w)
  have d16 := Lib.hid (fun w => rSub (restOf S (rad R W F T lane) D p) _ hw.restB hw.bendB (by omega) w)
  have d17 := Lib.hid (fun h0 w => rCmp (restOf S (rad R W F T lane) D p - bendOf (rad R W F T lane) p) _ (hw.l1 h0).2 b2 (by omega) w)
  have d18 := Lib.hid (fun h0 w => rSub (restOf S (rad R W F T lane) D p - bendOf (rad R W F T lane) p) _ (hw.l1 h0).2 b2 (by omega) w)
  have d19 := Lib.hid (fun h0 h1 w => rCmp (restOf S (rad R W F T lane) D p - bendOf (rad R W F T lane) p - (S : Rat)) _ (hw.l2 h0 h1).2 hw.bendB (by omega) w)
  have d20 := Lib.hid (fun h0 h1 w => rSub (restOf S (rad R W F T lane) D p - bendOf (rad R W F T lane) p - (S : Rat)) _ (hw.l2 h0 h1).2 hw.bendB (by omega) w)
  have d21 := Lib.hid (fun h0 h1 h2 w => rCmp (restOf S (rad R W F T lane) D p - bendOf (rad R W F T lane) p - (S : Rat) - bendOf (rad R W F T lane) p) _ (hw.l3 h0 h1 h2).2.2 b2 (by omega) w)
  have hlast := fun h0 h1 h2 => (hw.l3 h0 h1 h2).2.1
  rw [show p * (rad R W F T lane : Rat) = bendOf (rad R W F T lane) p from rfl] at d3
  rw [show (bendOf (rad R W F T lane) p + (S : Rat)) * ((2 : Int) : Rat) = lapOf S (rad R W F T lane) p from rfl] at d7
  rw [show ((D : Rat) / lapOf S (rad R W F T lane) p).floor = lapsOf S (rad R W F T lane) D p from rfl] at d10
  rw [show (D : Rat) - lapOf S (rad R W F T lane) p * ((lapsOf S (rad R W F T lane) D p : Int) : Rat) = restOf S (rad R W F T lane) D p from rfl] at d14
  have hpt : partOf S (rad R W F T lane) D p = if restOf S (rad R W F T lane) D p < bendOf (rad R W F T lane) p then (0, restOf S (rad R W F T lane) D p) else if restOf S (rad R W F T lane) D p - bendOf (rad R W F T lane) p < (S : Rat) then (1, restOf S (rad R W F T lane) D p - bendOf (rad R W F T lane) p) else if restOf S (rad R W F T lane) D p - bendOf (rad R W F T lane) p - (S : Rat) < bendOf (rad R W F T lane) p then (2, restOf S (rad R W F T lane) D p - bendOf (rad R W F T lane) p - (S : Rat)) else (3, restOf S (rad R W F T lane) D p - bendOf (rad R W F T lane) p - (S : Rat) - bendOf (rad R W F T lane) p) := rfl
  generalize partOf S (rad R W F T lane) D p = pt at *
  clear m m2 m3 b1 b2 b3 b4 b5 hw o hl hlp
  generalize lapOf S (rad R W F T lane) p = la at *
  generalize restOf S (rad R W F T lane) D p = l0 at *
  generalize bendOf (rad R W F T lane) p = be at *
  generalize lapsOf S (rad R W F T lane) D p = ls at *
  generalize rad R W F T lane = r at *
  generalize (ls : Rat) = lq at *
  generalize (r : Rat) = rq at *
  generalize ((2 : Int) : Rat) = tq at *
  generalize (S : Rat) = sq at *
  generalize (D : Rat) = dq at *
  generalize la * lq = pr at *
  generalize be + sq = su at *
  generalize dq / la = q at *
  go_enter Tryz.func61, Tryz.ntmps61
  go_wp2_with fail
  have hb0 := hbe.lt
  have i0 := bend0
  have i1 := bend1
  have i2 := bend2
  have i3 := bend3
  have h00 := hbe.c0
  have h01 := hbe.c1
  have h02 := hbe.c2
  have h03 := hbe.c3
  go_step3
  apply wp_seq_k; intro K1 hK1
  suffices key1 : ∀ (b1 : Nat) (W' : World), (Below w.heap.size w W' ∧ w.heap.size + 1 + 1 < b1 ∧ (0 < W'.heap.size ∧ W'.cell? ⟨0, 0, none⟩ = some (.bool true) ∧ W'.cell? ⟨0, 1, none⟩ = some (.bool false) ∧ W'.cell? ⟨0, 2, none⟩ = some (.bool true) ∧ W'.cell? ⟨0, 3, none⟩ = some (.bool false)) ∧ (w.heap.size < W'.heap.size ∧ (∀ o, W'.frozen? ⟨w.heap.size, o, none⟩ = false) ∧ W'.cell? ⟨w.heap.size, 0, none⟩ = some (.int .i64 S) ∧ W'.cell? ⟨w.heap.size, 1, none⟩ = some (.int .i64 R) ∧ W'.cell? ⟨w.heap.size, 2, none⟩ = some (.int .i64 W) ∧ W'.cell? ⟨w.heap.size, 3, none⟩ = some (.int .i64 F) ∧ W'.cell? ⟨w.heap.size, 4, none⟩ = some (.int .i64 T) ∧ W'.cell? ⟨w.heap.size, 5, none⟩ = some (.int .i64 L)) ∧ (w.heap.size + 1 < W'.heap.size ∧ (∀ o, W'.frozen? ⟨w.heap.size + 1, o, none⟩ = false)) ∧ (w.heap.size + 1 + 1 < W'.heap.size ∧ (∀ o, W'.frozen? ⟨w.heap.size + 1 + 1, o, none⟩ = false) ∧ W'.cell? ⟨w.heap.size + 1 + 1, 0, none⟩ = some (.int .i64 0) ∧ W'.cell? ⟨w.heap.size + 1 + 1, 1, none⟩ = some (.slice none 0 0) ∧ W'.cell? ⟨w.heap.size + 1 + 1, 2, none⟩ = some (.int .i64 0) ∧ W'.cell? ⟨w.heap.size + 1 + 1, 3, none⟩ = some (.slice none 0 0)) ∧ (b1 < W'.heap.size ∧ (∀ o, W'.frozen? ⟨b1, o, none⟩ = false) ∧ W'.cell? ⟨b1, 0, none⟩ = some (.int .i64 (Rat.num be)) ∧ W'.cell? ⟨b1, 1, none⟩ = some (.slice none 0 0) ∧ W'.cell? ⟨b1, 2, none⟩ = some (.int .i64 ((Rat.den be : Nat) : Int)) ∧ W'.cell? ⟨b1, 3, none⟩ = some (.slice none 0 0))) → K1 ({ tmps := #[.agg #[.int .i64 S, .int .i64 R, .int .i64 W, .int .i64 F, .int .i64 T, .int .i64 L], .int .i64 lane, .int .i64 D, .agg #[.int .i64 (Rat.num p), .slice none 0 0, .int .i64 ((Rat.den p : Nat) : Int), .slice none 0 0], .pointer (some ⟨w.heap.size, 0, none⟩), undef, undef, .pointer (some ⟨w.heap.size + 1, 0, none⟩), .int .i64 0, .int .i64 0, .pointer (some ⟨w.heap.size + 1 + 1, 0, none⟩), .pointer (some ⟨b1, 0, none⟩), undef, undef, undef, undef, undef, undef, undef, undef, .agg #[.int .i64 (Rat.num p), .slice none 0 0, .int .i64 ((Rat.den p : Nat) : Int), .slice none 0 0], .agg #[.int .i64 S, .int .i64 R, .int .i64 W, .int .i64 F, .int .i64 T, .int .i64 L], .int .i64 lane, .int .i64 r, .agg #[.int .i64 (Rat.num rq), .slice none 0 0, .int .i64 ((Rat.den rq : Nat) : Int), .slice none 0 0], .agg #[.int .i64 (Rat.num be), .slice none 0 0, .int .i64 ((Rat.den be : Nat) : Int), .slice none 0 0], undef, undef, undef, undef, undef, undef, undef, undef, undef, undef, undef, undef, undef, undef, undef, undef, undef, undef, undef, undef, undef, undef, undef, undef, undef, undef, undef, undef, undef, undef, undef, undef, undef, undef, undef, undef, undef, undef, undef, undef, undef, undef, undef, undef, undef], defers := [] }) W' by
    go_region_held3 (fun w' => w'.cell? ⟨w.heap.size, 0, none⟩ = some (.int .i64 S) ∧ w'.cell? ⟨w.heap.size, 1, none⟩ = some (.int .i64 R) ∧ w'.cell? ⟨w.heap.size, 2, none⟩ = some (.int .i64 W) ∧ w'.cell? ⟨w.heap.size, 3, none⟩ = some (.int .i64 F) ∧ w'.cell? ⟨w.heap.size, 4, none⟩ = some (.int .i64 T) ∧ w'.cell? ⟨w.heap.size, 5, none⟩ = some (.int .i64 L) ∧ w'.cell? ⟨w.heap.size + 1, 0, none⟩ = some (.int .i64 (Rat.num p)) ∧ w'.cell? ⟨w.heap.size + 1, 1, none⟩ = some (.slice none 0 0) ∧ w'.cell? ⟨w.heap.size + 1, 2, none⟩ = some (.int .i64 ((Rat.den p : Nat) : Int)) ∧ w'.cell? ⟨w.heap.size + 1, 3, none⟩ = some (.slice none 0 0)) (simp (maxDischargeDepth := 6) [*, go_sem]) (first | (go_at_call 52; (with_reducible refine (d1.out _).mono ?_); rintro e w1 ⟨rfl, hb1⟩; obtain ⟨⟨dq, osq⟩, rfl⟩ := regrown_of_below hb1; clear hb1) | (go_at_call 53; (with_reducible refine (d2.out _).mono ?_); rintro e w1 ⟨rfl, hb1⟩; obtain ⟨⟨dq, osq⟩, rfl⟩ := regrown_of_below hb1; clear hb1) | (go_at_call 56; (with_reducible refine (d3.out _).mono ?_); rintro e w1 ⟨rfl, hb1⟩; obtain ⟨⟨dq, osq⟩, rfl⟩ := regrown_of_below hb1; clear hb1))
    all_goals refine key1 _ _ ⟨?_, ?_, ⟨?_, ?_, ?_, ?_, ?_⟩, ⟨?_, ?_, ?_, ?_, ?_, ?_, ?_, ?_⟩, ⟨?_, ?_⟩, ⟨?_, ?_, ?_, ?_, ?_, ?_⟩, ⟨?_, ?_, ?_, ?_, ?_, ?_⟩⟩
    all_goals first | omega | (simp [go_sem]; omega) | (simp (maxDischargeDepth := 6) [*, go_sem]; done) | (repeat (first | with_reducible assumption | with_reducible exact Below.refl _ _ | with_reducible refine Below.setCell ?_ (by first | omega | (simp [go_sem]; omega) | simp [go_sem]) _ | with_reducible refine Below.alloc ?_ (by first | omega | (simp [go_sem]; omega) | simp [go_sem]) _ | with_reducible refine below_grow ?_ (by first | omega | (simp [go_sem]; omega) | simp [go_sem]) _ _ | with_reducible refine Below.drew ?_))
  rintro b1 w1 ⟨H1, hlt1, ⟨s1_0, k1_0_0, k1_0_1, k1_0_2, k1_0_3⟩, ⟨s1_1, f1_1, k1_1_0, k1_1_1, k1_1_2, k1_1_3, k1_1_4, k1_1_5⟩, ⟨s1_2, f1_2⟩, ⟨s1_3, f1_3, k1_3_0, k1_3_1, k1_3_2, k1_3_3⟩, ⟨s1_4, f1_4, k1_4_0, k1_4_1, k1_4_2, k1_4_3⟩⟩
  have S1 : w.heap.size ≤ w1.heap.size := H1.size
  clear d1 d2 d3
  refine hK1 _ _ ?_
  apply wp_seq_k; intro K2 hK2
  suffices key2 : ∀ (b2 : Nat) (W' : World), (Below w.heap.size w W' ∧ b1 < b2 ∧ (0 < W'.heap.size ∧ W'.cell? ⟨0, 0, none⟩ = some (.bool true) ∧ W'.cell? ⟨0, 1, none⟩ = some (.bool false) ∧ W'.cell? ⟨0, 2, none⟩ = some (.bool true) ∧ W'.cell? ⟨0, 3, none⟩ = some (.bool false)) ∧ (w.heap.size < W'.heap.size ∧ (∀ o, W'.frozen? ⟨w.heap.size, o, none⟩ = false) ∧ W'.cell? ⟨w.heap.size, 0, none⟩ = some (.int .i64 S) ∧ W'.cell? ⟨w.heap.size, 1, none⟩ = some (.int .i64 R) ∧ W'.cell? ⟨w.heap.size, 2, none⟩ = some (.int .i64 W) ∧ W'.cell? ⟨w.heap.size, 3, none⟩ = some (.int .i64 F) ∧ W'.cell? ⟨w.heap.size, 4, none⟩ = some (.int .i64 T) ∧ W'.cell? ⟨w.heap.size, 5, none⟩ = some (.int .i64 L)) ∧ (w.heap.size + 1 < W'.heap.size ∧ (∀ o, W'.frozen? ⟨w.heap.size + 1, o, none⟩ = false)) ∧ (w.heap.size + 1 + 1 < W'.heap.size ∧ (∀ o, W'.frozen? ⟨w.heap.size + 1 + 1, o, none⟩ = false) ∧ W'.cell? ⟨w.heap.size + 1 + 1, 0, none⟩ = some (.int .i64 0) ∧ W'.cell? ⟨w.heap.size + 1 + 1, 1, none⟩ = some (.slice none 0 0) ∧ W'.cell? ⟨w.heap.size + 1 + 1, 2, none⟩ = some (.int .i64 0) ∧ W'.cell? ⟨w.heap.size + 1 + 1, 3, none⟩ = some (.slice none 0 0)) ∧ (b1 < W'.heap.size ∧ (∀ o, W'.frozen? ⟨b1, o, none⟩ = false) ∧ W'.cell? ⟨b1, 0, none⟩ = some (.int .i64 (Rat.num be)) ∧ W'.cell? ⟨b1, 1, none⟩ = some (.slice none 0 0) ∧ W'.cell? ⟨b1, 2, none⟩ = some (.int .i64 ((Rat.den be : Nat) : Int)) ∧ W'.cell? ⟨b1, 3, none⟩ = some (.slice none 0 0)) ∧ (b2 < W'.heap.size ∧ (∀ o, W'.frozen? ⟨b2, o, none⟩ = false) ∧ W'.cell? ⟨b2, 0, none⟩ = some (.int .i64 (Rat.num la)) ∧ W'.cell? ⟨b2, 1, none⟩ = some (.slice none 0 0) ∧ W'.cell? ⟨b2, 2, none⟩ = some (.int .i64 ((Rat.den la : Nat) : Int)) ∧ W'.cell? ⟨b2, 3, none⟩ = some (.slice none 0 0))) → K2 ({ tmps := #[.agg #[.int .i64 S, .int .i64 R, .int .i64 W, .int .i64 F, .int .i64 T, .int .i64 L], .int .i64 lane, .int .i64 D, .agg #[.int .i64 (Rat.num p), .slice none 0 0, .int .i64 ((Rat.den p : Nat) : Int), .slice none 0 0], .pointer (some ⟨w.heap.size, 0, none⟩), undef, undef, .pointer (some ⟨w.heap.size + 1, 0, none⟩), .int .i64 0, .int .i64 0, .pointer (some ⟨w.heap.size + 1 + 1, 0, none⟩), .pointer (some ⟨b1, 0, none⟩), .pointer (some ⟨b2, 0, none⟩), undef, undef, undef, undef, undef, undef, undef, .agg #[.int .i64 (Rat.num p), .slice none 0 0, .int .i64 ((Rat.den p : Nat) : Int), .slice none 0 0], .agg #[.int .i64 S, .int .i64 R, .int .i64 W, .int .i64 F, .int .i64 T, .int .i64 L], .int .i64 lane, .int .i64 r, .agg #[.int .i64 (Rat.num rq), .slice none 0 0, .int .i64 ((Rat.den rq : Nat) : Int), .slice none 0 0], .agg #[.int .i64 (Rat.num be), .slice none 0 0, .int .i64 ((Rat.den be : Nat) : Int), .slice none 0 0], .agg #[.int .i64 (Rat.num be), .slice none 0 0, .int .i64 ((Rat.den be : Nat) : Int), .slice none 0 0], .pointer (some ⟨w.heap.size, 0, none⟩), .int .i64 S, .agg #[.int .i64 (Rat.num sq), .slice none 0 0, .int .i64 ((Rat.den sq : Nat) : Int), .slice none 0 0], .agg #[.int .i64 (Rat.num su), .slice none 0 0, .int .i64 ((Rat.den su : Nat) : Int), .slice none 0 0], .agg #[.int .i64 (Rat.num tq), .slice none 0 0, .int .i64 ((Rat.den tq : Nat) : Int), .slice none 0 0], .agg #[.int .i64 (Rat.num la), .slice none 0 0, .int .i64 ((Rat.den la : Nat) : Int), .slice none 0 0], undef, undef, undef, undef, undef, undef, undef, undef, undef, undef, undef, undef, undef, undef, undef, undef, undef, undef, undef, undef, undef, undef, undef, undef, undef, undef, undef, undef, undef, undef, undef, undef, undef, undef, undef, undef, undef, undef], defers := [] }) W' by
    go_region_held3 (fun w' => w'.cell? ⟨w.heap.size, 0, none⟩ = some (.int .i64 S) ∧ w'.cell? ⟨b1, 0, none⟩ = some (.int .i64 (Rat.num be)) ∧ w'.cell? ⟨b1, 1, none⟩ = some (.slice none 0 0) ∧ w'.cell? ⟨b1, 2, none⟩ = some (.int .i64 ((Rat.den be : Nat) : Int)) ∧ w'.cell? ⟨b1, 3, none⟩ = some (.slice none 0 0)) (simp (maxDischargeDepth := 6) [*, go_sem]) (first | (go_at_call 53; (with_reducible refine (d4.out _).mono ?_); rintro e w1 ⟨rfl, hb1⟩; obtain ⟨⟨dq, osq⟩, rfl⟩ := regrown_of_below hb1; clear hb1) | (go_at_call 87; (with_reducible refine (d5.out _).mono ?_); rintro e w1 ⟨rfl, hb1⟩; obtain ⟨⟨dq, osq⟩, rfl⟩ := regrown_of_below hb1; clear hb1) | (go_at_call 53; (with_reducible refine (d6.out _).mono ?_); rintro e w1 ⟨rfl, hb1⟩; obtain ⟨⟨dq, osq⟩, rfl⟩ := regrown_of_below hb1; clear hb1) | (go_at_call 56; (with_reducible refine (d7.out _).mono ?_); rintro e w1 ⟨rfl, hb1⟩; obtain ⟨⟨dq, osq⟩, rfl⟩ := regrown_of_below hb1; clear hb1))
    all_goals refine key2 _ _ ⟨?_, ?_, ⟨?_, ?_, ?_, ?_, ?_⟩, ⟨?_, ?_, ?_, ?_, ?_, ?_, ?_, ?_⟩, ⟨?_, ?_⟩, ⟨?_, ?_, ?_, ?_, ?_, ?_⟩, ⟨?_, ?_, ?_, ?_, ?_, ?_⟩, ⟨?_, ?_, ?_, ?_, ?_, ?_⟩⟩
    all_goals first | omega | (simp [go_sem]; omega) | (simp (maxDischargeDepth := 6) [*, go_sem]; done) | (repeat (first | with_reducible assumption | with_reducible exact Below.refl _ _ | with_reducible refine Below.setCell ?_ (by first | omega | (simp [go_sem]; omega) | simp [go_sem]) _ | with_reducible refine Below.alloc ?_ (by first | omega | (simp [go_sem]; omega) | simp [go_sem]) _ | with_reducible refine below_grow ?_ (by first | omega | (simp [go_sem]; omega) | simp [go_sem]) _ _ | with_reducible refine Below.drew ?_))
  rintro b2 w2 ⟨H2, hlt2, ⟨s2_0, k2_0_0, k2_0_1, k2_0_2, k2_0_3⟩, ⟨s2_1, f2_1, k2_1_0, k2_1_1, k2_1_2, k2_1_3, k2_1_4, k2_1_5⟩, ⟨s2_2, f2_2⟩, ⟨s2_3, f2_3, k2_3_0, k2_3_1, k2_3_2, k2_3_3⟩, ⟨s2_4, f2_4, k2_4_0, k2_4_1, k2_4_2, k2_4_3⟩, ⟨s2_5, f2_5, k2_5_0, k2_5_1, k2_5_2, k2_5_3⟩⟩
  have S2 : w.heap.size ≤ w2.heap.size := H2.size
  clear d5 d6 d7
  refine hK2 _ _ ?_
  go_wp2_with fail
  (with_reducible refine (d8.out _).mono ?_)
  rintro e w3 ⟨rfl, hb⟩
  have H3 : Below w.heap.size w w3 := by
    refine Below.trans ?_ (hb.mono ?_)
    · repeat (first | with_reducible assumption | with_reducible exact Below.refl _ _ | with_reducible refine Below.setCell ?_ (by first | omega | (simp [go_sem]; omega) | simp [go_sem]) _ | with_reducible refine Below.alloc ?_ (by first | omega | (simp [go_sem]; omega) | simp [go_sem]) _ | with_reducible refine below_grow ?_ (by first | omega | (simp [go_sem]; omega) | simp [go_sem]) _ _ | with_reducible refine Below.drew ?_)
    · first | omega | (simp [go_sem]; omega) | simp [go_sem]
  have S3 : w.heap.size ≤ w3.heap.size := H3.size
  have s3_0 : 0 < w3.heap.size := Nat.lt_of_lt_of_le (by first | omega | (simp [go_sem]; omega) | simp [go_sem]) hb.size
  have k3_0 := fun o => hb.cell (p := ⟨0, o, none⟩) (by first | omega | (simp [go_sem]; omega) | simp [go_sem])
  have f3_0 := fun o => hb.frozen (p := ⟨0, o, none⟩) (by first | omega | (simp [go_sem]; omega) | simp [go_sem])
  have s3_1 : w.heap.size < w3.heap.size := Nat.lt_of_lt_of_le (by first | omega | (simp [go_sem]; omega) | simp [go_sem]) hb.size
  have k3_1 := fun o => hb.cell (p := ⟨w.heap.size, o, none⟩) (by first | omega | (simp [go_sem]; omega) | simp [go_sem])
  have f3_1 := fun o => hb.frozen (p := ⟨w.heap.size, o, none⟩) (by first | omega | (simp [go_sem]; omega) | simp [go_sem])
  have s3_2 : w.heap.size + 1 < w3.heap.size := Nat.lt_of_lt_of_le (by first | omega | (simp [go_sem]; omega) | simp [go_sem]) hb.size
  have k3_2 := fun o => hb.cell (p := ⟨w.heap.size + 1, o, none⟩) (by first | omega | (simp [go_sem]; omega) | simp [go_sem])
  have f3_2 := fun o => hb.frozen (p := ⟨w.heap.size + 1, o, none⟩) (by first | omega | (simp [go_sem]; omega) | simp [go_sem])
  have s3_3 : w.heap.size + 1 + 1 < w3.heap.size := Nat.lt_of_lt_of_le (by first | omega | (simp [go_sem]; omega) | simp [go_sem]) hb.size
  have k3_3 := fun o => hb.cell (p := ⟨w.heap.size + 1 + 1, o, none⟩) (by first | omega | (simp [go_sem]; omega) | simp [go_sem])
  have f3_3 := fun o => hb.frozen (p := ⟨w.heap.size + 1 + 1, o, none⟩) (by first | omega | (simp [go_sem]; omega) | simp [go_sem])
  have s3_4 : b1 < w3.heap.size := Nat.lt_of_lt_of_le (by first | omega | (simp [go_sem]; omega) | simp [go_sem]) hb.size
  have k3_4 := fun o => hb.cell (p := ⟨b1, o, none⟩) (by first | omega | (simp [go_sem]; omega) | simp [go_sem])
  have f3_4 := fun o => hb.frozen (p := ⟨b1, o, none⟩) (by first | omega | (simp [go_sem]; omega) | simp [go_sem])
  have s3_5 : b2 < w3.heap.size := Nat.lt_of_lt_of_le (by first | omega | (simp [go_sem]; omega) | simp [go_sem]) hb.size
  have k3_5 := fun o => hb.cell (p := ⟨b2, o, none⟩) (by first | omega | (simp [go_sem]; omega) | simp [go_sem])
  have f3_5 := fun o => hb.frozen (p := ⟨b2, o, none⟩) (by first | omega | (simp [go_sem]; omega) | simp [go_sem])
  clear hb
  go_wp2_with fail
  (with_reducible refine (d9.out _).mono ?_)
  rintro e w4 ⟨rfl, hb⟩
  have H4 : Below w.heap.size w w4 := by
    refine Below.trans ?_ (hb.mono ?_)
    · repeat (first | with_reducible assumption | with_reducible exact Below.refl _ _ | with_reducible refine Below.setCell ?_ (by first | omega | (simp [go_sem]; omega) | simp [go_sem]) _ | with_reducible refine Below.alloc ?_ (by first | omega | (simp [go_sem]; omega) | simp [go_sem]) _ | with_reducible refine below_grow ?_ (by first | omega | (simp [go_sem]; omega) | simp [go_sem]) _ _ | with_reducible refine Below.drew ?_)
    · first | omega | (simp [go_sem]; omega) | simp [go_sem]
  have S4 : w.heap.size ≤ w4.heap.size := H4.size
  have s4_0 : 0 < w4.heap.size := Nat.lt_of_lt_of_le (by first | omega | (simp [go_sem]; omega) | simp [go_sem]) hb.size
  have k4_0 := fun o => hb.cell (p := ⟨0, o, none⟩) (by first | omega | (simp [go_sem]; omega) | simp [go_sem])
  have f4_0 := fun o => hb.frozen (p := ⟨0, o, none⟩) (by first | omega | (simp [go_sem]; omega) | simp [go_sem])
  have s4_1 : w.heap.size < w4.heap.size := Nat.lt_of_lt_of_le (by first | omega | (simp [go_sem]; omega) | simp [go_sem]) hb.size
  have k4_1 := fun o => hb.cell (p := ⟨w.heap.size, o, none⟩) (by first | omega | (simp [go_sem]; omega) | simp [go_sem])
  have f4_1 := fun o => hb.frozen (p := ⟨w.heap.size, o, none⟩) (by first | omega | (simp [go_sem]; omega) | simp [go_sem])
  have s4_2 : w.heap.size + 1 < w4.heap.size := Nat.lt_of_lt_of_le (by first | omega | (simp [go_sem]; omega) | simp [go_sem]) hb.size
  have k4_2 := fun o => hb.cell (p := ⟨w.heap.size + 1, o, none⟩) (by first | omega | (simp [go_sem]; omega) | simp [go_sem])
  have f4_2 := fun o => hb.frozen (p := ⟨w.heap.size + 1, o, none⟩) (by first | omega | (simp [go_sem]; omega) | simp [go_sem])
  have s4_3 : w.heap.size + 1 + 1 < w4.heap.size := Nat.lt_of_lt_of_le (by first | omega | (simp [go_sem]; omega) | simp [go_sem]) hb.size
  have k4_3 := fun o => hb.cell (p := ⟨w.heap.size + 1 + 1, o, none⟩) (by first | omega | (simp [go_sem]; omega) | simp [go_sem])
  have f4_3 := fun o => hb.frozen (p := ⟨w.heap.size + 1 + 1, o, none⟩) (by first | omega | (simp [go_sem]; omega) | simp [go_sem])
  have s4_4 : b1 < w4.heap.size := Nat.lt_of_lt_of_le (by first | omega | (simp [go_sem]; omega) | simp [go_sem]) hb.size
  have k4_4 := fun o => hb.cell (p := ⟨b1, o, none⟩) (by first | omega | (simp [go_sem]; omega) | simp [go_sem])
  have f4_4 := fun o => hb.frozen (p := ⟨b1, o, none⟩) (by first | omega | (simp [go_sem]; omega) | simp [go_sem])
  have s4_5 : b2 < w4.heap.size := Nat.lt_of_lt_of_le (by first | omega | (simp [go_sem]; omega) | simp [go_sem]) hb.size
  have k4_5 := fun o => hb.cell (p := ⟨b2, o, none⟩) (by first | omega | (simp [go_sem]; omega) | simp [go_sem])
  have f4_5 := fun o => hb.frozen (p := ⟨b2, o, none⟩) (by first | omega | (simp [go_sem]; omega) | simp [go_sem])
  have s4_6 : w3.heap.size < w4.heap.size := Nat.lt_of_lt_of_le (by first | omega | (simp [go_sem]; omega) | simp [go_sem]) hb.size
  have k4_6 := fun o => hb.cell (p := ⟨w3.heap.size, o, none⟩) (by first | omega | (simp [go_sem]; omega) | simp [go_sem])
  have f4_6 := fun o => hb.frozen (p := ⟨w3.heap.size, o, none⟩) (by first | omega | (simp [go_sem]; omega) | simp [go_sem])
  clear hb
  clear d9
  go_wp2_with fail
  (with_reducible refine (d10.out _).mono ?_)
  rintro e w5 ⟨rfl, hb⟩
  have H5 : Below w.heap.size w w5 := by
    refine Below.trans ?_ (hb.mono ?_)
    · repeat (first | with_reducible assumption | with_reducible exact Below.refl _ _ | with_reducible refine Below.setCell ?_ (by first | omega | (simp [go_sem]; omega) | simp [go_sem]) _ | with_reducible refine Below.alloc ?_ (by first | omega | (simp [go_sem]; omega) | simp [go_sem]) _ | with_reducible refine below_grow ?_ (by first | omega | (simp [go_sem]; omega) | simp [go_sem]) _ _ | with_reducible refine Below.drew ?_)
    · first | omega | (simp [go_sem]; omega) | simp [go_sem]
  have S5 : w.heap.size ≤ w5.heap.size := H5.size
  have s5_0 : 0 < w5.heap.size := Nat.lt_of_lt_of_le (by first | omega | (simp [go_sem]; omega) | simp [go_sem]) hb.size
  have k5_0 := fun o => hb.cell (p := ⟨0, o, none⟩) (by first | omega | (simp [go_sem]; omega) | simp [go_sem])
  have f5_0 := fun o => hb.frozen (p := ⟨0, o, none⟩) (by first | omega | (simp [go_sem]; omega) | simp [go_sem])
  have s5_1 : w.heap.size < w5.heap.size := Nat.lt_of_lt_of_le (by first | omega | (simp [go_sem]; omega) | simp [go_sem]) hb.size
  have k5_1 := fun o => hb.cell (p := ⟨w.heap.size, o, none⟩) (by first | omega | (simp [go_sem]; omega) | simp [go_sem])
  have f5_1 := fun o => hb.frozen (p := ⟨w.heap.size, o, none⟩) (by first | omega | (simp [go_sem]; omega) | simp [go_sem])
  have s5_2 : w.heap.size + 1 < w5.heap.size := Nat.lt_of_lt_of_le (by first | omega | (simp [go_sem]; omega) | simp [go_sem]) hb.size
  have k5_2 := fun o => hb.cell (p := ⟨w.heap.size + 1, o, none⟩) (by first | omega | (simp [go_sem]; omega) | simp [go_sem])
  have f5_2 := fun o => hb.frozen (p := ⟨w.heap.size + 1, o, none⟩) (by first | omega | (simp [go_sem]; omega) | simp [go_sem])
  have s5_3 : w.heap.size + 1 + 1 < w5.heap.size := Nat.lt_of_lt_of_le (by first | omega | (simp [go_sem]; omega) | simp [go_sem]) hb.size
  have k5_3 := fun o => hb.cell (p := ⟨w.heap.size + 1 + 1, o, none⟩) (by first | omega | (simp [go_sem]; omega) | simp [go_sem])
  have f5_3 := fun o => hb.frozen (p := ⟨w.heap.size + 1 + 1, o, none⟩) (by first | omega | (simp [go_sem]; omega) | simp [go_sem])
  have s5_4 : b1 < w5.heap.size := Nat.lt_of_lt_of_le (by first | omega | (simp [go_sem]; omega) | simp [go_sem]) hb.size
  have k5_4 := fun o => hb.cell (p := ⟨b1, o, none⟩) (by first | omega | (simp [go_sem]; omega) | simp [go_sem])
  have f5_4 := fun o => hb.frozen (p := ⟨b1, o, none⟩) (by first | omega | (simp [go_sem]; omega) | simp [go_sem])
  have s5_5 : b2 < w5.heap.size := Nat.lt_of_lt_of_le (by first | omega | (simp [go_sem]; omega) | simp [go_sem]) hb.size
  have k5_5 := fun o => hb.cell (p := ⟨b2, o, none⟩) (by first | omega | (simp [go_sem]; omega) | simp [go_sem])
  have f5_5 := fun o => hb.frozen (p := ⟨b2, o, none⟩) (by first | omega | (simp [go_sem]; omega) | simp [go_sem])
  have s5_6 : w3.heap.size < w5.heap.size := Nat.lt_of_lt_of_le (by first | omega | (simp [go_sem]; omega) | simp [go_sem]) hb.size
  have k5_6 := fun o => hb.cell (p := ⟨w3.heap.size, o, none⟩) (by first | omega | (simp [go_sem]; omega) | simp [go_sem])
  have f5_6 := fun o => hb.frozen (p := ⟨w3.heap.size, o, none⟩) (by first | omega | (simp [go_sem]; omega) | simp [go_sem])
  clear hb
  clear d10
  go_wp2_with fail
  (with_reducible refine (d11.out _).mono ?_)
  rintro e w6 ⟨rfl, hb⟩
  have H6 : Below w.heap.size w w6 := by
    refine Below.trans ?_ (hb.mono ?_)
    · repeat (first | with_reducible assumption | with_reducible exact Below.refl _ _ | with_reducible refine Below.setCell ?_ (by first | omega | (simp [go_sem]; omega) | simp [go_sem]) _ | with_reducible refine Below.alloc ?_ (by first | omega | (simp [go_sem]; omega) | simp [go_sem]) _ | with_reducible refine below_grow ?_ (by first | omega | (simp [go_sem]; omega) | simp [go_sem]) _ _ | with_reducible refine Below.drew ?_)
    · first | omega | (simp [go_sem]; omega) | simp [go_sem]
  have S6 : w.heap.size ≤ w6.heap.size := H6.size
  have s6_0 : 0 < w6.heap.size := Nat.lt_of_lt_of_le (by first | omega | (simp [go_sem]; omega) | simp [go_sem]) hb.size
  have k6_0 := fun o => hb.cell (p := ⟨0, o, none⟩) (by first | omega | (simp [go_sem]; omega) | simp [go_sem])
  have f6_0 := fun o => hb.frozen (p := ⟨0, o, none⟩) (by first | omega | (simp [go_sem]; omega) | simp [go_sem])
  have s6_1 : w.heap.size < w6.heap.size := Nat.lt_of_lt_of_le (by first | omega | (simp [go_sem]; omega) | simp [go_sem]) hb.size
  have k6_1 := fun o => hb.cell (p := ⟨w.heap.size, o, none⟩) (by first | omega | (simp [go_sem]; omega) | simp [go_sem])
  have f6_1 := fun o => hb.frozen (p := ⟨w.heap.size, o, none⟩) (by first | omega | (simp [go_sem]; omega) | simp [go_sem])
  have s6_2 : w.heap.size + 1 < w6.heap.size := Nat.lt_of_lt_of_le (by first | omega | (simp [go_sem]; omega) | simp [go_sem]) hb.size
  have k6_2 := fun o => hb.cell (p := ⟨w.heap.size + 1, o, none⟩) (by first | omega | (simp [go_sem]; omega) | simp [go_sem])
  have f6_2 := fun o => hb.frozen (p := ⟨w.heap.size + 1, o, none⟩) (by first | omega | (simp [go_sem]; omega) | simp [go_sem])
  have s6_3 : w.heap.size + 1 + 1 < w6.heap.size := Nat.lt_of_lt_of_le (by first | omega | (simp [go_sem]; omega) | simp [go_sem]) hb.size
  have k6_3 := fun o => hb.cell (p := ⟨w.heap.size + 1 + 1, o, none⟩) (by first | omega | (simp [go_sem]; omega) | simp [go_sem])
  have f6_3 := fun o => hb.frozen (p := ⟨w.heap.size + 1 + 1, o, none⟩) (by first | omega | (simp [go_sem]; omega) | simp [go_sem])
  have s6_4 : b1 < w6.heap.size := Nat.lt_of_lt_of_le (by first | omega | (simp [go_sem]; omega) | simp [go_sem]) hb.size
  have k6_4 := fun o => hb.cell (p := ⟨b1, o, none⟩) (by first | omega | (simp [go_sem]; omega) | simp [go_sem])
  have f6_4 := fun o => hb.frozen (p := ⟨b1, o, none⟩) (by first | omega | (simp [go_sem]; omega) | simp [go_sem])
  have s6_5 : b2 < w6.heap.size := Nat.lt_of_lt_of_le (by first | omega | (simp [go_sem]; omega) | simp [go_sem]) hb.size
  have k6_5 := fun o => hb.cell (p := ⟨b2, o, none⟩) (by first | omega | (simp [go_sem]; omega) | simp [go_sem])
  have f6_5 := fun o => hb.frozen (p := ⟨b2, o, none⟩) (by first | omega | (simp [go_sem]; omega) | simp [go_sem])
  have s6_6 : w3.heap.size < w6.heap.size := Nat.lt_of_lt_of_le (by first | omega | (simp [go_sem]; omega) | simp [go_sem]) hb.size
  have k6_6 := fun o => hb.cell (p := ⟨w3.heap.size, o, none⟩) (by first | omega | (simp [go_sem]; omega) | simp [go_sem])
  have f6_6 := fun o => hb.frozen (p := ⟨w3.heap.size, o, none⟩) (by first | omega | (simp [go_sem]; omega) | simp [go_sem])
  clear hb
  clear d11
  go_wp2_with fail
  refine wp_any (fun W' => Below w.heap.size w W' ∧ (0 < W'.heap.size ∧ W'.cell? ⟨0, 0, none⟩ = some (.bool true) ∧ W'.cell? ⟨0, 1, none⟩ = some (.bool false) ∧ W'.cell? ⟨0, 2, none⟩ = some (.bool true) ∧ W'.cell? ⟨0, 3, none⟩ = some (.bool false)) ∧ (w.heap.size < W'.heap.size ∧ (∀ o, W'.frozen? ⟨w.heap.size, o, none⟩ = false) ∧ W'.cell? ⟨w.heap.size, 0, none⟩ = some (.int .i64 S) ∧ W'.cell? ⟨w.heap.size, 1, none⟩ = some (.int .i64 R) ∧ W'.cell? ⟨w.heap.size, 2, none⟩ = some (.int .i64 W) ∧ W'.cell? ⟨w.heap.size, 3, none⟩ = some (.int .i64 F) ∧ W'.cell? ⟨w.heap.size, 4, none⟩ = some (.int .i64 T) ∧ W'.cell? ⟨w.heap.size, 5, none⟩ = some (.int .i64 L)) ∧ (w.heap.size + 1 < W'.heap.size ∧ (∀ o, W'.frozen? ⟨w.heap.size + 1, o, none⟩ = false)) ∧ (w.heap.size + 1 + 1 < W'.heap.size ∧ (∀ o, W'.frozen? ⟨w.heap.size + 1 + 1, o, none⟩ = false) ∧ W'.cell? ⟨w.heap.size + 1 + 1, 0, none⟩ = some (.int .i64 0) ∧ W'.cell? ⟨w.heap.size + 1 + 1, 1, none⟩ = some (.slice none 0 0) ∧ W'.cell? ⟨w.heap.size + 1 + 1, 2, none⟩ = some (.int .i64 0) ∧ W'.cell? ⟨w.heap.size + 1 + 1, 3, none⟩ = some (.slice none 0 0)) ∧ (b1 < W'.heap.size ∧ (∀ o, W'.frozen? ⟨b1, o, none⟩ = false) ∧ W'.cell? ⟨b1, 0, none⟩ = some (.int .i64 (Rat.num be)) ∧ W'.cell? ⟨b1, 1, none⟩ = some (.slice none 0 0) ∧ W'.cell? ⟨b1, 2, none⟩ = some (.int .i64 ((Rat.den be : Nat) : Int)) ∧ W'.cell? ⟨b1, 3, none⟩ = some (.slice none 0 0)) ∧ (b2 < W'.heap.size ∧ (∀ o, W'.frozen? ⟨b2, o, none⟩ = false) ∧ W'.cell? ⟨b2, 0, none⟩ = some (.int .i64 (Rat.num la)) ∧ W'.cell? ⟨b2, 1, none⟩ = some (.slice none 0 0) ∧ W'.cell? ⟨b2, 2, none⟩ = some (.int .i64 ((Rat.den la : Nat) : Int)) ∧ W'.cell? ⟨b2, 3, none⟩ = some (.slice none 0 0)) ∧ (w3.heap.size < W'.heap.size ∧ (∀ o, W'.frozen? ⟨w3.heap.size, o, none⟩ = false) ∧ W'.cell? ⟨w3.heap.size, 0, none⟩ = some (.int .i64 (Rat.num dq)) ∧ W'.cell? ⟨w3.heap.size, 1, none⟩ = some (.slice none 0 0) ∧ W'.cell? ⟨w3.heap.size, 2, none⟩ = some (.int .i64 ((Rat.den dq : Nat) : Int)) ∧ W'.cell? ⟨w3.heap.size, 3, none⟩ = some (.slice none 0 0))) ?_ ?_
  · refine ⟨?_, ⟨?_, ?_, ?_, ?_, ?_⟩, ⟨?_, ?_, ?_, ?_, ?_, ?_, ?_, ?_⟩, ⟨?_, ?_⟩, ⟨?_, ?_, ?_, ?_, ?_, ?_⟩, ⟨?_, ?_, ?_, ?_, ?_, ?_⟩, ⟨?_, ?_, ?_, ?_, ?_, ?_⟩, ⟨?_, ?_, ?_, ?_, ?_, ?_⟩⟩
    · repeat (first | with_reducible assumption | with_reducible exact Below.refl _ _ | with_reducible refine Below.setCell ?_ (by first | omega | (simp [go_sem]; omega) | simp [go_sem]) _ | with_reducible refine Below.alloc ?_ (by first | omega | (simp [go_sem]; omega) | simp [go_sem]) _ | with_reducible refine below_grow ?_ (by first | omega | (simp [go_sem]; omega) | simp [go_sem]) _ _ | with_reducible refine Below.drew ?_)
    all_goals first | omega | (simp [go_sem]; omega) | (simp (maxDischargeDepth := 6) [*, go_sem]; done)
  rintro w7 ⟨H7, ⟨s7_0, k7_0_0, k7_0_1, k7_0_2, k7_0_3⟩, ⟨s7_1, f7_1, k7_1_0, k7_1_1, k7_1_2, k7_1_3, k7_1_4, k7_1_5⟩, ⟨s7_2, f7_2⟩, ⟨s7_3, f7_3, k7_3_0, k7_3_1, k7_3_2, k7_3_3⟩, ⟨s7_4, f7_4, k7_4_0, k7_4_1, k7_4_2, k7_4_3⟩, ⟨s7_5, f7_5, k7_5_0, k7_5_1, k7_5_2, k7_5_3⟩, ⟨s7_6, f7_6, k7_6_0, k7_6_1, k7_6_2, k7_6_3⟩⟩
  have S7 : w.heap.size ≤ w7.heap.size := H7.size
  refine wp_region_tail 6 (by kernel_rfl) (by kernel_rfl) (by kernel_rfl) ?_
  simp only [List.take_succ_cons, List.take_zero, List.drop_succ_cons, List.drop_zero, List.take_nil, List.drop_nil]
  repeat (quiet_step (first | with_reducible exact Calls.regrown_of (d12.out _) | with_reducible exact Calls.regrown_of (d13.out _) | with_reducible exact Calls.regrown_of (d14.out _)))
  refine wpQuiet_nil ?_
  intro w1 hw1
  obtain ⟨⟨dq, osq⟩, rfl⟩ := hw1
  clear d12 d13 d14
  go_wp2_with fail
  refine wp_any (fun W' => Below w.heap.size w W' ∧ (0 < W'.heap.size ∧ W'.cell? ⟨0, 0, none⟩ = some (.bool true) ∧ W'.cell? ⟨0, 1, none⟩ = some (.bool false) ∧ W'.cell? ⟨0, 2, none⟩ = some (.bool true) ∧ W'.cell? ⟨0, 3, none⟩ = some (.bool false)) ∧ (w.heap.size < W'.heap.size ∧ (∀ o, W'.frozen? ⟨w.heap.size, o, none⟩ = false) ∧ W'.cell? ⟨w.heap.size, 0, none⟩ = some (.int .i64 S) ∧ W'.cell? ⟨w.heap.size, 1, none⟩ = some (.int .i64 R) ∧ W'.cell? ⟨w.heap.size, 2, none⟩ = some (.int .i64 W) ∧ W'.cell? ⟨w.heap.size, 3, none⟩ = some (.int .i64 F) ∧ W'.cell? ⟨w.heap.size, 4, none⟩ = some (.int .i64 T) ∧ W'.cell? ⟨w.heap.size, 5, none⟩ = some (.int .i64 L)) ∧ (w.heap.size + 1 < W'.heap.size ∧ (∀ o, W'.frozen? ⟨w.heap.size + 1, o, none⟩ = false)) ∧ (w.heap.size + 1 + 1 < W'.heap.size ∧ (∀ o, W'.frozen? ⟨w.heap.size + 1 + 1, o, none⟩ = false) ∧ W'.cell? ⟨w.heap.size + 1 + 1, 0, none⟩ = some (.int .i64 0) ∧ W'.cell? ⟨w.heap.size + 1 + 1, 1, none⟩ = some (.slice none 0 0) ∧ W'.cell? ⟨w.heap.size + 1 + 1, 2, none⟩ = some (.int .i64 0) ∧ W'.cell? ⟨w.heap.size + 1 + 1, 3, none⟩ = some (.slice none 0 0)) ∧ (b1 < W'.heap.size ∧ (∀ o, W'.frozen? ⟨b1, o, none⟩ = false) ∧ W'.cell? ⟨b1, 0, none⟩ = some (.int .i64 (Rat.num be)) ∧ W'.cell? ⟨b1, 1, none⟩ = some (.slice none 0 0) ∧ W'.cell? ⟨b1, 2, none⟩ = some (.int .i64 ((Rat.den be : Nat) : Int)) ∧ W'.cell? ⟨b1, 3, none⟩ = some (.slice none 0 0)) ∧ (b2 < W'.heap.size ∧ (∀ o, W'.frozen? ⟨b2, o, none⟩ = false) ∧ W'.cell? ⟨b2, 0, none⟩ = some (.int .i64 (Rat.num la)) ∧ W'.cell? ⟨b2, 1, none⟩ = some (.slice none 0 0) ∧ W'.cell? ⟨b2, 2, none⟩ = some (.int .i64 ((Rat.den la : Nat) : Int)) ∧ W'.cell? ⟨b2, 3, none⟩ = some (.slice none 0 0)) ∧ (w3.heap.size < W'.heap.size ∧ (∀ o, W'.frozen? ⟨w3.heap.size, o, none⟩ = false) ∧ W'.cell? ⟨w3.heap.size, 0, none⟩ = some (.int .i64 (Rat.num l0)) ∧ W'.cell? ⟨w3.heap.size, 1, none⟩ = some (.slice none 0 0) ∧ W'.cell? ⟨w3.heap.size, 2, none⟩ = some (.int .i64 ((Rat.den l0 : Nat) : Int)) ∧ W'.cell? ⟨w3.heap.size, 3, none⟩ = some (.slice none 0 0))) ?_ ?_
  · refine ⟨?_, ⟨?_, ?_, ?_, ?_, ?_⟩, ⟨?_, ?_, ?_, ?_, ?_, ?_, ?_, ?_⟩, ⟨?_, ?_⟩, ⟨?_, ?_, ?_, ?_, ?_, ?_⟩, ⟨?_, ?_, ?_, ?_, ?_, ?_⟩, ⟨?_, ?_, ?_, ?_, ?_, ?_⟩, ⟨?_, ?_, ?_, ?_, ?_, ?_⟩⟩
    · repeat (first | with_reducible assumption | with_reducible exact Below.refl _ _ | with_reducible refine Below.setCell ?_ (by first | omega | (simp [go_sem]; omega) | simp [go_sem]) _ | with_reducible refine Below.alloc ?_ (by first | omega | (simp [go_sem]; omega) | simp [go_sem]) _ | with_reducible refine below_grow ?_ (by first | omega | (simp [go_sem]; omega) | simp [go_sem]) _ _ | with_reducible refine Below.drew ?_)
    all_goals first | omega | (simp [go_sem]; omega) | (simp (maxDischargeDepth := 6) [*, go_sem]; done)
  rintro w8 ⟨H8, ⟨s8_0, k8_0_0, k8_0_1, k8_0_2, k8_0_3⟩, ⟨s8_1, f8_1, k8_1_0, k8_1_1, k8_1_2, k8_1_3, k8_1_4, k8_1_5⟩, ⟨s8_2, f8_2⟩, ⟨s8_3, f8_3, k8_3_0, k8_3_1, k8_3_2, k8_3_3⟩, ⟨s8_4, f8_4, k8_4_0, k8_4_1, k8_4_2, k8_4_3⟩, ⟨s8_5, f8_5, k8_5_0, k8_5_1, k8_5_2, k8_5_3⟩, ⟨s8_6, f8_6, k8_6_0, k8_6_1, k8_6_2, k8_6_3⟩⟩
  have S8 : w.heap.size ≤ w8.heap.size := H8.size
  go_step3
  go_wp2_with fail
  refine wp_loop_rounds 4 ?_
  rw [rounds_succ]
  go_wp2_with fail
  (with_reducible refine (d4.out _).mono ?_)
  rintro e w9 ⟨rfl, hb⟩
  have H9 : Below w.heap.size w w9 := by
    refine Below.trans ?_ (hb.mono ?_)
    · repeat (first | with_reducible assumption | with_reducible exact Below.refl _ _ | with_reducible refine Below.setCell ?_ (by first | omega | (simp [go_sem]; omega) | simp [go_sem]) _ | with_reducible refine Below.alloc ?_ (by first | omega | (simp [go_sem]; omega) | simp [go_sem]) _ | with_reducible refine below_grow ?_ (by first | omega | (simp [go_sem]; omega) | simp [go_sem]) _ _ | with_reducible refine Below.drew ?_)
    · first | omega | (simp [go_sem]; omega) | simp [go_sem]
  have S9 : w.heap.size ≤ w9.heap.size := H9.size
  have s9_0 : 0 < w9.heap.size := Nat.lt_of_lt_of_le (by first | omega | (simp [go_sem]; omega) | simp [go_sem]) hb.size
  have k9_0 := fun o => hb.cell (p := ⟨0, o, none⟩) (by first | omega | (simp [go_sem]; omega) | simp [go_sem])
  have f9_0 := fun o => hb.frozen (p := ⟨0, o, none⟩) (by first | omega | (simp [go_sem]; omega) | simp [go_sem])
  have s9_1 : w.heap.size < w9.heap.size := Nat.lt_of_lt_of_le (by first | omega | (simp [go_sem]; omega) | simp [go_sem]) hb.size
  have k9_1 := fun o => hb.cell (p := ⟨w.heap.size, o, none⟩) (by first | omega | (simp [go_sem]; omega) | simp [go_sem])
  have f9_1 := fun o => hb.frozen (p := ⟨w.heap.size, o, none⟩) (by first | omega | (simp [go_sem]; omega) | simp [go_sem])
  have s9_2 : w.heap.size + 1 < w9.heap.size := Nat.lt_of_lt_of_le (by first | omega | (simp [go_sem]; omega) | simp [go_sem]) hb.size
  have k9_2 := fun o => hb.cell (p := ⟨w.heap.size + 1, o, none⟩) (by first | omega | (simp [go_sem]; omega) | simp [go_sem])
  have f9_2 := fun o => hb.frozen (p := ⟨w.heap.size + 1, o, none⟩) (by first | omega | (simp [go_sem]; omega) | simp [go_sem])
  have s9_3 : w.heap.size + 1 + 1 < w9.heap.size := Nat.lt_of_lt_of_le (by first | omega | (simp [go_sem]; omega) | simp [go_sem]) hb.size
  have k9_3 := fun o => hb.cell (p := ⟨w.heap.size + 1 + 1, o, none⟩) (by first | omega | (simp [go_sem]; omega) | simp [go_sem])
  have f9_3 := fun o => hb.frozen (p := ⟨w.heap.size + 1 + 1, o, none⟩) (by first | omega | (simp [go_sem]; omega) | simp [go_sem])
  have s9_4 : b1 < w9.heap.size := Nat.lt_of_lt_of_le (by first | omega | (simp [go_sem]; omega) | simp [go_sem]) hb.size
  have k9_4 := fun o => hb.cell (p := ⟨b1, o, none⟩) (by first | omega | (simp [go_sem]; omega) | simp [go_sem])
  have f9_4 := fun o => hb.frozen (p := ⟨b1, o, none⟩) (by first | omega | (simp [go_sem]; omega) | simp [go_sem])
  have s9_5 : b2 < w9.heap.size := Nat.lt_of_lt_of_le (by first | omega | (simp [go_sem]; omega) | simp [go_sem]) hb.size
  have k9_5 := fun o => hb.cell (p := ⟨b2, o, none⟩) (by first | omega | (simp [go_sem]; omega) | simp [go_sem])
  have f9_5 := fun o => hb.frozen (p := ⟨b2, o, none⟩) (by first | omega | (simp [go_sem]; omega) | simp [go_sem])
  have s9_6 : w3.heap.size < w9.heap.size := Nat.lt_of_lt_of_le (by first | omega | (simp [go_sem]; omega) | simp [go_sem]) hb.size
  have k9_6 := fun o => hb.cell (p := ⟨w3.heap.size, o, none⟩) (by first | omega | (simp [go_sem]; omega) | simp [go_sem])
  have f9_6 := fun o => hb.frozen (p := ⟨w3.heap.size, o, none⟩) (by first | omega | (simp [go_sem]; omega) | simp [go_sem])
  clear hb
  go_wp2_with fail
  (with_reducible refine (d15.out _).mono ?_)
  rintro e w10 ⟨rfl, hb⟩
  have H10 : Below w.heap.size w w10 := by
    refine Below.trans ?_ (hb.mono ?_)
    · repeat (first | with_reducible assumption | with_reducible exact Below.refl _ _ | with_reducible refine Below.setCell ?_ (by first | omega | (simp [go_sem]; omega) | simp [go_sem]) _ | with_reducible refine Below.alloc ?_ (by first | omega | (simp [go_sem]; omega) | simp [go_sem]) _ | with_reducible refine below_grow ?_ (by first | omega | (simp [go_sem]; omega) | simp [go_sem]) _ _ | with_reducible refine Below.drew ?_)
    · first | omega | (simp [go_sem]; omega) | simp [go_sem]
  have S10 : w.heap.size ≤ w10.heap.size := H10.size
  have s10_0 : 0 < w10.heap.size := Nat.lt_of_lt_of_le (by first | omega | (simp [go_sem]; omega) | simp [go_sem]) hb.size
  have k10_0 := fun o => hb.cell (p := ⟨0, o, none⟩) (by first | omega | (simp [go_sem]; omega) | simp [go_sem])
  have f10_0 := fun o => hb.frozen (p := ⟨0, o, none⟩) (by first | omega | (simp [go_sem]; omega) | simp [go_sem])
  have s10_1 : w.heap.size < w10.heap.size := Nat.lt_of_lt_of_le (by first | omega | (simp [go_sem]; omega) | simp [go_sem]) hb.size
  have k10_1 := fun o => hb.cell (p := ⟨w.heap.size, o, none⟩) (by first | omega | (simp [go_sem]; omega) | simp [go_sem])
  have f10_1 := fun o => hb.frozen (p := ⟨w.heap.size, o, none⟩) (by first | omega | (simp [go_sem]; omega) | simp [go_sem])
  have s10_2 : w.heap.size + 1 < w10.heap.size := Nat.lt_of_lt_of_le (by first | omega | (simp [go_sem]; omega) | simp [go_sem]) hb.size
  have k10_2 := fun o => hb.cell (p := ⟨w.heap.size + 1, o, none⟩) (by first | omega | (simp [go_sem]; omega) | simp [go_sem])
  have f10_2 := fun o => hb.frozen (p := ⟨w.heap.size + 1, o, none⟩) (by first | omega | (simp [go_sem]; omega) | simp [go_sem])
  have s10_3 : w.heap.size + 1 + 1 < w10.heap.size := Nat.lt_of_lt_of_le (by first | omega | (simp [go_sem]; omega) | simp [go_sem]) hb.size
  have k10_3 := fun o => hb.cell (p := ⟨w.heap.size + 1 + 1, o, none⟩) (by first | omega | (simp [go_sem]; omega) | simp [go_sem])
  have f10_3 := fun o => hb.frozen (p := ⟨w.heap.size + 1 + 1, o, none⟩) (by first | omega | (simp [go_sem]; omega) | simp [go_sem])
  have s10_4 : b1 < w10.heap.size := Nat.lt_of_lt_of_le (by first | omega | (simp [go_sem]; omega) | simp [go_sem]) hb.size
  have k10_4 := fun o => hb.cell (p := ⟨b1, o, none⟩) (by first | omega | (simp [go_sem]; omega) | simp [go_sem])
  have f10_4 := fun o => hb.frozen (p := ⟨b1, o, none⟩) (by first | omega | (simp [go_sem]; omega) | simp [go_sem])
  have s10_5 : b2 < w10.heap.size := Nat.lt_of_lt_of_le (by first | omega | (simp [go_sem]; omega) | simp [go_sem]) hb.size
  have k10_5 := fun o => hb.cell (p := ⟨b2, o, none⟩) (by first | omega | (simp [go_sem]; omega) | simp [go_sem])
  have f10_5 := fun o => hb.frozen (p := ⟨b2, o, none⟩) (by first | omega | (simp [go_sem]; omega) | simp [go_sem])
  have s10_6 : w3.heap.size < w10.heap.size := Nat.lt_of_lt_of_le (by first | omega | (simp [go_sem]; omega) | simp [go_sem]) hb.size
  have k10_6 := fun o => hb.cell (p := ⟨w3.heap.size, o, none⟩) (by first | omega | (simp [go_sem]; omega) | simp [go_sem])
  have f10_6 := fun o => hb.frozen (p := ⟨w3.heap.size, o, none⟩) (by first | omega | (simp [go_sem]; omega) | simp [go_sem])
  have s10_7 : w9.heap.size < w10.heap.size := Nat.lt_of_lt_of_le (by first | omega | (simp [go_sem]; omega) | simp [go_sem]) hb.size
  have k10_7 := fun o => hb.cell (p := ⟨w9.heap.size, o, none⟩) (by first | omega | (simp [go_sem]; omega) | simp [go_sem])
  have f10_7 := fun o => hb.frozen (p := ⟨w9.heap.size, o, none⟩) (by first | omega | (simp [go_sem]; omega) | simp [go_sem])
  clear hb
  by_cases c1 : l0 < be
  · have hc := rcmp_lt c1
    rw [if_pos c1] at hpt
    subst hpt
    go_wp2_with fail
    refine wp_region_tail 5 (by kernel_rfl) (by kernel_rfl) (by kernel_rfl) ?_
    simp only [List.take_succ_cons, List.take_zero, List.drop_succ_cons, List.drop_zero, List.take_nil, List.drop_nil]
    repeat (quiet_step (first | fail))
    refine wpQuiet_nil ?_
    intro w1 hw1
    obtain ⟨⟨dq, osq⟩, rfl⟩ := hw1
    go_wp2_with fail
    rw [Exit.noGoto_ret]
    refine bodyPost_ret (v := .tuple #[.int .i64 ls, .int .i64 0, .agg #[.int .i64 (Rat.num l0), .slice none 0 0, .int .i64 ((Rat.den l0 : Nat) : Int), .slice none 0 0]]) (by simp (maxDischargeDepth := 4) [*, results, Tryz.results61, go_sem]) rfl ⟨rfl, ?_⟩
    repeat (first | with_reducible assumption | with_reducible exact Below.refl _ _ | with_reducible refine Below.setCell ?_ (by first | omega | (simp [go_sem]; omega) | simp [go_sem]) _ | with_reducible refine Below.alloc ?_ (by first | omega | (simp [go_sem]; omega) | simp [go_sem]) _ | with_reducible refine below_grow ?_ (by first | omega | (simp [go_sem]; omega) | simp [go_sem]) _ _ | with_reducible refine Below.drew ?_)
  have hc0 := rcmp_ge c1
  go_wp2_with fail
  (with_reducible refine (d16.out _).mono ?_)
  rintro e w11 ⟨rfl, hb⟩
  have H11 : Below w.heap.size w w11 := by
    refine Below.trans ?_ (hb.mono ?_)
    · repeat (first | with_reducible assumption | with_reducible exact Below.refl _ _ | with_reducible refine Below.setCell ?_ (by first | omega | (simp [go_sem]; omega) | simp [go_sem]) _ | with_reducible refine Below.alloc ?_ (by first | omega | (simp [go_sem]; omega) | simp [go_sem]) _ | with_reducible refine below_grow ?_ (by first | omega | (simp [go_sem]; omega) | simp [go_sem]) _ _ | with_reducible refine Below.drew ?_)
    · first | omega | (simp [go_sem]; omega) | simp [go_sem]
  have S11 : w.heap.size ≤ w11.heap.size := H11.size
  have s11_0 : 0 < w11.heap.size := Nat.lt_of_lt_of_le (by first | omega | (simp [go_sem]; omega) | simp [go_sem]) hb.size
  have k11_0 := fun o => hb.cell (p := ⟨0, o, none⟩) (by first | omega | (simp [go_sem]; omega) | simp [go_sem])
  have f11_0 := fun o => hb.frozen (p := ⟨0, o, none⟩) (by first | omega | (simp [go_sem]; omega) | simp [go_sem])
  have s11_1 : w.heap.size < w11.heap.size := Nat.lt_of_lt_of_le (by first | omega | (simp [go_sem]; omega) | simp [go_sem]) hb.size
  have k11_1 := fun o => hb.cell (p := ⟨w.heap.size, o, none⟩) (by first | omega | (simp [go_sem]; omega) | simp [go_sem])
  have f11_1 := fun o => hb.frozen (p := ⟨w.heap.size, o, none⟩) (by first | omega | (simp [go_sem]; omega) | simp [go_sem])
  have s11_2 : w.heap.size + 1 < w11.heap.size := Nat.lt_of_lt_of_le (by first | omega | (simp [go_sem]; omega) | simp [go_sem]) hb.size
  have k11_2 := fun o => hb.cell (p := ⟨w.heap.size + 1, o, none⟩) (by first | omega | (simp [go_sem]; omega) | simp [go_sem])
  have f11_2 := fun o => hb.frozen (p := ⟨w.heap.size + 1, o, none⟩) (by first | omega | (simp [go_sem]; omega) | simp [go_sem])
  have s11_3 : w.heap.size + 1 + 1 < w11.heap.size := Nat.lt_of_lt_of_le (by first | omega | (simp [go_sem]; omega) | simp [go_sem]) hb.size
  have k11_3 := fun o => hb.cell (p := ⟨w.heap.size + 1 + 1, o, none⟩) (by first | omega | (simp [go_sem]; omega) | simp [go_sem])
  have f11_3 := fun o => hb.frozen (p := ⟨w.heap.size + 1 + 1, o, none⟩) (by first | omega | (simp [go_sem]; omega) | simp [go_sem])
  have s11_4 : b1 < w11.heap.size := Nat.lt_of_lt_of_le (by first | omega | (simp [go_sem]; omega) | simp [go_sem]) hb.size
  have k11_4 := fun o => hb.cell (p := ⟨b1, o, none⟩) (by first | omega | (simp [go_sem]; omega) | simp [go_sem])
  have f11_4 := fun o => hb.frozen (p := ⟨b1, o, none⟩) (by first | omega | (simp [go_sem]; omega) | simp [go_sem])
  have s11_5 : b2 < w11.heap.size := Nat.lt_of_lt_of_le (by first | omega | (simp [go_sem]; omega) | simp [go_sem]) hb.size
  have k11_5 := fun o => hb.cell (p := ⟨b2, o, none⟩) (by first | omega | (simp [go_sem]; omega) | simp [go_sem])
  have f11_5 := fun o => hb.frozen (p := ⟨b2, o, none⟩) (by first | omega | (simp [go_sem]; omega) | simp [go_sem])
  have s11_6 : w3.heap.size < w11.heap.size := Nat.lt_of_lt_of_le (by first | omega | (simp [go_sem]; omega) | simp [go_sem]) hb.size
  have k11_6 := fun o => hb.cell (p := ⟨w3.heap.size, o, none⟩) (by first | omega | (simp [go_sem]; omega) | simp [go_sem])
  have f11_6 := fun o => hb.frozen (p := ⟨w3.heap.size, o, none⟩) (by first | omega | (simp [go_sem]; omega) | simp [go_sem])
  have s11_7 : w9.heap.size < w11.heap.size := Nat.lt_of_lt_of_le (by first | omega | (simp [go_sem]; omega) | simp [go_sem]) hb.size
  have k11_7 := fun o => hb.cell (p := ⟨w9.heap.size, o, none⟩) (by first | omega | (simp [go_sem]; omega) | simp [go_sem])
  have f11_7 := fun o => hb.frozen (p := ⟨w9.heap.size, o, none⟩) (by first | omega | (simp [go_sem]; omega) | simp [go_sem])
  clear hb
  go_wp2_with fail
  refine wp_any (fun W' => Below w.heap.size w W' ∧ (0 < W'.heap.size ∧ W'.cell? ⟨0, 0, none⟩ = some (.bool true) ∧ W'.cell? ⟨0, 1, none⟩ = some (.bool false) ∧ W'.cell? ⟨0, 2, none⟩ = some (.bool true) ∧ W'.cell? ⟨0, 3, none⟩ = some (.bool false)) ∧ (w.heap.size < W'.heap.size ∧ (∀ o, W'.frozen? ⟨w.heap.size, o, none⟩ = false) ∧ W'.cell? ⟨w.heap.size, 0, none⟩ = some (.int .i64 S) ∧ W'.cell? ⟨w.heap.size, 1, none⟩ = some (.int .i64 R) ∧ W'.cell? ⟨w.heap.size, 2, none⟩ = some (.int .i64 W) ∧ W'.cell? ⟨w.heap.size, 3, none⟩ = some (.int .i64 F) ∧ W'.cell? ⟨w.heap.size, 4, none⟩ = some (.int .i64 T) ∧ W'.cell? ⟨w.heap.size, 5, none⟩ = some (.int .i64 L)) ∧ (w.heap.size + 1 < W'.heap.size ∧ (∀ o, W'.frozen? ⟨w.heap.size + 1, o, none⟩ = false)) ∧ (w.heap.size + 1 + 1 < W'.heap.size ∧ (∀ o, W'.frozen? ⟨w.heap.size + 1 + 1, o, none⟩ = false) ∧ W'.cell? ⟨w.heap.size + 1 + 1, 0, none⟩ = some (.int .i64 0) ∧ W'.cell? ⟨w.heap.size + 1 + 1, 1, none⟩ = some (.slice none 0 0) ∧ W'.cell? ⟨w.heap.size + 1 + 1, 2, none⟩ = some (.int .i64 0) ∧ W'.cell? ⟨w.heap.size + 1 + 1, 3, none⟩ = some (.slice none 0 0)) ∧ (b1 < W'.heap.size ∧ (∀ o, W'.frozen? ⟨b1, o, none⟩ = false) ∧ W'.cell? ⟨b1, 0, none⟩ = some (.int .i64 (Rat.num be)) ∧ W'.cell? ⟨b1, 1, none⟩ = some (.slice none 0 0) ∧ W'.cell? ⟨b1, 2, none⟩ = some (.int .i64 ((Rat.den be : Nat) : Int)) ∧ W'.cell? ⟨b1, 3, none⟩ = some (.slice none 0 0)) ∧ (b2 < W'.heap.size ∧ (∀ o, W'.frozen? ⟨b2, o, none⟩ = false) ∧ W'.cell? ⟨b2, 0, none⟩ = some (.int .i64 (Rat.num la)) ∧ W'.cell? ⟨b2, 1, none⟩ = some (.slice none 0 0) ∧ W'.cell? ⟨b2, 2, none⟩ = some (.int .i64 ((Rat.den la : Nat) : Int)) ∧ W'.cell? ⟨b2, 3, none⟩ = some (.slice none 0 0)) ∧ (w3.heap.size < W'.heap.size ∧ (∀ o, W'.frozen? ⟨w3.heap.size, o, none⟩ = false) ∧ W'.cell? ⟨w3.heap.size, 0, none⟩ = some (.int .i64 (Rat.num (l0 - be))) ∧ W'.cell? ⟨w3.heap.size, 1, none⟩ = some (.slice none 0 0) ∧ W'.cell? ⟨w3.heap.size, 2, none⟩ = some (.int .i64 ((Rat.den (l0 - be) : Nat) : Int)) ∧ W'.cell? ⟨w3.heap.size, 3, none⟩ = some (.slice none 0 0)) ∧ (w9.heap.size < W'.heap.size ∧ (∀ o, W'.frozen? ⟨w9.heap.size, o, none⟩ = false))) ?_ ?_
  · refine ⟨?_, ⟨?_, ?_, ?_, ?_, ?_⟩, ⟨?_, ?_, ?_, ?_, ?_, ?_, ?_, ?_⟩, ⟨?_, ?_⟩, ⟨?_, ?_, ?_, ?_, ?_, ?_⟩, ⟨?_, ?_, ?_, ?_, ?_, ?_⟩, ⟨?_, ?_, ?_, ?_, ?_, ?_⟩, ⟨?_, ?_, ?_, ?_, ?_, ?_⟩, ⟨?_, ?_⟩⟩
    · repeat (first | with_reducible assumption | with_reducible exact Below.refl _ _ | with_reducible refine Below.setCell ?_ (by first | omega | (simp [go_sem]; omega) | simp [go_sem]) _ | with_reducible refine Below.alloc ?_ (by first | omega | (simp [go_sem]; omega) | simp [go_sem]) _ | with_reducible refine below_grow ?_ (by first | omega | (simp [go_sem]; omega) | simp [go_sem]) _ _ | with_reducible refine Below.drew ?_)
    all_goals first | omega | (simp [go_sem]; omega) | (simp (maxDischargeDepth := 6) [*, go_sem]; done)
  rintro w12 ⟨H12, ⟨s12_0, k12_0_0, k12_0_1, k12_0_2, k12_0_3⟩, ⟨s12_1, f12_1, k12_1_0, k12_1_1, k12_1_2, k12_1_3, k12_1_4, k12_1_5⟩, ⟨s12_2, f12_2⟩, ⟨s12_3, f12_3, k12_3_0, k12_3_1, k12_3_2, k12_3_3⟩, ⟨s12_4, f12_4, k12_4_0, k12_4_1, k12_4_2, k12_4_3⟩, ⟨s12_5, f12_5, k12_5_0, k12_5_1, k12_5_2, k12_5_3⟩, ⟨s12_6, f12_6, k12_6_0, k12_6_1, k12_6_2, k12_6_3⟩, ⟨s12_7, f12_7⟩⟩
  have S12 : w.heap.size ≤ w12.heap.size := H12.size
  try rw [rounds_succ]
  go_wp2_with fail
  (with_reducible refine (d4.out _).mono ?_)
  rintro e w13 ⟨rfl, hb⟩
  have H13 : Below w.heap.size w w13 := by
    refine Below.trans ?_ (hb.mono ?_)
    · repeat (first | with_reducible assumption | with_reducible exact Below.refl _ _ | with_reducible refine Below.setCell ?_ (by first | omega | (simp [go_sem]; omega) | simp [go_sem]) _ | with_reducible refine Below.alloc ?_ (by first | omega | (simp [go_sem]; omega) | simp [go_sem]) _ | with_reducible refine below_grow ?_ (by first | omega | (simp [go_sem]; omega) | simp [go_sem]) _ _ | with_reducible refine Below.drew ?_)
    · first | omega | (simp [go_sem]; omega) | simp [go_sem]
  have S13 : w.heap.size ≤ w13.heap.size := H13.size
  have s13_0 : 0 < w13.heap.size := Nat.lt_of_lt_of_le (by first | omega | (simp [go_sem]; omega) | simp [go_sem]) hb.size
  have k13_0 := fun o => hb.cell (p := ⟨0, o, none⟩) (by first | omega | (simp [go_sem]; omega) | simp [go_sem])
  have f13_0 := fun o => hb.frozen (p := ⟨0, o, none⟩) (by first | omega | (simp [go_sem]; omega) | simp [go_sem])
  have s13_1 : w.heap.size < w13.heap.size := Nat.lt_of_lt_of_le (by first | omega | (simp [go_sem]; omega) | simp [go_sem]) hb.size
  have k13_1 := fun o => hb.cell (p := ⟨w.heap.size, o, none⟩) (by first | omega | (simp [go_sem]; omega) | simp [go_sem])
  have f13_1 := fun o => hb.frozen (p := ⟨w.heap.size, o, none⟩) (by first | omega | (simp [go_sem]; omega) | simp [go_sem])
  have s13_2 : w.heap.size + 1 < w13.heap.size := Nat.lt_of_lt_of_le (by first | omega | (simp [go_sem]; omega) | simp [go_sem]) hb.size
  have k13_2 := fun o => hb.cell (p := ⟨w.heap.size + 1, o, none⟩) (by first | omega | (simp [go_sem]; omega) | simp [go_sem])
  have f13_2 := fun o => hb.frozen (p := ⟨w.heap.size + 1, o, none⟩) (by first | omega | (simp [go_sem]; omega) | simp [go_sem])
  have s13_3 : w.heap.size + 1 + 1 < w13.heap.size := Nat.lt_of_lt_of_le (by first | omega | (simp [go_sem]; omega) | simp [go_sem]) hb.size
  have k13_3 := fun o => hb.cell (p := ⟨w.heap.size + 1 + 1, o, none⟩) (by first | omega | (simp [go_sem]; omega) | simp [go_sem])
  have f13_3 := fun o => hb.frozen (p := ⟨w.heap.size + 1 + 1, o, none⟩) (by first | omega | (simp [go_sem]; omega) | simp [go_sem])
  have s13_4 : b1 < w13.heap.size := Nat.lt_of_lt_of_le (by first | omega | (simp [go_sem]; omega) | simp [go_sem]) hb.size
  have k13_4 := fun o => hb.cell (p := ⟨b1, o, none⟩) (by first | omega | (simp [go_sem]; omega) | simp [go_sem])
  have f13_4 := fun o => hb.frozen (p := ⟨b1, o, none⟩) (by first | omega | (simp [go_sem]; omega) | simp [go_sem])
  have s13_5 : b2 < w13.heap.size := Nat.lt_of_lt_of_le (by first | omega | (simp [go_sem]; omega) | simp [go_sem]) hb.size
  have k13_5 := fun o => hb.cell (p := ⟨b2, o, none⟩) (by first | omega | (simp [go_sem]; omega) | simp [go_sem])
  have f13_5 := fun o => hb.frozen (p := ⟨b2, o, none⟩) (by first | omega | (simp [go_sem]; omega) | simp [go_sem])
  have s13_6 : w3.heap.size < w13.heap.size := Nat.lt_of_lt_of_le (by first | omega | (simp [go_sem]; omega) | simp [go_sem]) hb.size
  have k13_6 := fun o => hb.cell (p := ⟨w3.heap.size, o, none⟩) (by first | omega | (simp [go_sem]; omega) | simp [go_sem])
  have f13_6 := fun o => hb.frozen (p := ⟨w3.heap.size, o, none⟩) (by first | omega | (simp [go_sem]; omega) | simp [go_sem])
  clear hb
  go_wp2_with fail
  (with_reducible refine (d17.out c1 _).mono ?_)
  rintro e w14 ⟨rfl, hb⟩
  have H14 : Below w.heap.size w w14 := by
    refine Below.trans ?_ (hb.mono ?_)
    · repeat (first | with_reducible assumption | with_reducible exact Below.refl _ _ | with_reducible refine Below.setCell ?_ (by first | omega | (simp [go_sem]; omega) | simp [go_sem]) _ | with_reducible refine Below.alloc ?_ (by first | omega | (simp [go_sem]; omega) | simp [go_sem]) _ | with_reducible refine below_grow ?_ (by first | omega | (simp [go_sem]; omega) | simp [go_sem]) _ _ | with_reducible refine Below.drew ?_)
    · first | omega | (simp [go_sem]; omega) | simp [go_sem]
  have S14 : w.heap.size ≤ w14.heap.size := H14.size
  have s14_0 : 0 < w14.heap.size := Nat.lt_of_lt_of_le (by first | omega | (simp [go_sem]; omega) | simp [go_sem]) hb.size
  have k14_0 := fun o => hb.cell (p := ⟨0, o, none⟩) (by first | omega | (simp [go_sem]; omega) | simp [go_sem])
  have f14_0 := fun o => hb.frozen (p := ⟨0, o, none⟩) (by first | omega | (simp [go_sem]; omega) | simp [go_sem])
  have s14_1 : w.heap.size < w14.heap.size := Nat.lt_of_lt_of_le (by first | omega | (simp [go_sem]; omega) | simp [go_sem]) hb.size
  have k14_1 := fun o => hb.cell (p := ⟨w.heap.size, o, none⟩) (by first | omega | (simp [go_sem]; omega) | simp [go_sem])
  have f14_1 := fun o => hb.frozen (p := ⟨w.heap.size, o, none⟩) (by first | omega | (simp [go_sem]; omega) | simp [go_sem])
  have s14_2 : w.heap.size + 1 < w14.heap.size := Nat.lt_of_lt_of_le (by first | omega | (simp [go_sem]; omega) | simp [go_sem]) hb.size
  have k14_2 := fun o => hb.cell (p := ⟨w.heap.size + 1, o, none⟩) (by first | omega | (simp [go_sem]; omega) | simp [go_sem])
  have f14_2 := fun o => hb.frozen (p := ⟨w.heap.size + 1, o, none⟩) (by first | omega | (simp [go_sem]; omega) | simp [go_sem])
  have s14_3 : w.heap.size + 1 + 1 < w14.heap.size := Nat.lt_of_lt_of_le (by first | omega | (simp [go_sem]; omega) | simp [go_sem]) hb.size
  have k14_3 := fun o => hb.cell (p := ⟨w.heap.size + 1 + 1, o, none⟩) (by first | omega | (simp [go_sem]; omega) | simp [go_sem])
  have f14_3 := fun o => hb.frozen (p := ⟨w.heap.size + 1 + 1, o, none⟩) (by first | omega | (simp [go_sem]; omega) | simp [go_sem])
  have s14_4 : b1 < w14.heap.size := Nat.lt_of_lt_of_le (by first | omega | (simp [go_sem]; omega) | simp [go_sem]) hb.size
  have k14_4 := fun o => hb.cell (p := ⟨b1, o, none⟩) (by first | omega | (simp [go_sem]; omega) | simp [go_sem])
  have f14_4 := fun o => hb.frozen (p := ⟨b1, o, none⟩) (by first | omega | (simp [go_sem]; omega) | simp [go_sem])
  have s14_5 : b2 < w14.heap.size := Nat.lt_of_lt_of_le (by first | omega | (simp [go_sem]; omega) | simp [go_sem]) hb.size
  have k14_5 := fun o => hb.cell (p := ⟨b2, o, none⟩) (by first | omega | (simp [go_sem]; omega) | simp [go_sem])
  have f14_5 := fun o => hb.frozen (p := ⟨b2, o, none⟩) (by first | omega | (simp [go_sem]; omega) | simp [go_sem])
  have s14_6 : w3.heap.size < w14.heap.size := Nat.lt_of_lt_of_le (by first | omega | (simp [go_sem]; omega) | simp [go_sem]) hb.size
  have k14_6 := fun o => hb.cell (p := ⟨w3.heap.size, o, none⟩) (by first | omega | (simp [go_sem]; omega) | simp [go_sem])
  have f14_6 := fun o => hb.frozen (p := ⟨w3.heap.size, o, none⟩) (by first | omega | (simp [go_sem]; omega) | simp [go_sem])
  have s14_7 : w13.heap.size < w14.heap.size := Nat.lt_of_lt_of_le (by first | omega | (simp [go_sem]; omega) | simp [go_sem]) hb.size
  have k14_7 := fun o => hb.cell (p := ⟨w13.heap.size, o, none⟩) (by first | omega | (simp [go_sem]; omega) | simp [go_sem])
  have f14_7 := fun o => hb.frozen (p := ⟨w13.heap.size, o, none⟩) (by first | omega | (simp [go_sem]; omega) | simp [go_sem])
  clear hb
  by_cases c2 : l0 - be < sq
  · have hc := rcmp_lt c2
    rw [if_neg c1, if_pos c2] at hpt
    subst hpt
    go_wp2_with fail
    refine wp_region_tail 5 (by kernel_rfl) (by kernel_rfl) (by kernel_rfl) ?_
    simp only [List.take_succ_cons, List.take_zero, List.drop_succ_cons, List.drop_zero, List.take_nil, List.drop_nil]
    repeat (quiet_step (first | fail))
    refine wpQuiet_nil ?_
    intro w1 hw1
    obtain ⟨⟨dq, osq⟩, rfl⟩ := hw1
    go_wp2_with fail
    rw [Exit.noGoto_ret]
    refine bodyPost_ret (v := .tuple #[.int .i64 ls, .int .i64 1, .agg #[.int .i64 (Rat.num (l0 - be)), .slice none 0 0, .int .i64 ((Rat.den (l0 - be) : Nat) : Int), .slice none 0 0]]) (by simp (maxDischargeDepth := 4) [*, results, Tryz.results61, go_sem]) rfl ⟨rfl, ?_⟩
    repeat (first | with_reducible assumption | with_reducible exact Below.refl _ _ | with_reducible refine Below.setCell ?_ (by first | omega | (simp [go_sem]; omega) | simp [go_sem]) _ | with_reducible refine Below.alloc ?_ (by first | omega | (simp [go_sem]; omega) | simp [go_sem]) _ | with_reducible refine below_grow ?_ (by first | omega | (simp [go_sem]; omega) | simp [go_sem]) _ _ | with_reducible refine Below.drew ?_)
  have hc1 := rcmp_ge c2
  go_wp2_with fail
  (with_reducible refine (d18.out c1 _).mono ?_)
  rintro e w15 ⟨rfl, hb⟩
  have H15 : Below w.heap.size w w15 := by
    refine Below.trans ?_ (hb.mono ?_)
    · repeat (first | with_reducible assumption | with_reducible exact Below.refl _ _ | with_reducible refine Below.setCell ?_ (by first | omega | (simp [go_sem]; omega) | simp [go_sem]) _ | with_reducible refine Below.alloc ?_ (by first | omega | (simp [go_sem]; omega) | simp [go_sem]) _ | with_reducible refine below_grow ?_ (by first | omega | (simp [go_sem]; omega) | simp [go_sem]) _ _ | with_reducible refine Below.drew ?_)
    · first | omega | (simp [go_sem]; omega) | simp [go_sem]
  have S15 : w.heap.size ≤ w15.heap.size := H15.size
  have s15_0 : 0 < w15.heap.size := Nat.lt_of_lt_of_le (by first | omega | (simp [go_sem]; omega) | simp [go_sem]) hb.size
  have k15_0 := fun o => hb.cell (p := ⟨0, o, none⟩) (by first | omega | (simp [go_sem]; omega) | simp [go_sem])
  have f15_0 := fun o => hb.frozen (p := ⟨0, o, none⟩) (by first | omega | (simp [go_sem]; omega) | simp [go_sem])
  have s15_1 : w.heap.size < w15.heap.size := Nat.lt_of_lt_of_le (by first | omega | (simp [go_sem]; omega) | simp [go_sem]) hb.size
  have k15_1 := fun o => hb.cell (p := ⟨w.heap.size, o, none⟩) (by first | omega | (simp [go_sem]; omega) | simp [go_sem])
  have f15_1 := fun o => hb.frozen (p := ⟨w.heap.size, o, none⟩) (by first | omega | (simp [go_sem]; omega) | simp [go_sem])
  have s15_2 : w.heap.size + 1 < w15.heap.size := Nat.lt_of_lt_of_le (by first | omega | (simp [go_sem]; omega) | simp [go_sem]) hb.size
  have k15_2 := fun o => hb.cell (p := ⟨w.heap.size + 1, o, none⟩) (by first | omega | (simp [go_sem]; omega) | simp [go_sem])
  have f15_2 := fun o => hb.frozen (p := ⟨w.heap.size + 1, o, none⟩) (by first | omega | (simp [go_sem]; omega) | simp [go_sem])
  have s15_3 : w.heap.size + 1 + 1 < w15.heap.size := Nat.lt_of_lt_of_le (by first | omega | (simp [go_sem]; omega) | simp [go_sem]) hb.size
  have k15_3 := fun o => hb.cell (p := ⟨w.heap.size + 1 + 1, o, none⟩) (by first | omega | (simp [go_sem]; omega) | simp [go_sem])
  have f15_3 := fun o => hb.frozen (p := ⟨w.heap.size + 1 + 1, o, none⟩) (by first | omega | (simp [go_sem]; omega) | simp [go_sem])
  have s15_4 : b1 < w15.heap.size := Nat.lt_of_lt_of_le (by first | omega | (simp [go_sem]; omega) | simp [go_sem]) hb.size
  have k15_4 := fun o => hb.cell (p := ⟨b1, o, none⟩) (by first | omega | (simp [go_sem]; omega) | simp [go_sem])
  have f15_4 := fun o => hb.frozen (p := ⟨b1, o, none⟩) (by first | omega | (simp [go_sem]; omega) | simp [go_sem])
  have s15_5 : b2 < w15.heap.size := Nat.lt_of_lt_of_le (by first | omega | (simp [go_sem]; omega) | simp [go_sem]) hb.size
  have k15_5 := fun o => hb.cell (p := ⟨b2, o, none⟩) (by first | omega | (simp [go_sem]; omega) | simp [go_sem])
  have f15_5 := fun o => hb.frozen (p := ⟨b2, o, none⟩) (by first | omega | (simp [go_sem]; omega) | simp [go_sem])
  have s15_6 : w3.heap.size < w15.heap.size := Nat.lt_of_lt_of_le (by first | omega | (simp [go_sem]; omega) | simp [go_sem]) hb.size
  have k15_6 := fun o => hb.cell (p := ⟨w3.heap.size, o, none⟩) (by first | omega | (simp [go_sem]; omega) | simp [go_sem])
  have f15_6 := fun o => hb.frozen (p := ⟨w3.heap.size, o, none⟩) (by first | omega | (simp [go_sem]; omega) | simp [go_sem])
  have s15_7 : w13.heap.size < w15.heap.size := Nat.lt_of_lt_of_le (by first | omega | (simp [go_sem]; omega) | simp [go_sem]) hb.size
  have k15_7 := fun o => hb.cell (p := ⟨w13.heap.size, o, none⟩) (by first | omega | (simp [go_sem]; omega) | simp [go_sem])
  have f15_7 := fun o => hb.frozen (p := ⟨w13.heap.size, o, none⟩) (by first | omega | (simp [go_sem]; omega) | simp [go_sem])
  clear hb
  go_wp2_with fail
  refine wp_any (fun W' => Below w.heap.size w W' ∧ (0 < W'.heap.size ∧ W'.cell? ⟨0, 0, none⟩ = some (.bool true) ∧ W'.cell? ⟨0, 1, none⟩ = some (.bool false) ∧ W'.cell? ⟨0, 2, none⟩ = some (.bool true) ∧ W'.cell? ⟨0, 3, none⟩ = some (.bool false)) ∧ (w.heap.size < W'.heap.size ∧ (∀ o, W'.frozen? ⟨w.heap.size, o, none⟩ = false) ∧ W'.cell? ⟨w.heap.size, 0, none⟩ = some (.int .i64 S) ∧ W'.cell? ⟨w.heap.size, 1, none⟩ = some (.int .i64 R) ∧ W'.cell? ⟨w.heap.size, 2, none⟩ = some (.int .i64 W) ∧ W'.cell? ⟨w.heap.size, 3, none⟩ = some (.int .i64 F) ∧ W'.cell? ⟨w.heap.size, 4, none⟩ = some (.int .i64 T) ∧ W'.cell? ⟨w.heap.size, 5, none⟩ = some (.int .i64 L)) ∧ (w.heap.size + 1 < W'.heap.size ∧ (∀ o, W'.frozen? ⟨w.heap.size + 1, o, none⟩ = false)) ∧ (w.heap.size + 1 + 1 < W'.heap.size ∧ (∀ o, W'.frozen? ⟨w.heap.size + 1 + 1, o, none⟩ = false) ∧ W'.cell? ⟨w.heap.size + 1 + 1, 0, none⟩ = some (.int .i64 0) ∧ W'.cell? ⟨w.heap.size + 1 + 1, 1, none⟩ = some (.slice none 0 0) ∧ W'.cell? ⟨w.heap.size + 1 + 1, 2, none⟩ = some (.int .i64 0) ∧ W'.cell? ⟨w.heap.size + 1 + 1, 3, none⟩ = some (.slice none 0 0)) ∧ (b1 < W'.heap.size ∧ (∀ o, W'.frozen? ⟨b1, o, none⟩ = false) ∧ W'.cell? ⟨b1, 0, none⟩ = some (.int .i64 (Rat.num be)) ∧ W'.cell? ⟨b1, 1, none⟩ = some (.slice none 0 0) ∧ W'.cell? ⟨b1, 2, none⟩ = some (.int .i64 ((Rat.den be : Nat) : Int)) ∧ W'.cell? ⟨b1, 3, none⟩ = some (.slice none 0 0)) ∧ (b2 < W'.heap.size ∧ (∀ o, W'.frozen? ⟨b2, o, none⟩ = false) ∧ W'.cell? ⟨b2, 0, none⟩ = some (.int .i64 (Rat.num la)) ∧ W'.cell? ⟨b2, 1, none⟩ = some (.slice none 0 0) ∧ W'.cell? ⟨b2, 2, none⟩ = some (.int .i64 ((Rat.den la : Nat) : Int)) ∧ W'.cell? ⟨b2, 3, none⟩ = some (.slice none 0 0)) ∧ (w3.heap.size < W'.heap.size ∧ (∀ o, W'.frozen? ⟨w3.heap.size, o, none⟩ = false) ∧ W'.cell? ⟨w3.heap.size, 0, none⟩ = some (.int .i64 (Rat.num (l0 - be - sq))) ∧ W'.cell? ⟨w3.heap.size, 1, none⟩ = some (.slice none 0 0) ∧ W'.cell? ⟨w3.heap.size, 2, none⟩ = some (.int .i64 ((Rat.den (l0 - be - sq) : Nat) : Int)) ∧ W'.cell? ⟨w3.heap.size, 3, none⟩ = some (.slice none 0 0)) ∧ (w13.heap.size < W'.heap.size ∧ (∀ o, W'.frozen? ⟨w13.heap.size, o, none⟩ = false))) ?_ ?_
  · refine ⟨?_, ⟨?_, ?_, ?_, ?_, ?_⟩, ⟨?_, ?_, ?_, ?_, ?_, ?_, ?_, ?_⟩, ⟨?_, ?_⟩, ⟨?_, ?_, ?_, ?_, ?_, ?_⟩, ⟨?_, ?_, ?_, ?_, ?_, ?_⟩, ⟨?_, ?_, ?_, ?_, ?_, ?_⟩, ⟨?_, ?_, ?_, ?_, ?_, ?_⟩, ⟨?_, ?_⟩⟩
    · repeat (first | with_reducible assumption | with_reducible exact Below.refl _ _ | with_reducible refine Below.setCell ?_ (by first | omega | (simp [go_sem]; omega) | simp [go_sem]) _ | with_reducible refine Below.alloc ?_ (by first | omega | (simp [go_sem]; omega) | simp [go_sem]) _ | with_reducible refine below_grow ?_ (by first | omega | (simp [go_sem]; omega) | simp [go_sem]) _ _ | with_reducible refine Below.drew ?_)
    all_goals first | omega | (simp [go_sem]; omega) | (simp (maxDischargeDepth := 6) [*, go_sem]; done)
  rintro w16 ⟨H16, ⟨s16_0, k16_0_0, k16_0_1, k16_0_2, k16_0_3⟩, ⟨s16_1, f16_1, k16_1_0, k16_1_1, k16_1_2, k16_1_3, k16_1_4, k16_1_5⟩, ⟨s16_2, f16_2⟩, ⟨s16_3, f16_3, k16_3_0, k16_3_1, k16_3_2, k16_3_3⟩, ⟨s16_4, f16_4, k16_4_0, k16_4_1, k16_4_2, k16_4_3⟩, ⟨s16_5, f16_5, k16_5_0, k16_5_1, k16_5_2, k16_5_3⟩, ⟨s16_6, f16_6, k16_6_0, k16_6_1, k16_6_2, k16_6_3⟩, ⟨s16_7, f16_7⟩⟩
  have S16 : w.heap.size ≤ w16.heap.size := H16.size
  try rw [rounds_succ]
  go_wp2_with fail
  (with_reducible refine (d4.out _).mono ?_)
  rintro e w17 ⟨rfl, hb⟩
  have H17 : Below w.heap.size w w17 := by
    refine Below.trans ?_ (hb.mono ?_)
    · repeat (first | with_reducible assumption | with_reducible exact Below.refl _ _ | with_reducible refine Below.setCell ?_ (by first | omega | (simp [go_sem]; omega) | simp [go_sem]) _ | with_reducible refine Below.alloc ?_ (by first | omega | (simp [go_sem]; omega) | simp [go_sem]) _ | with_reducible refine below_grow ?_ (by first | omega | (simp [go_sem]; omega) | simp [go_sem]) _ _ | with_reducible refine Below.drew ?_)
    · first | omega | (simp [go_sem]; omega) | simp [go_sem]
  have S17 : w.heap.size ≤ w17.heap.size := H17.size
  have s17_0 : 0 < w17.heap.size := Nat.lt_of_lt_of_le (by first | omega | (simp [go_sem]; omega) | simp [go_sem]) hb.size
  have k17_0 := fun o => hb.cell (p := ⟨0, o, none⟩) (by first | omega | (simp [go_sem]; omega) | simp [go_sem])
  have f17_0 := fun o => hb.frozen (p := ⟨0, o, none⟩) (by first | omega | (simp [go_sem]; omega) | simp [go_sem])
  have s17_1 : w.heap.size < w17.heap.size := Nat.lt_of_lt_of_le (by first | omega | (simp [go_sem]; omega) | simp [go_sem]) hb.size
  have k17_1 := fun o => hb.cell (p := ⟨w.heap.size, o, none⟩) (by first | omega | (simp [go_sem]; omega) | simp [go_sem])
  have f17_1 := fun o => hb.frozen (p := ⟨w.heap.size, o, none⟩) (by first | omega | (simp [go_sem]; omega) | simp [go_sem])
  have s17_2 : w.heap.size + 1 < w17.heap.size := Nat.lt_of_lt_of_le (by first | omega | (simp [go_sem]; omega) | simp [go_sem]) hb.size
  have k17_2 := fun o => hb.cell (p := ⟨w.heap.size + 1, o, none⟩) (by first | omega | (simp [go_sem]; omega) | simp [go_sem])
  have f17_2 := fun o => hb.frozen (p := ⟨w.heap.size + 1, o, none⟩) (by first | omega | (simp [go_sem]; omega) | simp [go_sem])
  have s17_3 : w.heap.size + 1 + 1 < w17.heap.size := Nat.lt_of_lt_of_le (by first | omega | (simp [go_sem]; omega) | simp [go_sem]) hb.size
  have k17_3 := fun o => hb.cell (p := ⟨w.heap.size + 1 + 1, o, none⟩) (by first | omega | (simp [go_sem]; omega) | simp [go_sem])
  have f17_3 := fun o => hb.frozen (p := ⟨w.heap.size + 1 + 1, o, none⟩) (by first | omega | (simp [go_sem]; omega) | simp [go_sem])
  have s17_4 : b1 < w17.heap.size := Nat.lt_of_lt_of_le (by first | omega | (simp [go_sem]; omega) | simp [go_sem]) hb.size
  have k17_4 := fun o => hb.cell (p := ⟨b1, o, none⟩) (by first | omega | (simp [go_sem]; omega) | simp [go_sem])
  have f17_4 := fun o => hb.frozen (p := ⟨b1, o, none⟩) (by first | omega | (simp [go_sem]; omega) | simp [go_sem])
  have s17_5 : b2 < w17.heap.size := Nat.lt_of_lt_of_le (by first | omega | (simp [go_sem]; omega) | simp [go_sem]) hb.size
  have k17_5 := fun o => hb.cell (p := ⟨b2, o, none⟩) (by first | omega | (simp [go_sem]; omega) | simp [go_sem])
  have f17_5 := fun o => hb.frozen (p := ⟨b2, o, none⟩) (by first | omega | (simp [go_sem]; omega) | simp [go_sem])
  have s17_6 : w3.heap.size < w17.heap.size := Nat.lt_of_lt_of_le (by first | omega | (simp [go_sem]; omega) | simp [go_sem]) hb.size
  have k17_6 := fun o => hb.cell (p := ⟨w3.heap.size, o, none⟩) (by first | omega | (simp [go_sem]; omega) | simp [go_sem])
  have f17_6 := fun o => hb.frozen (p := ⟨w3.heap.size, o, none⟩) (by first | omega | (simp [go_sem]; omega) | simp [go_sem])
  clear hb
  go_wp2_with fail
  (with_reducible refine (d19.out c1 c2 _).mono ?_)
  rintro e w18 ⟨rfl, hb⟩
  have H18 : Below w.heap.size w w18 := by
    refine Below.trans ?_ (hb.mono ?_)
    · repeat (first | with_reducible assumption | with_reducible exact Below.refl _ _ | with_reducible refine Below.setCell ?_ (by first | omega | (simp [go_sem]; omega) | simp [go_sem]) _ | with_reducible refine Below.alloc ?_ (by first | omega | (simp [go_sem]; omega) | simp [go_sem]) _ | with_reducible refine below_grow ?_ (by first | omega | (simp [go_sem]; omega) | simp [go_sem]) _ _ | with_reducible refine Below.drew ?_)
    · first | omega | (simp [go_sem]; omega) | simp [go_sem]
  have S18 : w.heap.size ≤ w18.heap.size := H18.size
  have s18_0 : 0 < w18.heap.size := Nat.lt_of_lt_of_le (by first | omega | (simp [go_sem]; omega) | simp [go_sem]) hb.size
  have k18_0 := fun o => hb.cell (p := ⟨0, o, none⟩) (by first | omega | (simp [go_sem]; omega) | simp [go_sem])
  have f18_0 := fun o => hb.frozen (p := ⟨0, o, none⟩) (by first | omega | (simp [go_sem]; omega) | simp [go_sem])
  have s18_1 : w.heap.size < w18.heap.size := Nat.lt_of_lt_of_le (by first | omega | (simp [go_sem]; omega) | simp [go_sem]) hb.size
  have k18_1 := fun o => hb.cell (p := ⟨w.heap.size, o, none⟩) (by first | omega | (simp [go_sem]; omega) | simp [go_sem])
  have f18_1 := fun o => hb.frozen (p := ⟨w.heap.size, o, none⟩) (by first | omega | (simp [go_sem]; omega) | simp [go_sem])
  have s18_2 : w.heap.size + 1 < w18.heap.size := Nat.lt_of_lt_of_le (by first | omega | (simp [go_sem]; omega) | simp [go_sem]) hb.size
  have k18_2 := fun o => hb.cell (p := ⟨w.heap.size + 1, o, none⟩) (by first | omega | (simp [go_sem]; omega) | simp [go_sem])
  have f18_2 := fun o => hb.frozen (p := ⟨w.heap.size + 1, o, none⟩) (by first | omega | (simp [go_sem]; omega) | simp [go_sem])
  have s18_3 : w.heap.size + 1 + 1 < w18.heap.size := Nat.lt_of_lt_of_le (by first | omega | (simp [go_sem]; omega) | simp [go_sem]) hb.size
  have k18_3 := fun o => hb.cell (p := ⟨w.heap.size + 1 + 1, o, none⟩) (by first | omega | (simp [go_sem]; omega) | simp [go_sem])
  have f18_3 := fun o => hb.frozen (p := ⟨w.heap.size + 1 + 1, o, none⟩) (by first | omega | (simp [go_sem]; omega) | simp [go_sem])
  have s18_4 : b1 < w18.heap.size := Nat.lt_of_lt_of_le (by first | omega | (simp [go_sem]; omega) | simp [go_sem]) hb.size
  have k18_4 := fun o => hb.cell (p := ⟨b1, o, none⟩) (by first | omega | (simp [go_sem]; omega) | simp [go_sem])
  have f18_4 := fun o => hb.frozen (p := ⟨b1, o, none⟩) (by first | omega | (simp [go_sem]; omega) | simp [go_sem])
  have s18_5 : b2 < w18.heap.size := Nat.lt_of_lt_of_le (by first | omega | (simp [go_sem]; omega) | simp [go_sem]) hb.size
  have k18_5 := fun o => hb.cell (p := ⟨b2, o, none⟩) (by first | omega | (simp [go_sem]; omega) | simp [go_sem])
  have f18_5 := fun o => hb.frozen (p := ⟨b2, o, none⟩) (by first | omega | (simp [go_sem]; omega) | simp [go_sem])
  have s18_6 : w3.heap.size < w18.heap.size := Nat.lt_of_lt_of_le (by first | omega | (simp [go_sem]; omega) | simp [go_sem]) hb.size
  have k18_6 := fun o => hb.cell (p := ⟨w3.heap.size, o, none⟩) (by first | omega | (simp [go_sem]; omega) | simp [go_sem])
  have f18_6 := fun o => hb.frozen (p := ⟨w3.heap.size, o, none⟩) (by first | omega | (simp [go_sem]; omega) | simp [go_sem])
  have s18_7 : w17.heap.size < w18.heap.size := Nat.lt_of_lt_of_le (by first | omega | (simp [go_sem]; omega) | simp [go_sem]) hb.size
  have k18_7 := fun o => hb.cell (p := ⟨w17.heap.size, o, none⟩) (by first | omega | (simp [go_sem]; omega) | simp [go_sem])
  have f18_7 := fun o => hb.frozen (p := ⟨w17.heap.size, o, none⟩) (by first | omega | (simp [go_sem]; omega) | simp [go_sem])
  clear hb
  by_cases c3 : l0 - be - sq < be
  · have hc := rcmp_lt c3
    rw [if_neg c1, if_neg c2, if_pos c3] at hpt
    subst hpt
    go_wp2_with fail
    refine wp_region_tail 5 (by kernel_rfl) (by kernel_rfl) (by kernel_rfl) ?_
    simp only [List.take_succ_cons, List.take_zero, List.drop_succ_cons, List.drop_zero, List.take_nil, List.drop_nil]
    repeat (quiet_step (first | fail))
    refine wpQuiet_nil ?_
    intro w1 hw1
    obtain ⟨⟨dq, osq⟩, rfl⟩ := hw1
    go_wp2_with fail
    rw [Exit.noGoto_ret]
    refine bodyPost_ret (v := .tuple #[.int .i64 ls, .int .i64 2, .agg #[.int .i64 (Rat.num (l0 - be - sq)), .slice none 0 0, .int .i64 ((Rat.den (l0 - be - sq) : Nat) : Int), .slice none 0 0]]) (by simp (maxDischargeDepth := 4) [*, results, Tryz.results61, go_sem]) rfl ⟨rfl, ?_⟩
    repeat (first | with_reducible assumption | with_reducible exact Below.refl _ _ | with_reducible refine Below.setCell ?_ (by first | omega | (simp [go_sem]; omega) | simp [go_sem]) _ | with_reducible refine Below.alloc ?_ (by first | omega | (simp [go_sem]; omega) | simp [go_sem]) _ | with_reducible refine below_grow ?_ (by first | omega | (simp [go_sem]; omega) | simp [go_sem]) _ _ | with_reducible refine Below.drew ?_)
  have hc2 := rcmp_ge c3
  go_wp2_with fail
  (with_reducible refine (d20.out c1 c2 _).mono ?_)
  rintro e w19 ⟨rfl, hb⟩
  have H19 : Below w.heap.size w w19 := by
    refine Below.trans ?_ (hb.mono ?_)
    · repeat (first | with_reducible assumption | with_reducible exact Below.refl _ _ | with_reducible refine Below.setCell ?_ (by first | omega | (simp [go_sem]; omega) | simp [go_sem]) _ | with_reducible refine Below.alloc ?_ (by first | omega | (simp [go_sem]; omega) | simp [go_sem]) _ | with_reducible refine below_grow ?_ (by first | omega | (simp [go_sem]; omega) | simp [go_sem]) _ _ | with_reducible refine Below.drew ?_)
    · first | omega | (simp [go_sem]; omega) | simp [go_sem]
  have S19 : w.heap.size ≤ w19.heap.size := H19.size
  have s19_0 : 0 < w19.heap.size := Nat.lt_of_lt_of_le (by first | omega | (simp [go_sem]; omega) | simp [go_sem]) hb.size
  have k19_0 := fun o => hb.cell (p := ⟨0, o, none⟩) (by first | omega | (simp [go_sem]; omega) | simp [go_sem])
  have f19_0 := fun o => hb.frozen (p := ⟨0, o, none⟩) (by first | omega | (simp [go_sem]; omega) | simp [go_sem])
  have s19_1 : w.heap.size < w19.heap.size := Nat.lt_of_lt_of_le (by first | omega | (simp [go_sem]; omega) | simp [go_sem]) hb.size
  have k19_1 := fun o => hb.cell (p := ⟨w.heap.size, o, none⟩) (by first | omega | (simp [go_sem]; omega) | simp [go_sem])
  have f19_1 := fun o => hb.frozen (p := ⟨w.heap.size, o, none⟩) (by first | omega | (simp [go_sem]; omega) | simp [go_sem])
  have s19_2 : w.heap.size + 1 < w19.heap.size := Nat.lt_of_lt_of_le (by first | omega | (simp [go_sem]; omega) | simp [go_sem]) hb.size
  have k19_2 := fun o => hb.cell (p := ⟨w.heap.size + 1, o, none⟩) (by first | omega | (simp [go_sem]; omega) | simp [go_sem])
  have f19_2 := fun o => hb.frozen (p := ⟨w.heap.size + 1, o, none⟩) (by first | omega | (simp [go_sem]; omega) | simp [go_sem])
  have s19_3 : w.heap.size + 1 + 1 < w19.heap.size := Nat.lt_of_lt_of_le (by first | omega | (simp [go_sem]; omega) | simp [go_sem]) hb.size
  have k19_3 := fun o => hb.cell (p := ⟨w.heap.size + 1 + 1, o, none⟩) (by first | omega | (simp [go_sem]; omega) | simp [go_sem])
  have f19_3 := fun o => hb.frozen (p := ⟨w.heap.size + 1 + 1, o, none⟩) (by first | omega | (simp [go_sem]; omega) | simp [go_sem])
  have s19_4 : b1 < w19.heap.size := Nat.lt_of_lt_of_le (by first | omega | (simp [go_sem]; omega) | simp [go_sem]) hb.size
  have k19_4 := fun o => hb.cell (p := ⟨b1, o, none⟩) (by first | omega | (simp [go_sem]; omega) | simp [go_sem])
  have f19_4 := fun o => hb.frozen (p := ⟨b1, o, none⟩) (by first | omega | (simp [go_sem]; omega) | simp [go_sem])
  have s19_5 : b2 < w19.heap.size := Nat.lt_of_lt_of_le (by first | omega | (simp [go_sem]; omega) | simp [go_sem]) hb.size
  have k19_5 := fun o => hb.cell (p := ⟨b2, o, none⟩) (by first | omega | (simp [go_sem]; omega) | simp [go_sem])
  have f19_5 := fun o => hb.frozen (p := ⟨b2, o, none⟩) (by first | omega | (simp [go_sem]; omega) | simp [go_sem])
  have s19_6 : w3.heap.size < w19.heap.size := Nat.lt_of_lt_of_le (by first | omega | (simp [go_sem]; omega) | simp [go_sem]) hb.size
  have k19_6 := fun o => hb.cell (p := ⟨w3.heap.size, o, none⟩) (by first | omega | (simp [go_sem]; omega) | simp [go_sem])
  have f19_6 := fun o => hb.frozen (p := ⟨w3.heap.size, o, none⟩) (by first | omega | (simp [go_sem]; omega) | simp [go_sem])
  have s19_7 : w17.heap.size < w19.heap.size := Nat.lt_of_lt_of_le (by first | omega | (simp [go_sem]; omega) | simp [go_sem]) hb.size
  have k19_7 := fun o => hb.cell (p := ⟨w17.heap.size, o, none⟩) (by first | omega | (simp [go_sem]; omega) | simp [go_sem])
  have f19_7 := fun o => hb.frozen (p := ⟨w17.heap.size, o, none⟩) (by first | omega | (simp [go_sem]; omega) | simp [go_sem])
  clear hb
  go_wp2_with fail
  refine wp_any (fun W' => Below w.heap.size w W' ∧ (0 < W'.heap.size ∧ W'.cell? ⟨0, 0, none⟩ = some (.bool true) ∧ W'.cell? ⟨0, 1, none⟩ = some (.bool false) ∧ W'.cell? ⟨0, 2, none⟩ = some (.bool true) ∧ W'.cell? ⟨0, 3, none⟩ = some (.bool false)) ∧ (w.heap.size < W'.heap.size ∧ (∀ o, W'.frozen? ⟨w.heap.size, o, none⟩ = false) ∧ W'.cell? ⟨w.heap.size, 0, none⟩ = some (.int .i64 S) ∧ W'.cell? ⟨w.heap.size, 1, none⟩ = some (.int .i64 R) ∧ W'.cell? ⟨w.heap.size, 2, none⟩ = some (.int .i64 W) ∧ W'.cell? ⟨w.heap.size, 3, none⟩ = some (.int .i64 F) ∧ W'.cell? ⟨w.heap.size, 4, none⟩ = some (.int .i64 T) ∧ W'.cell? ⟨w.heap.size, 5, none⟩ = some (.int .i64 L)) ∧ (w.heap.size + 1 < W'.heap.size ∧ (∀ o, W'.frozen? ⟨w.heap.size + 1, o, none⟩ = false)) ∧ (w.heap.size + 1 + 1 < W'.heap.size ∧ (∀ o, W'.frozen? ⟨w.heap.size + 1 + 1, o, none⟩ = false) ∧ W'.cell? ⟨w.heap.size + 1 + 1, 0, none⟩ = some (.int .i64 0) ∧ W'.cell? ⟨w.heap.size + 1 + 1, 1, none⟩ = some (.slice none 0 0) ∧ W'.cell? ⟨w.heap.size + 1 + 1, 2, none⟩ = some (.int .i64 0) ∧ W'.cell? ⟨w.heap.size + 1 + 1, 3, none⟩ = some (.slice none 0 0)) ∧ (b1 < W'.heap.size ∧ (∀ o, W'.frozen? ⟨b1, o, none⟩ = false) ∧ W'.cell? ⟨b1, 0, none⟩ = some (.int .i64 (Rat.num be)) ∧ W'.cell? ⟨b1, 1, none⟩ = some (.slice none 0 0) ∧ W'.cell? ⟨b1, 2, none⟩ = some (.int .i64 ((Rat.den be : Nat) : Int)) ∧ W'.cell? ⟨b1, 3, none⟩ = some (.slice none 0 0)) ∧ (b2 < W'.heap.size ∧ (∀ o, W'.frozen? ⟨b2, o, none⟩ = false) ∧ W'.cell? ⟨b2, 0, none⟩ = some (.int .i64 (Rat.num la)) ∧ W'.cell? ⟨b2, 1, none⟩ = some (.slice none 0 0) ∧ W'.cell? ⟨b2, 2, none⟩ = some (.int .i64 ((Rat.den la : Nat) : Int)) ∧ W'.cell? ⟨b2, 3, none⟩ = some (.slice none 0 0)) ∧ (w3.heap.size < W'.heap.size ∧ (∀ o, W'.frozen? ⟨w3.heap.size, o, none⟩ = false) ∧ W'.cell? ⟨w3.heap.size, 0, none⟩ = some (.int .i64 (Rat.num (l0 - be - sq - be))) ∧ W'.cell? ⟨w3.heap.size, 1, none⟩ = some (.slice none 0 0) ∧ W'.cell? ⟨w3.heap.size, 2, none⟩ = some (.int .i64 ((Rat.den (l0 - be - sq - be) : Nat) : Int)) ∧ W'.cell? ⟨w3.heap.size, 3, none⟩ = some (.slice none 0 0)) ∧ (w17.heap.size < W'.heap.size ∧ (∀ o, W'.frozen? ⟨w17.heap.size, o, none⟩ = false))) ?_ ?_
  · refine ⟨?_, ⟨?_, ?_, ?_, ?_, ?_⟩, ⟨?_, ?_, ?_, ?_, ?_, ?_, ?_, ?_⟩, ⟨?_, ?_⟩, ⟨?_, ?_, ?_, ?_, ?_, ?_⟩, ⟨?_, ?_, ?_, ?_, ?_, ?_⟩, ⟨?_, ?_, ?_, ?_, ?_, ?_⟩, ⟨?_, ?_, ?_, ?_, ?_, ?_⟩, ⟨?_, ?_⟩⟩
    · repeat (first | with_reducible assumption | with_reducible exact Below.refl _ _ | with_reducible refine Below.setCell ?_ (by first | omega | (simp [go_sem]; omega) | simp [go_sem]) _ | with_reducible refine Below.alloc ?_ (by first | omega | (simp [go_sem]; omega) | simp [go_sem]) _ | with_reducible refine below_grow ?_ (by first | omega | (simp [go_sem]; omega) | simp [go_sem]) _ _ | with_reducible refine Below.drew ?_)
    all_goals first | omega | (simp [go_sem]; omega) | (simp (maxDischargeDepth := 6) [*, go_sem]; done)
  rintro w20 ⟨H20, ⟨s20_0, k20_0_0, k20_0_1, k20_0_2, k20_0_3⟩, ⟨s20_1, f20_1, k20_1_0, k20_1_1, k20_1_2, k20_1_3, k20_1_4, k20_1_5⟩, ⟨s20_2, f20_2⟩, ⟨s20_3, f20_3, k20_3_0, k20_3_1, k20_3_2, k20_3_3⟩, ⟨s20_4, f20_4, k20_4_0, k20_4_1, k20_4_2, k20_4_3⟩, ⟨s20_5, f20_5, k20_5_0, k20_5_1, k20_5_2, k20_5_3⟩, ⟨s20_6, f20_6, k20_6_0, k20_6_1, k20_6_2, k20_6_3⟩, ⟨s20_7, f20_7⟩⟩
  have S20 : w.heap.size ≤ w20.heap.size := H20.size
  try rw [rounds_succ]
  go_wp2_with fail
  (with_reducible refine (d4.out _).mono ?_)
  rintro e w21 ⟨rfl, hb⟩
  have H21 : Below w.heap.size w w21 := by
    refine Below.trans ?_ (hb.mono ?_)
    · repeat (first | with_reducible assumption | with_reducible exact Below.refl _ _ | with_reducible refine Below.setCell ?_ (by first | omega | (simp [go_sem]; omega) | simp [go_sem]) _ | with_reducible refine Below.alloc ?_ (by first | omega | (simp [go_sem]; omega) | simp [go_sem]) _ | with_reducible refine below_grow ?_ (by first | omega | (simp [go_sem]; omega) | simp [go_sem]) _ _ | with_reducible refine Below.drew ?_)
    · first | omega | (simp [go_sem]; omega) | simp [go_sem]
  have S21 : w.heap.size ≤ w21.heap.size := H21.size
  have s21_0 : 0 < w21.heap.size := Nat.lt_of_lt_of_le (by first | omega | (simp [go_sem]; omega) | simp [go_sem]) hb.size
  have k21_0 := fun o => hb.cell (p := ⟨0, o, none⟩) (by first | omega | (simp [go_sem]; omega) | simp [go_sem])
  have f21_0 := fun o => hb.frozen (p := ⟨0, o, none⟩) (by first | omega | (simp [go_sem]; omega) | simp [go_sem])
  have s21_1 : w.heap.size < w21.heap.size := Nat.lt_of_lt_of_le (by first | omega | (simp [go_sem]; omega) | simp [go_sem]) hb.size
  have k21_1 := fun o => hb.cell (p := ⟨w.heap.size, o, none⟩) (by first | omega | (simp [go_sem]; omega) | simp [go_sem])
  have f21_1 := fun o => hb.frozen (p := ⟨w.heap.size, o, none⟩) (by first | omega | (simp [go_sem]; omega) | simp [go_sem])
  have s21_2 : w.heap.size + 1 < w21.heap.size := Nat.lt_of_lt_of_le (by first | omega | (simp [go_sem]; omega) | simp [go_sem]) hb.size
  have k21_2 := fun o => hb.cell (p := ⟨w.heap.size + 1, o, none⟩) (by first | omega | (simp [go_sem]; omega) | simp [go_sem])
  have f21_2 := fun o => hb.frozen (p := ⟨w.heap.size + 1, o, none⟩) (by first | omega | (simp [go_sem]; omega) | simp [go_sem])
  have s21_3 : w.heap.size + 1 + 1 < w21.heap.size := Nat.lt_of_lt_of_le (by first | omega | (simp [go_sem]; omega) | simp [go_sem]) hb.size
  have k21_3 := fun o => hb.cell (p := ⟨w.heap.size + 1 + 1, o, none⟩) (by first | omega | (simp [go_sem]; omega) | simp [go_sem])
  have f21_3 := fun o => hb.frozen (p := ⟨w.heap.size + 1 + 1, o, none⟩) (by first | omega | (simp [go_sem]; omega) | simp [go_sem])
  have s21_4 : b1 < w21.heap.size := Nat.lt_of_lt_of_le (by first | omega | (simp [go_sem]; omega) | simp [go_sem]) hb.size
  have k21_4 := fun o => hb.cell (p := ⟨b1, o, none⟩) (by first | omega | (simp [go_sem]; omega) | simp [go_sem])
  have f21_4 := fun o => hb.frozen (p := ⟨b1, o, none⟩) (by first | omega | (simp [go_sem]; omega) | simp [go_sem])
  have s21_5 : b2 < w21.heap.size := Nat.lt_of_lt_of_le (by first | omega | (simp [go_sem]; omega) | simp [go_sem]) hb.size
  have k21_5 := fun o => hb.cell (p := ⟨b2, o, none⟩) (by first | omega | (simp [go_sem]; omega) | simp [go_sem])
  have f21_5 := fun o => hb.frozen (p := ⟨b2, o, none⟩) (by first | omega | (simp [go_sem]; omega) | simp [go_sem])
  have s21_6 : w3.heap.size < w21.heap.size := Nat.lt_of_lt_of_le (by first | omega | (simp [go_sem]; omega) | simp [go_sem]) hb.size
  have k21_6 := fun o => hb.cell (p := ⟨w3.heap.size, o, none⟩) (by first | omega | (simp [go_sem]; omega) | simp [go_sem])
  have f21_6 := fun o => hb.frozen (p := ⟨w3.heap.size, o, none⟩) (by first | omega | (simp [go_sem]; omega) | simp [go_sem])
  clear hb
  go_wp2_with fail
  (with_reducible refine (d21.out c1 c2 c3 _).mono ?_)
  rintro e w22 ⟨rfl, hb⟩
  have H22 : Below w.heap.size w w22 := by
    refine Below.trans ?_ (hb.mono ?_)
    · repeat (first | with_reducible assumption | with_reducible exact Below.refl _ _ | with_reducible refine Below.setCell ?_ (by first | omega | (simp [go_sem]; omega) | simp [go_sem]) _ | with_reducible refine Below.alloc ?_ (by first | omega | (simp [go_sem]; omega) | simp [go_sem]) _ | with_reducible refine below_grow ?_ (by first | omega | (simp [go_sem]; omega) | simp [go_sem]) _ _ | with_reducible refine Below.drew ?_)
    · first | omega | (simp [go_sem]; omega) | simp [go_sem]
  have S22 : w.heap.size ≤ w22.heap.size := H22.size
  have s22_0 : 0 < w22.heap.size := Nat.lt_of_lt_of_le (by first | omega | (simp [go_sem]; omega) | simp [go_sem]) hb.size
  have k22_0 := fun o => hb.cell (p := ⟨0, o, none⟩) (by first | omega | (simp [go_sem]; omega) | simp [go_sem])
  have f22_0 := fun o => hb.frozen (p := ⟨0, o, none⟩) (by first | omega | (simp [go_sem]; omega) | simp [go_sem])
  have s22_1 : w.heap.size < w22.heap.size := Nat.lt_of_lt_of_le (by first | omega | (simp [go_sem]; omega) | simp [go_sem]) hb.size
  have k22_1 := fun o => hb.cell (p := ⟨w.heap.size, o, none⟩) (by first | omega | (simp [go_sem]; omega) | simp [go_sem])
  have f22_1 := fun o => hb.frozen (p := ⟨w.heap.size, o, none⟩) (by first | omega | (simp [go_sem]; omega) | simp [go_sem])
  have s22_2 : w.heap.size + 1 < w22.heap.size := Nat.lt_of_lt_of_le (by first | omega | (simp [go_sem]; omega) | simp [go_sem]) hb.size
  have k22_2 := fun o => hb.cell (p := ⟨w.heap.size + 1, o, none⟩) (by first | omega | (simp [go_sem]; omega) | simp [go_sem])
  have f22_2 := fun o => hb.frozen (p := ⟨w.heap.size + 1, o, none⟩) (by first | omega | (simp [go_sem]; omega) | simp [go_sem])
  have s22_3 : w.heap.size + 1 + 1 < w22.heap.size := Nat.lt_of_lt_of_le (by first | omega | (simp [go_sem]; omega) | simp [go_sem]) hb.size
  have k22_3 := fun o => hb.cell (p := ⟨w.heap.size + 1 + 1, o, none⟩) (by first | omega | (simp [go_sem]; omega) | simp [go_sem])
  have f22_3 := fun o => hb.frozen (p := ⟨w.heap.size + 1 + 1, o, none⟩) (by first | omega | (simp [go_sem]; omega) | simp [go_sem])
  have s22_4 : b1 < w22.heap.size := Nat.lt_of_lt_of_le (by first | omega | (simp [go_sem]; omega) | simp [go_sem]) hb.size
  have k22_4 := fun o => hb.cell (p := ⟨b1, o, none⟩) (by first | omega | (simp [go_sem]; omega) | simp [go_sem])
  have f22_4 := fun o => hb.frozen (p := ⟨b1, o, none⟩) (by first | omega | (simp [go_sem]; omega) | simp [go_sem])
  have s22_5 : b2 < w22.heap.size := Nat.lt_of_lt_of_le (by first | omega | (simp [go_sem]; omega) | simp [go_sem]) hb.size
  have k22_5 := fun o => hb.cell (p := ⟨b2, o, none⟩) (by first | omega | (simp [go_sem]; omega) | simp [go_sem])
  have f22_5 := fun o => hb.frozen (p := ⟨b2, o, none⟩) (by first | omega | (simp [go_sem]; omega) | simp [go_sem])
  have s22_6 : w3.heap.size < w22.heap.size := Nat.lt_of_lt_of_le (by first | omega | (simp [go_sem]; omega) | simp [go_sem]) hb.size
  have k22_6 := fun o => hb.cell (p := ⟨w3.heap.size, o, none⟩) (by first | omega | (simp [go_sem]; omega) | simp [go_sem])
  have f22_6 := fun o => hb.frozen (p := ⟨w3.heap.size, o, none⟩) (by first | omega | (simp [go_sem]; omega) | simp [go_sem])
  have s22_7 : w21.heap.size < w22.heap.size := Nat.lt_of_lt_of_le (by first | omega | (simp [go_sem]; omega) | simp [go_sem]) hb.size
  have k22_7 := fun o => hb.cell (p := ⟨w21.heap.size, o, none⟩) (by first | omega | (simp [go_sem]; omega) | simp [go_sem])
  have f22_7 := fun o => hb.frozen (p := ⟨w21.heap.size, o, none⟩) (by first | omega | (simp [go_sem]; omega) | simp [go_sem])
  clear hb
  have hc := rcmp_lt (hlast c1 c2 c3)
  rw [if_neg c1, if_neg c2, if_neg c3] at hpt
  subst hpt
  go_wp2_with fail
  refine wp_region_tail 5 (by kernel_rfl) (by kernel_rfl) (by kernel_rfl) ?_
  simp only [List.take_succ_cons, List.take_zero, List.drop_succ_cons, List.drop_zero, List.take_nil, List.drop_nil]
  repeat (quiet_step (first | fail))
  refine wpQuiet_nil ?_
  intro w1 hw1
  obtain ⟨⟨dq, osq⟩, rfl⟩ := hw1
  go_wp2_with fail
  rw [Exit.noGoto_ret]
  refine bodyPost_ret (v := .tuple #[.int .i64 ls, .int .i64 3, .agg #[.int .i64 (Rat.num (l0 - be - sq - be)), .slice none 0 0, .int .i64 ((Rat.den (l0 - be - sq - be) : Nat) : Int), .slice none 0 0]]) (by simp (maxDischargeDepth := 4) [*, results, Tryz.results61, go_sem]) rfl ⟨rfl, ?_⟩
  repeat (first | with_reducible assumption | with_reducible exact Below.refl _ _ | with_reducible refine Below.setCell ?_ (by first | omega | (simp [go_sem]; omega) | simp [go_sem]) _ | with_reducible refine Below.alloc ?_ (by first | omega | (simp [go_sem]; omega) | simp [go_sem]) _ | with_reducible refine below_grow ?_ (by first | omega | (simp [go_sem]; omega) | simp [go_sem]) _ _ | with_reducible refine Below.drew ?_)
end Go.Proofs.YtgdlehoglpiifaaGreatDoor
