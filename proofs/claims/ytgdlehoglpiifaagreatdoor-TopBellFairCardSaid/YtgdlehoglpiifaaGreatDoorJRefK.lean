/-
  The reference of chapter 1: a machine integer as an integer of one digit.
  The reference of chapter 7: the bounds of pi.
  The reference of chapter 1: a number of one digit to the base 10^9 read.
  The reference of chapter 1: the greatest common divisor of numbers of one digit.
  The reference of chapter 1: a quotient of numbers of one digit.
  The reference of chapter 1: the greatest common divisor of two numbers of one digit.
  The reference of chapter 1: long division of numbers of at most one digit; the greatest common divisor.
-/
import Derived.Test.YtgdlehoglpiifaaGreatDoorJRef
namespace Go.Proofs.YtgdlehoglpiifaaGreatDoor
open Go.RowKit Go.Sort Go.Lib

theorem qWhole0 (w : World) : Calls Tryz.prog 39 #[.int .i64 0] w fun e w' => e = .returned (.agg #[.bool false, .slice none 0 0]) ∧ Below w.heap.size w w' := by
  have c1 := Lib.hid (fun w => qSigned0 false w)
  go_enter Tryz.func39, Tryz.ntmps39
  go_wp2_with fail
  refine wp_loop_rounds 1 ?_
  rw [rounds_succ]
  go_wp2_with fail
  (with_reducible refine (c1.out _).mono ?_)
  rintro e w1 ⟨rfl, hb⟩
  have H1 : Below w.heap.size w w1 := by
    refine Below.trans ?_ (hb.mono ?_)
    · repeat (first | with_reducible assumption | with_reducible exact Below.refl _ _ | with_reducible refine Below.setCell ?_ (by first | omega | (simp [go_sem]; omega) | simp [go_sem]) _ | with_reducible refine Below.alloc ?_ (by first | omega | (simp [go_sem]; omega) | simp [go_sem]) _ | with_reducible refine below_grow ?_ (by first | omega | (simp [go_sem]; omega) | simp [go_sem]) _ _ | with_reducible refine Below.drew ?_)
    · first | omega | (simp [go_sem]; omega) | simp [go_sem]
  have S1 : w.heap.size ≤ w1.heap.size := H1.size
  have s1_0 : w.heap.size < w1.heap.size := Nat.lt_of_lt_of_le (by first | omega | (simp [go_sem]; omega) | simp [go_sem]) hb.size
  have k1_0 := fun o => hb.cell (p := ⟨w.heap.size, o, none⟩) (by first | omega | (simp [go_sem]; omega) | simp [go_sem])
  have f1_0 := fun o => hb.frozen (p := ⟨w.heap.size, o, none⟩) (by first | omega | (simp [go_sem]; omega) | simp [go_sem])
  clear hb
  go_wp2_with fail
  refine bodyPost_ret (v := .agg #[.bool false, .slice none 0 0]) (by simp (maxDischargeDepth := 4) [*, results, Tryz.results39, go_sem]) rfl ⟨rfl, ?_⟩
  repeat (first | with_reducible assumption | with_reducible exact Below.refl _ _ | with_reducible refine Below.setCell ?_ (by first | omega | (simp [go_sem]; omega) | simp [go_sem]) _ | with_reducible refine Below.alloc ?_ (by first | omega | (simp [go_sem]; omega) | simp [go_sem]) _ | with_reducible refine below_grow ?_ (by first | omega | (simp [go_sem]; omega) | simp [go_sem]) _ _ | with_reducible refine Below.drew ?_)

theorem info3z : (Tryz.prog.info? 3).map (fun i => (i.zero, i.size, i.bytes)) = some (some (.int .i64 0), 1, 8) := by kernel_rfl
/-- What whole gives of a short number other than 0. -/
def WholePost (n : Int) (w : World) (e : Ending) (w' : World) : Prop :=
  ∃ b cap, e = .returned (.agg #[.bool (decide (n < 0)), .slice (some ⟨b, 0, none⟩) 1 cap]) ∧ w.heap.size ≤ b ∧ b < w'.heap.size ∧ w'.cell? ⟨b, 0, none⟩ = some (.int .i64 n.natAbs) ∧ Below w.heap.size w w'
theorem qWhole1 (n : Nat) (h0 : 0 < n) (hn : n < 1000000000) (w : World) : Calls Tryz.prog 39 #[.int .i64 n] w (WholePost n w) := by
  have hne : ¬ (n : Int) = 0 := by omega
  have hne1 : ((n : Int) != 0) = true := by simp; omega
  have hr : (n : Int) % 1000000000 = n := by omega
  have hr2 : ¬ (n : Int) < 0 := by omega
  have hq : (n : Int) / 1000000000 = 0 := by omega
  go_enter Tryz.func39, Tryz.ntmps39
  go_wp2_with fail
  refine wp_loop_rounds 2 ?_
  rw [rounds_succ]
  go_wp2_with fail
  generalize (Question.appendCap 1 0 3).cut (w.tape w.drawn (Question.appendCap 1 0 3)) = cap at *
  rw [rounds_succ]
  go_wp2_with fail
  (with_reducible refine (qSigned1 false (w.heap.size + 1 + 1) cap n (by omega) _ ?_ ?_).mono ?_)
  · first | omega | (simp [go_sem]; omega) | (simp (maxDischargeDepth := 4) [go_sem]; done) | (simp (maxDischargeDepth := 6) [*, go_sem]; done)
  · first | omega | (simp [go_sem]; omega) | (simp (maxDischargeDepth := 4) [go_sem]; done) | (simp (maxDischargeDepth := 6) [*, go_sem]; done)
  rintro e w1 ⟨rfl, hb⟩
  have H1 : Below w.heap.size w w1 := by
    refine Below.trans ?_ (hb.mono ?_)
    · repeat (first | with_reducible assumption | with_reducible exact Below.refl _ _ | with_reducible refine Below.setCell ?_ (by first | omega | (simp [go_sem]; omega) | simp [go_sem]) _ | with_reducible refine Below.alloc ?_ (by first | omega | (simp [go_sem]; omega) | simp [go_sem]) _ | with_reducible refine below_grow ?_ (by first | omega | (simp [go_sem]; omega) | simp [go_sem]) _ _ | with_reducible refine Below.drew ?_)
    · first | omega | (simp [go_sem]; omega) | simp [go_sem]
  have S1 : w.heap.size ≤ w1.heap.size := H1.size
  have s1_0 : w.heap.size < w1.heap.size := Nat.lt_of_lt_of_le (by first | omega | (simp [go_sem]; omega) | simp [go_sem]) hb.size
  have k1_0 := fun o => hb.cell (p := ⟨w.heap.size, o, none⟩) (by first | omega | (simp [go_sem]; omega) | simp [go_sem])
  have f1_0 := fun o => hb.frozen (p := ⟨w.heap.size, o, none⟩) (by first | omega | (simp [go_sem]; omega) | simp [go_sem])
  have s1_1 : w.heap.size + 1 + 1 < w1.heap.size := Nat.lt_of_lt_of_le (by first | omega | (simp [go_sem]; omega) | simp [go_sem]) hb.size
  have k1_1 := fun o => hb.cell (p := ⟨w.heap.size + 1 + 1, o, none⟩) (by first | omega | (simp [go_sem]; omega) | simp [go_sem])
  have f1_1 := fun o => hb.frozen (p := ⟨w.heap.size + 1 + 1, o, none⟩) (by first | omega | (simp [go_sem]; omega) | simp [go_sem])
  clear hb
  go_wp2_with fail
  refine bodyPost_ret (v := .agg #[.bool false, .slice (some ⟨w.heap.size + 1 + 1, 0, none⟩) 1 cap]) (by simp (maxDischargeDepth := 4) [*, results, Tryz.results39, go_sem]) rfl ⟨w.heap.size + 1 + 1, cap, ?_, by omega, ?_, ?_, ?_⟩
  · rw [show decide ((n : Int) < 0) = false from decide_eq_false (by omega)]
  all_goals first | omega | (simp [go_sem]; omega) | (simp (maxDischargeDepth := 4) [go_sem]; done) | (simp (maxDischargeDepth := 4) [*, go_sem]; done) | (repeat (first | with_reducible assumption | with_reducible exact Below.refl _ _ | with_reducible refine Below.setCell ?_ (by first | omega | (simp [go_sem]; omega) | simp [go_sem]) _ | with_reducible refine Below.alloc ?_ (by first | omega | (simp [go_sem]; omega) | simp [go_sem]) _ | with_reducible refine below_grow ?_ (by first | omega | (simp [go_sem]; omega) | simp [go_sem]) _ _ | with_reducible refine Below.drew ?_))

theorem qFromInt (n : Nat) (hn : n < 1000000000) (w : World) : Calls Tryz.prog 20 #[.int .i64 n] w fun e w' => e = .returned (.string ⟨(decDigits n).toArray⟩) ∧ Below w.heap.size w w' := by
  by_cases h0 : n = 0
  · subst h0
    rw [show decDigits 0 = [48] from by rw [dec_base 0 (by decide)]; rfl]
    go_enter Tryz.func20, Tryz.ntmps20
    go_wp2_with fail
    (with_reducible refine (qWhole0 _).mono ?_)
    rintro e w1 ⟨rfl, hb1⟩
    obtain ⟨⟨dq, osq⟩, rfl⟩ := regrown_of_below hb1
    clear hb1
    go_wp2_with fail
    (with_reducible refine (qText0 false _).mono ?_)
    rintro e w1 ⟨rfl, hb1⟩
    obtain ⟨⟨dq, osq⟩, rfl⟩ := regrown_of_below hb1
    clear hb1
    go_wp2_with fail
    go_ret
    refine ⟨rfl, ?_⟩
    repeat (first | with_reducible assumption | with_reducible exact Below.refl _ _ | with_reducible refine Below.setCell ?_ (by first | omega | (simp [go_sem]; omega) | simp [go_sem]) _ | with_reducible refine Below.alloc ?_ (by first | omega | (simp [go_sem]; omega) | simp [go_sem]) _ | with_reducible refine below_grow ?_ (by first | omega | (simp [go_sem]; omega) | simp [go_sem]) _ _ | with_reducible refine Below.drew ?_)
  · have c1 := Lib.hid (fun w => qWhole1 n (by omega) hn w)
    have hd : decide ((n : Int) < 0) = false := decide_eq_false (by omega)
    have hs : sgT false n = decDigits n := rfl
    go_enter Tryz.func20, Tryz.ntmps20
    go_wp2_with fail
    (with_reducible refine (c1.out _).mono ?_)
    rintro e w1 ⟨b, cap, rfl, hb1, hb2, hc, hbl⟩
    rw [hd]
    go_wp2_with fail
    (with_reducible refine (qText1 false b cap n hn _ hb2 (by simpa using hc)).mono ?_)
    rintro e w2 ⟨rfl, hbt⟩
    rw [hs]
    go_wp2_with fail
    go_ret
    exact ⟨rfl, hbl.trans (hbt.mono hbl.size)⟩
end Go.Proofs.YtgdlehoglpiifaaGreatDoor
namespace Go.Proofs.YtgdlehoglpiifaaGreatDoor
open Go.RowKit Go.Sort Go.Lib

theorem rt_piq (n d : Int) (hd : 0 < d) : rt (piq n d) = rtx (qn n d) (qd n d) := by
  unfold rt; rw [(piq_nd n d hd).1, (piq_nd n d hd).2]
theorem dec1 (a : Nat) (h : a < 10) : decDigits a = [UInt8.ofNat (48 + a)] := dec_base a h
theorem rt_piL : rt piL = [51, 51, 51, 47, 49, 48, 54] := by
  unfold piL
  rw [rt_piq 333 106 (by omega), show qn 333 106 = ((333 : Nat) : Int) from by decide, show qd 333 106 = ((106 : Nat) : Int) from by decide]
  unfold rtx
  rw [if_neg (by decide), itoa_nat, itoa_nat, dec_step 333 (by decide), dec_step (333 / 10) (by decide), dec1 (333 / 10 / 10) (by decide), dec_step 106 (by decide), dec_step (106 / 10) (by decide), dec1 (106 / 10 / 10) (by decide)]
  rfl
theorem rt_piH : rt piH = [50, 50, 47, 55] := by
  unfold piH
  rw [rt_piq 22 7 (by omega), show qn 22 7 = ((22 : Nat) : Int) from by decide, show qd 22 7 = ((7 : Nat) : Int) from by decide]
  unfold rtx
  rw [if_neg (by decide), itoa_nat, itoa_nat, dec_step 22 (by decide), dec1 (22 / 10) (by decide), dec1 7 (by decide)]
  rfl
theorem qLow (w : World) : Calls Tryz.prog 9 #[] w fun e w' => e = .returned (.string ⟨(rt piL).toArray⟩) ∧ Below w.heap.size w w' := by
  rw [rt_piL]
  go_enter Tryz.func9, Tryz.ntmps9
  go_wp2_with fail
  go_ret
  refine ⟨rfl, ?_⟩
  repeat (first | with_reducible assumption | with_reducible exact Below.refl _ _ | with_reducible refine Below.setCell ?_ (by first | omega | (simp [go_sem]; omega) | simp [go_sem]) _ | with_reducible refine Below.alloc ?_ (by first | omega | (simp [go_sem]; omega) | simp [go_sem]) _ | with_reducible refine below_grow ?_ (by first | omega | (simp [go_sem]; omega) | simp [go_sem]) _ _ | with_reducible refine Below.drew ?_)
theorem qHigh (w : World) : Calls Tryz.prog 13 #[] w fun e w' => e = .returned (.string ⟨(rt piH).toArray⟩) ∧ Below w.heap.size w w' := by
  rw [rt_piH]
  go_enter Tryz.func13, Tryz.ntmps13
  go_wp2_with fail
  go_ret
  refine ⟨rfl, ?_⟩
  repeat (first | with_reducible assumption | with_reducible exact Below.refl _ _ | with_reducible refine Below.setCell ?_ (by first | omega | (simp [go_sem]; omega) | simp [go_sem]) _ | with_reducible refine Below.alloc ?_ (by first | omega | (simp [go_sem]; omega) | simp [go_sem]) _ | with_reducible refine below_grow ?_ (by first | omega | (simp [go_sem]; omega) | simp [go_sem]) _ _ | with_reducible refine Below.drew ?_)
end Go.Proofs.YtgdlehoglpiifaaGreatDoor
namespace Go.Proofs.YtgdlehoglpiifaaGreatDoor
open Go.RowKit Go.Sort Go.Lib

/-- What parse gives of a short number other than 0. -/
def ParsePost (n : Nat) (w : World) (e : Ending) (w' : World) : Prop :=
  ∃ b cap, e = .returned (.agg #[.bool false, .slice (some ⟨b, 0, none⟩) 1 cap]) ∧ w.heap.size ≤ b ∧ b < w'.heap.size ∧ w'.cell? ⟨b, 0, none⟩ = some (.int .i64 n) ∧ Below w.heap.size w w'
theorem qParse (m : Nat) (h0 : 0 < m) (hm : m < 1000000000) (w : World) : Calls Tryz.prog 72 #[.string ⟨(decDigits m).toArray⟩] w (ParsePost m w) := by
  have hl : (decDigits m).length ≤ 9 := dec_len (by omega) (by omega)
  have c2 := Lib.hid (fun w => qValue (decDigits m) (dec_all m) (by omega) w)
  rw [val_dec] at c2
  obtain ⟨b, t, hbt, h1, h2⟩ := dec_head m
  rw [hbt] at c2 hl ⊢
  simp only [List.length_cons] at hl
  have hb1 : ((b.toNat : Int) == 45) = false := by rw [beq_eq_false_iff_ne]; omega
  have hb2 : ¬ (b.toNat : Int) = 45 := by omega
  have hb3 : ¬ b.toNat = 45 := by omega
  have e0 : ∀ h, (⟨(b :: t).toArray⟩ : ByteArray)[0]'h = b := fun _ => rfl
  clear hbt h1 h2
  go_enter Tryz.func72, Tryz.ntmps72
  go_wp2_with fail
  refine wp_loop_rounds 1 ?_
  rw [rounds_succ]
  go_wp2_with fail
  (with_reducible refine (c2.out _).mono ?_)
  rintro e w1 ⟨rfl, hb⟩
  have H1 : Below w.heap.size w w1 := by
    refine Below.trans ?_ (hb.mono ?_)
    · repeat (first | with_reducible assumption | with_reducible exact Below.refl _ _ | with_reducible refine Below.setCell ?_ (by first | omega | (simp [go_sem]; omega) | simp [go_sem]) _ | with_reducible refine Below.alloc ?_ (by first | omega | (simp [go_sem]; omega) | simp [go_sem]) _ | with_reducible refine below_grow ?_ (by first | omega | (simp [go_sem]; omega) | simp [go_sem]) _ _ | with_reducible refine Below.drew ?_)
    · first | omega | (simp [go_sem]; omega) | simp [go_sem]
  have S1 : w.heap.size ≤ w1.heap.size := H1.size
  have s1_0 : w.heap.size < w1.heap.size := Nat.lt_of_lt_of_le (by first | omega | (simp [go_sem]; omega) | simp [go_sem]) hb.size
  have k1_0 := fun o => hb.cell (p := ⟨w.heap.size, o, none⟩) (by first | omega | (simp [go_sem]; omega) | simp [go_sem])
  have f1_0 := fun o => hb.frozen (p := ⟨w.heap.size, o, none⟩) (by first | omega | (simp [go_sem]; omega) | simp [go_sem])
  clear hb
  go_wp2_with fail
  generalize (Question.appendCap 1 0 3).cut (w1.tape w1.drawn (Question.appendCap 1 0 3)) = cap at *
  (with_reducible refine (qSigned1 false (w1.heap.size + 1) cap m (by omega) _ ?_ ?_).mono ?_)
  · first | omega | (simp [go_sem]; omega) | (simp (maxDischargeDepth := 4) [go_sem]; done) | (simp (maxDischargeDepth := 6) [*, go_sem]; done)
  · first | omega | (simp [go_sem]; omega) | (simp (maxDischargeDepth := 4) [go_sem]; done) | (simp (maxDischargeDepth := 6) [*, go_sem]; done)
  rintro e w2 ⟨rfl, hb⟩
  have H2 : Below w.heap.size w w2 := by
    refine Below.trans ?_ (hb.mono ?_)
    · repeat (first | with_reducible assumption | with_reducible exact Below.refl _ _ | with_reducible refine Below.setCell ?_ (by first | omega | (simp [go_sem]; omega) | simp [go_sem]) _ | with_reducible refine Below.alloc ?_ (by first | omega | (simp [go_sem]; omega) | simp [go_sem]) _ | with_reducible refine below_grow ?_ (by first | omega | (simp [go_sem]; omega) | simp [go_sem]) _ _ | with_reducible refine Below.drew ?_)
    · first | omega | (simp [go_sem]; omega) | simp [go_sem]
  have S2 : w.heap.size ≤ w2.heap.size := H2.size
  have s2_0 : w.heap.size < w2.heap.size := Nat.lt_of_lt_of_le (by first | omega | (simp [go_sem]; omega) | simp [go_sem]) hb.size
  have k2_0 := fun o => hb.cell (p := ⟨w.heap.size, o, none⟩) (by first | omega | (simp [go_sem]; omega) | simp [go_sem])
  have f2_0 := fun o => hb.frozen (p := ⟨w.heap.size, o, none⟩) (by first | omega | (simp [go_sem]; omega) | simp [go_sem])
  have s2_1 : w1.heap.size + 1 < w2.heap.size := Nat.lt_of_lt_of_le (by first | omega | (simp [go_sem]; omega) | simp [go_sem]) hb.size
  have k2_1 := fun o => hb.cell (p := ⟨w1.heap.size + 1, o, none⟩) (by first | omega | (simp [go_sem]; omega) | simp [go_sem])
  have f2_1 := fun o => hb.frozen (p := ⟨w1.heap.size + 1, o, none⟩) (by first | omega | (simp [go_sem]; omega) | simp [go_sem])
  clear hb
  go_wp2_with fail
  refine bodyPost_ret (v := .agg #[.bool false, .slice (some ⟨w1.heap.size + 1, 0, none⟩) 1 cap]) (by simp (maxDischargeDepth := 4) [*, results, Tryz.results72, go_sem]) rfl ⟨w1.heap.size + 1, cap, rfl, by omega, ?_, ?_, ?_⟩
  all_goals first | omega | (simp [go_sem]; omega) | (simp (maxDischargeDepth := 4) [go_sem]; done) | (simp (maxDischargeDepth := 4) [*, go_sem]; done) | (repeat (first | with_reducible assumption | with_reducible exact Below.refl _ _ | with_reducible refine Below.setCell ?_ (by first | omega | (simp [go_sem]; omega) | simp [go_sem]) _ | with_reducible refine Below.alloc ?_ (by first | omega | (simp [go_sem]; omega) | simp [go_sem]) _ | with_reducible refine below_grow ?_ (by first | omega | (simp [go_sem]; omega) | simp [go_sem]) _ _ | with_reducible refine Below.drew ?_))
end Go.Proofs.YtgdlehoglpiifaaGreatDoor
namespace Go.Proofs.YtgdlehoglpiifaaGreatDoor
open Go.RowKit Go.Sort Go.Lib

def cmpI (x y : Int) : Int := if x < y then -1 else if y < x then 1 else 0
theorem qCompare (a ca b cb : Nat) (x y : Int) (w : World) (ha : a < w.heap.size) (hb : b < w.heap.size) (h : w.cell? ⟨a, 0, none⟩ = some (.int .i64 x)) (h' : w.cell? ⟨b, 0, none⟩ = some (.int .i64 y)) :
    Calls Tryz.prog 80 #[.slice (some ⟨a, 0, none⟩) 1 ca, .slice (some ⟨b, 0, none⟩) 1 cb] w fun e w' => e = .returned (.int .i64 (cmpI x y)) ∧ Below w.heap.size w w' := by
  unfold cmpI
  by_cases h1 : x < y
  · rw [if_pos h1]
    go_enter Tryz.func80, Tryz.ntmps80
    go_wp2_with fail
    refine wp_loop_rounds 2 ?_
    rw [rounds_succ]
    go_wp2_with fail
    refine wp_region_tail 9 (by kernel_rfl) (by kernel_rfl) (by kernel_rfl) ?_
    simp only [List.take_succ_cons, List.take_zero, List.drop_succ_cons, List.drop_zero, List.take_nil, List.drop_nil]
    repeat (quiet_step (first | fail))
    refine wpQuiet_nil ?_
    intro w1 hw1
    obtain ⟨⟨dq, osq⟩, rfl⟩ := hw1
    go_wp2_with fail
    go_ret
    refine ⟨rfl, ?_⟩
    repeat (first | with_reducible assumption | with_reducible exact Below.refl _ _ | with_reducible refine Below.setCell ?_ (by first | omega | (simp [go_sem]; omega) | simp [go_sem]) _ | with_reducible refine Below.alloc ?_ (by first | omega | (simp [go_sem]; omega) | simp [go_sem]) _ | with_reducible refine below_grow ?_ (by first | omega | (simp [go_sem]; omega) | simp [go_sem]) _ _ | with_reducible refine Below.drew ?_)
  · rw [if_neg h1]
    by_cases h2 : y < x
    · rw [if_pos h2]
      go_enter Tryz.func80, Tryz.ntmps80
      go_wp2_with fail
      refine wp_loop_rounds 2 ?_
      rw [rounds_succ]
      go_wp2_with fail
      refine wp_region_tail 9 (by kernel_rfl) (by kernel_rfl) (by kernel_rfl) ?_
      simp only [List.take_succ_cons, List.take_zero, List.drop_succ_cons, List.drop_zero, List.take_nil, List.drop_nil]
      repeat (quiet_step (first | fail))
      refine wpQuiet_nil ?_
      intro w1 hw1
      obtain ⟨⟨dq, osq⟩, rfl⟩ := hw1
      go_wp2_with fail
      refine wp_region_tail 9 (by kernel_rfl) (by kernel_rfl) (by kernel_rfl) ?_
      simp only [List.take_succ_cons, List.take_zero, List.drop_succ_cons, List.drop_zero, List.take_nil, List.drop_nil]
      repeat (quiet_step (first | fail))
      refine wpQuiet_nil ?_
      intro w1 hw1
      obtain ⟨⟨dq, osq⟩, rfl⟩ := hw1
      go_wp2_with fail
      go_ret
      refine ⟨rfl, ?_⟩
      repeat (first | with_reducible assumption | with_reducible exact Below.refl _ _ | with_reducible refine Below.setCell ?_ (by first | omega | (simp [go_sem]; omega) | simp [go_sem]) _ | with_reducible refine Below.alloc ?_ (by first | omega | (simp [go_sem]; omega) | simp [go_sem]) _ | with_reducible refine below_grow ?_ (by first | omega | (simp [go_sem]; omega) | simp [go_sem]) _ _ | with_reducible refine Below.drew ?_)
    · rw [if_neg h2]
      go_enter Tryz.func80, Tryz.ntmps80
      go_wp2_with fail
      refine wp_loop_rounds 2 ?_
      rw [rounds_succ]
      go_wp2_with fail
      refine wp_region_tail 9 (by kernel_rfl) (by kernel_rfl) (by kernel_rfl) ?_
      simp only [List.take_succ_cons, List.take_zero, List.drop_succ_cons, List.drop_zero, List.take_nil, List.drop_nil]
      repeat (quiet_step (first | fail))
      refine wpQuiet_nil ?_
      intro w1 hw1
      obtain ⟨⟨dq, osq⟩, rfl⟩ := hw1
      go_wp2_with fail
      refine wp_region_tail 9 (by kernel_rfl) (by kernel_rfl) (by kernel_rfl) ?_
      simp only [List.take_succ_cons, List.take_zero, List.drop_succ_cons, List.drop_zero, List.take_nil, List.drop_nil]
      repeat (quiet_step (first | fail))
      refine wpQuiet_nil ?_
      intro w1 hw1
      obtain ⟨⟨dq, osq⟩, rfl⟩ := hw1
      go_wp2_with fail
      rw [rounds_succ]
      go_wp2_with fail
      go_ret
      refine ⟨rfl, ?_⟩
      repeat (first | with_reducible assumption | with_reducible exact Below.refl _ _ | with_reducible refine Below.setCell ?_ (by first | omega | (simp [go_sem]; omega) | simp [go_sem]) _ | with_reducible refine Below.alloc ?_ (by first | omega | (simp [go_sem]; omega) | simp [go_sem]) _ | with_reducible refine below_grow ?_ (by first | omega | (simp [go_sem]; omega) | simp [go_sem]) _ _ | with_reducible refine Below.drew ?_)
end Go.Proofs.YtgdlehoglpiifaaGreatDoor
namespace Go.Proofs.YtgdlehoglpiifaaGreatDoor
open Go.RowKit Go.Sort Go.Lib

theorem qTrimZ (b cap : Nat) (w : World) (h : w.cell? ⟨b, 0, none⟩ = some (.int .i64 0)) :
    Calls Tryz.prog 106 #[.slice (some ⟨b, 0, none⟩) 1 cap] w fun e w' => e = .returned (.slice (some ⟨b, 0, none⟩) 0 cap) ∧ Below w.heap.size w w' := by
  go_enter Tryz.func106, Tryz.ntmps106
  go_wp2_with fail
  refine wp_loop_rounds 2 ?_
  rw [rounds_succ]
  go_wp2_with fail
  rw [rounds_succ]
  go_wp2_with fail
  go_ret
  refine ⟨rfl, ?_⟩
  repeat (first | with_reducible assumption | with_reducible exact Below.refl _ _ | with_reducible refine Below.setCell ?_ (by first | omega | (simp [go_sem]; omega) | simp [go_sem]) _ | with_reducible refine Below.alloc ?_ (by first | omega | (simp [go_sem]; omega) | simp [go_sem]) _ | with_reducible refine below_grow ?_ (by first | omega | (simp [go_sem]; omega) | simp [go_sem]) _ _ | with_reducible refine Below.drew ?_)

theorem mk1 (w : World) : (Instr.makeSlice 33 (.int .i64 1) (.int .i64 1)).run Tryz.prog w = .ok (.slice (some ⟨w.heap.size, 0, none⟩) 1 1) (w.alloc (.cells #[.int .i64 0] 3)) := by
  obtain ⟨i0, hi, hz0, hz1, hz2⟩ := info_parts info3z
  have := run_make (P := Tryz.prog) w 33 3 i0 (.int .i64 0) Tryz.underlying33 hi hz0 .i64 .i64 1 1 (by omega) (by omega) (by omega) (by omega)
  rw [hz1] at this
  rw [show madeCells (Value.cells (.int .i64 0)) (Int.toNat 1 * 1) = #[.int .i64 0] from by kernel_rfl] at this
  exact this
/-- What divDigit gives: some quotient, the rest. -/
def DivPost (r : Int) (w : World) (e : Ending) (w' : World) : Prop := ∃ v, e = .returned (.tuple #[v, .int .i64 r]) ∧ Below w.heap.size w w'
theorem qDivDigit (a ca x d : Nat) (hx : x < 1000000000) (hd : 0 < d) (hd2 : d < 1000000000) (w : World) (ha : a < w.heap.size) (h : w.cell? ⟨a, 0, none⟩ = some (.int .i64 x)) :
    Calls Tryz.prog 105 #[.slice (some ⟨a, 0, none⟩) 1 ca, .int .i64 d] w (DivPost ((x % d : Nat) : Int) w) := by
  have hmm := mk1
  have hq : (x : Int) / (d : Int) = ((x / d : Nat) : Int) := by simp
  have hm : (x : Int) % (d : Int) = ((x % d : Nat) : Int) := by simp
  have hd0 : ¬ (d : Int) = 0 := by omega
  have hqx : x / d ≤ x := Nat.div_le_self _ _
  generalize x / d = qq at *
  have hw : wrap64 (qq : Int) = qq := IntWalk.wrap64_in _ (by omega)
  generalize x % d = rr at *
  by_cases h0 : qq = 0
  · subst h0
    go_enter Tryz.func105, Tryz.ntmps105
    go_wp2_with fail
    refine wp_loop_rounds 2 ?_
    rw [rounds_succ]
    go_wp2_with fail
    rw [rounds_succ]
    go_wp2_with fail
    (with_reducible refine (qTrimZ w.heap.size 1 _ ?_).mono ?_)
    · first | omega | (simp [go_sem]; omega) | (simp (maxDischargeDepth := 4) [go_sem]; done) | (simp (maxDischargeDepth := 6) [*, go_sem]; done)
    rintro e w1 ⟨rfl, hb⟩
    have H1 : Below w.heap.size w w1 := by
      refine Below.trans ?_ (hb.mono ?_)
      · repeat (first | with_reducible assumption | with_reducible exact Below.refl _ _ | with_reducible refine Below.setCell ?_ (by first | omega | (simp [go_sem]; omega) | simp [go_sem]) _ | with_reducible refine Below.alloc ?_ (by first | omega | (simp [go_sem]; omega) | simp [go_sem]) _ | with_reducible refine below_grow ?_ (by first | omega | (simp [go_sem]; omega) | simp [go_sem]) _ _ | with_reducible refine Below.drew ?_)
      · first | omega | (simp [go_sem]; omega) | simp [go_sem]
    have S1 : w.heap.size ≤ w1.heap.size := H1.size
    have s1_0 : w.heap.size < w1.heap.size := Nat.lt_of_lt_of_le (by first | omega | (simp [go_sem]; omega) | simp [go_sem]) hb.size
    have k1_0 := fun o => hb.cell (p := ⟨w.heap.size, o, none⟩) (by first | omega | (simp [go_sem]; omega) | simp [go_sem])
    have f1_0 := fun o => hb.frozen (p := ⟨w.heap.size, o, none⟩) (by first | omega | (simp [go_sem]; omega) | simp [go_sem])
    clear hb
    go_wp2_with fail
    go_ret2
    refine ⟨_, rfl, ?_⟩
    repeat (first | with_reducible assumption | with_reducible exact Below.refl _ _ | with_reducible refine Below.setCell ?_ (by first | omega | (simp [go_sem]; omega) | simp [go_sem]) _ | with_reducible refine Below.alloc ?_ (by first | omega | (simp [go_sem]; omega) | simp [go_sem]) _ | with_reducible refine below_grow ?_ (by first | omega | (simp [go_sem]; omega) | simp [go_sem]) _ _ | with_reducible refine Below.drew ?_)
  · go_enter Tryz.func105, Tryz.ntmps105
    go_wp2_with fail
    refine wp_loop_rounds 2 ?_
    rw [rounds_succ]
    go_wp2_with fail
    rw [rounds_succ]
    go_wp2_with fail
    (with_reducible refine (qTrim1 w.heap.size 1 qq (by omega) _ ?_).mono ?_)
    · first | omega | (simp [go_sem]; omega) | (simp (maxDischargeDepth := 4) [go_sem]; done) | (simp (maxDischargeDepth := 6) [*, go_sem]; done)
    rintro e w1 ⟨rfl, hb⟩
    have H1 : Below w.heap.size w w1 := by
      refine Below.trans ?_ (hb.mono ?_)
      · repeat (first | with_reducible assumption | with_reducible exact Below.refl _ _ | with_reducible refine Below.setCell ?_ (by first | omega | (simp [go_sem]; omega) | simp [go_sem]) _ | with_reducible refine Below.alloc ?_ (by first | omega | (simp [go_sem]; omega) | simp [go_sem]) _ | with_reducible refine below_grow ?_ (by first | omega | (simp [go_sem]; omega) | simp [go_sem]) _ _ | with_reducible refine Below.drew ?_)
      · first | omega | (simp [go_sem]; omega) | simp [go_sem]
    have S1 : w.heap.size ≤ w1.heap.size := H1.size
    have s1_0 : w.heap.size < w1.heap.size := Nat.lt_of_lt_of_le (by first | omega | (simp [go_sem]; omega) | simp [go_sem]) hb.size
    have k1_0 := fun o => hb.cell (p := ⟨w.heap.size, o, none⟩) (by first | omega | (simp [go_sem]; omega) | simp [go_sem])
    have f1_0 := fun o => hb.frozen (p := ⟨w.heap.size, o, none⟩) (by first | omega | (simp [go_sem]; omega) | simp [go_sem])
    clear hb
    go_wp2_with fail
    go_ret2
    refine ⟨_, rfl, ?_⟩
    repeat (first | with_reducible assumption | with_reducible exact Below.refl _ _ | with_reducible refine Below.setCell ?_ (by first | omega | (simp [go_sem]; omega) | simp [go_sem]) _ | with_reducible refine Below.alloc ?_ (by first | omega | (simp [go_sem]; omega) | simp [go_sem]) _ | with_reducible refine below_grow ?_ (by first | omega | (simp [go_sem]; omega) | simp [go_sem]) _ _ | with_reducible refine Below.drew ?_)
end Go.Proofs.YtgdlehoglpiifaaGreatDoor
namespace Go.Proofs.YtgdlehoglpiifaaGreatDoor
open Go.RowKit Go.Sort Go.Lib

/-- The digits of a number of at most one digit. -/
def Dig (w : World) (s : Value) (n : Nat) : Prop := (n = 0 ∧ ∃ p cap, s = .slice p 0 cap) ∨ (0 < n ∧ ∃ b cap, s = .slice (some ⟨b, 0, none⟩) 1 cap ∧ b < w.heap.size ∧ w.cell? ⟨b, 0, none⟩ = some (.int .i64 n))
theorem Dig.keep {w w' : World} {s : Value} {n : Nat} (h : Dig w s n) (hb : Below w.heap.size w w') : Dig w' s n := by
  rcases h with h | ⟨h0, b, cap, h1, h2, h3⟩
  · exact .inl h
  · exact .inr ⟨h0, b, cap, h1, Nat.lt_of_lt_of_le h2 hb.size, (hb.cell (p := ⟨b, 0, none⟩) h2).trans h3⟩
def ModPost (r : Nat) (w : World) (e : Ending) (w' : World) : Prop := ∃ v s, e = .returned (.tuple #[v, s]) ∧ Dig w' s r ∧ Below w.heap.size w w'
set_option maxRecDepth 8000 in
theorem qDivLess (a ca b cb x y : Nat) (hx0 : 0 < x) (hxy : x < y) (w : World) (ha : a < w.heap.size) (hb : b < w.heap.size) (h : w.cell? ⟨a, 0, none⟩ = some (.int .i64 x)) (h' : w.cell? ⟨b, 0, none⟩ = some (.int .i64 y)) :
    Calls Tryz.prog 77 #[.slice (some ⟨a, 0, none⟩) 1 ca, .slice (some ⟨b, 0, none⟩) 1 cb] w (ModPost x w) := by
  have hc : cmpI (x : Int) (y : Int) = -1 := by unfold cmpI; rw [if_pos (by omega)]
  have c1 := Lib.hid (qCompare a ca b cb x y)
  rw [hc] at c1
  go_enter Tryz.func77, Tryz.ntmps77
  go_wp2_with fail
  (with_reducible refine (c1.out _ ?_ ?_ ?_ ?_).mono ?_)
  · first | omega | (simp [go_sem]; omega) | (simp (maxDischargeDepth := 4) [go_sem]; done) | (simp (maxDischargeDepth := 6) [*, go_sem]; done)
  · first | omega | (simp [go_sem]; omega) | (simp (maxDischargeDepth := 4) [go_sem]; done) | (simp (maxDischargeDepth := 6) [*, go_sem]; done)
  · first | omega | (simp [go_sem]; omega) | (simp (maxDischargeDepth := 4) [go_sem]; done) | (simp (maxDischargeDepth := 6) [*, go_sem]; done)
  · first | omega | (simp [go_sem]; omega) | (simp (maxDischargeDepth := 4) [go_sem]; done) | (simp (maxDischargeDepth := 6) [*, go_sem]; done)
  rintro e w1 ⟨rfl, hb⟩
  have H1 : Below w.heap.size w w1 := by
    refine Below.trans ?_ (hb.mono ?_)
    · repeat (first | with_reducible assumption | with_reducible exact Below.refl _ _ | with_reducible refine Below.setCell ?_ (by first | omega | (simp [go_sem]; omega) | simp [go_sem]) _ | with_reducible refine Below.alloc ?_ (by first | omega | (simp [go_sem]; omega) | simp [go_sem]) _ | with_reducible refine below_grow ?_ (by first | omega | (simp [go_sem]; omega) | simp [go_sem]) _ _ | with_reducible refine Below.drew ?_)
    · first | omega | (simp [go_sem]; omega) | simp [go_sem]
  have S1 : w.heap.size ≤ w1.heap.size := H1.size
  have s1_0 : a < w1.heap.size := Nat.lt_of_lt_of_le (by first | omega | (simp [go_sem]; omega) | simp [go_sem]) hb.size
  have k1_0 := fun o => hb.cell (p := ⟨a, o, none⟩) (by first | omega | (simp [go_sem]; omega) | simp [go_sem])
  have f1_0 := fun o => hb.frozen (p := ⟨a, o, none⟩) (by first | omega | (simp [go_sem]; omega) | simp [go_sem])
  clear hb
  go_wp2_with fail
  go_ret2
  refine ⟨_, _, rfl, .inr ⟨hx0, a, ca, rfl, s1_0, (k1_0 0).trans h⟩, ?_⟩
  repeat (first | with_reducible assumption | with_reducible exact Below.refl _ _ | with_reducible refine Below.setCell ?_ (by first | omega | (simp [go_sem]; omega) | simp [go_sem]) _ | with_reducible refine Below.alloc ?_ (by first | omega | (simp [go_sem]; omega) | simp [go_sem]) _ | with_reducible refine below_grow ?_ (by first | omega | (simp [go_sem]; omega) | simp [go_sem]) _ _ | with_reducible refine Below.drew ?_)
end Go.Proofs.YtgdlehoglpiifaaGreatDoor
namespace Go.Proofs.YtgdlehoglpiifaaGreatDoor
open Go.RowKit Go.Sort Go.Lib

set_option maxRecDepth 8000 in
theorem qCompare0 (p : Option Addr) (ca b cb : Nat) (w : World) :
    Calls Tryz.prog 80 #[.slice p 0 ca, .slice (some ⟨b, 0, none⟩) 1 cb] w fun e w' => e = .returned (.int .i64 (-1)) ∧ Below w.heap.size w w' := by
  go_enter Tryz.func80, Tryz.ntmps80
  go_wp2_with fail
  go_ret
  refine ⟨rfl, ?_⟩
  repeat (first | with_reducible assumption | with_reducible exact Below.refl _ _ | with_reducible refine Below.setCell ?_ (by first | omega | (simp [go_sem]; omega) | simp [go_sem]) _ | with_reducible refine Below.alloc ?_ (by first | omega | (simp [go_sem]; omega) | simp [go_sem]) _ | with_reducible refine below_grow ?_ (by first | omega | (simp [go_sem]; omega) | simp [go_sem]) _ _ | with_reducible refine Below.drew ?_)

set_option maxRecDepth 8000 in
theorem qMod0 (p : Option Addr) (ca b cb : Nat) (w : World) :
    Calls Tryz.prog 77 #[.slice p 0 ca, .slice (some ⟨b, 0, none⟩) 1 cb] w (ModPost 0 w) := by
  have c1 := Lib.hid (qCompare0 p ca b cb)
  go_enter Tryz.func77, Tryz.ntmps77
  go_wp2_with fail
  (with_reducible refine (c1.out _).mono ?_)
  rintro e w1 ⟨rfl, hb⟩
  have H1 : Below w.heap.size w w1 := by
    refine Below.trans ?_ (hb.mono ?_)
    · repeat (first | with_reducible assumption | with_reducible exact Below.refl _ _ | with_reducible refine Below.setCell ?_ (by first | omega | (simp [go_sem]; omega) | simp [go_sem]) _ | with_reducible refine Below.alloc ?_ (by first | omega | (simp [go_sem]; omega) | simp [go_sem]) _ | with_reducible refine below_grow ?_ (by first | omega | (simp [go_sem]; omega) | simp [go_sem]) _ _ | with_reducible refine Below.drew ?_)
    · first | omega | (simp [go_sem]; omega) | simp [go_sem]
  have S1 : w.heap.size ≤ w1.heap.size := H1.size
  clear hb
  go_wp2_with fail
  go_ret2
  refine ⟨_, _, rfl, .inl ⟨rfl, p, ca, rfl⟩, ?_⟩
  repeat (first | with_reducible assumption | with_reducible exact Below.refl _ _ | with_reducible refine Below.setCell ?_ (by first | omega | (simp [go_sem]; omega) | simp [go_sem]) _ | with_reducible refine Below.alloc ?_ (by first | omega | (simp [go_sem]; omega) | simp [go_sem]) _ | with_reducible refine below_grow ?_ (by first | omega | (simp [go_sem]; omega) | simp [go_sem]) _ _ | with_reducible refine Below.drew ?_)

set_option maxRecDepth 8000 in
theorem qModGe (a ca b cb x y : Nat) (hy : 0 < y) (hxy : y ≤ x) (hx : x < 1000000000) (w : World) (ha : a < w.heap.size) (hb : b < w.heap.size) (h : w.cell? ⟨a, 0, none⟩ = some (.int .i64 x)) (h' : w.cell? ⟨b, 0, none⟩ = some (.int .i64 y)) :
    Calls Tryz.prog 77 #[.slice (some ⟨a, 0, none⟩) 1 ca, .slice (some ⟨b, 0, none⟩) 1 cb] w (ModPost (x % y) w) := by
  have hc : ¬ cmpI (x : Int) (y : Int) < 0 := by unfold cmpI; rw [if_neg (by omega)]; split <;> omega
  have c1 := Lib.hid (qCompare a ca b cb x y)
  have c2 := Lib.hid (qDivDigit a ca x y hx hy (by omega))
  generalize cmpI (x : Int) (y : Int) = cc at *
  generalize x % y = r at *
  by_cases h0 : r = 0
  · subst h0
    have c3 := Lib.hid (qTrimZ)
    go_enter Tryz.func77, Tryz.ntmps77
    go_wp2_with fail
    (with_reducible refine (c1.out _ ?_ ?_ ?_ ?_).mono ?_)
    · first | omega | (simp [go_sem]; omega) | (simp (maxDischargeDepth := 4) [go_sem]; done) | (simp (maxDischargeDepth := 6) [*, go_sem]; done)
    · first | omega | (simp [go_sem]; omega) | (simp (maxDischargeDepth := 4) [go_sem]; done) | (simp (maxDischargeDepth := 6) [*, go_sem]; done)
    · first | omega | (simp [go_sem]; omega) | (simp (maxDischargeDepth := 4) [go_sem]; done) | (simp (maxDischargeDepth := 6) [*, go_sem]; done)
    · first | omega | (simp [go_sem]; omega) | (simp (maxDischargeDepth := 4) [go_sem]; done) | (simp (maxDischargeDepth := 6) [*, go_sem]; done)
    rintro e w1 ⟨rfl, hb⟩
    have H1 : Below w.heap.size w w1 := by
      refine Below.trans ?_ (hb.mono ?_)
      · repeat (first | with_reducible assumption | with_reducible exact Below.refl _ _ | with_reducible refine Below.setCell ?_ (by first | omega | (simp [go_sem]; omega) | simp [go_sem]) _ | with_reducible refine Below.alloc ?_ (by first | omega | (simp [go_sem]; omega) | simp [go_sem]) _ | with_reducible refine below_grow ?_ (by first | omega | (simp [go_sem]; omega) | simp [go_sem]) _ _ | with_reducible refine Below.drew ?_)
      · first | omega | (simp [go_sem]; omega) | simp [go_sem]
    have S1 : w.heap.size ≤ w1.heap.size := H1.size
    have s1_0 : a < w1.heap.size := Nat.lt_of_lt_of_le (by first | omega | (simp [go_sem]; omega) | simp [go_sem]) hb.size
    have k1_0 := fun o => hb.cell (p := ⟨a, o, none⟩) (by first | omega | (simp [go_sem]; omega) | simp [go_sem])
    have f1_0 := fun o => hb.frozen (p := ⟨a, o, none⟩) (by first | omega | (simp [go_sem]; omega) | simp [go_sem])
    have s1_1 : b < w1.heap.size := Nat.lt_of_lt_of_le (by first | omega | (simp [go_sem]; omega) | simp [go_sem]) hb.size
    have k1_1 := fun o => hb.cell (p := ⟨b, o, none⟩) (by first | omega | (simp [go_sem]; omega) | simp [go_sem])
    have f1_1 := fun o => hb.frozen (p := ⟨b, o, none⟩) (by first | omega | (simp [go_sem]; omega) | simp [go_sem])
    clear hb
    go_wp2_with fail
    (with_reducible refine (c2.out _ s1_0 (by rw [k1_0]; exact h)).mono ?_)
    rintro e wq ⟨v, rfl, hbl⟩
    have Hq : Below w.heap.size w wq := H1.trans (hbl.mono S1)
    have Sq := Hq.size
    clear hbl
    go_wp2_with fail
    (with_reducible refine (c3.out wq.heap.size 1 _ ?_).mono ?_)
    · first | omega | (simp [go_sem]; omega) | (simp (maxDischargeDepth := 4) [go_sem]; done) | (simp (maxDischargeDepth := 6) [*, go_sem]; done)
    rintro e w2 ⟨rfl, hb⟩
    have H2 : Below w.heap.size w w2 := by
      refine Below.trans ?_ (hb.mono ?_)
      · repeat (first | with_reducible assumption | with_reducible exact Below.refl _ _ | with_reducible refine Below.setCell ?_ (by first | omega | (simp [go_sem]; omega) | simp [go_sem]) _ | with_reducible refine Below.alloc ?_ (by first | omega | (simp [go_sem]; omega) | simp [go_sem]) _ | with_reducible refine below_grow ?_ (by first | omega | (simp [go_sem]; omega) | simp [go_sem]) _ _ | with_reducible refine Below.drew ?_)
      · first | omega | (simp [go_sem]; omega) | simp [go_sem]
    have S2 : w.heap.size ≤ w2.heap.size := H2.size
    have s2_0 : wq.heap.size < w2.heap.size := Nat.lt_of_lt_of_le (by first | omega | (simp [go_sem]; omega) | simp [go_sem]) hb.size
    have k2_0 := fun o => hb.cell (p := ⟨wq.heap.size, o, none⟩) (by first | omega | (simp [go_sem]; omega) | simp [go_sem])
    have f2_0 := fun o => hb.frozen (p := ⟨wq.heap.size, o, none⟩) (by first | omega | (simp [go_sem]; omega) | simp [go_sem])
    clear hb
    go_wp2_with fail
    go_ret2
    refine ⟨_, _, rfl, .inl ⟨rfl, some ⟨wq.heap.size, 0, none⟩, 1, rfl⟩, ?_⟩
    repeat (first | with_reducible assumption | with_reducible exact Below.refl _ _ | with_reducible refine Below.setCell ?_ (by first | omega | (simp [go_sem]; omega) | simp [go_sem]) _ | with_reducible refine Below.alloc ?_ (by first | omega | (simp [go_sem]; omega) | simp [go_sem]) _ | with_reducible refine below_grow ?_ (by first | omega | (simp [go_sem]; omega) | simp [go_sem]) _ _ | with_reducible refine Below.drew ?_)
  · have c3 := Lib.hid (qTrim1)
    go_enter Tryz.func77, Tryz.ntmps77
    go_wp2_with fail
    (with_reducible refine (c1.out _ ?_ ?_ ?_ ?_).mono ?_)
    · first | omega | (simp [go_sem]; omega) | (simp (maxDischargeDepth := 4) [go_sem]; done) | (simp (maxDischargeDepth := 6) [*, go_sem]; done)
    · first | omega | (simp [go_sem]; omega) | (simp (maxDischargeDepth := 4) [go_sem]; done) | (simp (maxDischargeDepth := 6) [*, go_sem]; done)
    · first | omega | (simp [go_sem]; omega) | (simp (maxDischargeDepth := 4) [go_sem]; done) | (simp (maxDischargeDepth := 6) [*, go_sem]; done)
    · first | omega | (simp [go_sem]; omega) | (simp (maxDischargeDepth := 4) [go_sem]; done) | (simp (maxDischargeDepth := 6) [*, go_sem]; done)
    rintro e w1 ⟨rfl, hb⟩
    have H1 : Below w.heap.size w w1 := by
      refine Below.trans ?_ (hb.mono ?_)
      · repeat (first | with_reducible assumption | with_reducible exact Below.refl _ _ | with_reducible refine Below.setCell ?_ (by first | omega | (simp [go_sem]; omega) | simp [go_sem]) _ | with_reducible refine Below.alloc ?_ (by first | omega | (simp [go_sem]; omega) | simp [go_sem]) _ | with_reducible refine below_grow ?_ (by first | omega | (simp [go_sem]; omega) | simp [go_sem]) _ _ | with_reducible refine Below.drew ?_)
      · first | omega | (simp [go_sem]; omega) | simp [go_sem]
    have S1 : w.heap.size ≤ w1.heap.size := H1.size
    have s1_0 : a < w1.heap.size := Nat.lt_of_lt_of_le (by first | omega | (simp [go_sem]; omega) | simp [go_sem]) hb.size
    have k1_0 := fun o => hb.cell (p := ⟨a, o, none⟩) (by first | omega | (simp [go_sem]; omega) | simp [go_sem])
    have f1_0 := fun o => hb.frozen (p := ⟨a, o, none⟩) (by first | omega | (simp [go_sem]; omega) | simp [go_sem])
    have s1_1 : b < w1.heap.size := Nat.lt_of_lt_of_le (by first | omega | (simp [go_sem]; omega) | simp [go_sem]) hb.size
    have k1_1 := fun o => hb.cell (p := ⟨b, o, none⟩) (by first | omega | (simp [go_sem]; omega) | simp [go_sem])
    have f1_1 := fun o => hb.frozen (p := ⟨b, o, none⟩) (by first | omega | (simp [go_sem]; omega) | simp [go_sem])
    clear hb
    go_wp2_with fail
    (with_reducible refine (c2.out _ s1_0 (by rw [k1_0]; exact h)).mono ?_)
    rintro e wq ⟨v, rfl, hbl⟩
    have Hq : Below w.heap.size w wq := H1.trans (hbl.mono S1)
    have Sq := Hq.size
    clear hbl
    go_wp2_with fail
    (with_reducible refine (c3.out wq.heap.size 1 r (by omega) _ ?_).mono ?_)
    · first | omega | (simp [go_sem]; omega) | (simp (maxDischargeDepth := 4) [go_sem]; done) | (simp (maxDischargeDepth := 6) [*, go_sem]; done)
    rintro e w2 ⟨rfl, hb⟩
    have H2 : Below w.heap.size w w2 := by
      refine Below.trans ?_ (hb.mono ?_)
      · repeat (first | with_reducible assumption | with_reducible exact Below.refl _ _ | with_reducible refine Below.setCell ?_ (by first | omega | (simp [go_sem]; omega) | simp [go_sem]) _ | with_reducible refine Below.alloc ?_ (by first | omega | (simp [go_sem]; omega) | simp [go_sem]) _ | with_reducible refine below_grow ?_ (by first | omega | (simp [go_sem]; omega) | simp [go_sem]) _ _ | with_reducible refine Below.drew ?_)
      · first | omega | (simp [go_sem]; omega) | simp [go_sem]
    have S2 : w.heap.size ≤ w2.heap.size := H2.size
    have s2_0 : wq.heap.size < w2.heap.size := Nat.lt_of_lt_of_le (by first | omega | (simp [go_sem]; omega) | simp [go_sem]) hb.size
    have k2_0 := fun o => hb.cell (p := ⟨wq.heap.size, o, none⟩) (by first | omega | (simp [go_sem]; omega) | simp [go_sem])
    have f2_0 := fun o => hb.frozen (p := ⟨wq.heap.size, o, none⟩) (by first | omega | (simp [go_sem]; omega) | simp [go_sem])
    clear hb
    go_wp2_with fail
    go_ret2
    refine ⟨_, _, rfl, .inr ⟨by omega, wq.heap.size, 1, rfl, s2_0, ?_⟩, ?_⟩
    all_goals first | omega | (simp [go_sem]; omega) | (simp (maxDischargeDepth := 4) [go_sem]; done) | (simp (maxDischargeDepth := 4) [*, go_sem]; done) | (repeat (first | with_reducible assumption | with_reducible exact Below.refl _ _ | with_reducible refine Below.setCell ?_ (by first | omega | (simp [go_sem]; omega) | simp [go_sem]) _ | with_reducible refine Below.alloc ?_ (by first | omega | (simp [go_sem]; omega) | simp [go_sem]) _ | with_reducible refine below_grow ?_ (by first | omega | (simp [go_sem]; omega) | simp [go_sem]) _ _ | with_reducible refine Below.drew ?_))

theorem qMod (a b : Value) (x y : Nat) (hx : x < 1000000000) (hy : 0 < y) (hy2 : y < 1000000000) (w : World) (ha : Dig w a x) (hb : Dig w b y) :
    Calls Tryz.prog 77 #[a, b] w (ModPost (x % y) w) := by
  rcases hb with ⟨hb, _⟩ | ⟨_, bb, cb, rfl, hb1, hb2⟩
  · omega
  rcases ha with ⟨rfl, p, ca, rfl⟩ | ⟨hx0, ba, ca, rfl, ha1, ha2⟩
  · rw [Nat.zero_mod]; exact qMod0 p ca bb cb w
  · by_cases h : x < y
    · rw [Nat.mod_eq_of_lt h]; exact qDivLess ba ca bb cb x y hx0 h w ha1 hb1 ha2 hb2
    · exact qModGe ba ca bb cb x y hy (by omega) hx w ha1 hb1 ha2 hb2

/-- What common gives. -/
def GcdPost (g : Nat) (w : World) (e : Ending) (w' : World) : Prop := ∃ s, e = .returned s ∧ Dig w' s g ∧ Below w.heap.size w w'
/-- The number of some digits, for a measure. -/
def digOf (w : World) (s : Value) : Nat := match s with
  | .slice (some a) 1 _ => (match w.cell? a with | some (.int _ n) => n.toNat | _ => 0)
  | _ => 0
theorem Dig.of {w : World} {s : Value} {n : Nat} (h : Dig w s n) : digOf w s = n := by
  rcases h with ⟨rfl, p, cap, rfl⟩ | ⟨_, b, cap, rfl, _, hc⟩
  · cases p <;> rfl
  · show (match w.cell? ⟨b, 0, none⟩ with | some (.int _ n) => n.toNat | _ => 0) = n
    rw [hc]; simp
set_option maxRecDepth 8000 in
theorem qCommon (a b : Value) (x y : Nat) (hx : x < 1000000000) (hy : y < 1000000000) (w : World) (ha : Dig w a x) (hb : Dig w b y) :
    Calls Tryz.prog 76 #[a, b] w (GcdPost (Nat.gcd x y) w) := by
  generalize hg : Nat.gcd x y = g
  go_enter Tryz.func76, Tryz.ntmps76
  go_wp2_with fail
  go_loopw [0, 1] (fun p q wr => ∃ c d : Nat, Dig wr p c ∧ Dig wr q d ∧ c < 1000000000 ∧ d < 1000000000 ∧ Nat.gcd c d = g ∧ Below w.heap.size w wr) (fun _ q wr => digOf wr q)
  case atStart => exact ⟨x, y, ha, hb, hx, hy, hg, Below.refl _ _⟩
  case round =>
    obtain ⟨c, d, hc, hd, hcl, hdl, hgc, hbl⟩ := hrel
    have hm := hd.of
    by_cases h0 : d = 0
    · subst h0
      obtain rfl : c = g := by simpa using hgc
      rcases hd with ⟨_, p, cap, rfl⟩ | ⟨h0, _⟩
      · clear hm
        go_wp2_with fail
        go_ret
        exact ⟨_, rfl, hc, hbl⟩
      · omega
    · have hdp : 0 < d := by omega
      have c1 := Lib.hid (qMod _ _ c d hcl hdp hdl wr hc hd)
      have hlt : c % d < d := Nat.mod_lt _ hdp
      have hgc2 : Nat.gcd d (c % d) = g := by rw [← hgc, Nat.gcd_comm c d, Nat.gcd_rec d c, Nat.gcd_comm]
      have hd' := Lib.hid hd
      rcases hd with ⟨h1, _⟩ | ⟨_, bb, cb, rfl, hb1, hb2⟩
      · omega
      generalize c % d = r at *
      have hm := Lib.hid hm
      have hgc2 := Lib.hid hgc2
      clear hgc hc
      go_wp2_with fail
      (with_reducible refine c1.out.mono ?_)
      rintro e w1 ⟨v, s, rfl, hs, hb⟩
      go_wp2_with fail
      go_roundw
      case rel => exact ⟨d, r, hd'.out.keep hb, hs, by omega, by omega, hgc2.out, hbl.trans (hb.mono hbl.size)⟩
      case measure => rw [hs.of, hm.out]; omega
end Go.Proofs.YtgdlehoglpiifaaGreatDoor
