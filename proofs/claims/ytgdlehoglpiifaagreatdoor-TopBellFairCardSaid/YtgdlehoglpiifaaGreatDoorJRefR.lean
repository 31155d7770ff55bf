/-
  The reference of chapter 1: numerator and denominator of a short fraction.
  The reference of chapter 1: the text of a short number in lowest terms is valid.
  The reference of chapter 1: rows of valid numbers; an integer as a machine integer.
-/
import Derived.Test.YtgdlehoglpiifaaGreatDoorJRefK
import Derived.Test.YtgdlehoglpiifaaGreatDoorJLanes
namespace Go.Proofs.YtgdlehoglpiifaaGreatDoor
open Go.RowKit Go.Sort Go.Lib

/-- What parts gives of the text of a short fraction. -/
def QPartsPost (m d : Nat) (w : World) (e : Ending) (w' : World) : Prop :=
  ∃ s1 s2, e = .returned (.tuple #[.agg #[.bool false, s1], .agg #[.bool false, s2]]) ∧ Dig w' s1 m ∧ Dig w' s2 d ∧ Below w.heap.size w w'
theorem qParts (m d : Nat) (h0 : 0 < m) (hm : m < 1000000000) (d0 : 0 < d) (hd : d < 1000000000) (w : World) : Calls Tryz.prog 35 #[.string ⟨(decDigits m ++ 47 :: decDigits d).toArray⟩] w (QPartsPost m d w) := by
  have hl : (decDigits m).length ≤ 9 := dec_len (by omega) (by omega)
  have hl2 : (decDigits d).length ≤ 9 := dec_len (by omega) (by omega)
  have hs := slashAt_some (r := decDigits d) (dec_noslash m)
  have c1 := Lib.hid (fun w => qSlash (decDigits m ++ 47 :: decDigits d) (by simp; omega) w)
  rw [hs] at c1
  have c2 := Lib.hid (fun w => qParse m h0 hm w)
  have c3 := Lib.hid (fun w => qParse d d0 hd w)
  have hx := cut_left (decDigits m) (47 :: decDigits d)
  have hy := cut_right (decDigits m ++ [47]) (decDigits d)
  rw [List.append_assoc] at hy
  simp only [List.length_append, List.length_cons, List.length_nil, List.cons_append, List.nil_append] at hx hy
  generalize decDigits m = l at *
  generalize decDigits d = u at *
  have i1 : (l.length : Int) ≤ (l.length : Int) + ((u.length : Int) + 1) := by omega
  have i2 : IntKind.i64.wrap ((l.length : Int) + 1) = (l.length : Int) + 1 := IntWalk.i64_in _ (by omega)
  have i3 : (0 : Int) ≤ (l.length : Int) + 1 := by omega
  have i4 : (l.length : Int) + 1 ≤ (l.length : Int) + ((u.length : Int) + 1) := by omega
  have i5 : ((l.length : Int) + 1).toNat = l.length + 1 := by omega
  clear hs
  go_enter Tryz.func35, Tryz.ntmps35
  go_wp2_with fail
  (with_reducible refine (c1.out _).mono ?_)
  rintro e w1 ⟨rfl, hb⟩
  have H1 : Below w.heap.size w w1 := by
    refine Below.trans ?_ (hb.mono ?_)
    · repeat (first | with_reducible assumption | with_reducible exact Below.refl _ _ | with_reducible refine Below.setCell ?_ (by first | omega | (simp [go_sem]; omega) | simp [go_sem]) _ | with_reducible refine Below.alloc ?_ (by first | omega | (simp [go_sem]; omega) | simp [go_sem]) _ | with_reducible refine below_grow ?_ (by first | omega | (simp [go_sem]; omega) | simp [go_sem]) _ _ | with_reducible refine Below.drew ?_)
    · first | omega | (simp [go_sem]; omega) | simp [go_sem]
  have S1 : w.heap.size ≤ w1.heap.size := H1.size
  have s1_0 : w.heap.size < w1.heap.size := Nat.lt_of_lt_of_le (by first | omega | (simp [go_sem]; omega) | simp [go_sem]) hb.size
  have k1_0 := fun o => hb.cell (p := ⟨w.heap.size, o, none⟩) (by first | omega | (simp [go_sem]; omega) | simp [go_sem])
  have f1_0 := fun o => hb.frozen (p := ⟨w.heap.size, o, none⟩) (by first | omega | (simp [go_sem]; omega) | simp [go_sem])
  have s1_1 : w.heap.size + 1 < w1.heap.size := Nat.lt_of_lt_of_le (by first | omega | (simp [go_sem]; omega) | simp [go_sem]) hb.size
  have k1_1 := fun o => hb.cell (p := ⟨w.heap.size + 1, o, none⟩) (by first | omega | (simp [go_sem]; omega) | simp [go_sem])
  have f1_1 := fun o => hb.frozen (p := ⟨w.heap.size + 1, o, none⟩) (by first | omega | (simp [go_sem]; omega) | simp [go_sem])
  clear hb
  clear c1
  go_wp2_with fail
  refine wp_region_heldT (S := fun w' => True) 9 (by kernel_rfl) (by kernel_rfl) ?_ (fun hH => ?_)
  · first | trivial | simp (maxDischargeDepth := 4) [*, go_sem]
  simp only [List.take_succ_cons, List.take_zero, List.drop_succ_cons, List.drop_zero, List.take_nil, List.drop_nil]
  refine wpAnyH_take (i := 0) (v := ?_) rfl (by kernel_rfl) (by kernel_rfl) (by kernel_rfl) (fun _ _ _ h => h) (Or.inl ⟨by rfl, ?_⟩) (by assumption) ?_
  rotate_left
  · intro w' hSw
    try dsimp only at hSw
    first | (go_simp; done) | (go_simp; with_reducible rfl)
  try simp only [Act.put, List.setIfInBounds_toArray, List.set_cons_zero, List.set_cons_succ]
  refine wpAnyH_take (i := 1) (v := ?_) rfl (by kernel_rfl) (by kernel_rfl) (by kernel_rfl) (fun _ _ _ h => h) (Or.inl ⟨by rfl, ?_⟩) (by assumption) ?_
  rotate_left
  · intro w' hSw
    try dsimp only at hSw
    first | (go_simp; done) | (go_simp; with_reducible rfl)
  try simp only [Act.put, List.setIfInBounds_toArray, List.set_cons_zero, List.set_cons_succ]
  refine wpAnyH_take (i := 2) (v := ?_) rfl (by kernel_rfl) (by kernel_rfl) (by kernel_rfl) (fun _ _ _ h => h) (Or.inl ⟨by rfl, ?_⟩) (by assumption) ?_
  rotate_left
  · intro w' hSw
    try dsimp only at hSw
    first | (go_simp; done) | (go_simp; with_reducible rfl)
  try simp only [Act.put, List.setIfInBounds_toArray, List.set_cons_zero, List.set_cons_succ]
  refine wpAnyH_take (i := 4) (v := ?_) rfl (by kernel_rfl) (by kernel_rfl) (by kernel_rfl) (fun _ _ _ h => h) (Or.inl ⟨by rfl, ?_⟩) (by assumption) ?_
  rotate_left
  · intro w' hSw
    try dsimp only at hSw
    first | (go_simp; done) | (go_simp; with_reducible rfl)
  try simp only [Act.put, List.setIfInBounds_toArray, List.set_cons_zero, List.set_cons_succ]
  refine wpAnyH_take (i := 5) (v := ?_) rfl (by kernel_rfl) (by kernel_rfl) (by kernel_rfl) (fun _ _ _ h => h) (Or.inl ⟨by rfl, ?_⟩) (by assumption) ?_
  rotate_left
  · intro w' hSw
    try dsimp only at hSw
    first | (go_simp; done) | (go_simp; with_reducible rfl)
  try simp only [Act.put, List.setIfInBounds_toArray, List.set_cons_zero, List.set_cons_succ]
  refine wpAnyH_take (i := 6) (v := ?_) rfl (by kernel_rfl) (by kernel_rfl) (by kernel_rfl) (fun _ _ _ h => h) (Or.inl ⟨by rfl, ?_⟩) (by assumption) ?_
  rotate_left
  · intro w' hSw
    try dsimp only at hSw
    first | (go_simp; done) | (go_simp; with_reducible rfl)
  try simp only [Act.put, List.setIfInBounds_toArray, List.set_cons_zero, List.set_cons_succ]
  refine wpAnyH_take (i := 7) (v := ?_) rfl (by kernel_rfl) (by kernel_rfl) (by kernel_rfl) (fun _ _ _ h => h) (Or.inl ⟨by rfl, ?_⟩) (by assumption) ?_
  rotate_left
  · intro w' hSw
    try dsimp only at hSw
    first | (go_simp; done) | (go_simp; with_reducible rfl)
  try simp only [Act.put, List.setIfInBounds_toArray, List.set_cons_zero, List.set_cons_succ]
  refine wpAnyH_ready (rs := [3]) (by kernel_rfl) (by simp) ?_
  refine AllReadyH.cons rfl (fun K' hK => ?_) ?_
  · go_simp
    (with_reducible refine (c2.out _).mono ?_)
    rintro e w2 ⟨b1, cap1, rfl, q1, q2, q3, hb⟩
    have H2 : Below w.heap.size w w2 := by
      refine Below.trans ?_ (hb.mono ?_)
      · repeat (first | with_reducible assumption | with_reducible exact Below.refl _ _ | with_reducible refine Below.setCell ?_ (by first | omega | (simp [go_sem]; omega) | simp [go_sem]) _ | with_reducible refine Below.alloc ?_ (by first | omega | (simp [go_sem]; omega) | simp [go_sem]) _ | with_reducible refine below_grow ?_ (by first | omega | (simp [go_sem]; omega) | simp [go_sem]) _ _ | with_reducible refine Below.drew ?_)
      · first | omega | (simp [go_sem]; omega) | simp [go_sem]
    have S2 : w.heap.size ≤ w2.heap.size := H2.size
    have s2_0 : w.heap.size < w2.heap.size := Nat.lt_of_lt_of_le (by first | omega | (simp [go_sem]; omega) | simp [go_sem]) hb.size
    have k2_0 := fun o => hb.cell (p := ⟨w.heap.size, o, none⟩) (by first | omega | (simp [go_sem]; omega) | simp [go_sem])
    have f2_0 := fun o => hb.frozen (p := ⟨w.heap.size, o, none⟩) (by first | omega | (simp [go_sem]; omega) | simp [go_sem])
    have s2_1 : w.heap.size + 1 < w2.heap.size := Nat.lt_of_lt_of_le (by first | omega | (simp [go_sem]; omega) | simp [go_sem]) hb.size
    have k2_1 := fun o => hb.cell (p := ⟨w.heap.size + 1, o, none⟩) (by first | omega | (simp [go_sem]; omega) | simp [go_sem])
    have f2_1 := fun o => hb.frozen (p := ⟨w.heap.size + 1, o, none⟩) (by first | omega | (simp [go_sem]; omega) | simp [go_sem])
    clear hb
    refine hK.out _ _ ?_ (fun hH => ?_)
    · first | trivial | simp (maxDischargeDepth := 4) [*, go_sem]
    clear hK K'
    try simp only [Act.put, List.setIfInBounds_toArray, List.set_cons_zero, List.set_cons_succ]
    refine wpAnyH_ready (rs := [8]) (by kernel_rfl) (by simp) ?_
    refine AllReadyH.cons rfl (fun K' hK => ?_) ?_
    · go_simp
      (with_reducible refine (c3.out _).mono ?_)
      rintro e w3 ⟨b2, cap2, rfl, q4, q5, q6, hb⟩
      have H3 : Below w.heap.size w w3 := by
        refine Below.trans ?_ (hb.mono ?_)
        · repeat (first | with_reducible assumption | with_reducible exact Below.refl _ _ | with_reducible refine Below.setCell ?_ (by first | omega | (simp [go_sem]; omega) | simp [go_sem]) _ | with_reducible refine Below.alloc ?_ (by first | omega | (simp [go_sem]; omega) | simp [go_sem]) _ | with_reducible refine below_grow ?_ (by first | omega | (simp [go_sem]; omega) | simp [go_sem]) _ _ | with_reducible refine Below.drew ?_)
        · first | omega | (simp [go_sem]; omega) | simp [go_sem]
      have S3 : w.heap.size ≤ w3.heap.size := H3.size
      have s3_0 : w.heap.size < w3.heap.size := Nat.lt_of_lt_of_le (by first | omega | (simp [go_sem]; omega) | simp [go_sem]) hb.size
      have k3_0 := fun o => hb.cell (p := ⟨w.heap.size, o, none⟩) (by first | omega | (simp [go_sem]; omega) | simp [go_sem])
      have f3_0 := fun o => hb.frozen (p := ⟨w.heap.size, o, none⟩) (by first | omega | (simp [go_sem]; omega) | simp [go_sem])
      have s3_1 : w.heap.size + 1 < w3.heap.size := Nat.lt_of_lt_of_le (by first | omega | (simp [go_sem]; omega) | simp [go_sem]) hb.size
      have k3_1 := fun o => hb.cell (p := ⟨w.heap.size + 1, o, none⟩) (by first | omega | (simp [go_sem]; omega) | simp [go_sem])
      have f3_1 := fun o => hb.frozen (p := ⟨w.heap.size + 1, o, none⟩) (by first | omega | (simp [go_sem]; omega) | simp [go_sem])
      have s3_2 : b1 < w3.heap.size := Nat.lt_of_lt_of_le (by first | omega | (simp [go_sem]; omega) | simp [go_sem]) hb.size
      have k3_2 := fun o => hb.cell (p := ⟨b1, o, none⟩) (by first | omega | (simp [go_sem]; omega) | simp [go_sem])
      have f3_2 := fun o => hb.frozen (p := ⟨b1, o, none⟩) (by first | omega | (simp [go_sem]; omega) | simp [go_sem])
      clear hb
      refine hK.out _ _ ?_ (fun hH => ?_)
      · first | trivial | simp (maxDischargeDepth := 4) [*, go_sem]
      clear hK K'
      try simp only [Act.put, List.setIfInBounds_toArray, List.set_cons_zero, List.set_cons_succ]
      refine wpAnyH_done (by kernel_rfl) (tailPost_normal ?_) _
      simp only [List.drop_succ_cons, List.drop_zero, List.drop_nil]
      clear c2 c3 i1 i2 i3 i4 i5 hx hy hl hl2
      go_wp2_with fail
      have q1 : w1.heap.size ≤ b1 := q1
      have n1 : ¬ w.heap.size = b1 := by have := s1_1; omega
      have n2 : ¬ w.heap.size + 1 = b1 := by have := s1_1; omega
      have q4 : w2.heap.size ≤ b2 := q4
      have n3 : ¬ w.heap.size = b2 := by have := s2_1; omega
      have n4 : ¬ w.heap.size + 1 = b2 := by have := s2_1; omega
      refine bodyPost_ret (v := .tuple #[.agg #[.bool false, .slice (some ⟨b1, 0, none⟩) 1 cap1], .agg #[.bool false, .slice (some ⟨b2, 0, none⟩) 1 cap2]]) (by simp (maxDischargeDepth := 4) [*, results, Tryz.results35, go_sem]) rfl ⟨_, _, rfl, .inr ⟨h0, b1, cap1, rfl, ?_, ?_⟩, .inr ⟨d0, b2, cap2, rfl, ?_, ?_⟩, ?_⟩
      all_goals first | omega | (simp [go_sem]; omega) | (simp (maxDischargeDepth := 4) [go_sem]; done) | (simp (maxDischargeDepth := 4) [*, go_sem]; done) | (repeat (first | with_reducible assumption | with_reducible exact Below.refl _ _ | with_reducible refine Below.setCell ?_ (by first | omega | (simp [go_sem]; omega) | simp [go_sem]) _ | with_reducible refine Below.alloc ?_ (by first | omega | (simp [go_sem]; omega) | simp [go_sem]) _ | with_reducible refine below_grow ?_ (by first | omega | (simp [go_sem]; omega) | simp [go_sem]) _ _ | with_reducible refine Below.drew ?_))
    exact AllReadyH.nil
  exact AllReadyH.nil
end Go.Proofs.YtgdlehoglpiifaaGreatDoor
namespace Go.Proofs.YtgdlehoglpiifaaGreatDoor
open Go.RowKit Go.Sort Go.Lib

theorem Dig.mk1 {w : World} {b cap n : Nat} (h0 : 0 < n) (hb : b < w.heap.size) (hc : w.cell? ⟨b, 0, none⟩ = some (.int .i64 n)) : Dig w (.slice (some ⟨b, 0, none⟩) 1 cap) n := Or.inr ⟨h0, b, cap, rfl, hb, hc⟩
set_option maxRecDepth 8000 in
theorem qCheckA (m : Nat) (hm : m < 1000000000) (w : World) : Calls Tryz.prog 93 #[.string ⟨(decDigits m).toArray⟩] w fun e w' => e = .returned (.int .i64 0) ∧ Below w.heap.size w w' := by
  have hl : (decDigits m).length ≤ 9 := dec_len (by omega) (by omega)
  have hs := slashAt_none (dec_noslash m)
  have c1 := Lib.hid (fun w => qSlash (decDigits m) (by omega) w)
  rw [hs] at c1
  have c2 := Lib.hid (fun w => qForm m (by omega) w)
  have hx := cut_left (decDigits m) []
  rw [List.append_nil] at hx
  obtain ⟨b, t, hbt, h1, h2⟩ := dec_head m
  rw [hbt] at c1 c2 hx hl ⊢
  simp only [List.length_cons] at hl hx c1
  have hb1 : ((b.toNat : Int) == 45) = false := by rw [beq_eq_false_iff_ne]; omega
  have hb2 : ¬ (b.toNat : Int) = 45 := by omega
  have hb3 : ¬ b.toNat = 45 := by omega
  have e0 : ∀ h, (⟨(b :: t).toArray⟩ : ByteArray)[0]'h = b := fun _ => rfl
  clear hs hbt h1 h2
  go_enter Tryz.func93, Tryz.ntmps93
  go_wp2_with fail
  (with_reducible refine (c1.out _).mono ?_)
  rintro e w1 ⟨rfl, hb⟩
  have H1 : Below w.heap.size w w1 := by
    refine Below.trans ?_ (hb.mono ?_)
    · repeat (first | with_reducible assumption | with_reducible exact Below.refl _ _ | with_reducible refine Below.setCell ?_ (by first | omega | (simp [go_sem]; omega) | simp [go_sem]) _ | with_reducible refine Below.alloc ?_ (by first | omega | (simp [go_sem]; omega) | simp [go_sem]) _ | with_reducible refine below_grow ?_ (by first | omega | (simp [go_sem]; omega) | simp [go_sem]) _ _ | with_reducible refine Below.drew ?_)
    · first | omega | (simp [go_sem]; omega) | simp [go_sem]
  have S1 : w.heap.size ≤ w1.heap.size := H1.size
  clear hb
  go_wp2_with fail
  (with_reducible refine (c2.out _).mono ?_)
  rintro e w2 ⟨rfl, hb⟩
  have H2 : Below w.heap.size w w2 := by
    refine Below.trans ?_ (hb.mono ?_)
    · repeat (first | with_reducible assumption | with_reducible exact Below.refl _ _ | with_reducible refine Below.setCell ?_ (by first | omega | (simp [go_sem]; omega) | simp [go_sem]) _ | with_reducible refine Below.alloc ?_ (by first | omega | (simp [go_sem]; omega) | simp [go_sem]) _ | with_reducible refine below_grow ?_ (by first | omega | (simp [go_sem]; omega) | simp [go_sem]) _ _ | with_reducible refine Below.drew ?_)
    · first | omega | (simp [go_sem]; omega) | simp [go_sem]
  have S2 : w.heap.size ≤ w2.heap.size := H2.size
  clear hb
  go_wp2_with fail
  go_ret
  refine ⟨rfl, ?_⟩
  repeat (first | with_reducible assumption | with_reducible exact Below.refl _ _ | with_reducible refine Below.setCell ?_ (by first | omega | (simp [go_sem]; omega) | simp [go_sem]) _ | with_reducible refine Below.alloc ?_ (by first | omega | (simp [go_sem]; omega) | simp [go_sem]) _ | with_reducible refine below_grow ?_ (by first | omega | (simp [go_sem]; omega) | simp [go_sem]) _ _ | with_reducible refine Below.drew ?_)

set_option maxRecDepth 8000 in
theorem qCheckB (m : Nat) (h0 : 0 < m) (hm : m < 1000000000) (w : World) : Calls Tryz.prog 93 #[.string ⟨(45 :: decDigits m).toArray⟩] w fun e w' => e = .returned (.int .i64 0) ∧ Below w.heap.size w w' := by
  have hl : (decDigits m).length ≤ 9 := dec_len (by omega) (by omega)
  have hs := slashAt_none (dec_noslash m)
  have c1 := Lib.hid (fun w => qSlash (decDigits m) (by omega) w)
  rw [hs] at c1
  have c2 := Lib.hid (fun w => qForm m (by omega) w)
  have hx := cut_left (decDigits m) []
  rw [List.append_nil] at hx
  have hz := cut_sign (decDigits m)
  have hn4 := dec_not48 m (by omega)
  have hb4 : (decDigits m == [48]) = false := beq_eq_false_iff_ne.2 hn4
  have e0 : ∀ h, (⟨(45 :: decDigits m).toArray⟩ : ByteArray)[0]'h = 45 := fun _ => rfl
  clear hs
  generalize decDigits m = l at *
  go_enter Tryz.func93, Tryz.ntmps93
  go_wp2_with fail
  (with_reducible refine (c1.out _).mono ?_)
  rintro e w1 ⟨rfl, hb⟩
  have H1 : Below w.heap.size w w1 := by
    refine Below.trans ?_ (hb.mono ?_)
    · repeat (first | with_reducible assumption | with_reducible exact Below.refl _ _ | with_reducible refine Below.setCell ?_ (by first | omega | (simp [go_sem]; omega) | simp [go_sem]) _ | with_reducible refine Below.alloc ?_ (by first | omega | (simp [go_sem]; omega) | simp [go_sem]) _ | with_reducible refine below_grow ?_ (by first | omega | (simp [go_sem]; omega) | simp [go_sem]) _ _ | with_reducible refine Below.drew ?_)
    · first | omega | (simp [go_sem]; omega) | simp [go_sem]
  have S1 : w.heap.size ≤ w1.heap.size := H1.size
  clear hb
  go_wp2_with fail
  (with_reducible refine (c2.out _).mono ?_)
  rintro e w2 ⟨rfl, hb⟩
  have H2 : Below w.heap.size w w2 := by
    refine Below.trans ?_ (hb.mono ?_)
    · repeat (first | with_reducible assumption | with_reducible exact Below.refl _ _ | with_reducible refine Below.setCell ?_ (by first | omega | (simp [go_sem]; omega) | simp [go_sem]) _ | with_reducible refine Below.alloc ?_ (by first | omega | (simp [go_sem]; omega) | simp [go_sem]) _ | with_reducible refine below_grow ?_ (by first | omega | (simp [go_sem]; omega) | simp [go_sem]) _ _ | with_reducible refine Below.drew ?_)
    · first | omega | (simp [go_sem]; omega) | simp [go_sem]
  have S2 : w.heap.size ≤ w2.heap.size := H2.size
  clear hb
  go_wp2_with fail
  go_ret
  refine ⟨rfl, ?_⟩
  repeat (first | with_reducible assumption | with_reducible exact Below.refl _ _ | with_reducible refine Below.setCell ?_ (by first | omega | (simp [go_sem]; omega) | simp [go_sem]) _ | with_reducible refine Below.alloc ?_ (by first | omega | (simp [go_sem]; omega) | simp [go_sem]) _ | with_reducible refine below_grow ?_ (by first | omega | (simp [go_sem]; omega) | simp [go_sem]) _ _ | with_reducible refine Below.drew ?_)

set_option maxRecDepth 8000 in
theorem qCheckD (m d : Nat) (h0 : 0 < m) (hm : m < 1000000000) (hd0 : 2 ≤ d) (hd : d < 1000000000) (hg : Nat.gcd m d = 1) (w : World) : Calls Tryz.prog 93 #[.string ⟨(45 :: (decDigits m ++ 47 :: decDigits d)).toArray⟩] w fun e w' => e = .returned (.int .i64 0) ∧ Below w.heap.size w w' := by
  have hl : (decDigits m).length ≤ 9 := dec_len (by omega) (by omega)
  have hl2 : (decDigits d).length ≤ 9 := dec_len (by omega) (by omega)
  have hs := slashAt_some (r := decDigits d) (dec_noslash m)
  have c1 := Lib.hid (fun w => qSlash (decDigits m ++ 47 :: decDigits d) (by simp; omega) w)
  rw [hs] at c1
  have c2 := Lib.hid (fun w => qForm m (by omega) w)
  have c3 := Lib.hid (fun w => qForm d (by omega) w)
  have c4 := Lib.hid (fun w => qParts m d h0 hm (by omega) hd w)
  have c5 := Lib.hid (fun a b w => qCommon a b m d hm hd w)
  rw [hg] at c5
  have hx := cut_left (decDigits m) (47 :: decDigits d)
  have hy := cut_right (decDigits m ++ [47]) (decDigits d)
  rw [List.append_assoc] at hy
  simp only [List.length_append, List.length_cons, List.length_nil, List.cons_append, List.nil_append] at hx hy
  have hz := cut_sign (decDigits m ++ 47 :: decDigits d)
  simp only [List.length_append, List.length_cons] at hz
  have hb4 : (decDigits m == [48]) = false := beq_eq_false_iff_ne.2 (dec_not48 m (by omega))
  have hd48 : (decDigits d == [48]) = false := beq_eq_false_iff_ne.2 (dec_not48 d (by omega))
  have hd49 : (decDigits d == [49]) = false := beq_eq_false_iff_ne.2 (dec_not49 d hd0)
  have e0 : ∀ h, (⟨(45 :: (decDigits m ++ 47 :: decDigits d)).toArray⟩ : ByteArray)[0]'h = 45 := fun _ => rfl
  clear hs
  generalize decDigits m = l at *
  generalize decDigits d = u at *
  have hy' : (⟨(l ++ 47 :: u).toArray⟩ : ByteArray).extract (l.length + 1) (l.length + (u.length + 1)) = ⟨u.toArray⟩ := by
    rw [← hy]
  go_enter Tryz.func93, Tryz.ntmps93
  go_wp2_with fail
  (with_reducible refine (c1.out _).mono ?_)
  rintro e w1 ⟨rfl, hb⟩
  have H1 : Below w.heap.size w w1 := by
    refine Below.trans ?_ (hb.mono ?_)
    · repeat (first | with_reducible assumption | with_reducible exact Below.refl _ _ | with_reducible refine Below.setCell ?_ (by first | omega | (simp [go_sem]; omega) | simp [go_sem]) _ | with_reducible refine Below.alloc ?_ (by first | omega | (simp [go_sem]; omega) | simp [go_sem]) _ | with_reducible refine below_grow ?_ (by first | omega | (simp [go_sem]; omega) | simp [go_sem]) _ _ | with_reducible refine Below.drew ?_)
    · first | omega | (simp [go_sem]; omega) | simp [go_sem]
  have S1 : w.heap.size ≤ w1.heap.size := H1.size
  clear hb
  go_wp2_with fail
  (with_reducible refine (c2.out _).mono ?_)
  rintro e w2 ⟨rfl, hb⟩
  have H2 : Below w.heap.size w w2 := by
    refine Below.trans ?_ (hb.mono ?_)
    · repeat (first | with_reducible assumption | with_reducible exact Below.refl _ _ | with_reducible refine Below.setCell ?_ (by first | omega | (simp [go_sem]; omega) | simp [go_sem]) _ | with_reducible refine Below.alloc ?_ (by first | omega | (simp [go_sem]; omega) | simp [go_sem]) _ | with_reducible refine below_grow ?_ (by first | omega | (simp [go_sem]; omega) | simp [go_sem]) _ _ | with_reducible refine Below.drew ?_)
    · first | omega | (simp [go_sem]; omega) | simp [go_sem]
  have S2 : w.heap.size ≤ w2.heap.size := H2.size
  clear hb
  go_wp2_with fail
  (with_reducible refine (c3.out _).mono ?_)
  rintro e w3 ⟨rfl, hb⟩
  have H3 : Below w.heap.size w w3 := by
    refine Below.trans ?_ (hb.mono ?_)
    · repeat (first | with_reducible assumption | with_reducible exact Below.refl _ _ | with_reducible refine Below.setCell ?_ (by first | omega | (simp [go_sem]; omega) | simp [go_sem]) _ | with_reducible refine Below.alloc ?_ (by first | omega | (simp [go_sem]; omega) | simp [go_sem]) _ | with_reducible refine below_grow ?_ (by first | omega | (simp [go_sem]; omega) | simp [go_sem]) _ _ | with_reducible refine Below.drew ?_)
    · first | omega | (simp [go_sem]; omega) | simp [go_sem]
  have S3 : w.heap.size ≤ w3.heap.size := H3.size
  clear hb
  go_wp2_with fail
  clear c1 c2 c3 hx hy hy' hz e0
  (with_reducible refine (c4.out _).mono ?_)
  rintro e w4 ⟨s1, s2, rfl, q1, q2, hb⟩
  have H4 : Below w.heap.size w w4 := by
    refine Below.trans ?_ (hb.mono ?_)
    · repeat (first | with_reducible assumption | with_reducible exact Below.refl _ _ | with_reducible refine Below.setCell ?_ (by first | omega | (simp [go_sem]; omega) | simp [go_sem]) _ | with_reducible refine Below.alloc ?_ (by first | omega | (simp [go_sem]; omega) | simp [go_sem]) _ | with_reducible refine below_grow ?_ (by first | omega | (simp [go_sem]; omega) | simp [go_sem]) _ _ | with_reducible refine Below.drew ?_)
    · first | omega | (simp [go_sem]; omega) | simp [go_sem]
  have S4 : w.heap.size ≤ w4.heap.size := H4.size
  clear hb
  rcases q1 with ⟨hq, _⟩ | ⟨_, b1, cap1, rfl, q3, q4⟩
  · omega
  rcases q2 with ⟨hq, _⟩ | ⟨_, b2, cap2, rfl, q5, q6⟩
  · omega
  go_wp2_with fail
  have n1 : ¬ w4.heap.size = b1 := by omega
  have n2 : ¬ w4.heap.size + 1 = b1 := by omega
  have n3 : ¬ w4.heap.size = b2 := by omega
  have n4 : ¬ w4.heap.size + 1 = b2 := by omega
  (with_reducible refine (c5.out _ _ _ (Dig.mk1 h0 ?_ ?_) (Dig.mk1 (by omega) ?_ ?_)).mono ?_)
  · simp (maxDischargeDepth := 4) [go_sem]; omega
  · simp (maxDischargeDepth := 6) [*, go_sem]
  · simp (maxDischargeDepth := 4) [go_sem]; omega
  · simp (maxDischargeDepth := 6) [*, go_sem]
  rintro e w5 ⟨s3, rfl, q7, hb⟩
  have H5 : Below w.heap.size w w5 := by
    refine Below.trans ?_ (hb.mono ?_)
    · repeat (first | with_reducible assumption | with_reducible exact Below.refl _ _ | with_reducible refine Below.setCell ?_ (by first | omega | (simp [go_sem]; omega) | simp [go_sem]) _ | with_reducible refine Below.alloc ?_ (by first | omega | (simp [go_sem]; omega) | simp [go_sem]) _ | with_reducible refine below_grow ?_ (by first | omega | (simp [go_sem]; omega) | simp [go_sem]) _ _ | with_reducible refine Below.drew ?_)
    · first | omega | (simp [go_sem]; omega) | simp [go_sem]
  have S5 : w.heap.size ≤ w5.heap.size := H5.size
  clear hb
  rcases q7 with ⟨hq, _⟩ | ⟨_, b3, cap3, rfl, q8, q9⟩
  · omega
  have q9' : w5.cell? ⟨b3, 0, none⟩ = some (.int .i64 1) := q9
  clear q9
  go_wp2_with fail
  go_ret
  refine ⟨rfl, ?_⟩
  repeat (first | with_reducible assumption | with_reducible exact Below.refl _ _ | with_reducible refine Below.setCell ?_ (by first | omega | (simp [go_sem]; omega) | simp [go_sem]) _ | with_reducible refine Below.alloc ?_ (by first | omega | (simp [go_sem]; omega) | simp [go_sem]) _ | with_reducible refine below_grow ?_ (by first | omega | (simp [go_sem]; omega) | simp [go_sem]) _ _ | with_reducible refine Below.drew ?_)
set_option maxRecDepth 8000 in
theorem qCheckC (m d : Nat) (h0 : 0 < m) (hm : m < 1000000000) (hd0 : 2 ≤ d) (hd : d < 1000000000) (hg : Nat.gcd m d = 1) (w : World) : Calls Tryz.prog 93 #[.string ⟨(decDigits m ++ 47 :: decDigits d).toArray⟩] w fun e w' => e = .returned (.int .i64 0) ∧ Below w.heap.size w w' := by
  have hl : (decDigits m).length ≤ 9 := dec_len (by omega) (by omega)
  have hl2 : (decDigits d).length ≤ 9 := dec_len (by omega) (by omega)
  have hs := slashAt_some (r := decDigits d) (dec_noslash m)
  have c1 := Lib.hid (fun w => qSlash (decDigits m ++ 47 :: decDigits d) (by simp; omega) w)
  rw [hs] at c1
  have c2 := Lib.hid (fun w => qForm m (by omega) w)
  have c3 := Lib.hid (fun w => qForm d (by omega) w)
  have c4 := Lib.hid (fun w => qParts m d h0 hm (by omega) hd w)
  have c5 := Lib.hid (fun a b w => qCommon a b m d hm hd w)
  rw [hg] at c5
  have hx := cut_left (decDigits m) (47 :: decDigits d)
  have hy := cut_right (decDigits m ++ [47]) (decDigits d)
  rw [List.append_assoc] at hy
  simp only [List.length_append, List.length_cons, List.length_nil, List.cons_append, List.nil_append] at hx hy
  have hd48 : (decDigits d == [48]) = false := beq_eq_false_iff_ne.2 (dec_not48 d (by omega))
  have hd49 : (decDigits d == [49]) = false := beq_eq_false_iff_ne.2 (dec_not49 d hd0)
  obtain ⟨b, t, hbt, h1, h2⟩ := dec_head m
  rw [hbt] at c1 c2 c4 hx hy hl ⊢
  simp only [List.length_cons, List.cons_append] at hl hx hy c1 c4 ⊢
  have hb1 : ((b.toNat : Int) == 45) = false := by rw [beq_eq_false_iff_ne]; omega
  have hb2 : ¬ (b.toNat : Int) = 45 := by omega
  have hb3 : ¬ b.toNat = 45 := by omega
  have e0 : ∀ h, (⟨(b :: (t ++ 47 :: decDigits d)).toArray⟩ : ByteArray)[0]'h = b := fun _ => rfl
  clear hs hbt h1 h2
  generalize decDigits d = u at *
  have hy' : (⟨(b :: (t ++ 47 :: u)).toArray⟩ : ByteArray).extract (t.length + 1 + 1) (t.length + (u.length + 1) + 1) = ⟨u.toArray⟩ := by
    rw [← hy]; congr 1; omega
  go_enter Tryz.func93, Tryz.ntmps93
  go_wp2_with fail
  (with_reducible refine (c1.out _).mono ?_)
  rintro e w1 ⟨rfl, hb⟩
  have H1 : Below w.heap.size w w1 := by
    refine Below.trans ?_ (hb.mono ?_)
    · repeat (first | with_reducible assumption | with_reducible exact Below.refl _ _ | with_reducible refine Below.setCell ?_ (by first | omega | (simp [go_sem]; omega) | simp [go_sem]) _ | with_reducible refine Below.alloc ?_ (by first | omega | (simp [go_sem]; omega) | simp [go_sem]) _ | with_reducible refine below_grow ?_ (by first | omega | (simp [go_sem]; omega) | simp [go_sem]) _ _ | with_reducible refine Below.drew ?_)
    · first | omega | (simp [go_sem]; omega) | simp [go_sem]
  have S1 : w.heap.size ≤ w1.heap.size := H1.size
  clear hb
  go_wp2_with fail
  (with_reducible refine (c2.out _).mono ?_)
  rintro e w2 ⟨rfl, hb⟩
  have H2 : Below w.heap.size w w2 := by
    refine Below.trans ?_ (hb.mono ?_)
    · repeat (first | with_reducible assumption | with_reducible exact Below.refl _ _ | with_reducible refine Below.setCell ?_ (by first | omega | (simp [go_sem]; omega) | simp [go_sem]) _ | with_reducible refine Below.alloc ?_ (by first | omega | (simp [go_sem]; omega) | simp [go_sem]) _ | with_reducible refine below_grow ?_ (by first | omega | (simp [go_sem]; omega) | simp [go_sem]) _ _ | with_reducible refine Below.drew ?_)
    · first | omega | (simp [go_sem]; omega) | simp [go_sem]
  have S2 : w.heap.size ≤ w2.heap.size := H2.size
  clear hb
  go_wp2_with fail
  (with_reducible refine (c3.out _).mono ?_)
  rintro e w3 ⟨rfl, hb⟩
  have H3 : Below w.heap.size w w3 := by
    refine Below.trans ?_ (hb.mono ?_)
    · repeat (first | with_reducible assumption | with_reducible exact Below.refl _ _ | with_reducible refine Below.setCell ?_ (by first | omega | (simp [go_sem]; omega) | simp [go_sem]) _ | with_reducible refine Below.alloc ?_ (by first | omega | (simp [go_sem]; omega) | simp [go_sem]) _ | with_reducible refine below_grow ?_ (by first | omega | (simp [go_sem]; omega) | simp [go_sem]) _ _ | with_reducible refine Below.drew ?_)
    · first | omega | (simp [go_sem]; omega) | simp [go_sem]
  have S3 : w.heap.size ≤ w3.heap.size := H3.size
  clear hb
  go_wp2_with fail
  clear c1 c2 c3 hx hy hy' e0
  (with_reducible refine (c4.out _).mono ?_)
  rintro e w4 ⟨s1, s2, rfl, q1, q2, hb⟩
  have H4 : Below w.heap.size w w4 := by
    refine Below.trans ?_ (hb.mono ?_)
    · repeat (first | with_reducible assumption | with_reducible exact Below.refl _ _ | with_reducible refine Below.setCell ?_ (by first | omega | (simp [go_sem]; omega) | simp [go_sem]) _ | with_reducible refine Below.alloc ?_ (by first | omega | (simp [go_sem]; omega) | simp [go_sem]) _ | with_reducible refine below_grow ?_ (by first | omega | (simp [go_sem]; omega) | simp [go_sem]) _ _ | with_reducible refine Below.drew ?_)
    · first | omega | (simp [go_sem]; omega) | simp [go_sem]
  have S4 : w.heap.size ≤ w4.heap.size := H4.size
  clear hb
  rcases q1 with ⟨hq, _⟩ | ⟨_, b1, cap1, rfl, q3, q4⟩
  · omega
  rcases q2 with ⟨hq, _⟩ | ⟨_, b2, cap2, rfl, q5, q6⟩
  · omega
  go_wp2_with fail
  have n1 : ¬ w4.heap.size = b1 := by omega
  have n2 : ¬ w4.heap.size + 1 = b1 := by omega
  have n3 : ¬ w4.heap.size = b2 := by omega
  have n4 : ¬ w4.heap.size + 1 = b2 := by omega
  (with_reducible refine (c5.out _ _ _ (Dig.mk1 h0 ?_ ?_) (Dig.mk1 (by omega) ?_ ?_)).mono ?_)
  · simp (maxDischargeDepth := 4) [go_sem]; omega
  · simp (maxDischargeDepth := 6) [*, go_sem]
  · simp (maxDischargeDepth := 4) [go_sem]; omega
  · simp (maxDischargeDepth := 6) [*, go_sem]
  rintro e w5 ⟨s3, rfl, q7, hb⟩
  have H5 : Below w.heap.size w w5 := by
    refine Below.trans ?_ (hb.mono ?_)
    · repeat (first | with_reducible assumption | with_reducible exact Below.refl _ _ | with_reducible refine Below.setCell ?_ (by first | omega | (simp [go_sem]; omega) | simp [go_sem]) _ | with_reducible refine Below.alloc ?_ (by first | omega | (simp [go_sem]; omega) | simp [go_sem]) _ | with_reducible refine below_grow ?_ (by first | omega | (simp [go_sem]; omega) | simp [go_sem]) _ _ | with_reducible refine Below.drew ?_)
    · first | omega | (simp [go_sem]; omega) | simp [go_sem]
  have S5 : w.heap.size ≤ w5.heap.size := H5.size
  clear hb
  rcases q7 with ⟨hq, _⟩ | ⟨_, b3, cap3, rfl, q8, q9⟩
  · omega
  have q9' : w5.cell? ⟨b3, 0, none⟩ = some (.int .i64 1) := q9
  clear q9
  go_wp2_with fail
  go_ret
  refine ⟨rfl, ?_⟩
  repeat (first | with_reducible assumption | with_reducible exact Below.refl _ _ | with_reducible refine Below.setCell ?_ (by first | omega | (simp [go_sem]; omega) | simp [go_sem]) _ | with_reducible refine Below.alloc ?_ (by first | omega | (simp [go_sem]; omega) | simp [go_sem]) _ | with_reducible refine below_grow ?_ (by first | omega | (simp [go_sem]; omega) | simp [go_sem]) _ _ | with_reducible refine Below.drew ?_)

/-- The text of a short number in lowest terms is valid. -/
theorem qCheck (n d : Int) (hn : -999999999 ≤ n ∧ n ≤ 999999999) (hd : 1 ≤ d ∧ d ≤ 999999999) (hg : Int.gcd n d = 1) (w : World) : Calls Tryz.prog 93 #[.string ⟨(rtx n d).toArray⟩] w fun e w' => e = .returned (.int .i64 0) ∧ Below w.heap.size w w' := by
  obtain ⟨D, rfl⟩ : ∃ D : Nat, d = (D : Int) := ⟨d.toNat, by omega⟩
  by_cases h : 0 ≤ n
  · obtain ⟨M, rfl⟩ : ∃ M : Nat, n = (M : Int) := ⟨n.toNat, by omega⟩
    have hg' : Nat.gcd M D = 1 := by simpa [Int.gcd] using hg
    unfold rtx
    rw [itoa_nat, itoa_nat]
    by_cases h1 : (D : Int) = 1
    · rw [if_pos h1]
      exact qCheckA M (by omega) w
    · rw [if_neg h1]
      have hM : M ≠ 0 := by intro e; subst e; simp at hg'; omega
      exact qCheckC M D (by omega) (by omega) (by omega) (by omega) hg' w
  · obtain ⟨M, rfl⟩ : ∃ M : Nat, n = -(M : Int) := ⟨n.natAbs, by omega⟩
    have hg' : Nat.gcd M D = 1 := by simpa [Int.gcd] using hg
    unfold rtx
    rw [itoa_neg M (by omega), itoa_nat]
    by_cases h1 : (D : Int) = 1
    · rw [if_pos h1]
      exact qCheckB M (by omega) (by omega) w
    · rw [if_neg h1]
      exact qCheckD M D (by omega) (by omega) (by omega) (by omega) hg' w
theorem Bd.qCheck {r : Rat} {A B : Int} (h : Bd r A B) (hA : A ≤ 999999999) (hB : B ≤ 999999999) (w : World) : Calls Tryz.prog 93 #[.string ⟨(rt r).toArray⟩] w fun e w' => e = .returned (.int .i64 0) ∧ Below w.heap.size w w' :=
  Proofs.YtgdlehoglpiifaaGreatDoor.qCheck r.num r.den ⟨by have := h.lo; omega, by have := h.hi; omega⟩ ⟨den_pos r, by have := h.den; omega⟩ (low_nd r) w
end Go.Proofs.YtgdlehoglpiifaaGreatDoor
namespace Go.Proofs.YtgdlehoglpiifaaGreatDoor
open Go.RowKit Go.Sort Go.Lib

/-- The text of a valid number. -/
def ValidT (l : List UInt8) : Prop := ∀ w : World, Calls Tryz.prog 93 #[.string ⟨(l).toArray⟩] w fun e w' => e = .returned (.int .i64 0) ∧ Below w.heap.size w w'
theorem ValidT.use {l : List UInt8} (h : ValidT l) (w : World) : Calls Tryz.prog 93 #[.string ⟨(l).toArray⟩] w fun e w' => e = .returned (.int .i64 0) ∧ Below w.heap.size w w' := h w
theorem Bd.valid {r : Rat} {A B : Int} (h : Bd r A B) (hA : A ≤ 999999999) (hB : B ≤ 999999999) : ValidT (rt r) := fun w => h.qCheck hA hB w

theorem qRow (b n : Nat) (hn : n < 1000) (w : World) (hb : b < w.heap.size) (hc : ∀ j, j < n → ∃ l, ValidT l ∧ w.cell? ⟨b, j, none⟩ = some (.string ⟨(l).toArray⟩)) :
    Calls Tryz.prog 54 #[.slice (some ⟨b, 0, none⟩) n n] w fun e w' => e = .returned (.int .i64 0) ∧ Below w.heap.size w w' := by
  have hc := Lib.hid hc
  go_enter Tryz.func54, Tryz.ntmps54
  go_wp2_with fail
  go_loopw [3] (fun i wr => ∃ k : Nat, k ≤ n ∧ i = .int .i64 k ∧ Below w.heap.size w wr) (fun i _ => n - (RowKit.intOf i).toNat)
  case atStart => exact ⟨0, Nat.zero_le _, rfl, Below.refl _ _⟩
  case round =>
    obtain ⟨k, hk, rfl, hbl⟩ := hrel
    by_cases hlt : k < n
    · obtain ⟨l, hv, hcell⟩ := hc.out k hlt
      have hcr : wr.cell? ⟨b, k, none⟩ = some (.string ⟨(l).toArray⟩) := (hbl.cell (p := ⟨b, k, none⟩) hb).trans hcell
      have hv := Lib.hid hv
      clear hcell
      go_wp2_with fail
      (with_reducible refine (hv.out.use _).mono ?_)
      rintro e w1 ⟨rfl, hb1⟩
      go_wp2_with fail
      go_roundw
      case rel => exact ⟨k + 1, by omega, by go_num, hbl.trans (hb1.mono hbl.size)⟩
      case measure => simp [RowKit.intOf]; omega
    · go_wp2_with fail
      go_ret
      exact ⟨rfl, hbl⟩

theorem bTrue (b n : Nat) (hn : n < 1000) (w : World) (hb : b < w.heap.size) (hc : ∀ j, j < n → ∃ l, ValidT l ∧ w.cell? ⟨b, j, none⟩ = some (.string ⟨(l).toArray⟩)) :
    Calls Tryz.prog 18 #[.slice (some ⟨b, 0, none⟩) n n] w fun e w' => e = .returned (.bool true) ∧ Below w.heap.size w w' := by
  have c1 := Lib.hid (qRow b n hn w hb hc)
  clear hc
  go_enter Tryz.func18, Tryz.ntmps18
  go_wp2_with fail
  (with_reducible refine c1.out.mono ?_)
  rintro e w1 ⟨rfl, hb⟩
  have H1 : Below w.heap.size w w1 := by
    refine Below.trans ?_ (hb.mono ?_)
    · repeat (first | with_reducible assumption | with_reducible exact Below.refl _ _ | with_reducible refine Below.setCell ?_ (by first | omega | (simp [go_sem]; omega) | simp [go_sem]) _ | with_reducible refine Below.alloc ?_ (by first | omega | (simp [go_sem]; omega) | simp [go_sem]) _ | with_reducible refine below_grow ?_ (by first | omega | (simp [go_sem]; omega) | simp [go_sem]) _ _ | with_reducible refine Below.drew ?_)
    · first | omega | (simp [go_sem]; omega) | simp [go_sem]
  have S1 : w.heap.size ≤ w1.heap.size := H1.size
  clear hb
  go_wp2_with fail
  go_ret
  refine ⟨rfl, ?_⟩
  repeat (first | with_reducible assumption | with_reducible exact Below.refl _ _ | with_reducible refine Below.setCell ?_ (by first | omega | (simp [go_sem]; omega) | simp [go_sem]) _ | with_reducible refine Below.alloc ?_ (by first | omega | (simp [go_sem]; omega) | simp [go_sem]) _ | with_reducible refine below_grow ?_ (by first | omega | (simp [go_sem]; omega) | simp [go_sem]) _ _ | with_reducible refine Below.drew ?_)

theorem bTrue1 (b : Nat) (l1 : List UInt8) (v1 : ValidT l1) (w : World) (hb : b < w.heap.size) (h0 : w.cell? ⟨b, 0, none⟩ = some (.string ⟨(l1).toArray⟩)) :
    Calls Tryz.prog 18 #[.slice (some ⟨b, 0, none⟩) 1 1] w fun e w' => e = .returned (.bool true) ∧ Below w.heap.size w w' :=
  bTrue b 1 (by omega) w hb (fun j hj => by
    obtain rfl : j = 0 := by omega
    exact ⟨_, v1, h0⟩)
theorem bTrue2 (b : Nat) (l1 l2 : List UInt8) (v1 : ValidT l1) (v2 : ValidT l2) (w : World) (hb : b < w.heap.size) (h0 : w.cell? ⟨b, 0, none⟩ = some (.string ⟨(l1).toArray⟩)) (h1 : w.cell? ⟨b, 1, none⟩ = some (.string ⟨(l2).toArray⟩)) :
    Calls Tryz.prog 18 #[.slice (some ⟨b, 0, none⟩) 2 2] w fun e w' => e = .returned (.bool true) ∧ Below w.heap.size w w' :=
  bTrue b 2 (by omega) w hb (fun j hj => by
    rcases j with _ | _ | j
    · exact ⟨_, v1, h0⟩
    · exact ⟨_, v2, h1⟩
    · omega)
theorem bTrue4 (b : Nat) (l1 l2 l3 l4 : List UInt8) (v1 : ValidT l1) (v2 : ValidT l2) (v3 : ValidT l3) (v4 : ValidT l4) (w : World) (hb : b < w.heap.size) (h0 : w.cell? ⟨b, 0, none⟩ = some (.string ⟨(l1).toArray⟩)) (h1 : w.cell? ⟨b, 1, none⟩ = some (.string ⟨(l2).toArray⟩)) (h2 : w.cell? ⟨b, 2, none⟩ = some (.string ⟨(l3).toArray⟩)) (h3 : w.cell? ⟨b, 3, none⟩ = some (.string ⟨(l4).toArray⟩)) :
    Calls Tryz.prog 18 #[.slice (some ⟨b, 0, none⟩) 4 4] w fun e w' => e = .returned (.bool true) ∧ Below w.heap.size w w' :=
  bTrue b 4 (by omega) w hb (fun j hj => by
    rcases j with _ | _ | _ | _ | j
    · exact ⟨_, v1, h0⟩
    · exact ⟨_, v2, h1⟩
    · exact ⟨_, v3, h2⟩
    · exact ⟨_, v4, h3⟩
    · omega)

set_option maxRecDepth 8000 in
theorem qToInt (m : Nat) (h0 : 0 < m) (hm : m < 1000000000) (w : World) : Calls Tryz.prog 30 #[.string ⟨(decDigits m).toArray⟩] w fun e w' => e = .returned (.tuple #[.int .i64 m, .bool true]) ∧ Below w.heap.size w w' := by
  have hl : (decDigits m).length ≤ 9 := dec_len (by omega) (by omega)
  have c1 := Lib.hid (fun w => qIsWhole (decDigits m) (dec_noslash m) (by omega) w)
  have c2 := Lib.hid (fun w => qParse m h0 hm w)
  generalize decDigits m = l at *
  go_enter Tryz.func30, Tryz.ntmps30
  go_wp2_with fail
  (with_reducible refine (c1.out _).mono ?_)
  rintro e w1 ⟨rfl, hb⟩
  have H1 : Below w.heap.size w w1 := by
    refine Below.trans ?_ (hb.mono ?_)
    · repeat (first | with_reducible assumption | with_reducible exact Below.refl _ _ | with_reducible refine Below.setCell ?_ (by first | omega | (simp [go_sem]; omega) | simp [go_sem]) _ | with_reducible refine Below.alloc ?_ (by first | omega | (simp [go_sem]; omega) | simp [go_sem]) _ | with_reducible refine below_grow ?_ (by first | omega | (simp [go_sem]; omega) | simp [go_sem]) _ _ | with_reducible refine Below.drew ?_)
    · first | omega | (simp [go_sem]; omega) | simp [go_sem]
  have S1 : w.heap.size ≤ w1.heap.size := H1.size
  clear hb
  go_wp2_with fail
  clear c1
  (with_reducible refine (c2.out _).mono ?_)
  rintro e w2 ⟨b1, cap1, rfl, q1, q2, q3, hb⟩
  have H2 : Below w.heap.size w w2 := by
    refine Below.trans ?_ (hb.mono ?_)
    · repeat (first | with_reducible assumption | with_reducible exact Below.refl _ _ | with_reducible refine Below.setCell ?_ (by first | omega | (simp [go_sem]; omega) | simp [go_sem]) _ | with_reducible refine Below.alloc ?_ (by first | omega | (simp [go_sem]; omega) | simp [go_sem]) _ | with_reducible refine below_grow ?_ (by first | omega | (simp [go_sem]; omega) | simp [go_sem]) _ _ | with_reducible refine Below.drew ?_)
    · first | omega | (simp [go_sem]; omega) | simp [go_sem]
  have S2 : w.heap.size ≤ w2.heap.size := H2.size
  clear hb
  clear c2
  go_wp2_with fail
  refine wp_loop_rounds 2 ?_
  rw [rounds_succ]
  go_wp2_with fail
  rw [rounds_succ]
  go_wp2_with fail
  go_ret2
  refine ⟨rfl, ?_⟩
  repeat (first | with_reducible assumption | with_reducible exact Below.refl _ _ | with_reducible refine Below.setCell ?_ (by first | omega | (simp [go_sem]; omega) | simp [go_sem]) _ | with_reducible refine Below.alloc ?_ (by first | omega | (simp [go_sem]; omega) | simp [go_sem]) _ | with_reducible refine below_grow ?_ (by first | omega | (simp [go_sem]; omega) | simp [go_sem]) _ _ | with_reducible refine Below.drew ?_)
end Go.Proofs.YtgdlehoglpiifaaGreatDoor
