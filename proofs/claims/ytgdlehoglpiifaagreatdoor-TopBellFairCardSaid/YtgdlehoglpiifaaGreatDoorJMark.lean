/-
  Package mark: valid numbers.
  Package mark: the text of a number in lowest terms is a valid number.
  Package mark: products, differences, quotients and integer parts of valid numbers.
  Package num and mark: fractions as rational numbers.
-/
import Derived.Test.YtgdlehoglpiifaaGreatDoorJFrac
namespace Go.Proofs.YtgdlehoglpiifaaGreatDoor
open Go.RowKit Go.Sort

theorem mWhen (n : Int) (w : World) : Calls Tryz.prog 64 #[.bool false, .int .i64 n] w fun e w' => e = .returned (.int .i64 0) ∧ Below w.heap.size w w' := by
  go_enter Tryz.func64, Tryz.ntmps64
  go_wp2_with fail
  go_ret
  refine ⟨rfl, ?_⟩
  repeat (first | with_reducible assumption | with_reducible exact Below.refl _ _ | with_reducible refine Below.setCell ?_ (by first | omega | (simp [go_sem]; omega) | simp [go_sem]) _ | with_reducible refine Below.alloc ?_ (by first | omega | (simp [go_sem]; omega) | simp [go_sem]) _ | with_reducible refine below_grow ?_ (by first | omega | (simp [go_sem]; omega) | simp [go_sem]) _ _ | with_reducible refine Below.drew ?_)
theorem trWhen (n : Int) (w : World) : Calls Tryz.prog 83 #[.bool false, .int .i64 n] w fun e w' => e = .returned (.int .i64 0) ∧ Below w.heap.size w w' := by
  go_enter Tryz.func83, Tryz.ntmps83
  go_wp2_with fail
  go_ret
  refine ⟨rfl, ?_⟩
  repeat (first | with_reducible assumption | with_reducible exact Below.refl _ _ | with_reducible refine Below.setCell ?_ (by first | omega | (simp [go_sem]; omega) | simp [go_sem]) _ | with_reducible refine Below.alloc ?_ (by first | omega | (simp [go_sem]; omega) | simp [go_sem]) _ | with_reducible refine below_grow ?_ (by first | omega | (simp [go_sem]; omega) | simp [go_sem]) _ _ | with_reducible refine Below.drew ?_)

/-- A list of n errors, none of which is one. -/
def NoErr (w : World) (b n : Nat) : Prop := ∀ j, j < n → w.cell? ⟨b, j, none⟩ = some (.int .i64 0)

theorem mFirst (b n : Nat) (hn : n < 1000) (w : World) (hc : NoErr w b n) : Calls Tryz.prog 62 #[.slice (some ⟨b, 0, none⟩) n n] w fun e w' => e = .returned (.int .i64 0) ∧ Below w.heap.size w w' := by
  go_enter Tryz.func62, Tryz.ntmps62
  go_wp2_with fail
  go_loop [7] (fun i => ∃ k : Nat, k ≤ n ∧ i = .int .i64 k) (fun i => n - (intOf i).toNat)
  case atStart => exact ⟨0, Nat.zero_le _, rfl⟩
  case round =>
    obtain ⟨k, hk, rfl⟩ := hrel
    by_cases hlt : k < n
    · have hcell := hc k hlt
      go_wp2_with fail
      go_round
      case rel => exact ⟨k + 1, by omega, by go_num⟩
      case measure => simp [intOf]; omega
    · go_wp2_with fail
      go_ret
      exact ⟨rfl, Below.refl _ _⟩

theorem sTrim (l : List UInt8) (hl : AllDig l) (hlen : l.length < 1000) (w : World) : Calls Tryz.prog 145 #[.string ⟨(l).toArray⟩, .string ⟨#[48, 49, 50, 51, 52, 53, 54, 55, 56, 57]⟩] w fun e w' => e = .returned (.string ⟨#[]⟩) ∧ Below w.heap.size w w' := by
  have h := Tryz.strings_Trim_digits ⟨l.toArray⟩ w (by show l.toArray.size ≤ _; simp; omega)
  refine h.mono ?_
  rintro e w' ⟨rfl, hb⟩
  refine ⟨?_, hb⟩
  rw [show Lib.trimS (⟨l.toArray⟩ : ByteArray).data.toList [48, 49, 50, 51, 52, 53, 54, 55, 56, 57] = [] from trimS_dec l hl]

theorem mDigits (l : List UInt8) (hl : AllDig l) (h0 : l ≠ []) (hlen : l.length < 1000) (w : World) : Calls Tryz.prog 123 #[.string ⟨(l).toArray⟩] w fun e w' => e = .returned (.bool true) ∧ Below w.heap.size w w' := by
  have hne : l.isEmpty = false := by simpa using h0
  have hn2 : ¬ l = [] := h0
  have c1 := Lib.hid (fun w => sTrim l hl hlen w)
  clear hl h0
  go_enter Tryz.func123, Tryz.ntmps123
  go_wp2_with fail
  (with_reducible refine (c1.out _).mono ?_)
  rintro e w1 ⟨rfl, hb1⟩
  obtain ⟨⟨dq, osq⟩, rfl⟩ := regrown_of_below hb1
  clear hb1
  go_wp2_with fail
  go_ret
  refine ⟨rfl, ?_⟩
  repeat (first | with_reducible assumption | with_reducible exact Below.refl _ _ | with_reducible refine Below.setCell ?_ (by first | omega | (simp [go_sem]; omega) | simp [go_sem]) _ | with_reducible refine Below.alloc ?_ (by first | omega | (simp [go_sem]; omega) | simp [go_sem]) _ | with_reducible refine below_grow ?_ (by first | omega | (simp [go_sem]; omega) | simp [go_sem]) _ _ | with_reducible refine Below.drew ?_)

/-- A decimal text without zeros in front. -/
theorem mDecimal (m : Nat) (hm : m < 1000000000000000000) (w : World) : Calls Tryz.prog 99 #[.string ⟨(Lib.decDigits m).toArray⟩] w fun e w' => e = .returned (.bool true) ∧ Below w.heap.size w w' := by
  have hl := dec_len (u := m) (k := 18) (by decide) hm
  have c1 := Lib.hid (fun w => mDigits (Lib.decDigits m) (dec_all m) (dec_ne m) (by omega) w)
  by_cases h0 : m = 0
  · subst h0
    rw [show Lib.decDigits 0 = [48] from by rw [dec_base 0 (by decide)]; rfl] at c1 ⊢
    clear hl
    go_enter Tryz.func99, Tryz.ntmps99
    go_wp2_with fail
    (with_reducible refine (c1.out _).mono ?_)
    rintro e w1 ⟨rfl, hb1⟩
    obtain ⟨⟨dq, osq⟩, rfl⟩ := regrown_of_below hb1
    clear hb1
    go_wp2_with fail
    go_ret
    refine ⟨rfl, ?_⟩
    repeat (first | with_reducible assumption | with_reducible exact Below.refl _ _ | with_reducible refine Below.setCell ?_ (by first | omega | (simp [go_sem]; omega) | simp [go_sem]) _ | with_reducible refine Below.alloc ?_ (by first | omega | (simp [go_sem]; omega) | simp [go_sem]) _ | with_reducible refine below_grow ?_ (by first | omega | (simp [go_sem]; omega) | simp [go_sem]) _ _ | with_reducible refine Below.drew ?_)
  · obtain ⟨b, t, hbt, h1, h2⟩ := dec_head' m h0
    rw [hbt] at c1 hl ⊢
    simp only [List.length_cons] at hl
    have hb : ((b.toNat : Int) != 48) = true := by rw [bne_iff_ne]; omega
    have hb2 : ¬ (b.toNat : Int) = 48 := by omega
    have hb3 : ¬ b.toNat = 48 := by omega
    have e0 : ∀ h, (⟨(b :: t).toArray⟩ : ByteArray)[0]'h = b := fun _ => rfl
    go_enter Tryz.func99, Tryz.ntmps99
    go_wp2_with fail
    (with_reducible refine (c1.out _).mono ?_)
    rintro e w1 ⟨rfl, hb1⟩
    obtain ⟨⟨dq, osq⟩, rfl⟩ := regrown_of_below hb1
    clear hb1
    go_wp2_with fail
    go_ret
    refine ⟨rfl, ?_⟩
    repeat (first | with_reducible assumption | with_reducible exact Below.refl _ _ | with_reducible refine Below.setCell ?_ (by first | omega | (simp [go_sem]; omega) | simp [go_sem]) _ | with_reducible refine Below.alloc ?_ (by first | omega | (simp [go_sem]; omega) | simp [go_sem]) _ | with_reducible refine below_grow ?_ (by first | omega | (simp [go_sem]; omega) | simp [go_sem]) _ _ | with_reducible refine Below.drew ?_)

theorem mCutPrefix (l : List UInt8) (w : World) : Calls Tryz.prog 97 #[.string ⟨(l).toArray⟩, .string ⟨#[45]⟩] w fun e w' => e = .returned (.tuple #[.string ⟨(Lib.trimPrefix l [45]).toArray⟩, .bool (Lib.hasPrefix l [45])]) ∧ Below w.heap.size w w' := by
  refine (Tryz.strings_CutPrefix ⟨l.toArray⟩ ⟨#[45]⟩ w).mono ?_
  rintro e w' ⟨rfl, rfl⟩
  exact ⟨rfl, Below.refl _ _⟩

/-- The number 1 over machine integers, compared. -/
theorem nCmp1 (w : World) : Calls Tryz.prog 102 #[.agg #[.int .i64 1, .slice none 0 0], .agg #[.int .i64 1, .slice none 0 0]] w fun e w' => e = .returned (.int .i64 0) ∧ Below w.heap.size w w' := by
  exact nCmp 1 1 w

end Go.Proofs.YtgdlehoglpiifaaGreatDoor
namespace Go.Proofs.YtgdlehoglpiifaaGreatDoor
open Go.RowKit Go.Sort

theorem mCheck1 (l : List UInt8) (m : Nat) (neg : Bool) (h0 : Lib.hasPrefix l [45] = neg) (h1 : Lib.trimPrefix l [45] = Lib.decDigits m) (hm : m < 1000000000000000000) (hz : neg = true → m ≠ 0) {w0 : World} (hG : Glob w0) (w : World) (hb : Below w0.heap.size w0 w) : Calls Tryz.prog 66 #[.string ⟨(l).toArray⟩] w fun e w' => e = .returned (.int .i64 0) ∧ Below w.heap.size w w' := by
  replace hG := hG.keep hb
  clear hb
  have c1 := mCutPrefix l
  rw [h0, h1] at c1
  have C1 := Lib.hid c1
  have c2 := fun w hb => sCut1 (m : Int) (by omega) hG w hb
  rw [itoa_nat] at c2
  have C2 := Lib.hid c2
  have c3 := Lib.hid (fun w => mDecimal m hm w)
  have hl := dec_len (u := m) (k := 18) (by decide) hm
  have hn48 := fun h => dec_not48 m (hz h)
  clear h0 h1 c1 c2 hm hz
  generalize Lib.decDigits m = t at *
  have hl6 : decide ((600 : Int) < (t.length : Int)) = false := by simp; omega
  cases neg
  · clear hn48
    go_enter Tryz.func66, Tryz.ntmps66
    go_wp2_with fail
    (with_reducible refine (C1.out _).mono ?_)
    rintro e w1 ⟨rfl, hb⟩
    have H1 : Below w.heap.size w w1 := by
      refine Below.trans ?_ (hb.mono ?_)
      · repeat (first | with_reducible assumption | with_reducible exact Below.refl _ _ | with_reducible refine Below.setCell ?_ (by first | omega | (simp [go_sem]; omega) | simp [go_sem]) _ | with_reducible refine Below.alloc ?_ (by first | omega | (simp [go_sem]; omega) | simp [go_sem]) _ | with_reducible refine below_grow ?_ (by first | omega | (simp [go_sem]; omega) | simp [go_sem]) _ _ | with_reducible refine Below.drew ?_)
      · first | omega | (simp [go_sem]; omega) | simp [go_sem]
    have S1 : w.heap.size ≤ w1.heap.size := H1.size
    clear hb
    go_wp2_with fail
    (with_reducible refine (C2.out _ ?_).mono ?_)
    · repeat (first | with_reducible assumption | with_reducible exact Below.refl _ _ | with_reducible refine Below.setCell ?_ (by first | omega | (simp [go_sem]; omega) | simp [go_sem]) _ | with_reducible refine Below.alloc ?_ (by first | omega | (simp [go_sem]; omega) | simp [go_sem]) _ | with_reducible refine below_grow ?_ (by first | omega | (simp [go_sem]; omega) | simp [go_sem]) _ _ | with_reducible refine Below.drew ?_)
    rintro e w2 ⟨rfl, hb⟩
    have H2 : Below w.heap.size w w2 := by
      refine Below.trans ?_ (hb.mono ?_)
      · repeat (first | with_reducible assumption | with_reducible exact Below.refl _ _ | with_reducible refine Below.setCell ?_ (by first | omega | (simp [go_sem]; omega) | simp [go_sem]) _ | with_reducible refine Below.alloc ?_ (by first | omega | (simp [go_sem]; omega) | simp [go_sem]) _ | with_reducible refine below_grow ?_ (by first | omega | (simp [go_sem]; omega) | simp [go_sem]) _ _ | with_reducible refine Below.drew ?_)
      · first | omega | (simp [go_sem]; omega) | simp [go_sem]
    have S2 : w.heap.size ≤ w2.heap.size := H2.size
    clear hb
    go_wp2_with fail
    (with_reducible refine (c3.out _).mono ?_)
    rintro e w3 ⟨rfl, hb⟩
    have H3 : Below w.heap.size w w3 := by
      refine Below.trans ?_ (hb.mono ?_)
      · repeat (first | with_reducible assumption | with_reducible exact Below.refl _ _ | with_reducible refine Below.setCell ?_ (by first | omega | (simp [go_sem]; omega) | simp [go_sem]) _ | with_reducible refine Below.alloc ?_ (by first | omega | (simp [go_sem]; omega) | simp [go_sem]) _ | with_reducible refine below_grow ?_ (by first | omega | (simp [go_sem]; omega) | simp [go_sem]) _ _ | with_reducible refine Below.drew ?_)
      · first | omega | (simp [go_sem]; omega) | simp [go_sem]
    have S3 : w.heap.size ≤ w3.heap.size := H3.size
    clear hb
    go_wp2_with fail
    (with_reducible refine (mWhen _ _).mono ?_)
    rintro e w4 ⟨rfl, hb⟩
    have H4 : Below w.heap.size w w4 := by
      refine Below.trans ?_ (hb.mono ?_)
      · repeat (first | with_reducible assumption | with_reducible exact Below.refl _ _ | with_reducible refine Below.setCell ?_ (by first | omega | (simp [go_sem]; omega) | simp [go_sem]) _ | with_reducible refine Below.alloc ?_ (by first | omega | (simp [go_sem]; omega) | simp [go_sem]) _ | with_reducible refine below_grow ?_ (by first | omega | (simp [go_sem]; omega) | simp [go_sem]) _ _ | with_reducible refine Below.drew ?_)
      · first | omega | (simp [go_sem]; omega) | simp [go_sem]
    have S4 : w.heap.size ≤ w4.heap.size := H4.size
    clear hb
    go_wp2_with fail
    (with_reducible refine (mWhen _ _).mono ?_)
    rintro e w5 ⟨rfl, hb⟩
    have H5 : Below w.heap.size w w5 := by
      refine Below.trans ?_ (hb.mono ?_)
      · repeat (first | with_reducible assumption | with_reducible exact Below.refl _ _ | with_reducible refine Below.setCell ?_ (by first | omega | (simp [go_sem]; omega) | simp [go_sem]) _ | with_reducible refine Below.alloc ?_ (by first | omega | (simp [go_sem]; omega) | simp [go_sem]) _ | with_reducible refine below_grow ?_ (by first | omega | (simp [go_sem]; omega) | simp [go_sem]) _ _ | with_reducible refine Below.drew ?_)
      · first | omega | (simp [go_sem]; omega) | simp [go_sem]
    have S5 : w.heap.size ≤ w5.heap.size := H5.size
    clear hb
    go_wp2_with fail
    (with_reducible refine (mFirst _ 2 (by decide) _ ?_).mono ?_)
    · intro j hj; rcases j with _ | _ | j <;> first | omega | simp (maxDischargeDepth := 4) [go_sem]
    rintro e w6 ⟨rfl, hb⟩
    have H6 : Below w.heap.size w w6 := by
      refine Below.trans ?_ (hb.mono ?_)
      · repeat (first | with_reducible assumption | with_reducible exact Below.refl _ _ | with_reducible refine Below.setCell ?_ (by first | omega | (simp [go_sem]; omega) | simp [go_sem]) _ | with_reducible refine Below.alloc ?_ (by first | omega | (simp [go_sem]; omega) | simp [go_sem]) _ | with_reducible refine below_grow ?_ (by first | omega | (simp [go_sem]; omega) | simp [go_sem]) _ _ | with_reducible refine Below.drew ?_)
      · first | omega | (simp [go_sem]; omega) | simp [go_sem]
    have S6 : w.heap.size ≤ w6.heap.size := H6.size
    clear hb
    go_wp2_with fail
    go_ret
    refine ⟨rfl, ?_⟩
    repeat (first | with_reducible assumption | with_reducible exact Below.refl _ _ | with_reducible refine Below.setCell ?_ (by first | omega | (simp [go_sem]; omega) | simp [go_sem]) _ | with_reducible refine Below.alloc ?_ (by first | omega | (simp [go_sem]; omega) | simp [go_sem]) _ | with_reducible refine below_grow ?_ (by first | omega | (simp [go_sem]; omega) | simp [go_sem]) _ _ | with_reducible refine Below.drew ?_)
  · have hn4 := hn48 rfl
    clear hn48
    have hb4 : (t == [48]) = false := beq_eq_false_iff_ne.2 hn4
    go_enter Tryz.func66, Tryz.ntmps66
    go_wp2_with fail
    (with_reducible refine (C1.out _).mono ?_)
    rintro e w1 ⟨rfl, hb⟩
    have H1 : Below w.heap.size w w1 := by
      refine Below.trans ?_ (hb.mono ?_)
      · repeat (first | with_reducible assumption | with_reducible exact Below.refl _ _ | with_reducible refine Below.setCell ?_ (by first | omega | (simp [go_sem]; omega) | simp [go_sem]) _ | with_reducible refine Below.alloc ?_ (by first | omega | (simp [go_sem]; omega) | simp [go_sem]) _ | with_reducible refine below_grow ?_ (by first | omega | (simp [go_sem]; omega) | simp [go_sem]) _ _ | with_reducible refine Below.drew ?_)
      · first | omega | (simp [go_sem]; omega) | simp [go_sem]
    have S1 : w.heap.size ≤ w1.heap.size := H1.size
    clear hb
    go_wp2_with fail
    (with_reducible refine (C2.out _ ?_).mono ?_)
    · repeat (first | with_reducible assumption | with_reducible exact Below.refl _ _ | with_reducible refine Below.setCell ?_ (by first | omega | (simp [go_sem]; omega) | simp [go_sem]) _ | with_reducible refine Below.alloc ?_ (by first | omega | (simp [go_sem]; omega) | simp [go_sem]) _ | with_reducible refine below_grow ?_ (by first | omega | (simp [go_sem]; omega) | simp [go_sem]) _ _ | with_reducible refine Below.drew ?_)
    rintro e w2 ⟨rfl, hb⟩
    have H2 : Below w.heap.size w w2 := by
      refine Below.trans ?_ (hb.mono ?_)
      · repeat (first | with_reducible assumption | with_reducible exact Below.refl _ _ | with_reducible refine Below.setCell ?_ (by first | omega | (simp [go_sem]; omega) | simp [go_sem]) _ | with_reducible refine Below.alloc ?_ (by first | omega | (simp [go_sem]; omega) | simp [go_sem]) _ | with_reducible refine below_grow ?_ (by first | omega | (simp [go_sem]; omega) | simp [go_sem]) _ _ | with_reducible refine Below.drew ?_)
      · first | omega | (simp [go_sem]; omega) | simp [go_sem]
    have S2 : w.heap.size ≤ w2.heap.size := H2.size
    clear hb
    go_wp2_with fail
    (with_reducible refine (c3.out _).mono ?_)
    rintro e w3 ⟨rfl, hb⟩
    have H3 : Below w.heap.size w w3 := by
      refine Below.trans ?_ (hb.mono ?_)
      · repeat (first | with_reducible assumption | with_reducible exact Below.refl _ _ | with_reducible refine Below.setCell ?_ (by first | omega | (simp [go_sem]; omega) | simp [go_sem]) _ | with_reducible refine Below.alloc ?_ (by first | omega | (simp [go_sem]; omega) | simp [go_sem]) _ | with_reducible refine below_grow ?_ (by first | omega | (simp [go_sem]; omega) | simp [go_sem]) _ _ | with_reducible refine Below.drew ?_)
      · first | omega | (simp [go_sem]; omega) | simp [go_sem]
    have S3 : w.heap.size ≤ w3.heap.size := H3.size
    clear hb
    go_wp2_with fail
    (with_reducible refine (mWhen _ _).mono ?_)
    rintro e w4 ⟨rfl, hb⟩
    have H4 : Below w.heap.size w w4 := by
      refine Below.trans ?_ (hb.mono ?_)
      · repeat (first | with_reducible assumption | with_reducible exact Below.refl _ _ | with_reducible refine Below.setCell ?_ (by first | omega | (simp [go_sem]; omega) | simp [go_sem]) _ | with_reducible refine Below.alloc ?_ (by first | omega | (simp [go_sem]; omega) | simp [go_sem]) _ | with_reducible refine below_grow ?_ (by first | omega | (simp [go_sem]; omega) | simp [go_sem]) _ _ | with_reducible refine Below.drew ?_)
      · first | omega | (simp [go_sem]; omega) | simp [go_sem]
    have S4 : w.heap.size ≤ w4.heap.size := H4.size
    clear hb
    go_wp2_with fail
    (with_reducible refine (mWhen _ _).mono ?_)
    rintro e w5 ⟨rfl, hb⟩
    have H5 : Below w.heap.size w w5 := by
      refine Below.trans ?_ (hb.mono ?_)
      · repeat (first | with_reducible assumption | with_reducible exact Below.refl _ _ | with_reducible refine Below.setCell ?_ (by first | omega | (simp [go_sem]; omega) | simp [go_sem]) _ | with_reducible refine Below.alloc ?_ (by first | omega | (simp [go_sem]; omega) | simp [go_sem]) _ | with_reducible refine below_grow ?_ (by first | omega | (simp [go_sem]; omega) | simp [go_sem]) _ _ | with_reducible refine Below.drew ?_)
      · first | omega | (simp [go_sem]; omega) | simp [go_sem]
    have S5 : w.heap.size ≤ w5.heap.size := H5.size
    clear hb
    go_wp2_with fail
    (with_reducible refine (mFirst _ 2 (by decide) _ ?_).mono ?_)
    · intro j hj; rcases j with _ | _ | j <;> first | omega | simp (maxDischargeDepth := 4) [go_sem]
    rintro e w6 ⟨rfl, hb⟩
    have H6 : Below w.heap.size w w6 := by
      refine Below.trans ?_ (hb.mono ?_)
      · repeat (first | with_reducible assumption | with_reducible exact Below.refl _ _ | with_reducible refine Below.setCell ?_ (by first | omega | (simp [go_sem]; omega) | simp [go_sem]) _ | with_reducible refine Below.alloc ?_ (by first | omega | (simp [go_sem]; omega) | simp [go_sem]) _ | with_reducible refine below_grow ?_ (by first | omega | (simp [go_sem]; omega) | simp [go_sem]) _ _ | with_reducible refine Below.drew ?_)
      · first | omega | (simp [go_sem]; omega) | simp [go_sem]
    have S6 : w.heap.size ≤ w6.heap.size := H6.size
    clear hb
    go_wp2_with fail
    go_ret
    refine ⟨rfl, ?_⟩
    repeat (first | with_reducible assumption | with_reducible exact Below.refl _ _ | with_reducible refine Below.setCell ?_ (by first | omega | (simp [go_sem]; omega) | simp [go_sem]) _ | with_reducible refine Below.alloc ?_ (by first | omega | (simp [go_sem]; omega) | simp [go_sem]) _ | with_reducible refine below_grow ?_ (by first | omega | (simp [go_sem]; omega) | simp [go_sem]) _ _ | with_reducible refine Below.drew ?_)
theorem mCheck2 (l : List UInt8) (m d : Nat) (neg : Bool) (h0 : Lib.hasPrefix l [45] = neg) (h1 : Lib.trimPrefix l [45] = Lib.decDigits m ++ 47 :: Lib.decDigits d) (hm : m < 1000000000000000000) (hd : 2 ≤ d ∧ d < 1000000000000000000) (hg : Int.gcd m d = 1) (hz : neg = true → m ≠ 0) {w0 : World} (hG : Glob w0) (w : World) (hb : Below w0.heap.size w0 w) : Calls Tryz.prog 66 #[.string ⟨(l).toArray⟩] w fun e w' => e = .returned (.int .i64 0) ∧ Below w.heap.size w w' := by
  replace hG := hG.keep hb
  clear hb
  have c1 := mCutPrefix l
  rw [h0, h1] at c1
  have C1 := Lib.hid c1
  have c2 := fun w hb => sCut2 (m : Int) (d : Int) (by omega) (by omega) hG w hb
  rw [itoa_nat, itoa_nat] at c2
  have C2 := Lib.hid c2
  have c3 := Lib.hid (fun w => mDecimal m hm w)
  have c4 := Lib.hid (fun w => mDecimal d hd.2 w)
  have c5 := Lib.hid (fun w => nReadN m hm w)
  have c6 := Lib.hid (fun w => nReadN d hd.2 w)
  have c7 := fun w => nGcd m d (by omega) (by omega) w
  rw [hg] at c7
  have C7 := Lib.hid c7
  have hl := dec_len (u := m) (k := 18) (by decide) hm
  have hl2 := dec_len (u := d) (k := 18) (by decide) hd.2
  have hn48 := fun h => dec_not48 m (hz h)
  have hd48 : (Lib.decDigits d == [48]) = false := beq_eq_false_iff_ne.2 (dec_not48 d (by omega))
  have hd49 : (Lib.decDigits d == [49]) = false := beq_eq_false_iff_ne.2 (dec_not49 d hd.1)
  clear h0 h1 c1 c2 hm hz hd hg c7
  generalize Lib.decDigits m = t at *
  generalize Lib.decDigits d = u at *
  have hl6 : decide ((600 : Int) < max (t.length : Int) (u.length : Int)) = false := by simp; omega
  cases neg
  · clear hn48
    go_enter Tryz.func66, Tryz.ntmps66
    go_wp2_with fail
    (with_reducible refine (C1.out _).mono ?_)
    rintro e w1 ⟨rfl, hb⟩
    have H1 : Below w.heap.size w w1 := by
      refine Below.trans ?_ (hb.mono ?_)
      · repeat (first | with_reducible assumption | with_reducible exact Below.refl _ _ | with_reducible refine Below.setCell ?_ (by first | omega | (simp [go_sem]; omega) | simp [go_sem]) _ | with_reducible refine Below.alloc ?_ (by first | omega | (simp [go_sem]; omega) | simp [go_sem]) _ | with_reducible refine below_grow ?_ (by first | omega | (simp [go_sem]; omega) | simp [go_sem]) _ _ | with_reducible refine Below.drew ?_)
      · first | omega | (simp [go_sem]; omega) | simp [go_sem]
    have S1 : w.heap.size ≤ w1.heap.size := H1.size
    clear hb
    go_wp2_with fail
    (with_reducible refine (C2.out _ ?_).mono ?_)
    · repeat (first | with_reducible assumption | with_reducible exact Below.refl _ _ | with_reducible refine Below.setCell ?_ (by first | omega | (simp [go_sem]; omega) | simp [go_sem]) _ | with_reducible refine Below.alloc ?_ (by first | omega | (simp [go_sem]; omega) | simp [go_sem]) _ | with_reducible refine below_grow ?_ (by first | omega | (simp [go_sem]; omega) | simp [go_sem]) _ _ | with_reducible refine Below.drew ?_)
    rintro e w2 ⟨rfl, hb⟩
    have H2 : Below w.heap.size w w2 := by
      refine Below.trans ?_ (hb.mono ?_)
      · repeat (first | with_reducible assumption | with_reducible exact Below.refl _ _ | with_reducible refine Below.setCell ?_ (by first | omega | (simp [go_sem]; omega) | simp [go_sem]) _ | with_reducible refine Below.alloc ?_ (by first | omega | (simp [go_sem]; omega) | simp [go_sem]) _ | with_reducible refine below_grow ?_ (by first | omega | (simp [go_sem]; omega) | simp [go_sem]) _ _ | with_reducible refine Below.drew ?_)
      · first | omega | (simp [go_sem]; omega) | simp [go_sem]
    have S2 : w.heap.size ≤ w2.heap.size := H2.size
    clear hb
    go_wp2_with fail
    (with_reducible refine (c3.out _).mono ?_)
    rintro e w3 ⟨rfl, hb⟩
    have H3 : Below w.heap.size w w3 := by
      refine Below.trans ?_ (hb.mono ?_)
      · repeat (first | with_reducible assumption | with_reducible exact Below.refl _ _ | with_reducible refine Below.setCell ?_ (by first | omega | (simp [go_sem]; omega) | simp [go_sem]) _ | with_reducible refine Below.alloc ?_ (by first | omega | (simp [go_sem]; omega) | simp [go_sem]) _ | with_reducible refine below_grow ?_ (by first | omega | (simp [go_sem]; omega) | simp [go_sem]) _ _ | with_reducible refine Below.drew ?_)
      · first | omega | (simp [go_sem]; omega) | simp [go_sem]
    have S3 : w.heap.size ≤ w3.heap.size := H3.size
    clear hb
    go_wp2_with fail
    (with_reducible refine (c4.out _).mono ?_)
    rintro e w4 ⟨rfl, hb⟩
    have H4 : Below w.heap.size w w4 := by
      refine Below.trans ?_ (hb.mono ?_)
      · repeat (first | with_reducible assumption | with_reducible exact Below.refl _ _ | with_reducible refine Below.setCell ?_ (by first | omega | (simp [go_sem]; omega) | simp [go_sem]) _ | with_reducible refine Below.alloc ?_ (by first | omega | (simp [go_sem]; omega) | simp [go_sem]) _ | with_reducible refine below_grow ?_ (by first | omega | (simp [go_sem]; omega) | simp [go_sem]) _ _ | with_reducible refine Below.drew ?_)
      · first | omega | (simp [go_sem]; omega) | simp [go_sem]
    have S4 : w.heap.size ≤ w4.heap.size := H4.size
    clear hb
    go_wp2_with fail
    (with_reducible refine (mWhen _ _).mono ?_)
    rintro e w5 ⟨rfl, hb⟩
    have H5 : Below w.heap.size w w5 := by
      refine Below.trans ?_ (hb.mono ?_)
      · repeat (first | with_reducible assumption | with_reducible exact Below.refl _ _ | with_reducible refine Below.setCell ?_ (by first | omega | (simp [go_sem]; omega) | simp [go_sem]) _ | with_reducible refine Below.alloc ?_ (by first | omega | (simp [go_sem]; omega) | simp [go_sem]) _ | with_reducible refine below_grow ?_ (by first | omega | (simp [go_sem]; omega) | simp [go_sem]) _ _ | with_reducible refine Below.drew ?_)
      · first | omega | (simp [go_sem]; omega) | simp [go_sem]
    have S5 : w.heap.size ≤ w5.heap.size := H5.size
    clear hb
    go_wp2_with fail
    (with_reducible refine (mWhen _ _).mono ?_)
    rintro e w6 ⟨rfl, hb⟩
    have H6 : Below w.heap.size w w6 := by
      refine Below.trans ?_ (hb.mono ?_)
      · repeat (first | with_reducible assumption | with_reducible exact Below.refl _ _ | with_reducible refine Below.setCell ?_ (by first | omega | (simp [go_sem]; omega) | simp [go_sem]) _ | with_reducible refine Below.alloc ?_ (by first | omega | (simp [go_sem]; omega) | simp [go_sem]) _ | with_reducible refine below_grow ?_ (by first | omega | (simp [go_sem]; omega) | simp [go_sem]) _ _ | with_reducible refine Below.drew ?_)
      · first | omega | (simp [go_sem]; omega) | simp [go_sem]
    have S6 : w.heap.size ≤ w6.heap.size := H6.size
    clear hb
    go_wp2_with fail
    (with_reducible refine (mFirst _ 2 (by decide) _ ?_).mono ?_)
    · intro j hj; rcases j with _ | _ | j <;> first | omega | simp (maxDischargeDepth := 4) [go_sem]
    rintro e w7 ⟨rfl, hb⟩
    have H7 : Below w.heap.size w w7 := by
      refine Below.trans ?_ (hb.mono ?_)
      · repeat (first | with_reducible assumption | with_reducible exact Below.refl _ _ | with_reducible refine Below.setCell ?_ (by first | omega | (simp [go_sem]; omega) | simp [go_sem]) _ | with_reducible refine Below.alloc ?_ (by first | omega | (simp [go_sem]; omega) | simp [go_sem]) _ | with_reducible refine below_grow ?_ (by first | omega | (simp [go_sem]; omega) | simp [go_sem]) _ _ | with_reducible refine Below.drew ?_)
      · first | omega | (simp [go_sem]; omega) | simp [go_sem]
    have S7 : w.heap.size ≤ w7.heap.size := H7.size
    clear hb
    go_wp2_with fail
    (with_reducible refine (c5.out _).mono ?_)
    rintro e w8 ⟨rfl, hb⟩
    have H8 : Below w.heap.size w w8 := by
      refine Below.trans ?_ (hb.mono ?_)
      · repeat (first | with_reducible assumption | with_reducible exact Below.refl _ _ | with_reducible refine Below.setCell ?_ (by first | omega | (simp [go_sem]; omega) | simp [go_sem]) _ | with_reducible refine Below.alloc ?_ (by first | omega | (simp [go_sem]; omega) | simp [go_sem]) _ | with_reducible refine below_grow ?_ (by first | omega | (simp [go_sem]; omega) | simp [go_sem]) _ _ | with_reducible refine Below.drew ?_)
      · first | omega | (simp [go_sem]; omega) | simp [go_sem]
    have S8 : w.heap.size ≤ w8.heap.size := H8.size
    clear hb
    go_wp2_with fail
    (with_reducible refine (c6.out _).mono ?_)
    rintro e w9 ⟨rfl, hb⟩
    have H9 : Below w.heap.size w w9 := by
      refine Below.trans ?_ (hb.mono ?_)
      · repeat (first | with_reducible assumption | with_reducible exact Below.refl _ _ | with_reducible refine Below.setCell ?_ (by first | omega | (simp [go_sem]; omega) | simp [go_sem]) _ | with_reducible refine Below.alloc ?_ (by first | omega | (simp [go_sem]; omega) | simp [go_sem]) _ | with_reducible refine below_grow ?_ (by first | omega | (simp [go_sem]; omega) | simp [go_sem]) _ _ | with_reducible refine Below.drew ?_)
      · first | omega | (simp [go_sem]; omega) | simp [go_sem]
    have S9 : w.heap.size ≤ w9.heap.size := H9.size
    clear hb
    go_wp2_with fail
    (with_reducible refine (C7.out _).mono ?_)
    rintro e w10 ⟨rfl, hb⟩
    have H10 : Below w.heap.size w w10 := by
      refine Below.trans ?_ (hb.mono ?_)
      · repeat (first | with_reducible assumption | with_reducible exact Below.refl _ _ | with_reducible refine Below.setCell ?_ (by first | omega | (simp [go_sem]; omega) | simp [go_sem]) _ | with_reducible refine Below.alloc ?_ (by first | omega | (simp [go_sem]; omega) | simp [go_sem]) _ | with_reducible refine below_grow ?_ (by first | omega | (simp [go_sem]; omega) | simp [go_sem]) _ _ | with_reducible refine Below.drew ?_)
      · first | omega | (simp [go_sem]; omega) | simp [go_sem]
    have S10 : w.heap.size ≤ w10.heap.size := H10.size
    clear hb
    go_wp2_with fail
    refine wp_region_tail 6 (by kernel_rfl) (by kernel_rfl) (by kernel_rfl) ?_
    simp only [List.take_succ_cons, List.take_zero, List.drop_succ_cons, List.drop_zero, List.take_nil, List.drop_nil]
    repeat (quiet_step (first | with_reducible exact Calls.regrown_of (nOf 1 _) | with_reducible exact Calls.regrown_of (nCmp1 _) | with_reducible exact Calls.regrown_of (mWhen _ _)))
    refine wpQuiet_nil ?_
    intro w11 hw
    have hb := below_of_regrown hw
    clear hw
    have H11 : Below w.heap.size w w11 := by
      refine Below.trans ?_ (hb.mono ?_)
      · repeat (first | with_reducible assumption | with_reducible exact Below.refl _ _ | with_reducible refine Below.setCell ?_ (by first | omega | (simp [go_sem]; omega) | simp [go_sem]) _ | with_reducible refine Below.alloc ?_ (by first | omega | (simp [go_sem]; omega) | simp [go_sem]) _ | with_reducible refine below_grow ?_ (by first | omega | (simp [go_sem]; omega) | simp [go_sem]) _ _ | with_reducible refine Below.drew ?_)
      · first | omega | (simp [go_sem]; omega) | simp [go_sem]
    have S11 : w.heap.size ≤ w11.heap.size := H11.size
    have s11_0 : w10.heap.size < w11.heap.size := Nat.lt_of_lt_of_le (by first | omega | (simp [go_sem]; omega) | simp [go_sem]) hb.size
    have k11_0 := fun o => hb.cell (p := ⟨w10.heap.size, o, none⟩) (by first | omega | (simp [go_sem]; omega) | simp [go_sem])
    have f11_0 := fun o => hb.frozen (p := ⟨w10.heap.size, o, none⟩) (by first | omega | (simp [go_sem]; omega) | simp [go_sem])
    clear hb
    go_wp2_with fail
    go_ret
    refine ⟨rfl, ?_⟩
    repeat (first | with_reducible assumption | with_reducible exact Below.refl _ _ | with_reducible refine Below.setCell ?_ (by first | omega | (simp [go_sem]; omega) | simp [go_sem]) _ | with_reducible refine Below.alloc ?_ (by first | omega | (simp [go_sem]; omega) | simp [go_sem]) _ | with_reducible refine below_grow ?_ (by first | omega | (simp [go_sem]; omega) | simp [go_sem]) _ _ | with_reducible refine Below.drew ?_)
  · have hn4 := hn48 rfl
    clear hn48
    have hb4 : (t == [48]) = false := beq_eq_false_iff_ne.2 hn4
    go_enter Tryz.func66, Tryz.ntmps66
    go_wp2_with fail
    (with_reducible refine (C1.out _).mono ?_)
    rintro e w1 ⟨rfl, hb⟩
    have H1 : Below w.heap.size w w1 := by
      refine Below.trans ?_ (hb.mono ?_)
      · repeat (first | with_reducible assumption | with_reducible exact Below.refl _ _ | with_reducible refine Below.setCell ?_ (by first | omega | (simp [go_sem]; omega) | simp [go_sem]) _ | with_reducible refine Below.alloc ?_ (by first | omega | (simp [go_sem]; omega) | simp [go_sem]) _ | with_reducible refine below_grow ?_ (by first | omega | (simp [go_sem]; omega) | simp [go_sem]) _ _ | with_reducible refine Below.drew ?_)
      · first | omega | (simp [go_sem]; omega) | simp [go_sem]
    have S1 : w.heap.size ≤ w1.heap.size := H1.size
    clear hb
    go_wp2_with fail
    (with_reducible refine (C2.out _ ?_).mono ?_)
    · repeat (first | with_reducible assumption | with_reducible exact Below.refl _ _ | with_reducible refine Below.setCell ?_ (by first | omega | (simp [go_sem]; omega) | simp [go_sem]) _ | with_reducible refine Below.alloc ?_ (by first | omega | (simp [go_sem]; omega) | simp [go_sem]) _ | with_reducible refine below_grow ?_ (by first | omega | (simp [go_sem]; omega) | simp [go_sem]) _ _ | with_reducible refine Below.drew ?_)
    rintro e w2 ⟨rfl, hb⟩
    have H2 : Below w.heap.size w w2 := by
      refine Below.trans ?_ (hb.mono ?_)
      · repeat (first | with_reducible assumption | with_reducible exact Below.refl _ _ | with_reducible refine Below.setCell ?_ (by first | omega | (simp [go_sem]; omega) | simp [go_sem]) _ | with_reducible refine Below.alloc ?_ (by first | omega | (simp [go_sem]; omega) | simp [go_sem]) _ | with_reducible refine below_grow ?_ (by first | omega | (simp [go_sem]; omega) | simp [go_sem]) _ _ | with_reducible refine Below.drew ?_)
      · first | omega | (simp [go_sem]; omega) | simp [go_sem]
    have S2 : w.heap.size ≤ w2.heap.size := H2.size
    clear hb
    go_wp2_with fail
    (with_reducible refine (c3.out _).mono ?_)
    rintro e w3 ⟨rfl, hb⟩
    have H3 : Below w.heap.size w w3 := by
      refine Below.trans ?_ (hb.mono ?_)
      · repeat (first | with_reducible assumption | with_reducible exact Below.refl _ _ | with_reducible refine Below.setCell ?_ (by first | omega | (simp [go_sem]; omega) | simp [go_sem]) _ | with_reducible refine Below.alloc ?_ (by first | omega | (simp [go_sem]; omega) | simp [go_sem]) _ | with_reducible refine below_grow ?_ (by first | omega | (simp [go_sem]; omega) | simp [go_sem]) _ _ | with_reducible refine Below.drew ?_)
      · first | omega | (simp [go_sem]; omega) | simp [go_sem]
    have S3 : w.heap.size ≤ w3.heap.size := H3.size
    clear hb
    go_wp2_with fail
    (with_reducible refine (c4.out _).mono ?_)
    rintro e w4 ⟨rfl, hb⟩
    have H4 : Below w.heap.size w w4 := by
      refine Below.trans ?_ (hb.mono ?_)
      · repeat (first | with_reducible assumption | with_reducible exact Below.refl _ _ | with_reducible refine Below.setCell ?_ (by first | omega | (simp [go_sem]; omega) | simp [go_sem]) _ | with_reducible refine Below.alloc ?_ (by first | omega | (simp [go_sem]; omega) | simp [go_sem]) _ | with_reducible refine below_grow ?_ (by first | omega | (simp [go_sem]; omega) | simp [go_sem]) _ _ | with_reducible refine Below.drew ?_)
      · first | omega | (simp [go_sem]; omega) | simp [go_sem]
    have S4 : w.heap.size ≤ w4.heap.size := H4.size
    clear hb
    go_wp2_with fail
    (with_reducible refine (mWhen _ _).mono ?_)
    rintro e w5 ⟨rfl, hb⟩
    have H5 : Below w.heap.size w w5 := by
      refine Below.trans ?_ (hb.mono ?_)
      · repeat (first | with_reducible assumption | with_reducible exact Below.refl _ _ | with_reducible refine Below.setCell ?_ (by first | omega | (simp [go_sem]; omega) | simp [go_sem]) _ | with_reducible refine Below.alloc ?_ (by first | omega | (simp [go_sem]; omega) | simp [go_sem]) _ | with_reducible refine below_grow ?_ (by first | omega | (simp [go_sem]; omega) | simp [go_sem]) _ _ | with_reducible refine Below.drew ?_)
      · first | omega | (simp [go_sem]; omega) | simp [go_sem]
    have S5 : w.heap.size ≤ w5.heap.size := H5.size
    clear hb
    go_wp2_with fail
    (with_reducible refine (mWhen _ _).mono ?_)
    rintro e w6 ⟨rfl, hb⟩
    have H6 : Below w.heap.size w w6 := by
      refine Below.trans ?_ (hb.mono ?_)
      · repeat (first | with_reducible assumption | with_reducible exact Below.refl _ _ | with_reducible refine Below.setCell ?_ (by first | omega | (simp [go_sem]; omega) | simp [go_sem]) _ | with_reducible refine Below.alloc ?_ (by first | omega | (simp [go_sem]; omega) | simp [go_sem]) _ | with_reducible refine below_grow ?_ (by first | omega | (simp [go_sem]; omega) | simp [go_sem]) _ _ | with_reducible refine Below.drew ?_)
      · first | omega | (simp [go_sem]; omega) | simp [go_sem]
    have S6 : w.heap.size ≤ w6.heap.size := H6.size
    clear hb
    go_wp2_with fail
    (with_reducible refine (mFirst _ 2 (by decide) _ ?_).mono ?_)
    · intro j hj; rcases j with _ | _ | j <;> first | omega | simp (maxDischargeDepth := 4) [go_sem]
    rintro e w7 ⟨rfl, hb⟩
    have H7 : Below w.heap.size w w7 := by
      refine Below.trans ?_ (hb.mono ?_)
      · repeat (first | with_reducible assumption | with_reducible exact Below.refl _ _ | with_reducible refine Below.setCell ?_ (by first | omega | (simp [go_sem]; omega) | simp [go_sem]) _ | with_reducible refine Below.alloc ?_ (by first | omega | (simp [go_sem]; omega) | simp [go_sem]) _ | with_reducible refine below_grow ?_ (by first | omega | (simp [go_sem]; omega) | simp [go_sem]) _ _ | with_reducible refine Below.drew ?_)
      · first | omega | (simp [go_sem]; omega) | simp [go_sem]
    have S7 : w.heap.size ≤ w7.heap.size := H7.size
    clear hb
    go_wp2_with fail
    (with_reducible refine (c5.out _).mono ?_)
    rintro e w8 ⟨rfl, hb⟩
    have H8 : Below w.heap.size w w8 := by
      refine Below.trans ?_ (hb.mono ?_)
      · repeat (first | with_reducible assumption | with_reducible exact Below.refl _ _ | with_reducible refine Below.setCell ?_ (by first | omega | (simp [go_sem]; omega) | simp [go_sem]) _ | with_reducible refine Below.alloc ?_ (by first | omega | (simp [go_sem]; omega) | simp [go_sem]) _ | with_reducible refine below_grow ?_ (by first | omega | (simp [go_sem]; omega) | simp [go_sem]) _ _ | with_reducible refine Below.drew ?_)
      · first | omega | (simp [go_sem]; omega) | simp [go_sem]
    have S8 : w.heap.size ≤ w8.heap.size := H8.size
    clear hb
    go_wp2_with fail
    (with_reducible refine (c6.out _).mono ?_)
    rintro e w9 ⟨rfl, hb⟩
    have H9 : Below w.heap.size w w9 := by
      refine Below.trans ?_ (hb.mono ?_)
      · repeat (first | with_reducible assumption | with_reducible exact Below.refl _ _ | with_reducible refine Below.setCell ?_ (by first | omega | (simp [go_sem]; omega) | simp [go_sem]) _ | with_reducible refine Below.alloc ?_ (by first | omega | (simp [go_sem]; omega) | simp [go_sem]) _ | with_reducible refine below_grow ?_ (by first | omega | (simp [go_sem]; omega) | simp [go_sem]) _ _ | with_reducible refine Below.drew ?_)
      · first | omega | (simp [go_sem]; omega) | simp [go_sem]
    have S9 : w.heap.size ≤ w9.heap.size := H9.size
    clear hb
    go_wp2_with fail
    (with_reducible refine (C7.out _).mono ?_)
    rintro e w10 ⟨rfl, hb⟩
    have H10 : Below w.heap.size w w10 := by
      refine Below.trans ?_ (hb.mono ?_)
      · repeat (first | with_reducible assumption | with_reducible exact Below.refl _ _ | with_reducible refine Below.setCell ?_ (by first | omega | (simp [go_sem]; omega) | simp [go_sem]) _ | with_reducible refine Below.alloc ?_ (by first | omega | (simp [go_sem]; omega) | simp [go_sem]) _ | with_reducible refine below_grow ?_ (by first | omega | (simp [go_sem]; omega) | simp [go_sem]) _ _ | with_reducible refine Below.drew ?_)
      · first | omega | (simp [go_sem]; omega) | simp [go_sem]
    have S10 : w.heap.size ≤ w10.heap.size := H10.size
    clear hb
    go_wp2_with fail
    refine wp_region_tail 6 (by kernel_rfl) (by kernel_rfl) (by kernel_rfl) ?_
    simp only [List.take_succ_cons, List.take_zero, List.drop_succ_cons, List.drop_zero, List.take_nil, List.drop_nil]
    repeat (quiet_step (first | with_reducible exact Calls.regrown_of (nOf 1 _) | with_reducible exact Calls.regrown_of (nCmp1 _) | with_reducible exact Calls.regrown_of (mWhen _ _)))
    refine wpQuiet_nil ?_
    intro w11 hw
    have hb := below_of_regrown hw
    clear hw
    have H11 : Below w.heap.size w w11 := by
      refine Below.trans ?_ (hb.mono ?_)
      · repeat (first | with_reducible assumption | with_reducible exact Below.refl _ _ | with_reducible refine Below.setCell ?_ (by first | omega | (simp [go_sem]; omega) | simp [go_sem]) _ | with_reducible refine Below.alloc ?_ (by first | omega | (simp [go_sem]; omega) | simp [go_sem]) _ | with_reducible refine below_grow ?_ (by first | omega | (simp [go_sem]; omega) | simp [go_sem]) _ _ | with_reducible refine Below.drew ?_)
      · first | omega | (simp [go_sem]; omega) | simp [go_sem]
    have S11 : w.heap.size ≤ w11.heap.size := H11.size
    have s11_0 : w10.heap.size < w11.heap.size := Nat.lt_of_lt_of_le (by first | omega | (simp [go_sem]; omega) | simp [go_sem]) hb.size
    have k11_0 := fun o => hb.cell (p := ⟨w10.heap.size, o, none⟩) (by first | omega | (simp [go_sem]; omega) | simp [go_sem])
    have f11_0 := fun o => hb.frozen (p := ⟨w10.heap.size, o, none⟩) (by first | omega | (simp [go_sem]; omega) | simp [go_sem])
    clear hb
    go_wp2_with fail
    go_ret
    refine ⟨rfl, ?_⟩
    repeat (first | with_reducible assumption | with_reducible exact Below.refl _ _ | with_reducible refine Below.setCell ?_ (by first | omega | (simp [go_sem]; omega) | simp [go_sem]) _ | with_reducible refine Below.alloc ?_ (by first | omega | (simp [go_sem]; omega) | simp [go_sem]) _ | with_reducible refine below_grow ?_ (by first | omega | (simp [go_sem]; omega) | simp [go_sem]) _ _ | with_reducible refine Below.drew ?_)

/-- The text of a number in lowest terms is one. -/
theorem mCheck (n d : Int) (hn : -1000000000000000000 < n ∧ n < 1000000000000000000) (hd : 1 ≤ d ∧ d < 1000000000000000000) (hg : Int.gcd n d = 1) {w0 : World} (hG : Glob w0) (w : World) (hb : Below w0.heap.size w0 w) : Calls Tryz.prog 66 #[.string ⟨(rtx n d).toArray⟩] w fun e w' => e = .returned (.int .i64 0) ∧ Below w.heap.size w w' := by
  replace hG := hG.keep hb
  clear hb
  obtain ⟨m, neg, hm, hpre, htrim, hz⟩ : ∃ (m : Nat) (neg : Bool), n.natAbs = m ∧ Lib.hasPrefix (rtx n d) [45] = neg ∧ Lib.trimPrefix (rtx n d) [45] = rtx m d ∧ (neg = true → m ≠ 0) := by
    by_cases h : n < 0
    · obtain ⟨m, rfl⟩ : ∃ m : Nat, n = -(m : Int) := ⟨n.natAbs, by omega⟩
      rw [rtx_neg m d (by omega)]
      exact ⟨m, true, by omega, pre_neg _, trim_neg _, fun _ => by omega⟩
    · obtain ⟨m, rfl⟩ := Int.eq_ofNat_of_zero_le (Int.not_lt.1 h)
      exact ⟨m, false, by omega, (rtx_pre m d).1, (rtx_pre m d).2, fun h => by cases h⟩
  obtain ⟨k, rfl⟩ := Int.eq_ofNat_of_zero_le (by omega : 0 ≤ d)
  by_cases h1 : k = 1
  · subst h1
    rw [show ((1 : Nat) : Int) = 1 from rfl] at htrim hpre ⊢
    rw [rtx_one (m : Int), itoa_nat] at htrim
    exact mCheck1 _ m neg hpre htrim (by omega) hz hG w (Below.refl _ _)
  · rw [show rtx (m : Int) (k : Int) = Lib.decDigits m ++ 47 :: Lib.decDigits k from by unfold rtx; rw [if_neg (by omega), itoa_nat, itoa_nat]] at htrim
    refine mCheck2 _ m k neg hpre htrim (by omega) (by omega) ?_ hz hG w (Below.refl _ _)
    rw [← hm]
    simpa [Int.gcd] using hg
end Go.Proofs.YtgdlehoglpiifaaGreatDoor
namespace Go.Proofs.YtgdlehoglpiifaaGreatDoor
open Go.RowKit Go.Sort

/-- A number in lowest terms of up to 18 digits. -/
structure Val (n d : Int) : Prop where
  num : -1000000000000000000 < n ∧ n < 1000000000000000000
  den : 1 ≤ d ∧ d < 1000000000000000000
  low : Int.gcd n d = 1
theorem Val.r {n d : Int} (h : Val n d) : R63 n := by have := h.num; omega
theorem Val.r' {n d : Int} (h : Val n d) : R63 d := by have := h.den; omega
theorem mCheckV (n d : Int) (h : Val n d) {w0 : World} (hG : Glob w0) (w : World) (hb : Below w0.heap.size w0 w) : Calls Tryz.prog 66 #[.string ⟨(rtx n d).toArray⟩] w fun e w' => e = .returned (.int .i64 0) ∧ Below w.heap.size w w' := by
  replace hG := hG.keep hb
  clear hb
  exact mCheck n d h.num h.den h.low hG w (Below.refl _ _)
theorem fFromV (n d : Int) (h : Val n d) {w0 : World} (hG : Glob w0) (w : World) (hb : Below w0.heap.size w0 w) : Calls Tryz.prog 69 #[.string ⟨(rtx n d).toArray⟩] w fun e w' => e = .returned (.agg #[.int .i64 n, .slice none 0 0, .int .i64 d, .slice none 0 0]) ∧ Below w.heap.size w w' := by
  replace hG := hG.keep hb
  clear hb
  exact fFrom n d h.num h.den hG w (Below.refl _ _)

theorem mTold (n d : Int) (hn : R63 n) (hd : R63 d) {w0 : World} (hG : Glob w0) (w : World) (hb : Below w0.heap.size w0 w) : Calls Tryz.prog 67 #[.agg #[.int .i64 n, .slice none 0 0, .int .i64 d, .slice none 0 0]] w fun e w' => e = .returned (.tuple #[.string ⟨(rtx n d).toArray⟩, .int .i64 0]) ∧ Below w.heap.size w w' := by
  replace hG := hG.keep hb
  clear hb
  have c1 := Lib.hid (fun w => fLarge n d hn hd w)
  go_enter Tryz.func67, Tryz.ntmps67
  go_wp2_with fail
  (with_reducible refine (c1.out _).mono ?_)
  rintro e w1 ⟨rfl, hb⟩
  have H1 : Below w.heap.size w w1 := by
    refine Below.trans ?_ (hb.mono ?_)
    · repeat (first | with_reducible assumption | with_reducible exact Below.refl _ _ | with_reducible refine Below.setCell ?_ (by first | omega | (simp [go_sem]; omega) | simp [go_sem]) _ | with_reducible refine Below.alloc ?_ (by first | omega | (simp [go_sem]; omega) | simp [go_sem]) _ | with_reducible refine below_grow ?_ (by first | omega | (simp [go_sem]; omega) | simp [go_sem]) _ _ | with_reducible refine Below.drew ?_)
    · first | omega | (simp [go_sem]; omega) | simp [go_sem]
  have S1 : w.heap.size ≤ w1.heap.size := H1.size
  have s1_0 : w.heap.size < w1.heap.size := Nat.lt_of_lt_of_le (by first | omega | (simp [go_sem]; omega) | simp [go_sem]) hb.size
  have k1_0 := fun o => hb.cell (p := ⟨w.heap.size, o, none⟩) (by first | omega | (simp [go_sem]; omega) | simp [go_sem])
  have f1_0 := fun o => hb.frozen (p := ⟨w.heap.size, o, none⟩) (by first | omega | (simp [go_sem]; omega) | simp [go_sem])
  clear hb
  go_wp2_with fail
  (with_reducible refine (fText n d hn hd hG _ ?_).mono ?_)
  · repeat (first | with_reducible assumption | with_reducible exact Below.refl _ _ | with_reducible refine Below.setCell ?_ (by first | omega | (simp [go_sem]; omega) | simp [go_sem]) _ | with_reducible refine Below.alloc ?_ (by first | omega | (simp [go_sem]; omega) | simp [go_sem]) _ | with_reducible refine below_grow ?_ (by first | omega | (simp [go_sem]; omega) | simp [go_sem]) _ _ | with_reducible refine Below.drew ?_)
  rintro e w2 ⟨rfl, hb⟩
  have H2 : Below w.heap.size w w2 := by
    refine Below.trans ?_ (hb.mono ?_)
    · repeat (first | with_reducible assumption | with_reducible exact Below.refl _ _ | with_reducible refine Below.setCell ?_ (by first | omega | (simp [go_sem]; omega) | simp [go_sem]) _ | with_reducible refine Below.alloc ?_ (by first | omega | (simp [go_sem]; omega) | simp [go_sem]) _ | with_reducible refine below_grow ?_ (by first | omega | (simp [go_sem]; omega) | simp [go_sem]) _ _ | with_reducible refine Below.drew ?_)
    · first | omega | (simp [go_sem]; omega) | simp [go_sem]
  have S2 : w.heap.size ≤ w2.heap.size := H2.size
  have s2_0 : w.heap.size < w2.heap.size := Nat.lt_of_lt_of_le (by first | omega | (simp [go_sem]; omega) | simp [go_sem]) hb.size
  have k2_0 := fun o => hb.cell (p := ⟨w.heap.size, o, none⟩) (by first | omega | (simp [go_sem]; omega) | simp [go_sem])
  have f2_0 := fun o => hb.frozen (p := ⟨w.heap.size, o, none⟩) (by first | omega | (simp [go_sem]; omega) | simp [go_sem])
  clear hb
  go_wp2_with fail
  go_ret2
  refine ⟨rfl, ?_⟩
  repeat (first | with_reducible assumption | with_reducible exact Below.refl _ _ | with_reducible refine Below.setCell ?_ (by first | omega | (simp [go_sem]; omega) | simp [go_sem]) _ | with_reducible refine Below.alloc ?_ (by first | omega | (simp [go_sem]; omega) | simp [go_sem]) _ | with_reducible refine below_grow ?_ (by first | omega | (simp [go_sem]; omega) | simp [go_sem]) _ _ | with_reducible refine Below.drew ?_)

/-- A list of two valid numbers. -/
theorem mCheckTwo (b : Nat) (n d p q : Int) (h1 : Val n d) (h2 : Val p q) (w : World) (hG : Glob w) (hb : b < w.heap.size) (hc0 : w.cell? ⟨b, 0, none⟩ = some (.string ⟨(rtx n d).toArray⟩)) (hc1 : w.cell? ⟨b, 1, none⟩ = some (.string ⟨(rtx p q).toArray⟩)) :
    Calls Tryz.prog 63 #[.slice (some ⟨b, 0, none⟩) 2 2] w fun e w' => e = .returned (.int .i64 0) ∧ Below w.heap.size w w' := by
  go_enter Tryz.func63, Tryz.ntmps63
  go_wp2_with fail
  refine wp_loop_rounds 3 ?_
  rw [rounds_succ]
  go_wp2_with fail
  (with_reducible refine (mCheckV n d h1 hG _ ?_).mono ?_)
  · repeat (first | with_reducible assumption | with_reducible exact Below.refl _ _ | with_reducible refine Below.setCell ?_ (by first | omega | (simp [go_sem]; omega) | simp [go_sem]) _ | with_reducible refine Below.alloc ?_ (by first | omega | (simp [go_sem]; omega) | simp [go_sem]) _ | with_reducible refine below_grow ?_ (by first | omega | (simp [go_sem]; omega) | simp [go_sem]) _ _ | with_reducible refine Below.drew ?_)
  rintro e w1 ⟨rfl, hb⟩
  have H1 : Below w.heap.size w w1 := by
    refine Below.trans ?_ (hb.mono ?_)
    · repeat (first | with_reducible assumption | with_reducible exact Below.refl _ _ | with_reducible refine Below.setCell ?_ (by first | omega | (simp [go_sem]; omega) | simp [go_sem]) _ | with_reducible refine Below.alloc ?_ (by first | omega | (simp [go_sem]; omega) | simp [go_sem]) _ | with_reducible refine below_grow ?_ (by first | omega | (simp [go_sem]; omega) | simp [go_sem]) _ _ | with_reducible refine Below.drew ?_)
    · first | omega | (simp [go_sem]; omega) | simp [go_sem]
  have S1 : w.heap.size ≤ w1.heap.size := H1.size
  have s1_0 : b < w1.heap.size := Nat.lt_of_lt_of_le (by first | omega | (simp [go_sem]; omega) | simp [go_sem]) hb.size
  have k1_0 := fun o => hb.cell (p := ⟨b, o, none⟩) (by first | omega | (simp [go_sem]; omega) | simp [go_sem])
  have f1_0 := fun o => hb.frozen (p := ⟨b, o, none⟩) (by first | omega | (simp [go_sem]; omega) | simp [go_sem])
  clear hb
  go_wp2_with fail
  rw [rounds_succ]
  go_wp2_with fail
  (with_reducible refine (mCheckV p q h2 hG _ ?_).mono ?_)
  · repeat (first | with_reducible assumption | with_reducible exact Below.refl _ _ | with_reducible refine Below.setCell ?_ (by first | omega | (simp [go_sem]; omega) | simp [go_sem]) _ | with_reducible refine Below.alloc ?_ (by first | omega | (simp [go_sem]; omega) | simp [go_sem]) _ | with_reducible refine below_grow ?_ (by first | omega | (simp [go_sem]; omega) | simp [go_sem]) _ _ | with_reducible refine Below.drew ?_)
  rintro e w2 ⟨rfl, hb⟩
  have H2 : Below w.heap.size w w2 := by
    refine Below.trans ?_ (hb.mono ?_)
    · repeat (first | with_reducible assumption | with_reducible exact Below.refl _ _ | with_reducible refine Below.setCell ?_ (by first | omega | (simp [go_sem]; omega) | simp [go_sem]) _ | with_reducible refine Below.alloc ?_ (by first | omega | (simp [go_sem]; omega) | simp [go_sem]) _ | with_reducible refine below_grow ?_ (by first | omega | (simp [go_sem]; omega) | simp [go_sem]) _ _ | with_reducible refine Below.drew ?_)
    · first | omega | (simp [go_sem]; omega) | simp [go_sem]
  have S2 : w.heap.size ≤ w2.heap.size := H2.size
  have s2_0 : b < w2.heap.size := Nat.lt_of_lt_of_le (by first | omega | (simp [go_sem]; omega) | simp [go_sem]) hb.size
  have k2_0 := fun o => hb.cell (p := ⟨b, o, none⟩) (by first | omega | (simp [go_sem]; omega) | simp [go_sem])
  have f2_0 := fun o => hb.frozen (p := ⟨b, o, none⟩) (by first | omega | (simp [go_sem]; omega) | simp [go_sem])
  clear hb
  go_wp2_with fail
  rw [rounds_succ]
  go_wp2_with fail
  go_ret
  refine ⟨rfl, ?_⟩
  repeat (first | with_reducible assumption | with_reducible exact Below.refl _ _ | with_reducible refine Below.setCell ?_ (by first | omega | (simp [go_sem]; omega) | simp [go_sem]) _ | with_reducible refine Below.alloc ?_ (by first | omega | (simp [go_sem]; omega) | simp [go_sem]) _ | with_reducible refine below_grow ?_ (by first | omega | (simp [go_sem]; omega) | simp [go_sem]) _ _ | with_reducible refine Below.drew ?_)

theorem mOpMul (n d p q x y : Int) (h1 : Val n d) (h2 : Val p q) (hx : R63 x) (hy : R63 y) (hop : ∀ w, Calls Tryz.prog 56 #[.agg #[.int .i64 n, .slice none 0 0, .int .i64 d, .slice none 0 0], .agg #[.int .i64 p, .slice none 0 0, .int .i64 q, .slice none 0 0]] w fun e w' => e = .returned (.agg #[.int .i64 x, .slice none 0 0, .int .i64 y, .slice none 0 0]) ∧ Below w.heap.size w w') {w0 : World} (hG : Glob w0) (w : World) (hb : Below w0.heap.size w0 w) : Calls Tryz.prog 55 #[.string ⟨(rtx n d).toArray⟩, .string ⟨(rtx p q).toArray⟩, .func (.func 56) #[] #[]] w fun e w' => e = .returned (.tuple #[.string ⟨(rtx x y).toArray⟩, .int .i64 0]) ∧ Below w.heap.size w w' := by
  replace hG := hG.keep hb
  clear hb
  have c1 := Lib.hid hop
  clear hop
  go_enter Tryz.func55, Tryz.ntmps55
  go_wp2_with fail
  (with_reducible refine (mCheckTwo w.heap.size n d p q h1 h2 _ (hG.keep ?_) ?_ ?_ ?_).mono ?_)
  · repeat (first | with_reducible assumption | with_reducible exact Below.refl _ _ | with_reducible refine Below.setCell ?_ (by first | omega | (simp [go_sem]; omega) | simp [go_sem]) _ | with_reducible refine Below.alloc ?_ (by first | omega | (simp [go_sem]; omega) | simp [go_sem]) _ | with_reducible refine below_grow ?_ (by first | omega | (simp [go_sem]; omega) | simp [go_sem]) _ _ | with_reducible refine Below.drew ?_)
  · simp [go_sem]
  · simp [go_sem]
  · simp [go_sem]
  rintro e w1 ⟨rfl, hb⟩
  have H1 : Below w.heap.size w w1 := by
    refine Below.trans ?_ (hb.mono ?_)
    · repeat (first | with_reducible assumption | with_reducible exact Below.refl _ _ | with_reducible refine Below.setCell ?_ (by first | omega | (simp [go_sem]; omega) | simp [go_sem]) _ | with_reducible refine Below.alloc ?_ (by first | omega | (simp [go_sem]; omega) | simp [go_sem]) _ | with_reducible refine below_grow ?_ (by first | omega | (simp [go_sem]; omega) | simp [go_sem]) _ _ | with_reducible refine Below.drew ?_)
    · first | omega | (simp [go_sem]; omega) | simp [go_sem]
  have S1 : w.heap.size ≤ w1.heap.size := H1.size
  clear hb
  go_wp2_with fail
  (with_reducible refine (fFromV n d h1 hG _ ?_).mono ?_)
  · repeat (first | with_reducible assumption | with_reducible exact Below.refl _ _ | with_reducible refine Below.setCell ?_ (by first | omega | (simp [go_sem]; omega) | simp [go_sem]) _ | with_reducible refine Below.alloc ?_ (by first | omega | (simp [go_sem]; omega) | simp [go_sem]) _ | with_reducible refine below_grow ?_ (by first | omega | (simp [go_sem]; omega) | simp [go_sem]) _ _ | with_reducible refine Below.drew ?_)
  rintro e w2 ⟨rfl, hb⟩
  have H2 : Below w.heap.size w w2 := by
    refine Below.trans ?_ (hb.mono ?_)
    · repeat (first | with_reducible assumption | with_reducible exact Below.refl _ _ | with_reducible refine Below.setCell ?_ (by first | omega | (simp [go_sem]; omega) | simp [go_sem]) _ | with_reducible refine Below.alloc ?_ (by first | omega | (simp [go_sem]; omega) | simp [go_sem]) _ | with_reducible refine below_grow ?_ (by first | omega | (simp [go_sem]; omega) | simp [go_sem]) _ _ | with_reducible refine Below.drew ?_)
    · first | omega | (simp [go_sem]; omega) | simp [go_sem]
  have S2 : w.heap.size ≤ w2.heap.size := H2.size
  clear hb
  go_wp2_with fail
  (with_reducible refine (fFromV p q h2 hG _ ?_).mono ?_)
  · repeat (first | with_reducible assumption | with_reducible exact Below.refl _ _ | with_reducible refine Below.setCell ?_ (by first | omega | (simp [go_sem]; omega) | simp [go_sem]) _ | with_reducible refine Below.alloc ?_ (by first | omega | (simp [go_sem]; omega) | simp [go_sem]) _ | with_reducible refine below_grow ?_ (by first | omega | (simp [go_sem]; omega) | simp [go_sem]) _ _ | with_reducible refine Below.drew ?_)
  rintro e w3 ⟨rfl, hb⟩
  have H3 : Below w.heap.size w w3 := by
    refine Below.trans ?_ (hb.mono ?_)
    · repeat (first | with_reducible assumption | with_reducible exact Below.refl _ _ | with_reducible refine Below.setCell ?_ (by first | omega | (simp [go_sem]; omega) | simp [go_sem]) _ | with_reducible refine Below.alloc ?_ (by first | omega | (simp [go_sem]; omega) | simp [go_sem]) _ | with_reducible refine below_grow ?_ (by first | omega | (simp [go_sem]; omega) | simp [go_sem]) _ _ | with_reducible refine Below.drew ?_)
    · first | omega | (simp [go_sem]; omega) | simp [go_sem]
  have S3 : w.heap.size ≤ w3.heap.size := H3.size
  clear hb
  go_wp2_with fail
  (with_reducible refine (c1.out _).mono ?_)
  rintro e w4 ⟨rfl, hb⟩
  have H4 : Below w.heap.size w w4 := by
    refine Below.trans ?_ (hb.mono ?_)
    · repeat (first | with_reducible assumption | with_reducible exact Below.refl _ _ | with_reducible refine Below.setCell ?_ (by first | omega | (simp [go_sem]; omega) | simp [go_sem]) _ | with_reducible refine Below.alloc ?_ (by first | omega | (simp [go_sem]; omega) | simp [go_sem]) _ | with_reducible refine below_grow ?_ (by first | omega | (simp [go_sem]; omega) | simp [go_sem]) _ _ | with_reducible refine Below.drew ?_)
    · first | omega | (simp [go_sem]; omega) | simp [go_sem]
  have S4 : w.heap.size ≤ w4.heap.size := H4.size
  clear hb
  go_wp2_with fail
  (with_reducible refine (mTold x y hx hy hG _ ?_).mono ?_)
  · repeat (first | with_reducible assumption | with_reducible exact Below.refl _ _ | with_reducible refine Below.setCell ?_ (by first | omega | (simp [go_sem]; omega) | simp [go_sem]) _ | with_reducible refine Below.alloc ?_ (by first | omega | (simp [go_sem]; omega) | simp [go_sem]) _ | with_reducible refine below_grow ?_ (by first | omega | (simp [go_sem]; omega) | simp [go_sem]) _ _ | with_reducible refine Below.drew ?_)
  rintro e w5 ⟨rfl, hb⟩
  have H5 : Below w.heap.size w w5 := by
    refine Below.trans ?_ (hb.mono ?_)
    · repeat (first | with_reducible assumption | with_reducible exact Below.refl _ _ | with_reducible refine Below.setCell ?_ (by first | omega | (simp [go_sem]; omega) | simp [go_sem]) _ | with_reducible refine Below.alloc ?_ (by first | omega | (simp [go_sem]; omega) | simp [go_sem]) _ | with_reducible refine below_grow ?_ (by first | omega | (simp [go_sem]; omega) | simp [go_sem]) _ _ | with_reducible refine Below.drew ?_)
    · first | omega | (simp [go_sem]; omega) | simp [go_sem]
  have S5 : w.heap.size ≤ w5.heap.size := H5.size
  clear hb
  go_wp2_with fail
  go_ret2
  refine ⟨rfl, ?_⟩
  repeat (first | with_reducible assumption | with_reducible exact Below.refl _ _ | with_reducible refine Below.setCell ?_ (by first | omega | (simp [go_sem]; omega) | simp [go_sem]) _ | with_reducible refine Below.alloc ?_ (by first | omega | (simp [go_sem]; omega) | simp [go_sem]) _ | with_reducible refine below_grow ?_ (by first | omega | (simp [go_sem]; omega) | simp [go_sem]) _ _ | with_reducible refine Below.drew ?_)

theorem mOpSub (n d p q x y : Int) (h1 : Val n d) (h2 : Val p q) (hx : R63 x) (hy : R63 y) (hop : ∀ w, Calls Tryz.prog 58 #[.agg #[.int .i64 n, .slice none 0 0, .int .i64 d, .slice none 0 0], .agg #[.int .i64 p, .slice none 0 0, .int .i64 q, .slice none 0 0]] w fun e w' => e = .returned (.agg #[.int .i64 x, .slice none 0 0, .int .i64 y, .slice none 0 0]) ∧ Below w.heap.size w w') {w0 : World} (hG : Glob w0) (w : World) (hb : Below w0.heap.size w0 w) : Calls Tryz.prog 55 #[.string ⟨(rtx n d).toArray⟩, .string ⟨(rtx p q).toArray⟩, .func (.func 58) #[] #[]] w fun e w' => e = .returned (.tuple #[.string ⟨(rtx x y).toArray⟩, .int .i64 0]) ∧ Below w.heap.size w w' := by
  replace hG := hG.keep hb
  clear hb
  have c1 := Lib.hid hop
  clear hop
  go_enter Tryz.func55, Tryz.ntmps55
  go_wp2_with fail
  (with_reducible refine (mCheckTwo w.heap.size n d p q h1 h2 _ (hG.keep ?_) ?_ ?_ ?_).mono ?_)
  · repeat (first | with_reducible assumption | with_reducible exact Below.refl _ _ | with_reducible refine Below.setCell ?_ (by first | omega | (simp [go_sem]; omega) | simp [go_sem]) _ | with_reducible refine Below.alloc ?_ (by first | omega | (simp [go_sem]; omega) | simp [go_sem]) _ | with_reducible refine below_grow ?_ (by first | omega | (simp [go_sem]; omega) | simp [go_sem]) _ _ | with_reducible refine Below.drew ?_)
  · simp [go_sem]
  · simp [go_sem]
  · simp [go_sem]
  rintro e w1 ⟨rfl, hb⟩
  have H1 : Below w.heap.size w w1 := by
    refine Below.trans ?_ (hb.mono ?_)
    · repeat (first | with_reducible assumption | with_reducible exact Below.refl _ _ | with_reducible refine Below.setCell ?_ (by first | omega | (simp [go_sem]; omega) | simp [go_sem]) _ | with_reducible refine Below.alloc ?_ (by first | omega | (simp [go_sem]; omega) | simp [go_sem]) _ | with_reducible refine below_grow ?_ (by first | omega | (simp [go_sem]; omega) | simp [go_sem]) _ _ | with_reducible refine Below.drew ?_)
    · first | omega | (simp [go_sem]; omega) | simp [go_sem]
  have S1 : w.heap.size ≤ w1.heap.size := H1.size
  clear hb
  go_wp2_with fail
  (with_reducible refine (fFromV n d h1 hG _ ?_).mono ?_)
  · repeat (first | with_reducible assumption | with_reducible exact Below.refl _ _ | with_reducible refine Below.setCell ?_ (by first | omega | (simp [go_sem]; omega) | simp [go_sem]) _ | with_reducible refine Below.alloc ?_ (by first | omega | (simp [go_sem]; omega) | simp [go_sem]) _ | with_reducible refine below_grow ?_ (by first | omega | (simp [go_sem]; omega) | simp [go_sem]) _ _ | with_reducible refine Below.drew ?_)
  rintro e w2 ⟨rfl, hb⟩
  have H2 : Below w.heap.size w w2 := by
    refine Below.trans ?_ (hb.mono ?_)
    · repeat (first | with_reducible assumption | with_reducible exact Below.refl _ _ | with_reducible refine Below.setCell ?_ (by first | omega | (simp [go_sem]; omega) | simp [go_sem]) _ | with_reducible refine Below.alloc ?_ (by first | omega | (simp [go_sem]; omega) | simp [go_sem]) _ | with_reducible refine below_grow ?_ (by first | omega | (simp [go_sem]; omega) | simp [go_sem]) _ _ | with_reducible refine Below.drew ?_)
    · first | omega | (simp [go_sem]; omega) | simp [go_sem]
  have S2 : w.heap.size ≤ w2.heap.size := H2.size
  clear hb
  go_wp2_with fail
  (with_reducible refine (fFromV p q h2 hG _ ?_).mono ?_)
  · repeat (first | with_reducible assumption | with_reducible exact Below.refl _ _ | with_reducible refine Below.setCell ?_ (by first | omega | (simp [go_sem]; omega) | simp [go_sem]) _ | with_reducible refine Below.alloc ?_ (by first | omega | (simp [go_sem]; omega) | simp [go_sem]) _ | with_reducible refine below_grow ?_ (by first | omega | (simp [go_sem]; omega) | simp [go_sem]) _ _ | with_reducible refine Below.drew ?_)
  rintro e w3 ⟨rfl, hb⟩
  have H3 : Below w.heap.size w w3 := by
    refine Below.trans ?_ (hb.mono ?_)
    · repeat (first | with_reducible assumption | with_reducible exact Below.refl _ _ | with_reducible refine Below.setCell ?_ (by first | omega | (simp [go_sem]; omega) | simp [go_sem]) _ | with_reducible refine Below.alloc ?_ (by first | omega | (simp [go_sem]; omega) | simp [go_sem]) _ | with_reducible refine below_grow ?_ (by first | omega | (simp [go_sem]; omega) | simp [go_sem]) _ _ | with_reducible refine Below.drew ?_)
    · first | omega | (simp [go_sem]; omega) | simp [go_sem]
  have S3 : w.heap.size ≤ w3.heap.size := H3.size
  clear hb
  go_wp2_with fail
  (with_reducible refine (c1.out _).mono ?_)
  rintro e w4 ⟨rfl, hb⟩
  have H4 : Below w.heap.size w w4 := by
    refine Below.trans ?_ (hb.mono ?_)
    · repeat (first | with_reducible assumption | with_reducible exact Below.refl _ _ | with_reducible refine Below.setCell ?_ (by first | omega | (simp [go_sem]; omega) | simp [go_sem]) _ | with_reducible refine Below.alloc ?_ (by first | omega | (simp [go_sem]; omega) | simp [go_sem]) _ | with_reducible refine below_grow ?_ (by first | omega | (simp [go_sem]; omega) | simp [go_sem]) _ _ | with_reducible refine Below.drew ?_)
    · first | omega | (simp [go_sem]; omega) | simp [go_sem]
  have S4 : w.heap.size ≤ w4.heap.size := H4.size
  clear hb
  go_wp2_with fail
  (with_reducible refine (mTold x y hx hy hG _ ?_).mono ?_)
  · repeat (first | with_reducible assumption | with_reducible exact Below.refl _ _ | with_reducible refine Below.setCell ?_ (by first | omega | (simp [go_sem]; omega) | simp [go_sem]) _ | with_reducible refine Below.alloc ?_ (by first | omega | (simp [go_sem]; omega) | simp [go_sem]) _ | with_reducible refine below_grow ?_ (by first | omega | (simp [go_sem]; omega) | simp [go_sem]) _ _ | with_reducible refine Below.drew ?_)
  rintro e w5 ⟨rfl, hb⟩
  have H5 : Below w.heap.size w w5 := by
    refine Below.trans ?_ (hb.mono ?_)
    · repeat (first | with_reducible assumption | with_reducible exact Below.refl _ _ | with_reducible refine Below.setCell ?_ (by first | omega | (simp [go_sem]; omega) | simp [go_sem]) _ | with_reducible refine Below.alloc ?_ (by first | omega | (simp [go_sem]; omega) | simp [go_sem]) _ | with_reducible refine below_grow ?_ (by first | omega | (simp [go_sem]; omega) | simp [go_sem]) _ _ | with_reducible refine Below.drew ?_)
    · first | omega | (simp [go_sem]; omega) | simp [go_sem]
  have S5 : w.heap.size ≤ w5.heap.size := H5.size
  clear hb
  go_wp2_with fail
  go_ret2
  refine ⟨rfl, ?_⟩
  repeat (first | with_reducible assumption | with_reducible exact Below.refl _ _ | with_reducible refine Below.setCell ?_ (by first | omega | (simp [go_sem]; omega) | simp [go_sem]) _ | with_reducible refine Below.alloc ?_ (by first | omega | (simp [go_sem]; omega) | simp [go_sem]) _ | with_reducible refine below_grow ?_ (by first | omega | (simp [go_sem]; omega) | simp [go_sem]) _ _ | with_reducible refine Below.drew ?_)

theorem mOpDiv (n d p q x y : Int) (h1 : Val n d) (h2 : Val p q) (hx : R63 x) (hy : R63 y) (hop : ∀ w, Calls Tryz.prog 65 #[.agg #[.int .i64 n, .slice none 0 0, .int .i64 d, .slice none 0 0], .agg #[.int .i64 p, .slice none 0 0, .int .i64 q, .slice none 0 0]] w fun e w' => e = .returned (.agg #[.int .i64 x, .slice none 0 0, .int .i64 y, .slice none 0 0]) ∧ Below w.heap.size w w') {w0 : World} (hG : Glob w0) (w : World) (hb : Below w0.heap.size w0 w) : Calls Tryz.prog 55 #[.string ⟨(rtx n d).toArray⟩, .string ⟨(rtx p q).toArray⟩, .func (.func 65) #[] #[]] w fun e w' => e = .returned (.tuple #[.string ⟨(rtx x y).toArray⟩, .int .i64 0]) ∧ Below w.heap.size w w' := by
  replace hG := hG.keep hb
  clear hb
  have c1 := Lib.hid hop
  clear hop
  go_enter Tryz.func55, Tryz.ntmps55
  go_wp2_with fail
  (with_reducible refine (mCheckTwo w.heap.size n d p q h1 h2 _ (hG.keep ?_) ?_ ?_ ?_).mono ?_)
  · repeat (first | with_reducible assumption | with_reducible exact Below.refl _ _ | with_reducible refine Below.setCell ?_ (by first | omega | (simp [go_sem]; omega) | simp [go_sem]) _ | with_reducible refine Below.alloc ?_ (by first | omega | (simp [go_sem]; omega) | simp [go_sem]) _ | with_reducible refine below_grow ?_ (by first | omega | (simp [go_sem]; omega) | simp [go_sem]) _ _ | with_reducible refine Below.drew ?_)
  · simp [go_sem]
  · simp [go_sem]
  · simp [go_sem]
  rintro e w1 ⟨rfl, hb⟩
  have H1 : Below w.heap.size w w1 := by
    refine Below.trans ?_ (hb.mono ?_)
    · repeat (first | with_reducible assumption | with_reducible exact Below.refl _ _ | with_reducible refine Below.setCell ?_ (by first | omega | (simp [go_sem]; omega) | simp [go_sem]) _ | with_reducible refine Below.alloc ?_ (by first | omega | (simp [go_sem]; omega) | simp [go_sem]) _ | with_reducible refine below_grow ?_ (by first | omega | (simp [go_sem]; omega) | simp [go_sem]) _ _ | with_reducible refine Below.drew ?_)
    · first | omega | (simp [go_sem]; omega) | simp [go_sem]
  have S1 : w.heap.size ≤ w1.heap.size := H1.size
  clear hb
  go_wp2_with fail
  (with_reducible refine (fFromV n d h1 hG _ ?_).mono ?_)
  · repeat (first | with_reducible assumption | with_reducible exact Below.refl _ _ | with_reducible refine Below.setCell ?_ (by first | omega | (simp [go_sem]; omega) | simp [go_sem]) _ | with_reducible refine Below.alloc ?_ (by first | omega | (simp [go_sem]; omega) | simp [go_sem]) _ | with_reducible refine below_grow ?_ (by first | omega | (simp [go_sem]; omega) | simp [go_sem]) _ _ | with_reducible refine Below.drew ?_)
  rintro e w2 ⟨rfl, hb⟩
  have H2 : Below w.heap.size w w2 := by
    refine Below.trans ?_ (hb.mono ?_)
    · repeat (first | with_reducible assumption | with_reducible exact Below.refl _ _ | with_reducible refine Below.setCell ?_ (by first | omega | (simp [go_sem]; omega) | simp [go_sem]) _ | with_reducible refine Below.alloc ?_ (by first | omega | (simp [go_sem]; omega) | simp [go_sem]) _ | with_reducible refine below_grow ?_ (by first | omega | (simp [go_sem]; omega) | simp [go_sem]) _ _ | with_reducible refine Below.drew ?_)
    · first | omega | (simp [go_sem]; omega) | simp [go_sem]
  have S2 : w.heap.size ≤ w2.heap.size := H2.size
  clear hb
  go_wp2_with fail
  (with_reducible refine (fFromV p q h2 hG _ ?_).mono ?_)
  · repeat (first | with_reducible assumption | with_reducible exact Below.refl _ _ | with_reducible refine Below.setCell ?_ (by first | omega | (simp [go_sem]; omega) | simp [go_sem]) _ | with_reducible refine Below.alloc ?_ (by first | omega | (simp [go_sem]; omega) | simp [go_sem]) _ | with_reducible refine below_grow ?_ (by first | omega | (simp [go_sem]; omega) | simp [go_sem]) _ _ | with_reducible refine Below.drew ?_)
  rintro e w3 ⟨rfl, hb⟩
  have H3 : Below w.heap.size w w3 := by
    refine Below.trans ?_ (hb.mono ?_)
    · repeat (first | with_reducible assumption | with_reducible exact Below.refl _ _ | with_reducible refine Below.setCell ?_ (by first | omega | (simp [go_sem]; omega) | simp [go_sem]) _ | with_reducible refine Below.alloc ?_ (by first | omega | (simp [go_sem]; omega) | simp [go_sem]) _ | with_reducible refine below_grow ?_ (by first | omega | (simp [go_sem]; omega) | simp [go_sem]) _ _ | with_reducible refine Below.drew ?_)
    · first | omega | (simp [go_sem]; omega) | simp [go_sem]
  have S3 : w.heap.size ≤ w3.heap.size := H3.size
  clear hb
  go_wp2_with fail
  (with_reducible refine (c1.out _).mono ?_)
  rintro e w4 ⟨rfl, hb⟩
  have H4 : Below w.heap.size w w4 := by
    refine Below.trans ?_ (hb.mono ?_)
    · repeat (first | with_reducible assumption | with_reducible exact Below.refl _ _ | with_reducible refine Below.setCell ?_ (by first | omega | (simp [go_sem]; omega) | simp [go_sem]) _ | with_reducible refine Below.alloc ?_ (by first | omega | (simp [go_sem]; omega) | simp [go_sem]) _ | with_reducible refine below_grow ?_ (by first | omega | (simp [go_sem]; omega) | simp [go_sem]) _ _ | with_reducible refine Below.drew ?_)
    · first | omega | (simp [go_sem]; omega) | simp [go_sem]
  have S4 : w.heap.size ≤ w4.heap.size := H4.size
  clear hb
  go_wp2_with fail
  (with_reducible refine (mTold x y hx hy hG _ ?_).mono ?_)
  · repeat (first | with_reducible assumption | with_reducible exact Below.refl _ _ | with_reducible refine Below.setCell ?_ (by first | omega | (simp [go_sem]; omega) | simp [go_sem]) _ | with_reducible refine Below.alloc ?_ (by first | omega | (simp [go_sem]; omega) | simp [go_sem]) _ | with_reducible refine below_grow ?_ (by first | omega | (simp [go_sem]; omega) | simp [go_sem]) _ _ | with_reducible refine Below.drew ?_)
  rintro e w5 ⟨rfl, hb⟩
  have H5 : Below w.heap.size w w5 := by
    refine Below.trans ?_ (hb.mono ?_)
    · repeat (first | with_reducible assumption | with_reducible exact Below.refl _ _ | with_reducible refine Below.setCell ?_ (by first | omega | (simp [go_sem]; omega) | simp [go_sem]) _ | with_reducible refine Below.alloc ?_ (by first | omega | (simp [go_sem]; omega) | simp [go_sem]) _ | with_reducible refine below_grow ?_ (by first | omega | (simp [go_sem]; omega) | simp [go_sem]) _ _ | with_reducible refine Below.drew ?_)
    · first | omega | (simp [go_sem]; omega) | simp [go_sem]
  have S5 : w.heap.size ≤ w5.heap.size := H5.size
  clear hb
  go_wp2_with fail
  go_ret2
  refine ⟨rfl, ?_⟩
  repeat (first | with_reducible assumption | with_reducible exact Below.refl _ _ | with_reducible refine Below.setCell ?_ (by first | omega | (simp [go_sem]; omega) | simp [go_sem]) _ | with_reducible refine Below.alloc ?_ (by first | omega | (simp [go_sem]; omega) | simp [go_sem]) _ | with_reducible refine below_grow ?_ (by first | omega | (simp [go_sem]; omega) | simp [go_sem]) _ _ | with_reducible refine Below.drew ?_)

theorem mMul (n d p q x y : Int) (h1 : Val n d) (h2 : Val p q) (hx : R63 x) (hy : R63 y) (hop : ∀ w, Calls Tryz.prog 56 #[.agg #[.int .i64 n, .slice none 0 0, .int .i64 d, .slice none 0 0], .agg #[.int .i64 p, .slice none 0 0, .int .i64 q, .slice none 0 0]] w fun e w' => e = .returned (.agg #[.int .i64 x, .slice none 0 0, .int .i64 y, .slice none 0 0]) ∧ Below w.heap.size w w') {w0 : World} (hG : Glob w0) (w : World) (hb : Below w0.heap.size w0 w) : Calls Tryz.prog 19 #[.string ⟨(rtx n d).toArray⟩, .string ⟨(rtx p q).toArray⟩] w fun e w' => e = .returned (.tuple #[.string ⟨(rtx x y).toArray⟩, .int .i64 0]) ∧ Below w.heap.size w w' := by
  replace hG := hG.keep hb
  clear hb
  have hop := Lib.hid hop
  go_enter Tryz.func19, Tryz.ntmps19
  go_wp2_with fail
  (with_reducible refine (mOpMul n d p q x y h1 h2 hx hy hop.out hG _ ?_).mono ?_)
  · repeat (first | with_reducible assumption | with_reducible exact Below.refl _ _ | with_reducible refine Below.setCell ?_ (by first | omega | (simp [go_sem]; omega) | simp [go_sem]) _ | with_reducible refine Below.alloc ?_ (by first | omega | (simp [go_sem]; omega) | simp [go_sem]) _ | with_reducible refine below_grow ?_ (by first | omega | (simp [go_sem]; omega) | simp [go_sem]) _ _ | with_reducible refine Below.drew ?_)
  rintro e w1 ⟨rfl, hb⟩
  have H1 : Below w.heap.size w w1 := by
    refine Below.trans ?_ (hb.mono ?_)
    · repeat (first | with_reducible assumption | with_reducible exact Below.refl _ _ | with_reducible refine Below.setCell ?_ (by first | omega | (simp [go_sem]; omega) | simp [go_sem]) _ | with_reducible refine Below.alloc ?_ (by first | omega | (simp [go_sem]; omega) | simp [go_sem]) _ | with_reducible refine below_grow ?_ (by first | omega | (simp [go_sem]; omega) | simp [go_sem]) _ _ | with_reducible refine Below.drew ?_)
    · first | omega | (simp [go_sem]; omega) | simp [go_sem]
  have S1 : w.heap.size ≤ w1.heap.size := H1.size
  clear hb
  go_wp2_with fail
  go_ret2
  refine ⟨rfl, ?_⟩
  repeat (first | with_reducible assumption | with_reducible exact Below.refl _ _ | with_reducible refine Below.setCell ?_ (by first | omega | (simp [go_sem]; omega) | simp [go_sem]) _ | with_reducible refine Below.alloc ?_ (by first | omega | (simp [go_sem]; omega) | simp [go_sem]) _ | with_reducible refine below_grow ?_ (by first | omega | (simp [go_sem]; omega) | simp [go_sem]) _ _ | with_reducible refine Below.drew ?_)

theorem mSub (n d p q x y : Int) (h1 : Val n d) (h2 : Val p q) (hx : R63 x) (hy : R63 y) (hop : ∀ w, Calls Tryz.prog 58 #[.agg #[.int .i64 n, .slice none 0 0, .int .i64 d, .slice none 0 0], .agg #[.int .i64 p, .slice none 0 0, .int .i64 q, .slice none 0 0]] w fun e w' => e = .returned (.agg #[.int .i64 x, .slice none 0 0, .int .i64 y, .slice none 0 0]) ∧ Below w.heap.size w w') {w0 : World} (hG : Glob w0) (w : World) (hb : Below w0.heap.size w0 w) : Calls Tryz.prog 21 #[.string ⟨(rtx n d).toArray⟩, .string ⟨(rtx p q).toArray⟩] w fun e w' => e = .returned (.tuple #[.string ⟨(rtx x y).toArray⟩, .int .i64 0]) ∧ Below w.heap.size w w' := by
  replace hG := hG.keep hb
  clear hb
  have hop := Lib.hid hop
  go_enter Tryz.func21, Tryz.ntmps21
  go_wp2_with fail
  (with_reducible refine (mOpSub n d p q x y h1 h2 hx hy hop.out hG _ ?_).mono ?_)
  · repeat (first | with_reducible assumption | with_reducible exact Below.refl _ _ | with_reducible refine Below.setCell ?_ (by first | omega | (simp [go_sem]; omega) | simp [go_sem]) _ | with_reducible refine Below.alloc ?_ (by first | omega | (simp [go_sem]; omega) | simp [go_sem]) _ | with_reducible refine below_grow ?_ (by first | omega | (simp [go_sem]; omega) | simp [go_sem]) _ _ | with_reducible refine Below.drew ?_)
  rintro e w1 ⟨rfl, hb⟩
  have H1 : Below w.heap.size w w1 := by
    refine Below.trans ?_ (hb.mono ?_)
    · repeat (first | with_reducible assumption | with_reducible exact Below.refl _ _ | with_reducible refine Below.setCell ?_ (by first | omega | (simp [go_sem]; omega) | simp [go_sem]) _ | with_reducible refine Below.alloc ?_ (by first | omega | (simp [go_sem]; omega) | simp [go_sem]) _ | with_reducible refine below_grow ?_ (by first | omega | (simp [go_sem]; omega) | simp [go_sem]) _ _ | with_reducible refine Below.drew ?_)
    · first | omega | (simp [go_sem]; omega) | simp [go_sem]
  have S1 : w.heap.size ≤ w1.heap.size := H1.size
  clear hb
  go_wp2_with fail
  go_ret2
  refine ⟨rfl, ?_⟩
  repeat (first | with_reducible assumption | with_reducible exact Below.refl _ _ | with_reducible refine Below.setCell ?_ (by first | omega | (simp [go_sem]; omega) | simp [go_sem]) _ | with_reducible refine Below.alloc ?_ (by first | omega | (simp [go_sem]; omega) | simp [go_sem]) _ | with_reducible refine below_grow ?_ (by first | omega | (simp [go_sem]; omega) | simp [go_sem]) _ _ | with_reducible refine Below.drew ?_)

theorem mDiv (n d p q x y : Int) (h1 : Val n d) (h2 : Val p q) (hx : R63 x) (hy : R63 y) (hp : p ≠ 0) (hop : ∀ w, Calls Tryz.prog 65 #[.agg #[.int .i64 n, .slice none 0 0, .int .i64 d, .slice none 0 0], .agg #[.int .i64 p, .slice none 0 0, .int .i64 q, .slice none 0 0]] w fun e w' => e = .returned (.agg #[.int .i64 x, .slice none 0 0, .int .i64 y, .slice none 0 0]) ∧ Below w.heap.size w w') {w0 : World} (hG : Glob w0) (w : World) (hb : Below w0.heap.size w0 w) : Calls Tryz.prog 28 #[.string ⟨(rtx n d).toArray⟩, .string ⟨(rtx p q).toArray⟩] w fun e w' => e = .returned (.tuple #[.string ⟨(rtx x y).toArray⟩, .int .i64 0]) ∧ Below w.heap.size w w' := by
  replace hG := hG.keep hb
  clear hb
  have Hop := Lib.hid hop
  clear hop
  have hz : (rtx p q == [48]) = false := beq_eq_false_iff_ne.2 (rtx_not48 p q hp)
  go_enter Tryz.func28, Tryz.ntmps28
  go_wp2_with fail
  (with_reducible refine (mCheckTwo w.heap.size n d p q h1 h2 _ (hG.keep ?_) ?_ ?_ ?_).mono ?_)
  · repeat (first | with_reducible assumption | with_reducible exact Below.refl _ _ | with_reducible refine Below.setCell ?_ (by first | omega | (simp [go_sem]; omega) | simp [go_sem]) _ | with_reducible refine Below.alloc ?_ (by first | omega | (simp [go_sem]; omega) | simp [go_sem]) _ | with_reducible refine below_grow ?_ (by first | omega | (simp [go_sem]; omega) | simp [go_sem]) _ _ | with_reducible refine Below.drew ?_)
  · simp [go_sem]
  · simp [go_sem]
  · simp [go_sem]
  rintro e w1 ⟨rfl, hb⟩
  have H1 : Below w.heap.size w w1 := by
    refine Below.trans ?_ (hb.mono ?_)
    · repeat (first | with_reducible assumption | with_reducible exact Below.refl _ _ | with_reducible refine Below.setCell ?_ (by first | omega | (simp [go_sem]; omega) | simp [go_sem]) _ | with_reducible refine Below.alloc ?_ (by first | omega | (simp [go_sem]; omega) | simp [go_sem]) _ | with_reducible refine below_grow ?_ (by first | omega | (simp [go_sem]; omega) | simp [go_sem]) _ _ | with_reducible refine Below.drew ?_)
    · first | omega | (simp [go_sem]; omega) | simp [go_sem]
  have S1 : w.heap.size ≤ w1.heap.size := H1.size
  clear hb
  go_wp2_with fail
  (with_reducible refine (mWhen _ _).mono ?_)
  rintro e w2 ⟨rfl, hb⟩
  have H2 : Below w.heap.size w w2 := by
    refine Below.trans ?_ (hb.mono ?_)
    · repeat (first | with_reducible assumption | with_reducible exact Below.refl _ _ | with_reducible refine Below.setCell ?_ (by first | omega | (simp [go_sem]; omega) | simp [go_sem]) _ | with_reducible refine Below.alloc ?_ (by first | omega | (simp [go_sem]; omega) | simp [go_sem]) _ | with_reducible refine below_grow ?_ (by first | omega | (simp [go_sem]; omega) | simp [go_sem]) _ _ | with_reducible refine Below.drew ?_)
    · first | omega | (simp [go_sem]; omega) | simp [go_sem]
  have S2 : w.heap.size ≤ w2.heap.size := H2.size
  clear hb
  go_wp2_with fail
  (with_reducible refine (mFirst _ 2 (by decide) _ ?_).mono ?_)
  · intro j hj; rcases j with _ | _ | j <;> first | omega | simp (maxDischargeDepth := 4) [go_sem]
  rintro e w3 ⟨rfl, hb⟩
  have H3 : Below w.heap.size w w3 := by
    refine Below.trans ?_ (hb.mono ?_)
    · repeat (first | with_reducible assumption | with_reducible exact Below.refl _ _ | with_reducible refine Below.setCell ?_ (by first | omega | (simp [go_sem]; omega) | simp [go_sem]) _ | with_reducible refine Below.alloc ?_ (by first | omega | (simp [go_sem]; omega) | simp [go_sem]) _ | with_reducible refine below_grow ?_ (by first | omega | (simp [go_sem]; omega) | simp [go_sem]) _ _ | with_reducible refine Below.drew ?_)
    · first | omega | (simp [go_sem]; omega) | simp [go_sem]
  have S3 : w.heap.size ≤ w3.heap.size := H3.size
  clear hb
  go_wp2_with fail
  (with_reducible refine (mOpDiv n d p q x y h1 h2 hx hy Hop.out hG _ ?_).mono ?_)
  · repeat (first | with_reducible assumption | with_reducible exact Below.refl _ _ | with_reducible refine Below.setCell ?_ (by first | omega | (simp [go_sem]; omega) | simp [go_sem]) _ | with_reducible refine Below.alloc ?_ (by first | omega | (simp [go_sem]; omega) | simp [go_sem]) _ | with_reducible refine below_grow ?_ (by first | omega | (simp [go_sem]; omega) | simp [go_sem]) _ _ | with_reducible refine Below.drew ?_)
  rintro e w4 ⟨rfl, hb⟩
  have H4 : Below w.heap.size w w4 := by
    refine Below.trans ?_ (hb.mono ?_)
    · repeat (first | with_reducible assumption | with_reducible exact Below.refl _ _ | with_reducible refine Below.setCell ?_ (by first | omega | (simp [go_sem]; omega) | simp [go_sem]) _ | with_reducible refine Below.alloc ?_ (by first | omega | (simp [go_sem]; omega) | simp [go_sem]) _ | with_reducible refine below_grow ?_ (by first | omega | (simp [go_sem]; omega) | simp [go_sem]) _ _ | with_reducible refine Below.drew ?_)
    · first | omega | (simp [go_sem]; omega) | simp [go_sem]
  have S4 : w.heap.size ≤ w4.heap.size := H4.size
  clear hb
  go_wp2_with fail
  go_ret2
  refine ⟨rfl, ?_⟩
  repeat (first | with_reducible assumption | with_reducible exact Below.refl _ _ | with_reducible refine Below.setCell ?_ (by first | omega | (simp [go_sem]; omega) | simp [go_sem]) _ | with_reducible refine Below.alloc ?_ (by first | omega | (simp [go_sem]; omega) | simp [go_sem]) _ | with_reducible refine below_grow ?_ (by first | omega | (simp [go_sem]; omega) | simp [go_sem]) _ _ | with_reducible refine Below.drew ?_)

theorem mFloor (n d : Int) (h : Val n d) {w0 : World} (hG : Glob w0) (w : World) (hb : Below w0.heap.size w0 w) : Calls Tryz.prog 29 #[.string ⟨(rtx n d).toArray⟩] w fun e w' => e = .returned (.tuple #[.string ⟨(Lib.itoa (n / d)).toArray⟩, .int .i64 0]) ∧ Below w.heap.size w w' := by
  replace hG := hG.keep hb
  clear hb
  have b1 := Int.ediv_le_self' n d (by have := h.den; omega)
  have hf := h.r
  have c1 := Lib.hid (fun w => fFloor n d h.r h.den.1 (by have := h.den; omega) w)
  have hq : R63 (n / d) := ⟨b1.1 hf.1, b1.2 hf.2⟩
  rw [← rtx_one]
  generalize n / d = z at *
  clear b1 hf
  go_enter Tryz.func29, Tryz.ntmps29
  go_wp2_with fail
  (with_reducible refine (mCheckV n d h hG _ ?_).mono ?_)
  · repeat (first | with_reducible assumption | with_reducible exact Below.refl _ _ | with_reducible refine Below.setCell ?_ (by first | omega | (simp [go_sem]; omega) | simp [go_sem]) _ | with_reducible refine Below.alloc ?_ (by first | omega | (simp [go_sem]; omega) | simp [go_sem]) _ | with_reducible refine below_grow ?_ (by first | omega | (simp [go_sem]; omega) | simp [go_sem]) _ _ | with_reducible refine Below.drew ?_)
  rintro e w1 ⟨rfl, hb⟩
  have H1 : Below w.heap.size w w1 := by
    refine Below.trans ?_ (hb.mono ?_)
    · repeat (first | with_reducible assumption | with_reducible exact Below.refl _ _ | with_reducible refine Below.setCell ?_ (by first | omega | (simp [go_sem]; omega) | simp [go_sem]) _ | with_reducible refine Below.alloc ?_ (by first | omega | (simp [go_sem]; omega) | simp [go_sem]) _ | with_reducible refine below_grow ?_ (by first | omega | (simp [go_sem]; omega) | simp [go_sem]) _ _ | with_reducible refine Below.drew ?_)
    · first | omega | (simp [go_sem]; omega) | simp [go_sem]
  have S1 : w.heap.size ≤ w1.heap.size := H1.size
  clear hb
  go_wp2_with fail
  (with_reducible refine (fFromV n d h hG _ ?_).mono ?_)
  · repeat (first | with_reducible assumption | with_reducible exact Below.refl _ _ | with_reducible refine Below.setCell ?_ (by first | omega | (simp [go_sem]; omega) | simp [go_sem]) _ | with_reducible refine Below.alloc ?_ (by first | omega | (simp [go_sem]; omega) | simp [go_sem]) _ | with_reducible refine below_grow ?_ (by first | omega | (simp [go_sem]; omega) | simp [go_sem]) _ _ | with_reducible refine Below.drew ?_)
  rintro e w2 ⟨rfl, hb⟩
  have H2 : Below w.heap.size w w2 := by
    refine Below.trans ?_ (hb.mono ?_)
    · repeat (first | with_reducible assumption | with_reducible exact Below.refl _ _ | with_reducible refine Below.setCell ?_ (by first | omega | (simp [go_sem]; omega) | simp [go_sem]) _ | with_reducible refine Below.alloc ?_ (by first | omega | (simp [go_sem]; omega) | simp [go_sem]) _ | with_reducible refine below_grow ?_ (by first | omega | (simp [go_sem]; omega) | simp [go_sem]) _ _ | with_reducible refine Below.drew ?_)
    · first | omega | (simp [go_sem]; omega) | simp [go_sem]
  have S2 : w.heap.size ≤ w2.heap.size := H2.size
  clear hb
  go_wp2_with fail
  (with_reducible refine (c1.out _).mono ?_)
  rintro e w3 ⟨rfl, hb⟩
  have H3 : Below w.heap.size w w3 := by
    refine Below.trans ?_ (hb.mono ?_)
    · repeat (first | with_reducible assumption | with_reducible exact Below.refl _ _ | with_reducible refine Below.setCell ?_ (by first | omega | (simp [go_sem]; omega) | simp [go_sem]) _ | with_reducible refine Below.alloc ?_ (by first | omega | (simp [go_sem]; omega) | simp [go_sem]) _ | with_reducible refine below_grow ?_ (by first | omega | (simp [go_sem]; omega) | simp [go_sem]) _ _ | with_reducible refine Below.drew ?_)
    · first | omega | (simp [go_sem]; omega) | simp [go_sem]
  have S3 : w.heap.size ≤ w3.heap.size := H3.size
  clear hb
  go_wp2_with fail
  (with_reducible refine (fWhole z _).mono ?_)
  rintro e w4 ⟨rfl, hb⟩
  have H4 : Below w.heap.size w w4 := by
    refine Below.trans ?_ (hb.mono ?_)
    · repeat (first | with_reducible assumption | with_reducible exact Below.refl _ _ | with_reducible refine Below.setCell ?_ (by first | omega | (simp [go_sem]; omega) | simp [go_sem]) _ | with_reducible refine Below.alloc ?_ (by first | omega | (simp [go_sem]; omega) | simp [go_sem]) _ | with_reducible refine below_grow ?_ (by first | omega | (simp [go_sem]; omega) | simp [go_sem]) _ _ | with_reducible refine Below.drew ?_)
    · first | omega | (simp [go_sem]; omega) | simp [go_sem]
  have S4 : w.heap.size ≤ w4.heap.size := H4.size
  clear hb
  go_wp2_with fail
  (with_reducible refine (mTold z 1 hq (by decide) hG _ ?_).mono ?_)
  · repeat (first | with_reducible assumption | with_reducible exact Below.refl _ _ | with_reducible refine Below.setCell ?_ (by first | omega | (simp [go_sem]; omega) | simp [go_sem]) _ | with_reducible refine Below.alloc ?_ (by first | omega | (simp [go_sem]; omega) | simp [go_sem]) _ | with_reducible refine below_grow ?_ (by first | omega | (simp [go_sem]; omega) | simp [go_sem]) _ _ | with_reducible refine Below.drew ?_)
  rintro e w5 ⟨rfl, hb⟩
  have H5 : Below w.heap.size w w5 := by
    refine Below.trans ?_ (hb.mono ?_)
    · repeat (first | with_reducible assumption | with_reducible exact Below.refl _ _ | with_reducible refine Below.setCell ?_ (by first | omega | (simp [go_sem]; omega) | simp [go_sem]) _ | with_reducible refine Below.alloc ?_ (by first | omega | (simp [go_sem]; omega) | simp [go_sem]) _ | with_reducible refine below_grow ?_ (by first | omega | (simp [go_sem]; omega) | simp [go_sem]) _ _ | with_reducible refine Below.drew ?_)
    · first | omega | (simp [go_sem]; omega) | simp [go_sem]
  have S5 : w.heap.size ≤ w5.heap.size := H5.size
  clear hb
  go_wp2_with fail
  go_ret2
  refine ⟨rfl, ?_⟩
  repeat (first | with_reducible assumption | with_reducible exact Below.refl _ _ | with_reducible refine Below.setCell ?_ (by first | omega | (simp [go_sem]; omega) | simp [go_sem]) _ | with_reducible refine Below.alloc ?_ (by first | omega | (simp [go_sem]; omega) | simp [go_sem]) _ | with_reducible refine below_grow ?_ (by first | omega | (simp [go_sem]; omega) | simp [go_sem]) _ _ | with_reducible refine Below.drew ?_)
end Go.Proofs.YtgdlehoglpiifaaGreatDoor
namespace Go.Proofs.YtgdlehoglpiifaaGreatDoor
open Go.RowKit Go.Sort

abbrev M63 : Int := 9223372036854775807
theorem Bd.r {r : Rat} {A B : Int} (h : Bd r A B) (hA : A ≤ 9223372036854775807) : R63 r.num := ⟨by have := h.lo; omega, by have := h.hi; omega⟩
theorem Bd.r' {r : Rat} {A B : Int} (h : Bd r A B) (hB : B ≤ 9223372036854775807) : R63 r.den := ⟨by have := den_pos r; omega, by have := h.den; omega⟩

theorem rMul (r s : Rat) {A B A' B' : Int} (h : Bd r A B) (h' : Bd s A' B') (hs : A ≤ 9223372036854775807 ∧ B ≤ 9223372036854775807 ∧ A' ≤ 9223372036854775807 ∧ B' ≤ 9223372036854775807 ∧ A * A' ≤ 9223372036854775807 ∧ B * B' ≤ 9223372036854775807) (w : World) : Calls Tryz.prog 56 #[.agg #[.int .i64 (Rat.num r), .slice none 0 0, .int .i64 ((Rat.den r : Nat) : Int), .slice none 0 0], .agg #[.int .i64 (Rat.num s), .slice none 0 0, .int .i64 ((Rat.den s : Nat) : Int), .slice none 0 0]] w fun e w' => e = .returned (.agg #[.int .i64 (Rat.num (r * s)), .slice none 0 0, .int .i64 ((Rat.den (r * s) : Nat) : Int), .slice none 0 0]) ∧ Below w.heap.size w w' := by
  have m := mul_abs h.lo h.hi h'.lo h'.hi
  have d := den_mul h.den h'.den
  have := fMul r.num r.den s.num s.den (h.r hs.1) (h.r' hs.2.1) (h'.r hs.2.2.1) (h'.r' hs.2.2.2.1) ⟨by omega, by omega⟩ d.1 (by omega) w
  rwa [← (mul_nd r s).1, ← (mul_nd r s).2] at this
theorem rAdd (r s : Rat) {A B A' B' : Int} (h : Bd r A B) (h' : Bd s A' B') (hs : A ≤ 9223372036854775807 ∧ B ≤ 9223372036854775807 ∧ A' ≤ 9223372036854775807 ∧ B' ≤ 9223372036854775807 ∧ A * B' + A' * B ≤ 9223372036854775807 ∧ B * B' ≤ 9223372036854775807) (w : World) : Calls Tryz.prog 87 #[.agg #[.int .i64 (Rat.num r), .slice none 0 0, .int .i64 ((Rat.den r : Nat) : Int), .slice none 0 0], .agg #[.int .i64 (Rat.num s), .slice none 0 0, .int .i64 ((Rat.den s : Nat) : Int), .slice none 0 0]] w fun e w' => e = .returned (.agg #[.int .i64 (Rat.num (r + s)), .slice none 0 0, .int .i64 ((Rat.den (r + s) : Nat) : Int), .slice none 0 0]) ∧ Below w.heap.size w w' := by
  have m := add_abs h h'
  have d := den_mul h.den h'.den
  have := fAdd r.num r.den s.num s.den (h.r hs.1) (h.r' hs.2.1) (h'.r hs.2.2.1) (h'.r' hs.2.2.2.1) ⟨by omega, by omega⟩ ⟨by omega, by omega⟩ ⟨by omega, by omega⟩ d.1 (by omega) w
  rwa [← (add_nd r s).1, ← (add_nd r s).2] at this
theorem rSub (r s : Rat) {A B A' B' : Int} (h : Bd r A B) (h' : Bd s A' B') (hs : A ≤ 9223372036854775807 ∧ B ≤ 9223372036854775807 ∧ A' ≤ 9223372036854775807 ∧ B' ≤ 9223372036854775807 ∧ A * B' + A' * B ≤ 9223372036854775807 ∧ B * B' ≤ 9223372036854775807) (w : World) : Calls Tryz.prog 58 #[.agg #[.int .i64 (Rat.num r), .slice none 0 0, .int .i64 ((Rat.den r : Nat) : Int), .slice none 0 0], .agg #[.int .i64 (Rat.num s), .slice none 0 0, .int .i64 ((Rat.den s : Nat) : Int), .slice none 0 0]] w fun e w' => e = .returned (.agg #[.int .i64 (Rat.num (r - s)), .slice none 0 0, .int .i64 ((Rat.den (r - s) : Nat) : Int), .slice none 0 0]) ∧ Below w.heap.size w w' := by
  have m := add_abs h h'.neg
  rw [show (-s).num = -s.num from by simp, show (-s).den = s.den from by simp] at m
  have d := den_mul h.den h'.den
  have := fSub r.num r.den s.num s.den (h.r hs.1) (h.r' hs.2.1) (h'.r hs.2.2.1) (h'.r' hs.2.2.2.1) ⟨by omega, by omega⟩ ⟨by omega, by omega⟩ ⟨by omega, by omega⟩ d.1 (by omega) w
  rwa [← (sub_nd r s).1, ← (sub_nd r s).2] at this
theorem rDiv (r s : Rat) {A B A' B' : Int} (h : Bd r A B) (h' : Bd s A' B') (hp : 0 < s.num) (hs : A ≤ 9223372036854775807 ∧ B ≤ 9223372036854775807 ∧ A' ≤ 9223372036854775807 ∧ B' ≤ 9223372036854775807 ∧ A * B' ≤ 9223372036854775807 ∧ B * A' ≤ 9223372036854775807) (w : World) : Calls Tryz.prog 65 #[.agg #[.int .i64 (Rat.num r), .slice none 0 0, .int .i64 ((Rat.den r : Nat) : Int), .slice none 0 0], .agg #[.int .i64 (Rat.num s), .slice none 0 0, .int .i64 ((Rat.den s : Nat) : Int), .slice none 0 0]] w fun e w' => e = .returned (.agg #[.int .i64 (Rat.num (r / s)), .slice none 0 0, .int .i64 ((Rat.den (r / s) : Nat) : Int), .slice none 0 0]) ∧ Below w.heap.size w w' := by
  have m := add_abs h h'
  have d1 := den_pos r
  have d : 1 ≤ (r.den : Int) * s.num ∧ (r.den : Int) * s.num ≤ B * A' := by
    refine ⟨?_, Int.mul_le_mul h.den h'.hi (by omega) (by have := h.den; omega)⟩
    have := Int.mul_le_mul d1 (show 1 ≤ s.num by omega) (by omega) (by omega)
    omega
  have := fDiv r.num r.den s.num s.den (h.r hs.1) (h.r' hs.2.1) (by omega) (by have := h'.hi; omega) (h'.r' hs.2.2.2.1) (low_nd s) ⟨by omega, by omega⟩ d.1 (by omega) w
  rwa [← (div_nd r s hp).1, ← (div_nd r s hp).2] at this
theorem rFloor (r : Rat) {A B : Int} (h : Bd r A B) (hs : A ≤ 9223372036854775807 ∧ B ≤ 9223372036854775807) (w : World) : Calls Tryz.prog 70 #[.agg #[.int .i64 (Rat.num r), .slice none 0 0, .int .i64 ((Rat.den r : Nat) : Int), .slice none 0 0]] w fun e w' => e = .returned (.agg #[.int .i64 (r.floor), .slice none 0 0]) ∧ Below w.heap.size w w' := by
  have := fFloor r.num r.den (h.r hs.1) (den_pos r) (by have := h.den; omega) w
  rwa [← Rat.floor_def] at this
theorem rF (n : Int) (w : World) : Calls Tryz.prog 53 #[.int .i64 n] w fun e w' => e = .returned (.agg #[.int .i64 (Rat.num (n : Rat)), .slice none 0 0, .int .i64 ((Rat.den (n : Rat) : Nat) : Int), .slice none 0 0]) ∧ Below w.heap.size w w' := by
  have := fF n w
  rwa [(int_nd n).1, (int_nd n).2]
/-- -1, 0, 1. -/
def rcmp (r s : Rat) : Int := if r < s then -1 else if s < r then 1 else 0
theorem rCmp (r s : Rat) {A B A' B' : Int} (h : Bd r A B) (h' : Bd s A' B') (hs : A ≤ 9223372036854775807 ∧ B ≤ 9223372036854775807 ∧ A' ≤ 9223372036854775807 ∧ B' ≤ 9223372036854775807 ∧ A * B' ≤ 9223372036854775807 ∧ A' * B ≤ 9223372036854775807) (w : World) : Calls Tryz.prog 91 #[.agg #[.int .i64 (Rat.num r), .slice none 0 0, .int .i64 ((Rat.den r : Nat) : Int), .slice none 0 0], .agg #[.int .i64 (Rat.num s), .slice none 0 0, .int .i64 ((Rat.den s : Nat) : Int), .slice none 0 0]] w fun e w' => e = .returned (.int .i64 (rcmp r s)) ∧ Below w.heap.size w w' := by
  have m := add_abs h h'
  have := fCmp r.num r.den s.num s.den (h.r hs.1) (h.r' hs.2.1) (h'.r hs.2.2.1) (h'.r' hs.2.2.2.1) ⟨by omega, by omega⟩ ⟨by omega, by omega⟩ w
  unfold rcmp
  simp only [Rat.lt_iff]
  exact this
/-- The text of a rational number. -/
def rt (r : Rat) : List UInt8 := rtx r.num r.den
theorem rt_int (n : Int) : rt (n : Rat) = Lib.itoa n := by unfold rt; rw [(int_nd n).1, (int_nd n).2, rtx_one]
theorem rText (r : Rat) {A B : Int} (h : Bd r A B) (hs : A ≤ 9223372036854775807 ∧ B ≤ 9223372036854775807) {w0 : World} (hG : Glob w0) (w : World) (hb : Below w0.heap.size w0 w) : Calls Tryz.prog 92 #[.agg #[.int .i64 (Rat.num r), .slice none 0 0, .int .i64 ((Rat.den r : Nat) : Int), .slice none 0 0]] w fun e w' => e = .returned (.string ⟨(rt r).toArray⟩) ∧ Below w.heap.size w w' := by
  replace hG := hG.keep hb
  clear hb
  exact fText r.num r.den (h.r hs.1) (h.r' hs.2) hG w (Below.refl _ _)
theorem Bd.val {r : Rat} {A B : Int} (h : Bd r A B) (hs : A < 1000000000000000000 ∧ B < 1000000000000000000) : Val r.num r.den := ⟨⟨by have := h.lo; omega, by have := h.hi; omega⟩, ⟨den_pos r, by have := h.den; omega⟩, low_nd r⟩
end Go.Proofs.YtgdlehoglpiifaaGreatDoor
