/-
  Plain laws on decimal texts: no program stands here.
  Plain laws: fractions in lowest terms are Lean's rational numbers.
  Package num: fractions of machine integers.
  Package num: sums, differences and quotients of fractions.
  Package num: the texts of integers and fractions, and reading them.
  Package num: reading the text of an integer of up to 18 digits.
-/
import Derived.Lib.ItoaNum
import Derived.Lib.ItoaLen
import Derived.Lib.AtoiTie
import Derived.Lib.IndexLaws
import Derived.Lib.IndexMore
import Derived.Lib.Strings
import Derived.Lib.SlTrimSet
import Derived.Test.YtgdlehoglpiifaaGreatDoorJNum
import Derived.Lib.AtoiErrMem
namespace Go.Proofs.YtgdlehoglpiifaaGreatDoor
open Go.Lib

/-- All bytes are decimal digits. -/
def AllDig (l : List UInt8) : Prop := ∀ b ∈ l, 48 ≤ b.toNat ∧ b.toNat ≤ 57

theorem dig_toNat (d : Nat) (h : d < 10) : (UInt8.ofNat (48 + d)).toNat = 48 + d := by
  rw [UInt8.toNat_ofNat']; omega

theorem dec_step (u : Nat) (h : ¬ u < 10) : decDigits u = decDigits (u / 10) ++ [UInt8.ofNat (48 + u % 10)] := by rw [decDigits, dif_neg h]
theorem dec_base (u : Nat) (h : u < 10) : decDigits u = [UInt8.ofNat (48 + u)] := by rw [decDigits, dif_pos h]

theorem dec_all (u : Nat) : AllDig (decDigits u) := by
  induction u using Nat.strongRecOn with
  | _ u ih =>
    intro b hb
    by_cases h : u < 10
    · rw [dec_base u h, List.mem_singleton] at hb
      subst hb; rw [dig_toNat u h]; omega
    · rw [dec_step u h, List.mem_append, List.mem_singleton] at hb
      rcases hb with hb | rfl
      · exact ih (u / 10) (by omega) b hb
      · rw [dig_toNat _ (by omega)]; omega

theorem dec_ne (u : Nat) : decDigits u ≠ [] := by
  intro h
  have := decDigits_length u
  rw [h] at this
  have := nDigits_pos u
  simp at *; omega

theorem nDigits_le {u k : Nat} (hk : 1 ≤ k) (h : u < 10 ^ k) : nDigits u ≤ k := by
  induction k generalizing u with
  | zero => omega
  | succ k ih =>
    by_cases hu : u < 10
    · rw [nDigits_small hu]; omega
    · rw [nDigits_big hu]
      have h1 : 1 ≤ k := by
        rcases Nat.eq_zero_or_pos k with h0 | h0
        · subst h0; simp at h; omega
        · exact h0
      have := ih h1 (u := u / 10) (by rw [Nat.pow_succ] at h; omega)
      omega

theorem dec_len {u k : Nat} (hk : 1 ≤ k) (h : u < 10 ^ k) : (decDigits u).length ≤ k := by rw [decDigits_length]; exact nDigits_le hk h

theorem decFrom_snoc (l : List UInt8) (b : UInt8) (d : Nat) (hd : digitVal b = some d) : ∀ (acc n : Nat), decFrom acc l = some n → decFrom acc (l ++ [b]) = some (n * 10 + d) := by
  induction l with
  | nil => intro acc n h; simp only [decFrom, Option.some.injEq] at h; subst h; simp [decFrom, hd]
  | cons a t ih =>
    intro acc n h
    simp only [decFrom, List.cons_append] at h ⊢
    cases ha : digitVal a with
    | none => simp [ha] at h
    | some x => simp only [ha] at h ⊢; exact ih _ _ h

theorem digitVal_ofNat (d : Nat) (h : d < 10) : digitVal (UInt8.ofNat (48 + d)) = some d := by
  unfold digitVal
  rw [dig_toNat d h, if_pos (by omega)]
  congr 1; omega

theorem decFrom_dec (u : Nat) : decFrom 0 (decDigits u) = some u := by
  induction u using Nat.strongRecOn with
  | _ u ih =>
    by_cases h : u < 10
    · rw [dec_base u h]
      simp only [decFrom, digitVal_ofNat u h]; simp
    · rw [dec_step u h, decFrom_snoc _ _ (u % 10) (digitVal_ofNat _ (by omega)) _ _ (ih (u / 10) (by omega))]
      congr 1; omega

theorem decNat_dec (u : Nat) : decNat (decDigits u) = some u := by
  unfold decNat
  rw [if_neg (by simp [dec_ne]), decFrom_dec]

/-- A text of digits begins with a digit. -/
theorem dec_head (u : Nat) : ∃ b t, decDigits u = b :: t ∧ 48 ≤ b.toNat ∧ b.toNat ≤ 57 := by
  cases h : decDigits u with
  | nil => exact absurd h (dec_ne u)
  | cons b t => exact ⟨b, t, rfl, dec_all u b (by rw [h]; simp)⟩

theorem dec_head' (u : Nat) (h : u ≠ 0) : ∃ b t, decDigits u = b :: t ∧ 49 ≤ b.toNat ∧ b.toNat ≤ 57 := by
  induction u using Nat.strongRecOn with
  | _ u ih =>
    by_cases h1 : u < 10
    · rw [dec_base u h1]
      exact ⟨_, [], rfl, by rw [dig_toNat u h1]; omega, by rw [dig_toNat u h1]; omega⟩
    · obtain ⟨b, t, hl, h2, h3⟩ := ih (u / 10) (by omega) (by omega)
      rw [dec_step u h1, hl]
      exact ⟨b, t ++ [UInt8.ofNat (48 + u % 10)], rfl, h2, h3⟩

theorem atoiAll_dec (u : Nat) (h : u < 1000000000000000000) : atoiAll (decDigits u) = .ok (u : Int) := by
  rw [atoiAll_short _ (dec_len (k := 18) (by decide) h)]
  obtain ⟨b, t, hl, h1, h2⟩ := dec_head u
  have hn := decNat_dec u
  rw [hl] at hn ⊢
  unfold atoi
  have e1 : (b == 45) = false := by rw [beq_eq_false_iff_ne]; rintro rfl; exact absurd h1 (by decide)
  have e2 : (b == 43) = false := by rw [beq_eq_false_iff_ne]; rintro rfl; exact absurd h1 (by decide)
  simp only [e1, e2, Bool.false_eq_true, if_false, hn]
  rfl

theorem pre_dec (u : Nat) : hasPrefix (decDigits u) [45] = false := by
  obtain ⟨b, t, hl, h1, h2⟩ := dec_head u
  rw [hl]
  unfold hasPrefix
  simp only [List.isPrefixOf, Bool.and_true, beq_eq_false_iff_ne]
  rintro rfl
  exact absurd h1 (by decide)
theorem trim_dec (u : Nat) : trimPrefix (decDigits u) [45] = decDigits u := by unfold trimPrefix; rw [pre_dec]; rfl
theorem pre_neg (l : List UInt8) : hasPrefix (45 :: l) [45] = true := by simp [hasPrefix, List.isPrefixOf]
theorem trim_neg (l : List UInt8) : trimPrefix (45 :: l) [45] = l := by unfold trimPrefix; rw [pre_neg]; rfl

theorem itoa_nat (u : Nat) : itoa (u : Int) = decDigits u := by unfold itoa; rw [if_neg (by omega)]; rfl
theorem itoa_neg (u : Nat) (h : 0 < u) : itoa (-(u : Int)) = 45 :: decDigits u := by unfold itoa; rw [if_pos (by omega)]; simp
theorem itoa_pos (n : Int) (h : 0 ≤ n) : itoa n = decDigits n.toNat := by unfold itoa; rw [if_neg (by omega)]

/-- The text of a fraction n / d (d at least 1) in lowest terms. -/
def rtx (n d : Int) : List UInt8 := if d = 1 then itoa n else itoa n ++ 47 :: itoa d
theorem rtx_one (n : Int) : rtx n 1 = itoa n := by simp [rtx]

theorem itoa_noslash (n : Int) : ∀ b ∈ itoa n, b ≠ 47 := by
  intro b hb
  unfold itoa at hb
  split at hb
  · rcases List.mem_cons.1 hb with rfl | hb
    · decide
    · rintro rfl; have := dec_all _ _ hb; exact absurd this.1 (by decide)
  · rintro rfl; have := dec_all _ _ hb; exact absurd this.1 (by decide)

theorem index_noslash (l : List UInt8) (h : ∀ b ∈ l, b ≠ 47) : index l [47] = -1 := by
  induction l with
  | nil => simp [index]
  | cons b t ih =>
    have hb : b ≠ 47 := h b (by simp)
    have := ih (fun c hc => h c (by simp [hc]))
    simp only [index, this, List.isPrefixOf, Bool.and_true]
    rw [if_neg (by simpa using Ne.symm hb)]
    simp
theorem index_slash (l r : List UInt8) (h : ∀ b ∈ l, b ≠ 47) : index (l ++ 47 :: r) [47] = l.length := by
  induction l with
  | nil => simp [index, List.isPrefixOf]
  | cons b t ih =>
    have hb : b ≠ 47 := h b (by simp)
    have := ih (fun c hc => h c (by simp [hc]))
    simp only [List.cons_append, index, this, List.isPrefixOf, Bool.and_true]
    rw [if_neg (by simpa using Ne.symm hb), if_neg (by simp)]
    simp
theorem cut_none (l : List UInt8) (h : ∀ b ∈ l, b ≠ 47) : cut l [47] = (l, [], false) := by
  unfold cut; rw [index_noslash l h]; rfl
theorem cut_at (l r : List UInt8) (h : ∀ b ∈ l, b ≠ 47) : cut (l ++ 47 :: r) [47] = (l, r, true) := by
  unfold cut
  rw [index_slash l r h, if_pos (by omega)]
  simp [List.drop_append]
theorem cut_rtx (n d : Int) : cut (rtx n d) [47] = if d = 1 then (itoa n, [], false) else (itoa n, itoa d, true) := by
  unfold rtx
  split
  · exact cut_none _ (itoa_noslash n)
  · exact cut_at _ _ (itoa_noslash n)

/-- '0123456789'. -/
def digitBytes : List UInt8 := [48, 49, 50, 51, 52, 53, 54, 55, 56, 57]
theorem mem_digitBytes (b : UInt8) (h : 48 ≤ b.toNat ∧ b.toNat ≤ 57) : digitBytes.contains b = true := by
  have : ∀ n : Fin 256, 48 ≤ n.val → n.val ≤ 57 → digitBytes.contains (UInt8.ofNat n.val) = true := by decide +kernel
  have h2 := this ⟨b.toNat, b.toNat_lt⟩ h.1 h.2
  simpa using h2
theorem dropWhile_all {p : UInt8 → Bool} : ∀ {l : List UInt8}, (∀ b ∈ l, p b = true) → l.dropWhile p = []
  | [], _ => rfl
  | b :: t, h => by
    rw [List.dropWhile_cons_of_pos (h b (by simp))]
    exact dropWhile_all (fun c hc => h c (by simp [hc]))
theorem trimS_dec (l : List UInt8) (h : AllDig l) : trimS l digitBytes = [] := by
  unfold trimS trimRightS
  rw [dropWhile_all (l := l.reverse) (fun b hb => mem_digitBytes b (h b (by simpa using hb)))]
  rfl

theorem bcat (x y : List UInt8) : (⟨x.toArray⟩ ++ ⟨y.toArray⟩ : ByteArray) = ⟨(x ++ y).toArray⟩ := by
  apply ByteArray.ext
  simp [ByteArray.data_append]
theorem dec_not48 (m : Nat) (h : m ≠ 0) : ¬ decDigits m = [48] := by
  obtain ⟨b, t, hbt, h1, _⟩ := dec_head' m h
  rw [hbt]
  intro e
  injection e with e1 _
  subst e1
  exact absurd h1 (by decide)
theorem dec_not49 (m : Nat) (h : 2 ≤ m) : ¬ decDigits m = [49] := by
  intro e
  have := decFrom_dec m
  rw [e] at this
  have e2 : decFrom 0 [49] = some 1 := by decide
  rw [e2] at this
  injection this with this
  omega
theorem rtx_pre (m : Nat) (d : Int) : hasPrefix (rtx m d) [45] = false ∧ trimPrefix (rtx m d) [45] = rtx m d := by
  have h : hasPrefix (rtx m d) [45] = false := by
    unfold rtx
    rw [itoa_nat]
    obtain ⟨b, t, hl, h1, h2⟩ := dec_head m
    have hb : (45 == b) = false := by rw [beq_eq_false_iff_ne]; rintro rfl; exact absurd h1 (by decide)
    split <;> simp [hl, hasPrefix, List.isPrefixOf, hb]
  exact ⟨h, by unfold trimPrefix; rw [h]; rfl⟩
theorem itoa_not48 (p : Int) (h : p ≠ 0) : itoa p ≠ [48] := by
  unfold itoa
  split
  · intro e; injection e with e1 _; exact absurd e1 (by decide)
  · exact dec_not48 _ (by omega)
theorem rtx_not48 (p q : Int) (h : p ≠ 0) : rtx p q ≠ [48] := by
  unfold rtx
  split
  · exact itoa_not48 p h
  · intro e
    have : (itoa p ++ 47 :: itoa q).length = 1 := by rw [e]; rfl
    have h2 : itoa q ≠ [] := by
      unfold itoa; split
      · simp
      · exact dec_ne _
    have h3 : 0 < (itoa q).length := List.length_pos_iff.2 h2
    simp at this
    omega
theorem rtx_neg (m : Nat) (d : Int) (hm : 0 < m) : rtx (-(m : Int)) d = 45 :: rtx m d := by
  unfold rtx
  rw [itoa_neg m hm, itoa_nat]
  split <;> rfl
theorem itoa_len (n : Int) (h : -9223372036854775807 ≤ n ∧ n ≤ 9223372036854775807) : (itoa n).length ≤ 21 := itoa_length_le n (by omega) (by omega)
end Go.Proofs.YtgdlehoglpiifaaGreatDoor
namespace Go.Proofs.YtgdlehoglpiifaaGreatDoor

/-- Numerator and denominator of n / d in lowest terms. -/
def qn (n d : Int) : Int := n / (Int.gcd n d : Nat)
def qd (n d : Int) : Int := d / (Int.gcd n d : Nat)

theorem norm_nd (n : Int) (d : Nat) (h : d ≠ 0) : (Rat.normalize n d h).num = qn n d ∧ ((Rat.normalize n d h).den : Int) = qd n d := by
  rw [Rat.normalize_eq]
  have hg : Int.gcd n (d : Int) = n.natAbs.gcd d := rfl
  refine ⟨by show n / _ = _; unfold qn; rw [hg], ?_⟩
  show ((d / n.natAbs.gcd d : Nat) : Int) = _
  unfold qd
  rw [hg, Int.natCast_ediv]
theorem mul_nd (r s : Rat) : (r * s).num = qn (r.num * s.num) (r.den * s.den) ∧ ((r * s).den : Int) = qd (r.num * s.num) (r.den * s.den) := by
  have := norm_nd (r.num * s.num) (r.den * s.den) (Nat.mul_ne_zero r.den_nz s.den_nz)
  rw [Rat.mul_def, this.1, this.2, Int.natCast_mul]
  exact ⟨rfl, rfl⟩
theorem add_nd (r s : Rat) : (r + s).num = qn (r.num * s.den + s.num * r.den) (r.den * s.den) ∧ ((r + s).den : Int) = qd (r.num * s.den + s.num * r.den) (r.den * s.den) := by
  have := norm_nd (r.num * s.den + s.num * r.den) (r.den * s.den) (Nat.mul_ne_zero r.den_nz s.den_nz)
  rw [Rat.add_def, this.1, this.2, Int.natCast_mul]
  exact ⟨rfl, rfl⟩
theorem sub_nd (r s : Rat) : (r - s).num = qn (r.num * s.den + -s.num * r.den) (r.den * s.den) ∧ ((r - s).den : Int) = qd (r.num * s.den + -s.num * r.den) (r.den * s.den) := by
  have := add_nd r (-s)
  rw [Rat.sub_eq_add_neg]
  simpa using this
theorem inv_nd (s : Rat) (h : 0 < s.num) : s⁻¹.num = s.den ∧ (s⁻¹.den : Int) = s.num := by
  rw [Rat.inv_def]
  obtain ⟨m, hm⟩ := Int.eq_ofNat_of_zero_le (Int.le_of_lt h)
  have hm0 : m ≠ 0 := by omega
  have : Rat.divInt (s.den : Int) s.num = Rat.normalize s.den m hm0 := by
    rw [hm]; simp [Rat.divInt, mkRat, hm0]
  have hc : Nat.gcd s.den m = 1 := by
    have := s.reduced
    rw [hm] at this
    rw [Nat.gcd_comm]
    simpa [Nat.Coprime] using this
  have h2 := norm_nd (s.den : Int) m hm0
  rw [this, h2.1, h2.2]
  unfold qn qd
  have hg : Int.gcd (s.den : Int) (m : Int) = 1 := by simpa [Int.gcd] using hc
  rw [hg, hm]; simp
theorem div_nd (r s : Rat) (h : 0 < s.num) : (r / s).num = qn (r.num * s.den) (r.den * s.num) ∧ ((r / s).den : Int) = qd (r.num * s.den) (r.den * s.num) := by
  have h1 := inv_nd s h
  have := mul_nd r s⁻¹
  rw [Rat.div_def]
  rw [h1.1, h1.2] at this
  exact this
theorem int_nd (n : Int) : ((n : Rat)).num = n ∧ (((n : Rat)).den : Int) = 1 := ⟨Rat.num_intCast n, by rw [Rat.den_intCast]; rfl⟩
theorem low_nd (r : Rat) : Int.gcd r.num (r.den : Int) = 1 := r.reduced
theorem den_pos (r : Rat) : 1 ≤ (r.den : Int) := by have := r.den_pos; omega

/-- Bounds of the numerator and the denominator. -/
structure Bd (r : Rat) (A B : Int) : Prop where
  lo : -A ≤ r.num
  hi : r.num ≤ A
  den : (r.den : Int) ≤ B
theorem qn_le {n d A : Int} (hd : 1 ≤ d) (h1 : -A ≤ n) (h2 : n ≤ A) : -A ≤ qn n d ∧ qn n d ≤ A := by
  have hg : 0 < (Int.gcd n d : Int) := by
    have := Int.gcd_pos_of_ne_zero_right n (show d ≠ 0 by omega); omega
  unfold qn
  generalize ((Int.gcd n d : Nat) : Int) = g at *
  refine ⟨?_, ?_⟩
  · rw [Int.le_ediv_iff_mul_le hg]
    have : -A * g ≤ -A * 1 := Int.mul_le_mul_of_nonpos_left (by omega) (by omega)
    omega
  · by_cases h0 : n < 0
    · have := Int.ediv_neg_of_neg_of_pos h0 hg; omega
    · have := Int.ediv_le_self g (a := n) (by omega); omega
theorem qd_le {n d : Int} (hd : 1 ≤ d) : qd n d ≤ d := Int.ediv_le_self _ (by omega)
theorem mul_abs {a b A B : Int} (h1 : -A ≤ a) (h2 : a ≤ A) (h3 : -B ≤ b) (h4 : b ≤ B) : -(A * B) ≤ a * b ∧ a * b ≤ A * B := by
  have hA : 0 ≤ A := by omega
  have hB : 0 ≤ B := by omega
  have e : (a * b).natAbs ≤ (A * B).natAbs := by
    rw [Int.natAbs_mul, Int.natAbs_mul]
    exact Nat.mul_le_mul (by omega) (by omega)
  have : 0 ≤ A * B := Int.mul_nonneg hA hB
  omega
theorem Bd.mono {r : Rat} {A B A' B' : Int} (h : Bd r A B) (h1 : A ≤ A') (h2 : B ≤ B') : Bd r A' B' := ⟨by have := h.lo; omega, by have := h.hi; omega, by have := h.den; omega⟩
theorem Bd.int (n A : Int) (h : -A ≤ n ∧ n ≤ A) : Bd (n : Rat) A 1 := by
  obtain ⟨h1, h2⟩ := int_nd n
  exact ⟨by rw [h1]; exact h.1, by rw [h1]; exact h.2, by rw [h2]; decide⟩
theorem den_mul {r s : Rat} {B B' : Int} (h : (r.den : Int) ≤ B) (h' : (s.den : Int) ≤ B') : 1 ≤ (r.den : Int) * s.den ∧ (r.den : Int) * s.den ≤ B * B' := by
  have h1 := den_pos r
  have h2 := den_pos s
  refine ⟨?_, Int.mul_le_mul h h' (by omega) (by omega)⟩
  have := Int.mul_le_mul h1 h2 (by omega) (by omega)
  omega
theorem Bd.mul {r s : Rat} {A B A' B' : Int} (h : Bd r A B) (h' : Bd s A' B') : Bd (r * s) (A * A') (B * B') := by
  obtain ⟨e1, e2⟩ := mul_nd r s
  have d := den_mul h.den h'.den
  have m := mul_abs h.lo h.hi h'.lo h'.hi
  have q := qn_le (n := r.num * s.num) (d := (r.den : Int) * s.den) d.1 m.1 m.2
  exact ⟨by rw [e1]; exact q.1, by rw [e1]; exact q.2, by rw [e2]; exact Int.le_trans (qd_le d.1) d.2⟩
theorem add_abs {r s : Rat} {A B A' B' : Int} (h : Bd r A B) (h' : Bd s A' B') : (-(A * B') ≤ r.num * s.den ∧ r.num * s.den ≤ A * B') ∧ (-(A' * B) ≤ s.num * r.den ∧ s.num * r.den ≤ A' * B) := by
  have h1 := den_pos r
  have h2 := den_pos s
  exact ⟨mul_abs h.lo h.hi (by have := h'.den; omega) h'.den, mul_abs h'.lo h'.hi (by have := h.den; omega) h.den⟩
theorem Bd.add {r s : Rat} {A B A' B' : Int} (h : Bd r A B) (h' : Bd s A' B') : Bd (r + s) (A * B' + A' * B) (B * B') := by
  obtain ⟨e1, e2⟩ := add_nd r s
  have d := den_mul h.den h'.den
  have m := add_abs h h'
  have q := qn_le (n := r.num * s.den + s.num * r.den) (d := (r.den : Int) * s.den) (A := A * B' + A' * B) d.1 (by omega) (by omega)
  exact ⟨by rw [e1]; exact q.1, by rw [e1]; exact q.2, by rw [e2]; exact Int.le_trans (qd_le d.1) d.2⟩
theorem Bd.neg {r : Rat} {A B : Int} (h : Bd r A B) : Bd (-r) A B := ⟨by have := h.hi; simp; omega, by have := h.lo; simp; omega, by have := h.den; simpa using this⟩
theorem Bd.sub {r s : Rat} {A B A' B' : Int} (h : Bd r A B) (h' : Bd s A' B') : Bd (r - s) (A * B' + A' * B) (B * B') := by
  rw [Rat.sub_eq_add_neg]; exact h.add h'.neg
end Go.Proofs.YtgdlehoglpiifaaGreatDoor
namespace Go.Proofs.YtgdlehoglpiifaaGreatDoor
open Go.RowKit Go.Sort

/-- A number that is a machine integer with its opposite. -/
abbrev R63 (x : Int) : Prop := -9223372036854775807 ≤ x ∧ x ≤ 9223372036854775807
theorem qn_one (n : Int) : qn n 1 = n := by simp [qn]
theorem qd_one (n : Int) : qd n 1 = 1 := by simp [qd]
theorem gcd_in {n d : Int} (hd : 1 ≤ d) (hM : d ≤ 9223372036854775807) : 1 ≤ ((Int.gcd n d : Nat) : Int) ∧ ((Int.gcd n d : Nat) : Int) ≤ 9223372036854775807 := by
  have h1 : 0 < Int.gcd n d := Int.gcd_pos_of_ne_zero_right n (by omega)
  have h2 : ((Int.gcd n d : Nat) : Int) ≤ d := Int.gcd_le_right n (by omega)
  omega

theorem fWhole (n : Int) (w : World) : Calls Tryz.prog 68 #[.agg #[.int .i64 n, .slice none 0 0]] w fun e w' => e = .returned (.agg #[.int .i64 n, .slice none 0 0, .int .i64 1, .slice none 0 0]) ∧ Below w.heap.size w w' := by
  go_enter Tryz.func68, Tryz.ntmps68
  go_wp2_with fail
  refine wp_region_tail 3 (by kernel_rfl) (by kernel_rfl) (by kernel_rfl) ?_
  simp only [List.take_succ_cons, List.take_zero, List.drop_succ_cons, List.drop_zero, List.take_nil, List.drop_nil]
  repeat (quiet_step (first | with_reducible exact Calls.regrown_of (nOf 1 _)))
  refine wpQuiet_nil ?_
  intro w1 hw1
  obtain ⟨⟨dq, osq⟩, rfl⟩ := hw1
  go_wp2_with fail
  refine bodyPost_ret (v := .agg #[.int .i64 n, .slice none 0 0, .int .i64 1, .slice none 0 0]) (by simp (maxDischargeDepth := 4) [results, Tryz.results68, go_sem]) rfl ⟨rfl, ?_⟩
  repeat (first | with_reducible assumption | with_reducible exact Below.refl _ _ | with_reducible refine Below.setCell ?_ (by first | omega | (simp [go_sem]; omega) | simp [go_sem]) _ | with_reducible refine Below.alloc ?_ (by first | omega | (simp [go_sem]; omega) | simp [go_sem]) _ | with_reducible refine below_grow ?_ (by first | omega | (simp [go_sem]; omega) | simp [go_sem]) _ _ | with_reducible refine Below.drew ?_)

theorem fF (n : Int) (w : World) : Calls Tryz.prog 53 #[.int .i64 n] w fun e w' => e = .returned (.agg #[.int .i64 n, .slice none 0 0, .int .i64 1, .slice none 0 0]) ∧ Below w.heap.size w w' := by
  go_enter Tryz.func53, Tryz.ntmps53
  go_wp2_with fail
  (with_reducible refine (nOf n _).mono ?_)
  rintro e w1 ⟨rfl, hb1⟩
  obtain ⟨⟨dq, osq⟩, rfl⟩ := regrown_of_below hb1
  clear hb1
  go_wp2_with fail
  (with_reducible refine (fWhole n _).mono ?_)
  rintro e w1 ⟨rfl, hb1⟩
  obtain ⟨⟨dq, osq⟩, rfl⟩ := regrown_of_below hb1
  clear hb1
  go_wp2_with fail
  refine bodyPost_ret (v := .agg #[.int .i64 n, .slice none 0 0, .int .i64 1, .slice none 0 0]) (by simp (maxDischargeDepth := 4) [results, Tryz.results53, go_sem]) rfl ⟨rfl, ?_⟩
  repeat (first | with_reducible assumption | with_reducible exact Below.refl _ _ | with_reducible refine Below.setCell ?_ (by first | omega | (simp [go_sem]; omega) | simp [go_sem]) _ | with_reducible refine Below.alloc ?_ (by first | omega | (simp [go_sem]; omega) | simp [go_sem]) _ | with_reducible refine below_grow ?_ (by first | omega | (simp [go_sem]; omega) | simp [go_sem]) _ _ | with_reducible refine Below.drew ?_)

theorem fIsWhole (n d : Int) (w : World) : Calls Tryz.prog 109 #[.agg #[.int .i64 n, .slice none 0 0, .int .i64 d, .slice none 0 0]] w fun e w' => e = .returned (.bool (d == 1)) ∧ Below w.heap.size w w' := by
  have hnil := eqnil
  go_enter Tryz.func109, Tryz.ntmps109
  go_wp2_with fail
  go_ret
  refine ⟨rfl, ?_⟩
  repeat (first | with_reducible assumption | with_reducible exact Below.refl _ _ | with_reducible refine Below.setCell ?_ (by first | omega | (simp [go_sem]; omega) | simp [go_sem]) _ | with_reducible refine Below.alloc ?_ (by first | omega | (simp [go_sem]; omega) | simp [go_sem]) _ | with_reducible refine below_grow ?_ (by first | omega | (simp [go_sem]; omega) | simp [go_sem]) _ _ | with_reducible refine Below.drew ?_)

theorem fNeg (n d : Int) (hn : R63 n) (w : World) : Calls Tryz.prog 95 #[.agg #[.int .i64 n, .slice none 0 0, .int .i64 d, .slice none 0 0]] w fun e w' => e = .returned (.agg #[.int .i64 (-n), .slice none 0 0, .int .i64 d, .slice none 0 0]) ∧ Below w.heap.size w w' := by
  have c1 := Lib.hid (fun w => nNeg n hn w)
  clear hn
  go_enter Tryz.func95, Tryz.ntmps95
  go_wp2_with fail
  refine wp_region_tail 6 (by kernel_rfl) (by kernel_rfl) (by kernel_rfl) ?_
  simp only [List.take_succ_cons, List.take_zero, List.drop_succ_cons, List.drop_zero, List.take_nil, List.drop_nil]
  repeat (quiet_step (first | with_reducible exact Calls.regrown_of (c1.out _)))
  refine wpQuiet_nil ?_
  intro w1 hw1
  obtain ⟨⟨dq, osq⟩, rfl⟩ := hw1
  go_wp2_with fail
  refine bodyPost_ret (v := .agg #[.int .i64 (-n), .slice none 0 0, .int .i64 d, .slice none 0 0]) (by simp (maxDischargeDepth := 4) [results, Tryz.results95, go_sem]) rfl ⟨rfl, ?_⟩
  repeat (first | with_reducible assumption | with_reducible exact Below.refl _ _ | with_reducible refine Below.setCell ?_ (by first | omega | (simp [go_sem]; omega) | simp [go_sem]) _ | with_reducible refine Below.alloc ?_ (by first | omega | (simp [go_sem]; omega) | simp [go_sem]) _ | with_reducible refine below_grow ?_ (by first | omega | (simp [go_sem]; omega) | simp [go_sem]) _ _ | with_reducible refine Below.drew ?_)

theorem fMake (n d : Int) (hn : R63 n) (hd : 1 ≤ d) (hdM : d ≤ 9223372036854775807) (w : World) : Calls Tryz.prog 88 #[.agg #[.int .i64 n, .slice none 0 0], .agg #[.int .i64 d, .slice none 0 0]] w fun e w' => e = .returned (.agg #[.int .i64 (qn n d), .slice none 0 0, .int .i64 (qd n d), .slice none 0 0]) ∧ Below w.heap.size w w' := by
  have hnil := eqnil
  have hd0 : -9223372036854775807 ≤ d ∧ d ≤ 9223372036854775807 := by omega
  by_cases h1 : d = 1
  · subst h1
    rw [qn_one, qd_one]
    clear hn hd hdM hd0
    go_enter Tryz.func88, Tryz.ntmps88
    go_wp2_with fail
    (with_reducible refine (nSign_pos 1 (by decide) _).mono ?_)
    rintro e w1 ⟨rfl, hb1⟩
    obtain ⟨⟨dq, osq⟩, rfl⟩ := regrown_of_below hb1
    clear hb1
    go_wp2_with fail
    refine bodyPost_ret (v := .agg #[.int .i64 n, .slice none 0 0, .int .i64 1, .slice none 0 0]) (by simp (maxDischargeDepth := 4) [results, Tryz.results88, go_sem]) rfl ⟨rfl, ?_⟩
    repeat (first | with_reducible assumption | with_reducible exact Below.refl _ _ | with_reducible refine Below.setCell ?_ (by first | omega | (simp [go_sem]; omega) | simp [go_sem]) _ | with_reducible refine Below.alloc ?_ (by first | omega | (simp [go_sem]; omega) | simp [go_sem]) _ | with_reducible refine below_grow ?_ (by first | omega | (simp [go_sem]; omega) | simp [go_sem]) _ _ | with_reducible refine Below.drew ?_)
  · have hb1 : (d == 1) = false := beq_eq_false_iff_ne.2 h1
    have hg := gcd_in (n := n) hd hdM
    have c1 := Lib.hid (fun w => nGcd n d hn hd0 w)
    have c2 := Lib.hid (fun w => nQuo n (Int.gcd n d : Nat) hn hg w)
    have c3 := Lib.hid (fun w => nQuo d (Int.gcd n d : Nat) hd0 hg w)
    unfold qn qd
    generalize ((Int.gcd n d : Nat) : Int) = g at *
    have c4 := Lib.hid (fun w => nSign_pos d hd w)
    clear hn hd hdM hd0 hg h1
    go_enter Tryz.func88, Tryz.ntmps88
    go_wp2_with fail
    (with_reducible refine (c4.out _).mono ?_)
    rintro e w1 ⟨rfl, hb1⟩
    obtain ⟨⟨dq, osq⟩, rfl⟩ := regrown_of_below hb1
    clear hb1
    go_wp2_with fail
    (with_reducible refine (c1.out _).mono ?_)
    rintro e w1 ⟨rfl, hb1⟩
    obtain ⟨⟨dq, osq⟩, rfl⟩ := regrown_of_below hb1
    clear hb1
    go_wp2_with fail
    refine wp_region_tail 7 (by kernel_rfl) (by kernel_rfl) (by kernel_rfl) ?_
    simp only [List.take_succ_cons, List.take_zero, List.drop_succ_cons, List.drop_zero, List.take_nil, List.drop_nil]
    repeat (quiet_step (first | with_reducible exact Calls.regrown_of (c2.out _) | with_reducible exact Calls.regrown_of (c3.out _)))
    refine wpQuiet_nil ?_
    intro w1 hw1
    obtain ⟨⟨dq, osq⟩, rfl⟩ := hw1
    go_wp2_with fail
    refine bodyPost_ret (v := .agg #[.int .i64 (n / g), .slice none 0 0, .int .i64 (d / g), .slice none 0 0]) (by simp (maxDischargeDepth := 4) [results, Tryz.results88, go_sem]) rfl ⟨rfl, ?_⟩
    repeat (first | with_reducible assumption | with_reducible exact Below.refl _ _ | with_reducible refine Below.setCell ?_ (by first | omega | (simp [go_sem]; omega) | simp [go_sem]) _ | with_reducible refine Below.alloc ?_ (by first | omega | (simp [go_sem]; omega) | simp [go_sem]) _ | with_reducible refine below_grow ?_ (by first | omega | (simp [go_sem]; omega) | simp [go_sem]) _ _ | with_reducible refine Below.drew ?_)

theorem fMul (a b c d : Int) (ha : R63 a) (hb : R63 b) (hc : R63 c) (hd : R63 d) (h1 : R63 (a * c)) (h2 : 1 ≤ b * d) (h3 : b * d ≤ 9223372036854775807) (w : World) : Calls Tryz.prog 56 #[.agg #[.int .i64 a, .slice none 0 0, .int .i64 b, .slice none 0 0], .agg #[.int .i64 c, .slice none 0 0, .int .i64 d, .slice none 0 0]] w fun e w' => e = .returned (.agg #[.int .i64 (qn (a * c) (b * d)), .slice none 0 0, .int .i64 (qd (a * c) (b * d)), .slice none 0 0]) ∧ Below w.heap.size w w' := by
  have m1 := Lib.hid (fun w => nMul a c ha hc h1 w)
  have m2 := Lib.hid (fun w => nMul b d hb hd (by omega) w)
  have m3 := Lib.hid (fun w => fMake (a * c) (b * d) h1 h2 h3 w)
  clear ha hb hc hd h1 h2 h3
  go_enter Tryz.func56, Tryz.ntmps56
  go_wp2_with fail
  refine wp_region_tail 11 (by kernel_rfl) (by kernel_rfl) (by kernel_rfl) ?_
  simp only [List.take_succ_cons, List.take_zero, List.drop_succ_cons, List.drop_zero, List.take_nil, List.drop_nil]
  repeat (quiet_step (first | with_reducible exact Calls.regrown_of (m1.out _) | with_reducible exact Calls.regrown_of (m2.out _) | with_reducible exact Calls.regrown_of (m3.out _)))
  refine wpQuiet_nil ?_
  intro w1 hw1
  obtain ⟨⟨dq, osq⟩, rfl⟩ := hw1
  clear m1 m2 m3
  go_wp2_with fail
  refine bodyPost_ret (v := .agg #[.int .i64 (qn (a * c) (b * d)), .slice none 0 0, .int .i64 (qd (a * c) (b * d)), .slice none 0 0]) (by simp (maxDischargeDepth := 4) [results, Tryz.results56, go_sem]) rfl ⟨rfl, ?_⟩
  repeat (first | with_reducible assumption | with_reducible exact Below.refl _ _ | with_reducible refine Below.setCell ?_ (by first | omega | (simp [go_sem]; omega) | simp [go_sem]) _ | with_reducible refine Below.alloc ?_ (by first | omega | (simp [go_sem]; omega) | simp [go_sem]) _ | with_reducible refine below_grow ?_ (by first | omega | (simp [go_sem]; omega) | simp [go_sem]) _ _ | with_reducible refine Below.drew ?_)

theorem fInv (a b : Int) (ha : 1 ≤ a) (haM : a ≤ 9223372036854775807) (hb : R63 b) (w : World) : Calls Tryz.prog 96 #[.agg #[.int .i64 a, .slice none 0 0, .int .i64 b, .slice none 0 0]] w fun e w' => e = .returned (.agg #[.int .i64 (qn b a), .slice none 0 0, .int .i64 (qd b a), .slice none 0 0]) ∧ Below w.heap.size w w' := by
  have m3 := Lib.hid (fun w => fMake b a hb ha haM w)
  clear ha hb haM
  go_enter Tryz.func96, Tryz.ntmps96
  go_wp2_with fail
  (with_reducible refine (m3.out _).mono ?_)
  rintro e w1 ⟨rfl, hb1⟩
  obtain ⟨⟨dq, osq⟩, rfl⟩ := regrown_of_below hb1
  clear hb1
  clear m3
  go_wp2_with fail
  refine bodyPost_ret (v := .agg #[.int .i64 (qn b a), .slice none 0 0, .int .i64 (qd b a), .slice none 0 0]) (by simp (maxDischargeDepth := 4) [results, Tryz.results96, go_sem]) rfl ⟨rfl, ?_⟩
  repeat (first | with_reducible assumption | with_reducible exact Below.refl _ _ | with_reducible refine Below.setCell ?_ (by first | omega | (simp [go_sem]; omega) | simp [go_sem]) _ | with_reducible refine Below.alloc ?_ (by first | omega | (simp [go_sem]; omega) | simp [go_sem]) _ | with_reducible refine below_grow ?_ (by first | omega | (simp [go_sem]; omega) | simp [go_sem]) _ _ | with_reducible refine Below.drew ?_)

theorem fCmp (a b c d : Int) (ha : R63 a) (hb : R63 b) (hc : R63 c) (hd : R63 d) (h1 : R63 (a * d)) (h2 : R63 (c * b)) (w : World) : Calls Tryz.prog 91 #[.agg #[.int .i64 a, .slice none 0 0, .int .i64 b, .slice none 0 0], .agg #[.int .i64 c, .slice none 0 0, .int .i64 d, .slice none 0 0]] w fun e w' => e = .returned (.int .i64 (if a * d < c * b then -1 else if c * b < a * d then 1 else 0)) ∧ Below w.heap.size w w' := by
  have m1 := Lib.hid (fun w => nMul a d ha hd h1 w)
  have m2 := Lib.hid (fun w => nMul c b hc hb h2 w)
  have m3 := Lib.hid (fun w => nCmp (a * d) (c * b) w)
  clear ha hb hc hd h1 h2
  generalize (if a * d < c * b then (-1 : Int) else if c * b < a * d then 1 else 0) = r at *
  go_enter Tryz.func91, Tryz.ntmps91
  go_wp2_with fail
  refine wp_region_tail 12 (by kernel_rfl) (by kernel_rfl) (by kernel_rfl) ?_
  simp only [List.take_succ_cons, List.take_zero, List.drop_succ_cons, List.drop_zero, List.take_nil, List.drop_nil]
  repeat (quiet_step (first | with_reducible exact Calls.regrown_of (m1.out _) | with_reducible exact Calls.regrown_of (m2.out _) | with_reducible exact Calls.regrown_of (m3.out _)))
  refine wpQuiet_nil ?_
  intro w1 hw1
  obtain ⟨⟨dq, osq⟩, rfl⟩ := hw1
  clear m1 m2 m3
  go_wp2_with fail
  go_ret
  refine ⟨rfl, ?_⟩
  repeat (first | with_reducible assumption | with_reducible exact Below.refl _ _ | with_reducible refine Below.setCell ?_ (by first | omega | (simp [go_sem]; omega) | simp [go_sem]) _ | with_reducible refine Below.alloc ?_ (by first | omega | (simp [go_sem]; omega) | simp [go_sem]) _ | with_reducible refine below_grow ?_ (by first | omega | (simp [go_sem]; omega) | simp [go_sem]) _ _ | with_reducible refine Below.drew ?_)

theorem fFloor (a b : Int) (ha : R63 a) (hb : 1 ≤ b) (hbM : b ≤ 9223372036854775807) (w : World) : Calls Tryz.prog 70 #[.agg #[.int .i64 a, .slice none 0 0, .int .i64 b, .slice none 0 0]] w fun e w' => e = .returned (.agg #[.int .i64 (a / b), .slice none 0 0]) ∧ Below w.heap.size w w' := by
  have m3 := Lib.hid (fun w => nDivMod a b ha ⟨hb, hbM⟩ w)
  clear ha hb hbM
  go_enter Tryz.func70, Tryz.ntmps70
  go_wp2_with fail
  (with_reducible refine (m3.out _).mono ?_)
  rintro e w1 ⟨rfl, hb1⟩
  obtain ⟨⟨dq, osq⟩, rfl⟩ := regrown_of_below hb1
  clear hb1
  clear m3
  go_wp2_with fail
  refine bodyPost_ret (v := .agg #[.int .i64 (a / b), .slice none 0 0]) (by simp (maxDischargeDepth := 4) [results, Tryz.results70, go_sem]) rfl ⟨rfl, ?_⟩
  repeat (first | with_reducible assumption | with_reducible exact Below.refl _ _ | with_reducible refine Below.setCell ?_ (by first | omega | (simp [go_sem]; omega) | simp [go_sem]) _ | with_reducible refine Below.alloc ?_ (by first | omega | (simp [go_sem]; omega) | simp [go_sem]) _ | with_reducible refine below_grow ?_ (by first | omega | (simp [go_sem]; omega) | simp [go_sem]) _ _ | with_reducible refine Below.drew ?_)
end Go.Proofs.YtgdlehoglpiifaaGreatDoor
namespace Go.Proofs.YtgdlehoglpiifaaGreatDoor
open Go.RowKit Go.Sort

theorem fIsWhole1 (n : Int) (w : World) : Calls Tryz.prog 109 #[.agg #[.int .i64 n, .slice none 0 0, .int .i64 1, .slice none 0 0]] w fun e w' => e = .returned (.bool true) ∧ Below w.heap.size w w' := by
  exact fIsWhole n 1 w
theorem fIsWholeN (n d : Int) (h : d ≠ 1) (w : World) : Calls Tryz.prog 109 #[.agg #[.int .i64 n, .slice none 0 0, .int .i64 d, .slice none 0 0]] w fun e w' => e = .returned (.bool false) ∧ Below w.heap.size w w' := by
  have := fIsWhole n d w
  rwa [show (d == 1) = false from beq_eq_false_iff_ne.2 h] at this

theorem fAdd (a b c d : Int) (ha : R63 a) (hb : R63 b) (hc : R63 c) (hd : R63 d) (h1 : R63 (a * d)) (h2 : R63 (c * b)) (h3 : R63 (a * d + c * b)) (h4 : 1 ≤ b * d) (h5 : b * d ≤ 9223372036854775807) (w : World) : Calls Tryz.prog 87 #[.agg #[.int .i64 a, .slice none 0 0, .int .i64 b, .slice none 0 0], .agg #[.int .i64 c, .slice none 0 0, .int .i64 d, .slice none 0 0]] w fun e w' => e = .returned (.agg #[.int .i64 (qn (a * d + c * b) (b * d)), .slice none 0 0, .int .i64 (qd (a * d + c * b) (b * d)), .slice none 0 0]) ∧ Below w.heap.size w w' := by
  have m1 := Lib.hid (fun w => nMul a d ha hd h1 w)
  have m2 := Lib.hid (fun w => nMul c b hc hb h2 w)
  have m3 := Lib.hid (fun w => nAdd (a * d) (c * b) (by omega) w)
  have m4 := Lib.hid (fun w => nMul b d hb hd (by omega) w)
  have m5 := Lib.hid (fun w => fMake (a * d + c * b) (b * d) h3 h4 h5 w)
  by_cases hb1 : b = 1
  · by_cases hd1 : d = 1
    · subst hb1 hd1
      have e1 : a * 1 + c * 1 = a + c := by omega
      rw [show (1 : Int) * 1 = 1 from rfl, e1, qn_one, qd_one]
      rw [e1] at h3
      have m6 := Lib.hid (fun w => nAdd a c (by omega) w)
      clear ha hb hc hd h1 h2 h3 h4 h5 m1 m2 m3 m4 m5 e1
      go_enter Tryz.func87, Tryz.ntmps87
      go_wp2_with fail
      (with_reducible refine (fIsWhole1 _ _).mono ?_)
      rintro e w1 ⟨rfl, hb1⟩
      obtain ⟨⟨dq, osq⟩, rfl⟩ := regrown_of_below hb1
      clear hb1
      go_wp2_with fail
      (with_reducible refine (fIsWhole1 _ _).mono ?_)
      rintro e w1 ⟨rfl, hb1⟩
      obtain ⟨⟨dq, osq⟩, rfl⟩ := regrown_of_below hb1
      clear hb1
      go_wp2_with fail
      (with_reducible refine (m6.out _).mono ?_)
      rintro e w1 ⟨rfl, hb1⟩
      obtain ⟨⟨dq, osq⟩, rfl⟩ := regrown_of_below hb1
      clear hb1
      go_wp2_with fail
      (with_reducible refine (fWhole _ _).mono ?_)
      rintro e w1 ⟨rfl, hb1⟩
      obtain ⟨⟨dq, osq⟩, rfl⟩ := regrown_of_below hb1
      clear hb1
      go_wp2_with fail
      refine bodyPost_ret (v := .agg #[.int .i64 (a + c), .slice none 0 0, .int .i64 1, .slice none 0 0]) (by simp (maxDischargeDepth := 4) [results, Tryz.results87, go_sem]) rfl ⟨rfl, ?_⟩
      repeat (first | with_reducible assumption | with_reducible exact Below.refl _ _ | with_reducible refine Below.setCell ?_ (by first | omega | (simp [go_sem]; omega) | simp [go_sem]) _ | with_reducible refine Below.alloc ?_ (by first | omega | (simp [go_sem]; omega) | simp [go_sem]) _ | with_reducible refine below_grow ?_ (by first | omega | (simp [go_sem]; omega) | simp [go_sem]) _ _ | with_reducible refine Below.drew ?_)
    · subst hb1
      have m6 := Lib.hid (fun w => fIsWholeN c d hd1 w)
      rw [Int.mul_one, Int.one_mul] at m5
      rw [Int.mul_one] at m2 m3
      rw [Int.one_mul] at m4
      rw [Int.mul_one, Int.one_mul]
      clear ha hb hc hd h1 h2 h3 h4 h5 hd1
      go_enter Tryz.func87, Tryz.ntmps87
      go_wp2_with fail
      (with_reducible refine (fIsWhole1 _ _).mono ?_)
      rintro e w1 ⟨rfl, hb1⟩
      obtain ⟨⟨dq, osq⟩, rfl⟩ := regrown_of_below hb1
      clear hb1
      go_wp2_with fail
      (with_reducible refine (m6.out _).mono ?_)
      rintro e w1 ⟨rfl, hb1⟩
      obtain ⟨⟨dq, osq⟩, rfl⟩ := regrown_of_below hb1
      clear hb1
      go_wp2_with fail
      refine wp_region_tail 17 (by kernel_rfl) (by kernel_rfl) (by kernel_rfl) ?_
      simp only [List.take_succ_cons, List.take_zero, List.drop_succ_cons, List.drop_zero, List.take_nil, List.drop_nil]
      repeat (quiet_step (first | with_reducible exact Calls.regrown_of (m1.out _) | with_reducible exact Calls.regrown_of (m2.out _) | with_reducible exact Calls.regrown_of (m3.out _) | with_reducible exact Calls.regrown_of (m4.out _) | with_reducible exact Calls.regrown_of (m5.out _)))
      refine wpQuiet_nil ?_
      intro w1 hw1
      obtain ⟨⟨dq, osq⟩, rfl⟩ := hw1
      clear m1 m2 m3 m4 m5 m6
      go_wp2_with fail
      refine bodyPost_ret (v := .agg #[.int .i64 (qn (a * d + c) d), .slice none 0 0, .int .i64 (qd (a * d + c) d), .slice none 0 0]) (by simp (maxDischargeDepth := 4) [results, Tryz.results87, go_sem]) rfl ⟨rfl, ?_⟩
      repeat (first | with_reducible assumption | with_reducible exact Below.refl _ _ | with_reducible refine Below.setCell ?_ (by first | omega | (simp [go_sem]; omega) | simp [go_sem]) _ | with_reducible refine Below.alloc ?_ (by first | omega | (simp [go_sem]; omega) | simp [go_sem]) _ | with_reducible refine below_grow ?_ (by first | omega | (simp [go_sem]; omega) | simp [go_sem]) _ _ | with_reducible refine Below.drew ?_)
  · have m6 := Lib.hid (fun w => fIsWholeN a b hb1 w)
    clear ha hb hc hd h1 h2 h3 h4 h5 hb1
    go_enter Tryz.func87, Tryz.ntmps87
    go_wp2_with fail
    (with_reducible refine (m6.out _).mono ?_)
    rintro e w1 ⟨rfl, hb1⟩
    obtain ⟨⟨dq, osq⟩, rfl⟩ := regrown_of_below hb1
    clear hb1
    go_wp2_with fail
    refine wp_region_tail 17 (by kernel_rfl) (by kernel_rfl) (by kernel_rfl) ?_
    simp only [List.take_succ_cons, List.take_zero, List.drop_succ_cons, List.drop_zero, List.take_nil, List.drop_nil]
    repeat (quiet_step (first | with_reducible exact Calls.regrown_of (m1.out _) | with_reducible exact Calls.regrown_of (m2.out _) | with_reducible exact Calls.regrown_of (m3.out _) | with_reducible exact Calls.regrown_of (m4.out _) | with_reducible exact Calls.regrown_of (m5.out _)))
    refine wpQuiet_nil ?_
    intro w1 hw1
    obtain ⟨⟨dq, osq⟩, rfl⟩ := hw1
    clear m1 m2 m3 m4 m5 m6
    go_wp2_with fail
    refine bodyPost_ret (v := .agg #[.int .i64 (qn (a * d + c * b) (b * d)), .slice none 0 0, .int .i64 (qd (a * d + c * b) (b * d)), .slice none 0 0]) (by simp (maxDischargeDepth := 4) [results, Tryz.results87, go_sem]) rfl ⟨rfl, ?_⟩
    repeat (first | with_reducible assumption | with_reducible exact Below.refl _ _ | with_reducible refine Below.setCell ?_ (by first | omega | (simp [go_sem]; omega) | simp [go_sem]) _ | with_reducible refine Below.alloc ?_ (by first | omega | (simp [go_sem]; omega) | simp [go_sem]) _ | with_reducible refine below_grow ?_ (by first | omega | (simp [go_sem]; omega) | simp [go_sem]) _ _ | with_reducible refine Below.drew ?_)

theorem fSub (a b c d : Int) (ha : R63 a) (hb : R63 b) (hc : R63 c) (hd : R63 d) (h1 : R63 (a * d)) (h2 : R63 (-c * b)) (h3 : R63 (a * d + -c * b)) (h4 : 1 ≤ b * d) (h5 : b * d ≤ 9223372036854775807) (w : World) : Calls Tryz.prog 58 #[.agg #[.int .i64 a, .slice none 0 0, .int .i64 b, .slice none 0 0], .agg #[.int .i64 c, .slice none 0 0, .int .i64 d, .slice none 0 0]] w fun e w' => e = .returned (.agg #[.int .i64 (qn (a * d + -c * b) (b * d)), .slice none 0 0, .int .i64 (qd (a * d + -c * b) (b * d)), .slice none 0 0]) ∧ Below w.heap.size w w' := by
  have m1 := Lib.hid (fun w => fNeg c d hc w)
  have m2 := Lib.hid (fun w => fAdd a b (-c) d ha hb (by omega) hd h1 h2 h3 h4 h5 w)
  clear ha hb hc hd h1 h2 h3 h4 h5
  generalize qn (a * d + -c * b) (b * d) = x at *
  generalize qd (a * d + -c * b) (b * d) = y at *
  go_enter Tryz.func58, Tryz.ntmps58
  go_wp2_with fail
  refine wp_region_tail 4 (by kernel_rfl) (by kernel_rfl) (by kernel_rfl) ?_
  simp only [List.take_succ_cons, List.take_zero, List.drop_succ_cons, List.drop_zero, List.take_nil, List.drop_nil]
  repeat (quiet_step (first | with_reducible exact Calls.regrown_of (m1.out _) | with_reducible exact Calls.regrown_of (m2.out _)))
  refine wpQuiet_nil ?_
  intro w1 hw1
  obtain ⟨⟨dq, osq⟩, rfl⟩ := hw1
  clear m1 m2
  go_wp2_with fail
  refine bodyPost_ret (v := .agg #[.int .i64 x, .slice none 0 0, .int .i64 y, .slice none 0 0]) (by simp (maxDischargeDepth := 4) [results, Tryz.results58, go_sem]) rfl ⟨rfl, ?_⟩
  repeat (first | with_reducible assumption | with_reducible exact Below.refl _ _ | with_reducible refine Below.setCell ?_ (by first | omega | (simp [go_sem]; omega) | simp [go_sem]) _ | with_reducible refine Below.alloc ?_ (by first | omega | (simp [go_sem]; omega) | simp [go_sem]) _ | with_reducible refine below_grow ?_ (by first | omega | (simp [go_sem]; omega) | simp [go_sem]) _ _ | with_reducible refine Below.drew ?_)

/-- A quotient by a fraction in lowest terms, above 0. -/
theorem fDiv (a b c d : Int) (ha : R63 a) (hb : R63 b) (hc : 1 ≤ c) (hcM : c ≤ 9223372036854775807) (hd : R63 d) (hl : Int.gcd c d = 1) (h1 : R63 (a * d)) (h4 : 1 ≤ b * c) (h5 : b * c ≤ 9223372036854775807) (w : World) : Calls Tryz.prog 65 #[.agg #[.int .i64 a, .slice none 0 0, .int .i64 b, .slice none 0 0], .agg #[.int .i64 c, .slice none 0 0, .int .i64 d, .slice none 0 0]] w fun e w' => e = .returned (.agg #[.int .i64 (qn (a * d) (b * c)), .slice none 0 0, .int .i64 (qd (a * d) (b * c)), .slice none 0 0]) ∧ Below w.heap.size w w' := by
  have m1 := fun w => fInv c d hc hcM hd w
  have e : qn d c = d ∧ qd d c = c := by
    have : Int.gcd d c = 1 := by rw [Int.gcd_comm]; exact hl
    unfold qn qd
    rw [this]; simp
  rw [e.1, e.2] at m1
  have M1 := Lib.hid m1
  have m2 := Lib.hid (fun w => fMul a b d c ha hb hd (by omega) h1 h4 h5 w)
  clear ha hb hc hcM hd hl h1 h4 h5 m1 e
  generalize qn (a * d) (b * c) = x at *
  generalize qd (a * d) (b * c) = y at *
  go_enter Tryz.func65, Tryz.ntmps65
  go_wp2_with fail
  refine wp_region_tail 4 (by kernel_rfl) (by kernel_rfl) (by kernel_rfl) ?_
  simp only [List.take_succ_cons, List.take_zero, List.drop_succ_cons, List.drop_zero, List.take_nil, List.drop_nil]
  repeat (quiet_step (first | with_reducible exact Calls.regrown_of (M1.out _) | with_reducible exact Calls.regrown_of (m2.out _)))
  refine wpQuiet_nil ?_
  intro w1 hw1
  obtain ⟨⟨dq, osq⟩, rfl⟩ := hw1
  clear M1 m2
  go_wp2_with fail
  refine bodyPost_ret (v := .agg #[.int .i64 x, .slice none 0 0, .int .i64 y, .slice none 0 0]) (by simp (maxDischargeDepth := 4) [results, Tryz.results65, go_sem]) rfl ⟨rfl, ?_⟩
  repeat (first | with_reducible assumption | with_reducible exact Below.refl _ _ | with_reducible refine Below.setCell ?_ (by first | omega | (simp [go_sem]; omega) | simp [go_sem]) _ | with_reducible refine Below.alloc ?_ (by first | omega | (simp [go_sem]; omega) | simp [go_sem]) _ | with_reducible refine below_grow ?_ (by first | omega | (simp [go_sem]; omega) | simp [go_sem]) _ _ | with_reducible refine Below.drew ?_)
end Go.Proofs.YtgdlehoglpiifaaGreatDoor
namespace Go.Proofs.YtgdlehoglpiifaaGreatDoor
open Go.RowKit Go.Sort

theorem sItoa (n : Int) (hn : R63 n) {w0 : World} (hG : Glob w0) (w : World) (hb : Below w0.heap.size w0 w) : Calls Tryz.prog 135 #[.int .i64 n] w fun e w' => e = .returned (.string ⟨(Lib.itoa n).toArray⟩) ∧ Below w.heap.size w w' := by
  replace hG := hG.keep hb
  clear hb
  refine (Tryz.strconv_Itoa n (by omega) (by omega) w hG.2.1).mono ?_
  rintro e w' ⟨rfl, k, os, rfl⟩
  refine ⟨rfl, (below_drewN k).trans ?_⟩
  exact ⟨rfl, rfl, rfl, by simp [grow], fun i hi => by simp [grow, Array.getElem?_append, hi]⟩

theorem nString (n : Int) (hn : R63 n) {w0 : World} (hG : Glob w0) (w : World) (hb : Below w0.heap.size w0 w) : Calls Tryz.prog 114 #[.agg #[.int .i64 n, .slice none 0 0]] w fun e w' => e = .returned (.string ⟨(Lib.itoa n).toArray⟩) ∧ Below w.heap.size w w' := by
  replace hG := hG.keep hb
  clear hb
  have hnil := eqnil
  go_enter Tryz.func114, Tryz.ntmps114
  go_wp2_with fail
  (with_reducible refine (sItoa n hn hG _ ?_).mono ?_)
  · repeat (first | with_reducible assumption | with_reducible exact Below.refl _ _ | with_reducible refine Below.setCell ?_ (by first | omega | (simp [go_sem]; omega) | simp [go_sem]) _ | with_reducible refine Below.alloc ?_ (by first | omega | (simp [go_sem]; omega) | simp [go_sem]) _ | with_reducible refine below_grow ?_ (by first | omega | (simp [go_sem]; omega) | simp [go_sem]) _ _ | with_reducible refine Below.drew ?_)
  rintro e w1 ⟨rfl, hb1⟩
  obtain ⟨⟨dq, osq⟩, rfl⟩ := regrown_of_below hb1
  clear hb1
  go_wp2_with fail
  go_ret
  refine ⟨rfl, ?_⟩
  repeat (first | with_reducible assumption | with_reducible exact Below.refl _ _ | with_reducible refine Below.setCell ?_ (by first | omega | (simp [go_sem]; omega) | simp [go_sem]) _ | with_reducible refine Below.alloc ?_ (by first | omega | (simp [go_sem]; omega) | simp [go_sem]) _ | with_reducible refine below_grow ?_ (by first | omega | (simp [go_sem]; omega) | simp [go_sem]) _ _ | with_reducible refine Below.drew ?_)

theorem fText (n d : Int) (hn : R63 n) (hd : R63 d) {w0 : World} (hG : Glob w0) (w : World) (hb : Below w0.heap.size w0 w) : Calls Tryz.prog 92 #[.agg #[.int .i64 n, .slice none 0 0, .int .i64 d, .slice none 0 0]] w fun e w' => e = .returned (.string ⟨(rtx n d).toArray⟩) ∧ Below w.heap.size w w' := by
  replace hG := hG.keep hb
  clear hb
  by_cases h1 : d = 1
  · subst h1
    rw [rtx_one]
    go_enter Tryz.func92, Tryz.ntmps92
    go_wp2_with fail
    (with_reducible refine (fIsWhole1 _ _).mono ?_)
    rintro e w1 ⟨rfl, hb1⟩
    obtain ⟨⟨dq, osq⟩, rfl⟩ := regrown_of_below hb1
    clear hb1
    go_wp2_with fail
    (with_reducible refine (nString n hn hG _ ?_).mono ?_)
    · repeat (first | with_reducible assumption | with_reducible exact Below.refl _ _ | with_reducible refine Below.setCell ?_ (by first | omega | (simp [go_sem]; omega) | simp [go_sem]) _ | with_reducible refine Below.alloc ?_ (by first | omega | (simp [go_sem]; omega) | simp [go_sem]) _ | with_reducible refine below_grow ?_ (by first | omega | (simp [go_sem]; omega) | simp [go_sem]) _ _ | with_reducible refine Below.drew ?_)
    rintro e w1 ⟨rfl, hb1⟩
    obtain ⟨⟨dq, osq⟩, rfl⟩ := regrown_of_below hb1
    clear hb1
    go_wp2_with fail
    go_ret
    refine ⟨rfl, ?_⟩
    repeat (first | with_reducible assumption | with_reducible exact Below.refl _ _ | with_reducible refine Below.setCell ?_ (by first | omega | (simp [go_sem]; omega) | simp [go_sem]) _ | with_reducible refine Below.alloc ?_ (by first | omega | (simp [go_sem]; omega) | simp [go_sem]) _ | with_reducible refine below_grow ?_ (by first | omega | (simp [go_sem]; omega) | simp [go_sem]) _ _ | with_reducible refine Below.drew ?_)
  · have m1 := Lib.hid (fun w => fIsWholeN n d h1 w)
    have l1 := itoa_len n hn
    have l2 := itoa_len d hd
    have hl1 : ¬ 9223372036854775807 < (Lib.itoa n).length + 1 := by omega
    have hl2 : ¬ 9223372036854775807 < (Lib.itoa n).length + 1 + (Lib.itoa d).length := by omega
    have Hr := Lib.hid (show Value.string (⟨(Lib.itoa n).toArray⟩ ++ ⟨#[47]⟩ ++ ⟨(Lib.itoa d).toArray⟩) = .string ⟨(rtx n d).toArray⟩ by
      rw [show (#[47] : Array UInt8) = [47].toArray from rfl, bcat, bcat, rtx, if_neg h1]; simp)
    clear l1 l2
    go_enter Tryz.func92, Tryz.ntmps92
    go_wp2_with fail
    (with_reducible refine (m1.out _).mono ?_)
    rintro e w1 ⟨rfl, hb1⟩
    obtain ⟨⟨dq, osq⟩, rfl⟩ := regrown_of_below hb1
    clear hb1
    go_wp2_with fail
    refine wp_region_tail 9 (by kernel_rfl) (by kernel_rfl) (by kernel_rfl) ?_
    simp only [List.take_succ_cons, List.take_zero, List.drop_succ_cons, List.drop_zero, List.take_nil, List.drop_nil]
    repeat (quiet_step (first | ((with_reducible refine Calls.regrown_of (nString n hn hG _ ?_)); repeat (first | with_reducible assumption | with_reducible exact Below.refl _ _ | with_reducible refine Below.setCell ?_ (by first | omega | (simp [go_sem]; omega) | simp [go_sem]) _ | with_reducible refine Below.alloc ?_ (by first | omega | (simp [go_sem]; omega) | simp [go_sem]) _ | with_reducible refine below_grow ?_ (by first | omega | (simp [go_sem]; omega) | simp [go_sem]) _ _ | with_reducible refine Below.drew ?_)) | ((with_reducible refine Calls.regrown_of (nString d hd hG _ ?_)); repeat (first | with_reducible assumption | with_reducible exact Below.refl _ _ | with_reducible refine Below.setCell ?_ (by first | omega | (simp [go_sem]; omega) | simp [go_sem]) _ | with_reducible refine Below.alloc ?_ (by first | omega | (simp [go_sem]; omega) | simp [go_sem]) _ | with_reducible refine below_grow ?_ (by first | omega | (simp [go_sem]; omega) | simp [go_sem]) _ _ | with_reducible refine Below.drew ?_))))
    refine wpQuiet_nil ?_
    intro w1 hw1
    obtain ⟨⟨dq, osq⟩, rfl⟩ := hw1
    go_wp2_with fail
    go_ret
    refine ⟨congrArg Ending.returned Hr.out, ?_⟩
    repeat (first | with_reducible assumption | with_reducible exact Below.refl _ _ | with_reducible refine Below.setCell ?_ (by first | omega | (simp [go_sem]; omega) | simp [go_sem]) _ | with_reducible refine Below.alloc ?_ (by first | omega | (simp [go_sem]; omega) | simp [go_sem]) _ | with_reducible refine below_grow ?_ (by first | omega | (simp [go_sem]; omega) | simp [go_sem]) _ _ | with_reducible refine Below.drew ?_)
end Go.Proofs.YtgdlehoglpiifaaGreatDoor
namespace Go.Proofs.YtgdlehoglpiifaaGreatDoor
open Go.RowKit Go.Sort

theorem sHasMinus (l : List UInt8) (w : World) : Calls Tryz.prog 125 #[.string ⟨(l).toArray⟩, .string ⟨#[45]⟩] w fun e w' => e = .returned (.bool (Lib.hasPrefix l [45])) ∧ Below w.heap.size w w' := by
  refine (Tryz.strings_HasPrefix ⟨l.toArray⟩ ⟨#[45]⟩ w).mono ?_
  rintro e w' ⟨rfl, rfl⟩
  exact ⟨rfl, Below.refl _ _⟩
theorem sTrimMinus (l : List UInt8) (w : World) : Calls Tryz.prog 126 #[.string ⟨(l).toArray⟩, .string ⟨#[45]⟩] w fun e w' => e = .returned (.string ⟨(Lib.trimPrefix l [45]).toArray⟩) ∧ Below w.heap.size w w' := by
  refine (Tryz.strings_TrimPrefix ⟨l.toArray⟩ ⟨#[45]⟩ w).mono ?_
  rintro e w' ⟨rfl, rfl⟩
  exact ⟨rfl, Below.refl _ _⟩
theorem sAtoi (l : List UInt8) (m : Nat) (hl : l.length ≤ 18) (h : Lib.atoiAll l = .ok (m : Int)) (w : World) : Calls Tryz.prog 127 #[.string ⟨(l).toArray⟩] w fun e w' => e = .returned (.tuple #[.int .i64 m, .nilIface]) ∧ Below w.heap.size w w' := by
  refine (Tryz.strconv_Atoi_ok ⟨l.toArray⟩ (by show l.toArray.size ≤ _; simp; omega) m h w).mono ?_
  rintro e w' ⟨rfl, hw⟩
  refine ⟨rfl, ?_⟩
  rcases hw with rfl | ⟨t, rfl⟩
  · exact Below.refl _ _
  · exact Lib.bytesWorld_below _ _ _

/-- The first round of Read reads all. -/
theorem nReadAny (l r : List UInt8) (m : Nat) (b : Bool) (h0 : Lib.hasPrefix l [45] = b) (h1 : Lib.trimPrefix l [45] = r) (hl : r.length ≤ 18) (hr : r ≠ []) (hm : Lib.atoiAll r = .ok (m : Int)) (hm2 : m < 1000000000000000000) (w : World) :
    Calls Tryz.prog 101 #[.string ⟨(l).toArray⟩] w fun e w' => e = .returned (.agg #[.int .i64 ((if b then -(m : Int) else m)), .slice none 0 0]) ∧ Below w.heap.size w w' := by
  have c1 := Lib.hid (fun w => (h0 ▸ sHasMinus l w : Calls Tryz.prog 125 #[.string ⟨(l).toArray⟩, .string ⟨#[45]⟩] w fun e w' => e = .returned (.bool b) ∧ Below w.heap.size w w'))
  have c2 := Lib.hid (fun w => (h1 ▸ sTrimMinus l w : Calls Tryz.prog 126 #[.string ⟨(l).toArray⟩, .string ⟨#[45]⟩] w fun e w' => e = .returned (.string ⟨(r).toArray⟩) ∧ Below w.heap.size w w'))
  have c3 := Lib.hid (fun w => sAtoi r m hl hm w)
  have hlen : 0 < r.length := List.length_pos_iff.2 hr
  have hmin : min (18 : Int) (r.length : Int) = r.length := by omega
  have hx1 : (⟨r.toArray⟩ : ByteArray).extract 0 r.length = ⟨r.toArray⟩ := by apply ByteArray.ext; simp
  have hx2 : (⟨r.toArray⟩ : ByteArray).extract r.length r.length = ⟨#[]⟩ := by apply ByteArray.ext; simp
  have c4 := Lib.hid (fun w => nPow r.length hl w)
  have hp : (1 : Int) ≤ ((10 ^ r.length : Nat) : Int) ∧ ((10 ^ r.length : Nat) : Int) ≤ 1000000000000000000 := by
    have e1 : 1 ≤ 10 ^ r.length := Nat.one_le_pow _ _ (by decide)
    have e2 : 10 ^ r.length ≤ 10 ^ 18 := Nat.pow_le_pow_right (by decide) hl
    omega
  generalize ((10 ^ r.length : Nat) : Int) = p at *
  have c5 := fun w => nMul 0 p (by omega) (by omega) (by omega) w
  rw [Int.zero_mul] at c5
  have C5 := Lib.hid c5
  have c6 := fun w => nAdd 0 m (by omega) w
  rw [Int.zero_add] at c6
  have C6 := Lib.hid c6
  have c7 := Lib.hid (fun w => nNeg m (by omega) w)
  clear h0 h1 hm hp c5 c6
  cases b
  · go_enter Tryz.func101, Tryz.ntmps101
    go_wp2_with fail
    (with_reducible refine (c1.out _).mono ?_)
    rintro e w1 ⟨rfl, hb⟩
    have H1 : Below w.heap.size w w1 := by
      refine Below.trans ?_ (hb.mono ?_)
      · repeat (first | with_reducible assumption | with_reducible exact Below.refl _ _ | with_reducible refine Below.setCell ?_ (by first | omega | (simp [go_sem]; omega) | simp [go_sem]) _ | with_reducible refine Below.alloc ?_ (by first | omega | (simp [go_sem]; omega) | simp [go_sem]) _ | with_reducible refine below_grow ?_ (by first | omega | (simp [go_sem]; omega) | simp [go_sem]) _ _ | with_reducible refine Below.drew ?_)
      · first | omega | (simp [go_sem]; omega) | simp [go_sem]
    have S1 : w.heap.size ≤ w1.heap.size := H1.size
    have s1_0 : w.heap.size < w1.heap.size := Nat.lt_of_lt_of_le (by first | omega | (simp [go_sem]; omega) | simp [go_sem]) hb.size
    have k1_0 := fun o => hb.cell (p := ⟨w.heap.size, o, none⟩) (by first | omega | (simp [go_sem]; omega) | simp [go_sem])
    have f1_0 := fun o => hb.frozen (p := ⟨w.heap.size, o, none⟩) (by first | omega | (simp [go_sem]; omega) | simp [go_sem])
    clear hb
    go_wp2_with fail
    (with_reducible refine (c2.out _).mono ?_)
    rintro e w2 ⟨rfl, hb⟩
    have H2 : Below w.heap.size w w2 := by
      refine Below.trans ?_ (hb.mono ?_)
      · repeat (first | with_reducible assumption | with_reducible exact Below.refl _ _ | with_reducible refine Below.setCell ?_ (by first | omega | (simp [go_sem]; omega) | simp [go_sem]) _ | with_reducible refine Below.alloc ?_ (by first | omega | (simp [go_sem]; omega) | simp [go_sem]) _ | with_reducible refine below_grow ?_ (by first | omega | (simp [go_sem]; omega) | simp [go_sem]) _ _ | with_reducible refine Below.drew ?_)
      · first | omega | (simp [go_sem]; omega) | simp [go_sem]
    have S2 : w.heap.size ≤ w2.heap.size := H2.size
    have s2_0 : w.heap.size < w2.heap.size := Nat.lt_of_lt_of_le (by first | omega | (simp [go_sem]; omega) | simp [go_sem]) hb.size
    have k2_0 := fun o => hb.cell (p := ⟨w.heap.size, o, none⟩) (by first | omega | (simp [go_sem]; omega) | simp [go_sem])
    have f2_0 := fun o => hb.frozen (p := ⟨w.heap.size, o, none⟩) (by first | omega | (simp [go_sem]; omega) | simp [go_sem])
    clear hb
    go_wp2_with fail
    refine wp_loop_rounds 2 ?_
    rw [rounds_succ]
    go_wp2_with fail
    (with_reducible refine (c3.out _).mono ?_)
    rintro e w3 ⟨rfl, hb⟩
    have H3 : Below w.heap.size w w3 := by
      refine Below.trans ?_ (hb.mono ?_)
      · repeat (first | with_reducible assumption | with_reducible exact Below.refl _ _ | with_reducible refine Below.setCell ?_ (by first | omega | (simp [go_sem]; omega) | simp [go_sem]) _ | with_reducible refine Below.alloc ?_ (by first | omega | (simp [go_sem]; omega) | simp [go_sem]) _ | with_reducible refine below_grow ?_ (by first | omega | (simp [go_sem]; omega) | simp [go_sem]) _ _ | with_reducible refine Below.drew ?_)
      · first | omega | (simp [go_sem]; omega) | simp [go_sem]
    have S3 : w.heap.size ≤ w3.heap.size := H3.size
    have s3_0 : w.heap.size < w3.heap.size := Nat.lt_of_lt_of_le (by first | omega | (simp [go_sem]; omega) | simp [go_sem]) hb.size
    have k3_0 := fun o => hb.cell (p := ⟨w.heap.size, o, none⟩) (by first | omega | (simp [go_sem]; omega) | simp [go_sem])
    have f3_0 := fun o => hb.frozen (p := ⟨w.heap.size, o, none⟩) (by first | omega | (simp [go_sem]; omega) | simp [go_sem])
    have s3_1 : w2.heap.size < w3.heap.size := Nat.lt_of_lt_of_le (by first | omega | (simp [go_sem]; omega) | simp [go_sem]) hb.size
    have k3_1 := fun o => hb.cell (p := ⟨w2.heap.size, o, none⟩) (by first | omega | (simp [go_sem]; omega) | simp [go_sem])
    have f3_1 := fun o => hb.frozen (p := ⟨w2.heap.size, o, none⟩) (by first | omega | (simp [go_sem]; omega) | simp [go_sem])
    clear hb
    go_wp2_with fail
    refine wp_region_tail 8 (by kernel_rfl) (by kernel_rfl) (by kernel_rfl) ?_
    simp only [List.take_succ_cons, List.take_zero, List.drop_succ_cons, List.drop_zero, List.take_nil, List.drop_nil]
    repeat (quiet_step (first | with_reducible exact Calls.regrown_of (nOf 10 _) | with_reducible exact Calls.regrown_of (c4.out _) | with_reducible exact Calls.regrown_of (C5.out _) | with_reducible exact Calls.regrown_of (nOf m _) | with_reducible exact Calls.regrown_of (C6.out _)))
    refine wpQuiet_nil ?_
    intro w4 hw
    have hb := below_of_regrown hw
    clear hw
    have H4 : Below w.heap.size w w4 := by
      refine Below.trans ?_ (hb.mono ?_)
      · repeat (first | with_reducible assumption | with_reducible exact Below.refl _ _ | with_reducible refine Below.setCell ?_ (by first | omega | (simp [go_sem]; omega) | simp [go_sem]) _ | with_reducible refine Below.alloc ?_ (by first | omega | (simp [go_sem]; omega) | simp [go_sem]) _ | with_reducible refine below_grow ?_ (by first | omega | (simp [go_sem]; omega) | simp [go_sem]) _ _ | with_reducible refine Below.drew ?_)
      · first | omega | (simp [go_sem]; omega) | simp [go_sem]
    have S4 : w.heap.size ≤ w4.heap.size := H4.size
    have s4_0 : w.heap.size < w4.heap.size := Nat.lt_of_lt_of_le (by first | omega | (simp [go_sem]; omega) | simp [go_sem]) hb.size
    have k4_0 := fun o => hb.cell (p := ⟨w.heap.size, o, none⟩) (by first | omega | (simp [go_sem]; omega) | simp [go_sem])
    have f4_0 := fun o => hb.frozen (p := ⟨w.heap.size, o, none⟩) (by first | omega | (simp [go_sem]; omega) | simp [go_sem])
    have s4_1 : w2.heap.size < w4.heap.size := Nat.lt_of_lt_of_le (by first | omega | (simp [go_sem]; omega) | simp [go_sem]) hb.size
    have k4_1 := fun o => hb.cell (p := ⟨w2.heap.size, o, none⟩) (by first | omega | (simp [go_sem]; omega) | simp [go_sem])
    have f4_1 := fun o => hb.frozen (p := ⟨w2.heap.size, o, none⟩) (by first | omega | (simp [go_sem]; omega) | simp [go_sem])
    clear hb
    clear c1 c2 c3 c4 C5 C6
    go_wp2_with fail
    rw [rounds_succ]
    go_wp2_with fail
    refine bodyPost_ret (v := .agg #[.int .i64 m, .slice none 0 0]) (by simp (maxDischargeDepth := 4) [*, results, Tryz.results101, go_sem]) rfl ⟨rfl, ?_⟩
    repeat (first | with_reducible assumption | with_reducible exact Below.refl _ _ | with_reducible refine Below.setCell ?_ (by first | omega | (simp [go_sem]; omega) | simp [go_sem]) _ | with_reducible refine Below.alloc ?_ (by first | omega | (simp [go_sem]; omega) | simp [go_sem]) _ | with_reducible refine below_grow ?_ (by first | omega | (simp [go_sem]; omega) | simp [go_sem]) _ _ | with_reducible refine Below.drew ?_)
  · go_enter Tryz.func101, Tryz.ntmps101
    go_wp2_with fail
    (with_reducible refine (c1.out _).mono ?_)
    rintro e w1 ⟨rfl, hb⟩
    have H1 : Below w.heap.size w w1 := by
      refine Below.trans ?_ (hb.mono ?_)
      · repeat (first | with_reducible assumption | with_reducible exact Below.refl _ _ | with_reducible refine Below.setCell ?_ (by first | omega | (simp [go_sem]; omega) | simp [go_sem]) _ | with_reducible refine Below.alloc ?_ (by first | omega | (simp [go_sem]; omega) | simp [go_sem]) _ | with_reducible refine below_grow ?_ (by first | omega | (simp [go_sem]; omega) | simp [go_sem]) _ _ | with_reducible refine Below.drew ?_)
      · first | omega | (simp [go_sem]; omega) | simp [go_sem]
    have S1 : w.heap.size ≤ w1.heap.size := H1.size
    have s1_0 : w.heap.size < w1.heap.size := Nat.lt_of_lt_of_le (by first | omega | (simp [go_sem]; omega) | simp [go_sem]) hb.size
    have k1_0 := fun o => hb.cell (p := ⟨w.heap.size, o, none⟩) (by first | omega | (simp [go_sem]; omega) | simp [go_sem])
    have f1_0 := fun o => hb.frozen (p := ⟨w.heap.size, o, none⟩) (by first | omega | (simp [go_sem]; omega) | simp [go_sem])
    clear hb
    go_wp2_with fail
    (with_reducible refine (c2.out _).mono ?_)
    rintro e w2 ⟨rfl, hb⟩
    have H2 : Below w.heap.size w w2 := by
      refine Below.trans ?_ (hb.mono ?_)
      · repeat (first | with_reducible assumption | with_reducible exact Below.refl _ _ | with_reducible refine Below.setCell ?_ (by first | omega | (simp [go_sem]; omega) | simp [go_sem]) _ | with_reducible refine Below.alloc ?_ (by first | omega | (simp [go_sem]; omega) | simp [go_sem]) _ | with_reducible refine below_grow ?_ (by first | omega | (simp [go_sem]; omega) | simp [go_sem]) _ _ | with_reducible refine Below.drew ?_)
      · first | omega | (simp [go_sem]; omega) | simp [go_sem]
    have S2 : w.heap.size ≤ w2.heap.size := H2.size
    have s2_0 : w.heap.size < w2.heap.size := Nat.lt_of_lt_of_le (by first | omega | (simp [go_sem]; omega) | simp [go_sem]) hb.size
    have k2_0 := fun o => hb.cell (p := ⟨w.heap.size, o, none⟩) (by first | omega | (simp [go_sem]; omega) | simp [go_sem])
    have f2_0 := fun o => hb.frozen (p := ⟨w.heap.size, o, none⟩) (by first | omega | (simp [go_sem]; omega) | simp [go_sem])
    clear hb
    go_wp2_with fail
    refine wp_loop_rounds 2 ?_
    rw [rounds_succ]
    go_wp2_with fail
    (with_reducible refine (c3.out _).mono ?_)
    rintro e w3 ⟨rfl, hb⟩
    have H3 : Below w.heap.size w w3 := by
      refine Below.trans ?_ (hb.mono ?_)
      · repeat (first | with_reducible assumption | with_reducible exact Below.refl _ _ | with_reducible refine Below.setCell ?_ (by first | omega | (simp [go_sem]; omega) | simp [go_sem]) _ | with_reducible refine Below.alloc ?_ (by first | omega | (simp [go_sem]; omega) | simp [go_sem]) _ | with_reducible refine below_grow ?_ (by first | omega | (simp [go_sem]; omega) | simp [go_sem]) _ _ | with_reducible refine Below.drew ?_)
      · first | omega | (simp [go_sem]; omega) | simp [go_sem]
    have S3 : w.heap.size ≤ w3.heap.size := H3.size
    have s3_0 : w.heap.size < w3.heap.size := Nat.lt_of_lt_of_le (by first | omega | (simp [go_sem]; omega) | simp [go_sem]) hb.size
    have k3_0 := fun o => hb.cell (p := ⟨w.heap.size, o, none⟩) (by first | omega | (simp [go_sem]; omega) | simp [go_sem])
    have f3_0 := fun o => hb.frozen (p := ⟨w.heap.size, o, none⟩) (by first | omega | (simp [go_sem]; omega) | simp [go_sem])
    have s3_1 : w2.heap.size < w3.heap.size := Nat.lt_of_lt_of_le (by first | omega | (simp [go_sem]; omega) | simp [go_sem]) hb.size
    have k3_1 := fun o => hb.cell (p := ⟨w2.heap.size, o, none⟩) (by first | omega | (simp [go_sem]; omega) | simp [go_sem])
    have f3_1 := fun o => hb.frozen (p := ⟨w2.heap.size, o, none⟩) (by first | omega | (simp [go_sem]; omega) | simp [go_sem])
    clear hb
    go_wp2_with fail
    refine wp_region_tail 8 (by kernel_rfl) (by kernel_rfl) (by kernel_rfl) ?_
    simp only [List.take_succ_cons, List.take_zero, List.drop_succ_cons, List.drop_zero, List.take_nil, List.drop_nil]
    repeat (quiet_step (first | with_reducible exact Calls.regrown_of (nOf 10 _) | with_reducible exact Calls.regrown_of (c4.out _) | with_reducible exact Calls.regrown_of (C5.out _) | with_reducible exact Calls.regrown_of (nOf m _) | with_reducible exact Calls.regrown_of (C6.out _)))
    refine wpQuiet_nil ?_
    intro w4 hw
    have hb := below_of_regrown hw
    clear hw
    have H4 : Below w.heap.size w w4 := by
      refine Below.trans ?_ (hb.mono ?_)
      · repeat (first | with_reducible assumption | with_reducible exact Below.refl _ _ | with_reducible refine Below.setCell ?_ (by first | omega | (simp [go_sem]; omega) | simp [go_sem]) _ | with_reducible refine Below.alloc ?_ (by first | omega | (simp [go_sem]; omega) | simp [go_sem]) _ | with_reducible refine below_grow ?_ (by first | omega | (simp [go_sem]; omega) | simp [go_sem]) _ _ | with_reducible refine Below.drew ?_)
      · first | omega | (simp [go_sem]; omega) | simp [go_sem]
    have S4 : w.heap.size ≤ w4.heap.size := H4.size
    have s4_0 : w.heap.size < w4.heap.size := Nat.lt_of_lt_of_le (by first | omega | (simp [go_sem]; omega) | simp [go_sem]) hb.size
    have k4_0 := fun o => hb.cell (p := ⟨w.heap.size, o, none⟩) (by first | omega | (simp [go_sem]; omega) | simp [go_sem])
    have f4_0 := fun o => hb.frozen (p := ⟨w.heap.size, o, none⟩) (by first | omega | (simp [go_sem]; omega) | simp [go_sem])
    have s4_1 : w2.heap.size < w4.heap.size := Nat.lt_of_lt_of_le (by first | omega | (simp [go_sem]; omega) | simp [go_sem]) hb.size
    have k4_1 := fun o => hb.cell (p := ⟨w2.heap.size, o, none⟩) (by first | omega | (simp [go_sem]; omega) | simp [go_sem])
    have f4_1 := fun o => hb.frozen (p := ⟨w2.heap.size, o, none⟩) (by first | omega | (simp [go_sem]; omega) | simp [go_sem])
    clear hb
    clear c1 c2 c3 c4 C5 C6
    go_wp2_with fail
    rw [rounds_succ]
    go_wp2_with fail
    (with_reducible refine (c7.out _).mono ?_)
    rintro e w5 ⟨rfl, hb⟩
    have H5 : Below w.heap.size w w5 := by
      refine Below.trans ?_ (hb.mono ?_)
      · repeat (first | with_reducible assumption | with_reducible exact Below.refl _ _ | with_reducible refine Below.setCell ?_ (by first | omega | (simp [go_sem]; omega) | simp [go_sem]) _ | with_reducible refine Below.alloc ?_ (by first | omega | (simp [go_sem]; omega) | simp [go_sem]) _ | with_reducible refine below_grow ?_ (by first | omega | (simp [go_sem]; omega) | simp [go_sem]) _ _ | with_reducible refine Below.drew ?_)
      · first | omega | (simp [go_sem]; omega) | simp [go_sem]
    have S5 : w.heap.size ≤ w5.heap.size := H5.size
    have s5_0 : w.heap.size < w5.heap.size := Nat.lt_of_lt_of_le (by first | omega | (simp [go_sem]; omega) | simp [go_sem]) hb.size
    have k5_0 := fun o => hb.cell (p := ⟨w.heap.size, o, none⟩) (by first | omega | (simp [go_sem]; omega) | simp [go_sem])
    have f5_0 := fun o => hb.frozen (p := ⟨w.heap.size, o, none⟩) (by first | omega | (simp [go_sem]; omega) | simp [go_sem])
    have s5_1 : w2.heap.size < w5.heap.size := Nat.lt_of_lt_of_le (by first | omega | (simp [go_sem]; omega) | simp [go_sem]) hb.size
    have k5_1 := fun o => hb.cell (p := ⟨w2.heap.size, o, none⟩) (by first | omega | (simp [go_sem]; omega) | simp [go_sem])
    have f5_1 := fun o => hb.frozen (p := ⟨w2.heap.size, o, none⟩) (by first | omega | (simp [go_sem]; omega) | simp [go_sem])
    clear hb
    go_wp2_with fail
    refine bodyPost_ret (v := .agg #[.int .i64 (-m), .slice none 0 0]) (by simp (maxDischargeDepth := 4) [*, results, Tryz.results101, go_sem]) rfl ⟨rfl, ?_⟩
    repeat (first | with_reducible assumption | with_reducible exact Below.refl _ _ | with_reducible refine Below.setCell ?_ (by first | omega | (simp [go_sem]; omega) | simp [go_sem]) _ | with_reducible refine Below.alloc ?_ (by first | omega | (simp [go_sem]; omega) | simp [go_sem]) _ | with_reducible refine below_grow ?_ (by first | omega | (simp [go_sem]; omega) | simp [go_sem]) _ _ | with_reducible refine Below.drew ?_)

theorem nReadN (m : Nat) (hm : m < 1000000000000000000) (w : World) : Calls Tryz.prog 101 #[.string ⟨(Lib.decDigits m).toArray⟩] w fun e w' => e = .returned (.agg #[.int .i64 m, .slice none 0 0]) ∧ Below w.heap.size w w' :=
  nReadAny (Lib.decDigits m) (Lib.decDigits m) m false (pre_dec m) (trim_dec m) (dec_len (k := 18) (by decide) hm) (dec_ne m) (atoiAll_dec m hm) hm w

/-- The text of a number of up to 18 digits is read as this number. -/
theorem nRead (n : Int) (hn : -1000000000000000000 < n ∧ n < 1000000000000000000) (w : World) : Calls Tryz.prog 101 #[.string ⟨(Lib.itoa n).toArray⟩] w fun e w' => e = .returned (.agg #[.int .i64 n, .slice none 0 0]) ∧ Below w.heap.size w w' := by
  by_cases h : n < 0
  · obtain ⟨m, rfl⟩ : ∃ m : Nat, n = -(m : Int) := ⟨n.natAbs, by omega⟩
    rw [itoa_neg m (by omega)]
    exact nReadAny (45 :: Lib.decDigits m) (Lib.decDigits m) m true (pre_neg _) (trim_neg _) (dec_len (k := 18) (by decide) (by show m < 1000000000000000000; omega)) (dec_ne m) (atoiAll_dec m (by omega)) (by omega) w
  · obtain ⟨m, rfl⟩ := Int.eq_ofNat_of_zero_le (Int.not_lt.1 h)
    rw [itoa_nat]
    exact nReadN m (by omega) w

theorem sCut (l : List UInt8) (hl : l.length < 1000) {w0 : World} (hG : Glob w0) (w : World) (hb : Below w0.heap.size w0 w) : Calls Tryz.prog 98 #[.string ⟨(l).toArray⟩, .string ⟨#[47]⟩] w fun e w' => e = .returned (.tuple #[.string ⟨(Lib.cut l [47]).1.toArray⟩, .string ⟨(Lib.cut l [47]).2.1.toArray⟩, .bool (Lib.cut l [47]).2.2]) ∧ Below w.heap.size w w' := by
  replace hG := hG.keep hb
  clear hb
  obtain ⟨⟨m, hm⟩, _⟩ := hG
  refine (Tryz.strings_Cut ⟨l.toArray⟩ ⟨#[47]⟩ m w (by show l.toArray.size < _; simp; omega) hm).mono ?_
  rintro e w' ⟨rfl, n, rfl⟩
  exact ⟨rfl, below_drewN n⟩

theorem sCut1 (n : Int) (hn : R63 n) {w0 : World} (hG : Glob w0) (w : World) (hb : Below w0.heap.size w0 w) : Calls Tryz.prog 98 #[.string ⟨(Lib.itoa n).toArray⟩, .string ⟨#[47]⟩] w fun e w' => e = .returned (.tuple #[.string ⟨(Lib.itoa n).toArray⟩, .string ⟨#[]⟩, .bool false]) ∧ Below w.heap.size w w' := by
  replace hG := hG.keep hb
  clear hb
  have l1 := itoa_len n hn
  have := sCut (Lib.itoa n) (by omega) hG w (Below.refl _ _)
  rwa [cut_none _ (itoa_noslash n)] at this
theorem sCut2 (n d : Int) (hn : R63 n) (hd : R63 d) {w0 : World} (hG : Glob w0) (w : World) (hb : Below w0.heap.size w0 w) : Calls Tryz.prog 98 #[.string ⟨(Lib.itoa n ++ 47 :: Lib.itoa d).toArray⟩, .string ⟨#[47]⟩] w fun e w' => e = .returned (.tuple #[.string ⟨(Lib.itoa n).toArray⟩, .string ⟨(Lib.itoa d).toArray⟩, .bool true]) ∧ Below w.heap.size w w' := by
  replace hG := hG.keep hb
  clear hb
  have l1 := itoa_len n hn
  have l2 := itoa_len d hd
  have := sCut (Lib.itoa n ++ 47 :: Lib.itoa d) (by simp; omega) hG w (Below.refl _ _)
  rwa [cut_at _ _ (itoa_noslash n)] at this

/-- The text of a fraction in lowest terms is read as this fraction. -/
theorem fFrom (n d : Int) (hn : -1000000000000000000 < n ∧ n < 1000000000000000000) (hd : 1 ≤ d ∧ d < 1000000000000000000) {w0 : World} (hG : Glob w0) (w : World) (hb : Below w0.heap.size w0 w) : Calls Tryz.prog 69 #[.string ⟨(rtx n d).toArray⟩] w fun e w' => e = .returned (.agg #[.int .i64 n, .slice none 0 0, .int .i64 d, .slice none 0 0]) ∧ Below w.heap.size w w' := by
  replace hG := hG.keep hb
  clear hb
  have c2 := Lib.hid (fun w => nRead n hn w)
  have c3 := Lib.hid (fun w => nRead d (by omega) w)
  have hn1 : R63 n := by omega
  have hd1 : R63 d := by omega
  by_cases h1 : d = 1
  · subst h1
    rw [rtx_one]
    clear hn hd c3
    go_enter Tryz.func69, Tryz.ntmps69
    go_wp2_with fail
    (with_reducible refine (sCut1 n hn1 hG _ ?_).mono ?_)
    · repeat (first | with_reducible assumption | with_reducible exact Below.refl _ _ | with_reducible refine Below.setCell ?_ (by first | omega | (simp [go_sem]; omega) | simp [go_sem]) _ | with_reducible refine Below.alloc ?_ (by first | omega | (simp [go_sem]; omega) | simp [go_sem]) _ | with_reducible refine below_grow ?_ (by first | omega | (simp [go_sem]; omega) | simp [go_sem]) _ _ | with_reducible refine Below.drew ?_)
    rintro e w1 ⟨rfl, hb⟩
    have H1 : Below w.heap.size w w1 := by
      refine Below.trans ?_ (hb.mono ?_)
      · repeat (first | with_reducible assumption | with_reducible exact Below.refl _ _ | with_reducible refine Below.setCell ?_ (by first | omega | (simp [go_sem]; omega) | simp [go_sem]) _ | with_reducible refine Below.alloc ?_ (by first | omega | (simp [go_sem]; omega) | simp [go_sem]) _ | with_reducible refine below_grow ?_ (by first | omega | (simp [go_sem]; omega) | simp [go_sem]) _ _ | with_reducible refine Below.drew ?_)
      · first | omega | (simp [go_sem]; omega) | simp [go_sem]
    have S1 : w.heap.size ≤ w1.heap.size := H1.size
    have s1_0 : w.heap.size < w1.heap.size := Nat.lt_of_lt_of_le (by first | omega | (simp [go_sem]; omega) | simp [go_sem]) hb.size
    have k1_0 := fun o => hb.cell (p := ⟨w.heap.size, o, none⟩) (by first | omega | (simp [go_sem]; omega) | simp [go_sem])
    have f1_0 := fun o => hb.frozen (p := ⟨w.heap.size, o, none⟩) (by first | omega | (simp [go_sem]; omega) | simp [go_sem])
    clear hb
    go_wp2_with fail
    (with_reducible refine (c2.out _).mono ?_)
    rintro e w2 ⟨rfl, hb⟩
    have H2 : Below w.heap.size w w2 := by
      refine Below.trans ?_ (hb.mono ?_)
      · repeat (first | with_reducible assumption | with_reducible exact Below.refl _ _ | with_reducible refine Below.setCell ?_ (by first | omega | (simp [go_sem]; omega) | simp [go_sem]) _ | with_reducible refine Below.alloc ?_ (by first | omega | (simp [go_sem]; omega) | simp [go_sem]) _ | with_reducible refine below_grow ?_ (by first | omega | (simp [go_sem]; omega) | simp [go_sem]) _ _ | with_reducible refine Below.drew ?_)
      · first | omega | (simp [go_sem]; omega) | simp [go_sem]
    have S2 : w.heap.size ≤ w2.heap.size := H2.size
    have s2_0 : w.heap.size < w2.heap.size := Nat.lt_of_lt_of_le (by first | omega | (simp [go_sem]; omega) | simp [go_sem]) hb.size
    have k2_0 := fun o => hb.cell (p := ⟨w.heap.size, o, none⟩) (by first | omega | (simp [go_sem]; omega) | simp [go_sem])
    have f2_0 := fun o => hb.frozen (p := ⟨w.heap.size, o, none⟩) (by first | omega | (simp [go_sem]; omega) | simp [go_sem])
    clear hb
    go_wp2_with fail
    (with_reducible refine (fWhole n _).mono ?_)
    rintro e w3 ⟨rfl, hb⟩
    have H3 : Below w.heap.size w w3 := by
      refine Below.trans ?_ (hb.mono ?_)
      · repeat (first | with_reducible assumption | with_reducible exact Below.refl _ _ | with_reducible refine Below.setCell ?_ (by first | omega | (simp [go_sem]; omega) | simp [go_sem]) _ | with_reducible refine Below.alloc ?_ (by first | omega | (simp [go_sem]; omega) | simp [go_sem]) _ | with_reducible refine below_grow ?_ (by first | omega | (simp [go_sem]; omega) | simp [go_sem]) _ _ | with_reducible refine Below.drew ?_)
      · first | omega | (simp [go_sem]; omega) | simp [go_sem]
    have S3 : w.heap.size ≤ w3.heap.size := H3.size
    have s3_0 : w.heap.size < w3.heap.size := Nat.lt_of_lt_of_le (by first | omega | (simp [go_sem]; omega) | simp [go_sem]) hb.size
    have k3_0 := fun o => hb.cell (p := ⟨w.heap.size, o, none⟩) (by first | omega | (simp [go_sem]; omega) | simp [go_sem])
    have f3_0 := fun o => hb.frozen (p := ⟨w.heap.size, o, none⟩) (by first | omega | (simp [go_sem]; omega) | simp [go_sem])
    clear hb
    go_wp2_with fail
    refine bodyPost_ret (v := .agg #[.int .i64 n, .slice none 0 0, .int .i64 1, .slice none 0 0]) (by simp (maxDischargeDepth := 4) [*, results, Tryz.results69, go_sem]) rfl ⟨rfl, ?_⟩
    repeat (first | with_reducible assumption | with_reducible exact Below.refl _ _ | with_reducible refine Below.setCell ?_ (by first | omega | (simp [go_sem]; omega) | simp [go_sem]) _ | with_reducible refine Below.alloc ?_ (by first | omega | (simp [go_sem]; omega) | simp [go_sem]) _ | with_reducible refine below_grow ?_ (by first | omega | (simp [go_sem]; omega) | simp [go_sem]) _ _ | with_reducible refine Below.drew ?_)
  · rw [rtx, if_neg h1]
    clear hn hd h1
    go_enter Tryz.func69, Tryz.ntmps69
    go_wp2_with fail
    (with_reducible refine (sCut2 n d hn1 hd1 hG _ ?_).mono ?_)
    · repeat (first | with_reducible assumption | with_reducible exact Below.refl _ _ | with_reducible refine Below.setCell ?_ (by first | omega | (simp [go_sem]; omega) | simp [go_sem]) _ | with_reducible refine Below.alloc ?_ (by first | omega | (simp [go_sem]; omega) | simp [go_sem]) _ | with_reducible refine below_grow ?_ (by first | omega | (simp [go_sem]; omega) | simp [go_sem]) _ _ | with_reducible refine Below.drew ?_)
    rintro e w1 ⟨rfl, hb⟩
    have H1 : Below w.heap.size w w1 := by
      refine Below.trans ?_ (hb.mono ?_)
      · repeat (first | with_reducible assumption | with_reducible exact Below.refl _ _ | with_reducible refine Below.setCell ?_ (by first | omega | (simp [go_sem]; omega) | simp [go_sem]) _ | with_reducible refine Below.alloc ?_ (by first | omega | (simp [go_sem]; omega) | simp [go_sem]) _ | with_reducible refine below_grow ?_ (by first | omega | (simp [go_sem]; omega) | simp [go_sem]) _ _ | with_reducible refine Below.drew ?_)
      · first | omega | (simp [go_sem]; omega) | simp [go_sem]
    have S1 : w.heap.size ≤ w1.heap.size := H1.size
    have s1_0 : w.heap.size < w1.heap.size := Nat.lt_of_lt_of_le (by first | omega | (simp [go_sem]; omega) | simp [go_sem]) hb.size
    have k1_0 := fun o => hb.cell (p := ⟨w.heap.size, o, none⟩) (by first | omega | (simp [go_sem]; omega) | simp [go_sem])
    have f1_0 := fun o => hb.frozen (p := ⟨w.heap.size, o, none⟩) (by first | omega | (simp [go_sem]; omega) | simp [go_sem])
    clear hb
    go_wp2_with fail
    (with_reducible refine (c2.out _).mono ?_)
    rintro e w2 ⟨rfl, hb⟩
    have H2 : Below w.heap.size w w2 := by
      refine Below.trans ?_ (hb.mono ?_)
      · repeat (first | with_reducible assumption | with_reducible exact Below.refl _ _ | with_reducible refine Below.setCell ?_ (by first | omega | (simp [go_sem]; omega) | simp [go_sem]) _ | with_reducible refine Below.alloc ?_ (by first | omega | (simp [go_sem]; omega) | simp [go_sem]) _ | with_reducible refine below_grow ?_ (by first | omega | (simp [go_sem]; omega) | simp [go_sem]) _ _ | with_reducible refine Below.drew ?_)
      · first | omega | (simp [go_sem]; omega) | simp [go_sem]
    have S2 : w.heap.size ≤ w2.heap.size := H2.size
    have s2_0 : w.heap.size < w2.heap.size := Nat.lt_of_lt_of_le (by first | omega | (simp [go_sem]; omega) | simp [go_sem]) hb.size
    have k2_0 := fun o => hb.cell (p := ⟨w.heap.size, o, none⟩) (by first | omega | (simp [go_sem]; omega) | simp [go_sem])
    have f2_0 := fun o => hb.frozen (p := ⟨w.heap.size, o, none⟩) (by first | omega | (simp [go_sem]; omega) | simp [go_sem])
    clear hb
    go_wp2_with fail
    (with_reducible refine (c3.out _).mono ?_)
    rintro e w3 ⟨rfl, hb⟩
    have H3 : Below w.heap.size w w3 := by
      refine Below.trans ?_ (hb.mono ?_)
      · repeat (first | with_reducible assumption | with_reducible exact Below.refl _ _ | with_reducible refine Below.setCell ?_ (by first | omega | (simp [go_sem]; omega) | simp [go_sem]) _ | with_reducible refine Below.alloc ?_ (by first | omega | (simp [go_sem]; omega) | simp [go_sem]) _ | with_reducible refine below_grow ?_ (by first | omega | (simp [go_sem]; omega) | simp [go_sem]) _ _ | with_reducible refine Below.drew ?_)
      · first | omega | (simp [go_sem]; omega) | simp [go_sem]
    have S3 : w.heap.size ≤ w3.heap.size := H3.size
    have s3_0 : w.heap.size < w3.heap.size := Nat.lt_of_lt_of_le (by first | omega | (simp [go_sem]; omega) | simp [go_sem]) hb.size
    have k3_0 := fun o => hb.cell (p := ⟨w.heap.size, o, none⟩) (by first | omega | (simp [go_sem]; omega) | simp [go_sem])
    have f3_0 := fun o => hb.frozen (p := ⟨w.heap.size, o, none⟩) (by first | omega | (simp [go_sem]; omega) | simp [go_sem])
    clear hb
    clear c2 c3
    go_wp2_with fail
    refine bodyPost_ret (v := .agg #[.int .i64 n, .slice none 0 0, .int .i64 d, .slice none 0 0]) (by simp (maxDischargeDepth := 4) [*, results, Tryz.results69, go_sem]) rfl ⟨rfl, ?_⟩
    repeat (first | with_reducible assumption | with_reducible exact Below.refl _ _ | with_reducible refine Below.setCell ?_ (by first | omega | (simp [go_sem]; omega) | simp [go_sem]) _ | with_reducible refine Below.alloc ?_ (by first | omega | (simp [go_sem]; omega) | simp [go_sem]) _ | with_reducible refine below_grow ?_ (by first | omega | (simp [go_sem]; omega) | simp [go_sem]) _ _ | with_reducible refine Below.drew ?_)
end Go.Proofs.YtgdlehoglpiifaaGreatDoor
