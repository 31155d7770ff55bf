/-
  
-/
import Derived.Lib.QuietBelow
namespace Go
open Go.Sort Go.RowKit
section
variable {P : Program} {md : Region.Mode}

/-- Every edge that binds, and every guard, points to an operation further ahead. -/
def Region.backB (md : Region.Mode) (l : List Oper) : Bool :=
  (List.range l.length).all fun j => match l[j]? with
    | some o => (o.after.all fun e => !Region.binds md e || decide (e.on < j)) && (match o.guard with | some g => decide (g.1 < j) | none => true)
    | none => true
/-- Operation number n waits for each one ahead of it, at once or through others. -/
def Region.lastB (md : Region.Mode) (l : List Oper) (n : Nat) : Bool :=
  decide (n < l.length) && (List.range n).all fun i => (List.range (n + 1)).any fun j => decide (i < j) && match l[j]? with
    | some o => o.after.any fun e => Region.binds md e && e.on == i
    | none => false
/-- What is listed has all listed that it waits for. -/
def ClosedL (md : Region.Mode) (l : List Oper) (L : Array Bool) : Prop := ∀ j o, l[j]? = some o → L.getD j false = true → ∀ e ∈ o.after, Region.binds md e = true → L.getD e.on false = true

theorem backB_edge {l : List Oper} (h : Region.backB md l = true) {j : Nat} {o : Oper} (ho : l[j]? = some o) {e : Edge} (he : e ∈ o.after) (hb : Region.binds md e = true) : e.on < j := by
  have hj : j < l.length := (List.getElem?_eq_some_iff.1 ho).1
  have h1 := List.all_eq_true.1 h j (List.mem_range.2 hj)
  simp only [ho, Bool.and_eq_true] at h1
  have h2 := Array.all_eq_true'.1 h1.1 e he
  simpa [hb] using h2
theorem backB_guard {l : List Oper} (h : Region.backB md l = true) {j : Nat} {o : Oper} (ho : l[j]? = some o) {g : Nat × Bool} (hg : o.guard = some g) : g.1 < j := by
  have hj : j < l.length := (List.getElem?_eq_some_iff.1 ho).1
  have h1 := List.all_eq_true.1 h j (List.mem_range.2 hj)
  simp only [ho, hg, Bool.and_eq_true] at h1
  simpa using h1.2
theorem lastB_edge {l : List Oper} {n : Nat} (h : Region.lastB md l n = true) : n < l.length ∧ ∀ i, i < n → ∃ j o, i < j ∧ j ≤ n ∧ l[j]? = some o ∧ ∃ e ∈ o.after, Region.binds md e = true ∧ e.on = i := by
  simp only [Region.lastB, Bool.and_eq_true, decide_eq_true_eq] at h
  refine ⟨h.1, fun i hi => ?_⟩
  have h1 := List.all_eq_true.1 h.2 i (List.mem_range.2 hi)
  obtain ⟨j, hj, h2⟩ := List.any_eq_true.1 h1
  simp only [Bool.and_eq_true, decide_eq_true_eq] at h2
  obtain ⟨hij, h3⟩ := h2
  have hjn := List.mem_range.1 hj
  cases ho : l[j]? with
  | none => simp only [ho] at h3; cases h3
  | some o =>
    simp only [ho] at h3
    obtain ⟨e, he, hb⟩ := Array.any_eq_true'.1 h3
    simp only [Bool.and_eq_true, beq_iff_eq] at hb
    exact ⟨j, o, hij, by omega, ho, e, he, hb.1, hb.2⟩

theorem getD_push_lt {L : Array Bool} {i : Nat} (b d : Bool) (h : i < L.size) : (L.push b).getD i d = L.getD i d := by
  simp only [Array.getD_eq_getD_getElem?]
  rw [Array.getElem?_push, if_neg (by omega)]
theorem getD_push_eq {L : Array Bool} (b d : Bool) : (L.push b).getD L.size d = b := by
  simp only [Array.getD_eq_getD_getElem?]
  rw [Array.getElem?_push, if_pos rfl]; rfl
theorem getD_push_gt {L : Array Bool} {i : Nat} (b d : Bool) (h : L.size < i) : (L.push b).getD i d = d := by
  simp only [Array.getD_eq_getD_getElem?]
  rw [Array.getElem?_push, if_neg (by omega), Array.getElem?_eq_none (by omega)]; rfl
theorem getD_lt_any {L : Array Bool} {i : Nat} (h : i < L.size) (d d' : Bool) : L.getD i d = L.getD i d' := by
  simp [Array.getD_eq_getD_getElem?, h]

theorem getD_set_in {L : Array Bool} {i : Nat} {d : Bool} (h : i < L.size) : (L.setIfInBounds i true).getD i d = true := by
  simp [h]

theorem take_at {l : List Oper} {n i : Nat} (h : i < n) : (l.take n)[i]? = l[i]? := by
  rw [List.getElem?_take, if_pos h]

/-- A region that is not through yet has an operation that may come up. -/
theorem ready_none {l : List Oper} {L : Array Bool} (hs : L.size = l.length) (hb : Region.backB md l = true) (h : Region.ready md l.toArray L = []) : ∀ i, i < l.length → L.getD i true = true := by
  intro i
  induction i using Nat.strongRecOn with
  | _ i ih =>
    intro hi
    cases hL : L.getD i true with
    | true => rfl
    | false =>
      have ho : l.toArray[i]? = some l[i] := by simp [hi]
      have hm : i ∈ Region.ready md l.toArray L := mem_ready.2 ⟨hL, l[i], ho, fun e he hbind => by
        have h1 := backB_edge hb (j := i) (o := l[i]) (by simp [hi]) he hbind
        rw [getD_lt_any (by omega) false true]
        exact ih e.on h1 (by omega)⟩
      rw [h] at hm
      cases hm

theorem yielded_take {l : List Oper} {n : Nat} {tmps : Array Value} {j : Nat} (h : j < n) : yielded (l.take n).toArray tmps j = yielded l.toArray tmps j := by
  simp only [yielded, List.getElem?_toArray, take_at h]

theorem wanted_take {l : List Oper} {n : Nat} {a : Act} {i : Nat} {o : Oper} (hb : Region.backB md l = true) (hi : i ≤ n) (ho : l[i]? = some o) :
    Region.wanted o (yielded (l.take n).toArray a.tmps) = Region.wanted o (yielded l.toArray a.tmps) := by
  unfold Region.wanted
  cases hg : o.guard with
  | none => rfl
  | some g =>
    have := backB_guard hb ho hg
    simp only []
    rw [yielded_take (by omega)]

/-- What the last operation meets. -/
def lastPost (P : Program) (l : List Oper) (n : Nat) (Q : Exit → Act → World → Prop) : Exit → Act → World → Prop
  | .normal, a, w => wpOp P l.toArray Q n (fun a w => Q .normal a w) a w
  | e, a, w => Q e a w

theorem wpOp_take {l : List Oper} {n i : Nat} {Q : Exit → Act → World → Prop} {K : Act → World → Prop} {a : Act} {w : World} (hb : Region.backB md l = true) (hi : i < n) (hl : l[i]?.isSome = true)
    (h : wpOp P (l.take n).toArray (lastPost P l n Q) i K a w) : wpOp P l.toArray Q i K a w := by
  obtain ⟨o, ho⟩ := Option.isSome_iff_exists.1 hl
  unfold wpOp at h ⊢
  simp only [List.getElem?_toArray, take_at hi, ho] at h ⊢
  rw [wanted_take hb (by omega) ho] at h
  split
  · rename_i hw
    simp only [hw, if_true] at h
    refine h.imp (fun h => ?_) (fun h => h)
    unfold Oper.wp at h ⊢
    generalize (execOp a.eval o).run P w = r at *
    cases r with
    | ok x w' =>
      cases x <;> simp only [Oper.upon] at h ⊢ <;>
        first
          | exact h
          | exact Calls.mono h (fun e w'' he => by cases e <;> exact he)
    | halt x w' => cases x <;> simp only [Oper.upon] at h ⊢ <;> exact h
  · rename_i hw
    simp only [hw] at h
    exact h

theorem wpOp_post {ops : Array Oper} {i : Nat} {Q Q' : Exit → Act → World → Prop} {K : Act → World → Prop} {a : Act} {w : World} (hq : ∀ e a w, Q e a w → Q' e a w)
    (h : wpOp P ops Q i K a w) : wpOp P ops Q' i K a w := by
  unfold wpOp at h ⊢
  cases ho : ops[i]? with
  | none => simp only [ho] at h; exact h
  | some o =>
    simp only [ho] at h
    show if Region.wanted o (yielded ops a.tmps) then _ else _
    split
    · rename_i hw
      simp only [hw, if_true] at h
      rcases h with h | ⟨h, a', w', h2⟩
      · refine .inl ?_
        unfold Oper.wp at h ⊢
        generalize (execOp a.eval o).run P w = r at *
        cases r with
        | ok x w' =>
          cases x <;> simp only [Oper.upon] at h ⊢ <;>
            first
              | exact h
              | exact Calls.mono h (fun e w'' he => by cases e <;> first | exact he | exact hq _ _ _ he | (obtain ⟨a', w', he⟩ := he; exact ⟨a', w', hq _ _ _ he⟩))
        | halt x w' => cases x <;> simp only [Oper.upon] at h ⊢ <;> first | exact h | exact hq _ _ _ h
      · exact .inr ⟨h, a', w', hq _ _ _ h2⟩
    · rename_i hw
      simp only [hw] at h
      exact h

theorem wpAny_mono {ops : Array Oper} {Q Q' : Exit → Act → World → Prop} (hq : ∀ e a w, Q e a w → Q' e a w) :
    ∀ (f : Nat) (L : Array Bool) (a : Act) (w : World), wpAny P md ops Q f L a w → wpAny P md ops Q' f L a w
  | 0, _, _, _, h => ⟨h.1, hq _ _ _ h.2⟩
  | f + 1, _, _, _, h => ⟨fun h0 => hq _ _ _ (h.1 h0), fun i hi => wpOp_post hq (wpOp_mono (fun a' w' h' => wpAny_mono hq f _ a' w' h') (h.2 i hi))⟩

theorem wpAny_last {l : List Oper} {n : Nat} {Q : Exit → Act → World → Prop} (hn : l.length = n + 1) (hb : Region.backB md l = true) (hl : Region.lastB md l n = true) :
    ∀ (f : Nat) (L : Array Bool) (a : Act) (w : World), L.size = n → ClosedL md (l.take n) L →
      wpAny P md (l.take n).toArray (lastPost P l n Q) f L a w → wpAny P md l.toArray Q (f + 1) (L.push false) a w := by
  have htl : (l.take n).length = n := by simp; omega
  have hb' : Region.backB md (l.take n) = true := by
    refine List.all_eq_true.2 fun j hj => ?_
    rw [List.mem_range, htl] at hj
    have h1 := List.all_eq_true.1 hb j (List.mem_range.2 (by omega))
    rw [take_at hj]; exact h1
  obtain ⟨hnl, hall⟩ := lastB_edge hl
  obtain ⟨ol, hol⟩ : ∃ o, l[n]? = some o := ⟨l[n], by simp [hnl]⟩
  -- all listed but the last
  have last_turn : ∀ (f : Nat) (L : Array Bool) (a : Act) (w : World), L.size = n → (∀ i, i < n → L.getD i true = true) → wpOp P l.toArray Q n (fun a w => Q .normal a w) a w → wpAny P md l.toArray Q (f + 1) (L.push false) a w := by
    intro f L a w hs hd h
    have hready : ∀ i ∈ Region.ready md l.toArray (L.push false), i = n := by
      intro i hi
      obtain ⟨h1, o, ho, _⟩ := mem_ready.1 hi
      have hil : i < l.length := (List.getElem?_eq_some_iff.1 (by simpa using ho)).1
      rcases Nat.lt_or_ge i n with hlt | hge
      · rw [getD_push_lt _ _ (by omega), hd i hlt] at h1; cases h1
      · omega
    have hn' : n ∈ Region.ready md l.toArray (L.push false) := by
      refine mem_ready.2 ⟨by rw [← hs, getD_push_eq], ol, by simpa using hol, fun e he hbind => ?_⟩
      have h1 := backB_edge hb hol he hbind
      rw [getD_push_lt _ _ (by omega), getD_lt_any (by omega) false true]; exact hd _ h1
    refine ⟨fun h0 => (by rw [h0] at hn'; cases hn'), fun i hi => ?_⟩
    obtain rfl := hready i hi
    refine wpOp_mono (fun a' w' hq => ?_) h
    have hnone : Region.ready md l.toArray ((L.push false).setIfInBounds i true) = [] := by
      refine List.eq_nil_iff_forall_not_mem.2 fun j hj => ?_
      obtain ⟨h1, o, ho, _⟩ := mem_ready.1 hj
      have hjl : j < l.length := (List.getElem?_eq_some_iff.1 (by simpa using ho)).1
      by_cases hji : i = j
      · subst hji
        rw [getD_lt_any (by simp; omega) true false, getD_set_in (by simp; omega)] at h1; cases h1
      · rw [getD_set_ne true hji, getD_push_lt _ _ (by omega), hd j (by omega)] at h1; cases h1
    cases f with
    | zero => exact ⟨hnone, hq⟩
    | succ f => exact ⟨fun _ => hq, fun j hj => by rw [hnone] at hj; cases hj⟩
  intro f
  induction f with
  | zero =>
    intro L a w hs _ h
    exact last_turn 0 L a w hs (fun i hi => ready_none (by omega) hb' h.1 i (by omega)) h.2
  | succ f ih =>
    intro L a w hs hcl h
    by_cases hr : Region.ready md (l.take n).toArray L = []
    · exact last_turn (f + 1) L a w hs (fun i hi => ready_none (by omega) hb' hr i (by omega)) (h.1 hr)
    · obtain ⟨i0, hi0⟩ := List.exists_mem_of_ne_nil _ hr
      have lift : ∀ i, i ∈ Region.ready md (l.take n).toArray L → i < n := by
        intro i hi
        obtain ⟨_, o, ho, _⟩ := mem_ready.1 hi
        have := (List.getElem?_eq_some_iff.1 (by simpa using ho)).1
        omega
      have back : ∀ i, i ∈ Region.ready md l.toArray (L.push false) → i ∈ Region.ready md (l.take n).toArray L := by
        intro i hi
        obtain ⟨h1, o, ho, he⟩ := mem_ready.1 hi
        have hol' : l[i]? = some o := by simpa using ho
        have hil : i < l.length := (List.getElem?_eq_some_iff.1 hol').1
        rcases Nat.lt_or_ge i n with hlt | hge
        · rw [getD_push_lt _ _ (by omega)] at h1
          refine mem_ready.2 ⟨h1, o, by simp [take_at hlt, hol'], fun e hm hbind => ?_⟩
          have := he e hm hbind
          have h2 := backB_edge hb hol' hm hbind
          rwa [getD_push_lt _ _ (by omega)] at this
        · obtain rfl : i = n := by omega
          obtain rfl : o = ol := Option.some.inj (hol'.symm.trans hol)
          obtain ⟨hu, _⟩ := mem_ready.1 hi0
          have hdone : ∀ d k, k < i → i - k = d → L.getD k false = true := by
            intro d
            induction d using Nat.strongRecOn with
            | _ d ihd =>
              intro k hk hd
              obtain ⟨j, oj, hkj, hji, hoj, e, hm, hbind, hon⟩ := hall k hk
              by_cases hjn : j = i
              · subst hjn
                obtain rfl : oj = o := Option.some.inj (hoj.symm.trans hol)
                have := he e hm hbind
                rwa [hon, getD_push_lt _ _ (by omega)] at this
              · have h4 := ihd (i - j) (by omega) j (by omega) rfl
                have h5 := hcl j oj (by rw [take_at (by omega)]; exact hoj) h4 e hm hbind
                rwa [hon] at h5
          have h6 := hdone _ i0 (lift i0 hi0) rfl
          rw [getD_lt_any (by have := lift i0 hi0; omega) false true, hu] at h6
          cases h6
      have fwd : i0 ∈ Region.ready md l.toArray (L.push false) := by
        have hlt := lift i0 hi0
        obtain ⟨h1, o, ho, he⟩ := mem_ready.1 hi0
        have hol' : l[i0]? = some o := by simpa [take_at hlt] using ho
        refine mem_ready.2 ⟨by rw [getD_push_lt _ _ (by omega)]; exact h1, o, by simpa using hol', fun e hm hbind => ?_⟩
        have h2 := backB_edge hb hol' hm hbind
        rw [getD_push_lt _ _ (by omega)]; exact he e hm hbind
      refine ⟨fun h0 => (by rw [h0] at fwd; cases fwd), fun i hi => ?_⟩
      have hlt := lift i (back i hi)
      have h3 := h.2 i (back i hi)
      refine wpOp_take hb hlt (by simp; omega) (wpOp_mono (fun a' w' h4 => ?_) h3)
      have hcl' : ClosedL md (l.take n) (L.setIfInBounds i true) := by
        intro j o ho hLj e hm hbind
        obtain ⟨_, oi, hoi, hei⟩ := mem_ready.1 (back i hi)
        by_cases hij : i = j
        · subst hij
          obtain rfl : o = oi := Option.some.inj (ho.symm.trans (by simpa using hoi))
          exact getD_set_true (hei e hm hbind)
        · rw [getD_set_ne false hij] at hLj
          exact getD_set_true (hcl j o ho hLj e hm hbind)
      have h5 := ih (L.setIfInBounds i true) a' w' (by simp [hs]) hcl' h4
      have h6 : (L.push false).setIfInBounds i true = (L.setIfInBounds i true).push false := by
        have hi' : i < L.size := by omega
        apply Array.ext_getElem?
        intro k
        by_cases hk : i = k
        · subst hk
          rw [Array.getElem?_setIfInBounds_self_of_lt (by simp; omega), Array.getElem?_push, if_neg (by simp; omega), Array.getElem?_setIfInBounds_self_of_lt hi']
        · simp [Array.getElem?_setIfInBounds_ne hk, Array.getElem?_push]
      rw [h6]; exact h5

/-- What m operations at the end meet. -/
def tailPost (P : Program) (l : List Oper) (n : Nat) (Q : Exit → Act → World → Prop) : Exit → Act → World → Prop
  | .normal, a, w => wpList P l.toArray Q (l.drop n) a w
  | e, a, w => Q e a w

/-- The last m operations come up one behind the other, when all else is done. -/
def Region.tailB (md : Region.Mode) (l : List Oper) (n : Nat) : Bool :=
  Region.backB md l && decide (n ≤ l.length) && (List.range (l.length - n)).all fun d => Region.lastB md (l.take (n + d + 1)) (n + d)

theorem backB_take {l : List Oper} (n : Nat) (hb : Region.backB md l = true) : Region.backB md (l.take n) = true := by
  refine List.all_eq_true.2 fun j hj => ?_
  rw [List.mem_range, List.length_take] at hj
  have h1 := List.all_eq_true.1 hb j (List.mem_range.2 (by omega))
  rw [take_at (by omega)]; exact h1

theorem wpAny_tail {l : List Oper} {n : Nat} {Q : Exit → Act → World → Prop} (hB : Region.tailB md l n = true) :
    ∀ (d : Nat), n + d ≤ l.length → ∀ (a : Act) (w : World),
      wpAny P md (l.take n).toArray (tailPost P l n Q) n (Array.replicate n false) a w → wpAny P md (l.take (n + d)).toArray (tailPost P l (n + d) Q) (n + d) (Array.replicate (n + d) false) a w := by
  simp only [Region.tailB, Bool.and_eq_true] at hB
  obtain ⟨⟨hb, _⟩, hB⟩ := hB
  intro d
  induction d with
  | zero => intro _ a w h; exact h
  | succ d ih =>
    intro hd a w h
    have h1 := ih (by omega) a w h
    have hlast := List.all_eq_true.1 hB d (List.mem_range.2 (by omega))
    have htt : (l.take (n + d + 1)).take (n + d) = l.take (n + d) := by rw [List.take_take]; congr 1; omega
    have hlen : (l.take (n + d + 1)).length = n + d + 1 := by simp; omega
    have h2 : wpAny P md ((l.take (n + d + 1)).take (n + d)).toArray (lastPost P (l.take (n + d + 1)) (n + d) (tailPost P l (n + d + 1) Q)) (n + d) (Array.replicate (n + d) false) a w := by
      rw [htt]
      refine wpAny_mono ?_ _ _ _ _ h1
      intro e a w hq
      cases e <;> first | exact hq | skip
      have hlt : n + d < l.length := by omega
      have hdrop : l.drop (n + d) = l[n + d] :: l.drop (n + d + 1) := List.drop_eq_getElem_cons hlt
      have hq' : wpList P l.toArray Q (l.drop (n + d)) a w := hq
      rw [hdrop] at hq'
      have hat : (l.take (n + d + 1)).toArray[n + d]? = some l[n + d] := by simp [hlt]
      show wpOp P (l.take (n + d + 1)).toArray (tailPost P l (n + d + 1) Q) (n + d) _ a w
      unfold wpOp
      simp only [hat]
      rw [wanted_take (l := l) (n := n + d + 1) (i := n + d) (o := l[n + d]) hb (by omega) (by simp [hlt])]
      simp only [wpList] at hq'
      split
      · rename_i hw
        simp only [hw, if_true] at hq'
        refine hq'.imp (fun h => ?_) (fun h => h)
        unfold Oper.wp at h ⊢
        generalize (execOp a.eval l[n + d]).run P w = r at *
        cases r with
        | ok x w' =>
          cases x <;> simp only [Oper.upon] at h ⊢ <;>
            first
              | exact h
              | exact Calls.mono h (fun e w'' he => by cases e <;> exact he)
        | halt x w' => cases x <;> simp only [Oper.upon] at h ⊢ <;> exact h
      · rename_i hw
        simp only [hw] at hq'
        exact hq'
    have h3 := wpAny_last (n := n + d) hlen (backB_take _ hb) hlast _ _ a w (by simp) (fun j o _ hLj => by simp [Array.getElem?_replicate] at hLj; split at hLj <;> simp at hLj) h2
    have h4 : (Array.replicate (n + d) false).push false = Array.replicate (n + (d + 1)) false := by
      rw [← Array.replicate_succ]; rfl
    rw [h4] at h3
    exact h3

/-- A REGION THAT DRAWS ITS ORDER: the first n operations read, and make calls that lay new blocks alone; those behind them come up last, in the text's order. One walk of the text's order serves. -/
theorem wp_region_tail {id : Nat} {Q : Exit → Act → World → Prop} {a : Act} {w : World} {l : List Oper} (n : Nat) (hm : P.follows .mixedOrders = true) (hT : Region.tailB .any l n = true) (hB : Region.lexB .any (l.take n).toArray = true)
    (h : wpQuiet P (l.take n).toArray (fun w' => ∃ p : Regrown, w' = grow (redrawn w p.d) p.os) (fun a' => ∀ w', (∃ p : Regrown, w' = grow (redrawn w p.d) p.os) → wpList P l.toArray Q (l.drop n) a' w') (l.take n) a) : (Code.region id l.toArray true).wp P Q a w := by
  have hn : n ≤ l.length := by
    simp only [Region.tailB, Bool.and_eq_true, decide_eq_true_eq] at hT
    exact hT.1.2
  refine wp_region_any hm ?_
  simp only [Region.lexB, Bool.and_eq_true] at hB
  have h1 := wpAnyQ_lex (P := P) (C := fun w' => ∃ p : Regrown, w' = grow (redrawn w p.d) p.os) (md := .any) hB.1 (l.take n) 0 (Array.replicate (l.take n).toArray.size false) a (by simp) (by simpa using hB.2) h
  have hlen : (l.take n).length = n := by simp; omega
  have hsz : (l.take n).toArray.size = n := by simpa using hlen
  rw [hsz, hlen] at h1
  have h2 := wpAny_of_quiet (P := P) (Q' := tailPost P l n Q) (fun a' w' hw' hq => hq w' hw') n (Array.replicate n false) a { w with drawn := w.drawn + 1 } ⟨⟨w.drawn + 1, #[]⟩, by rw [grow_empty]; rfl⟩ h1
  have h3 := wpAny_tail hT (l.length - n) (by omega) a _ h2
  rw [show n + (l.length - n) = l.length by omega, List.take_length] at h3
  have h4 : l.toArray.size = l.length := by simp
  rw [h4]
  refine wpAny_mono ?_ _ _ _ _ h3
  intro e a w hq
  cases e <;> first | exact hq | skip
  have : wpList P l.toArray Q (l.drop l.length) a w := hq
  simpa [wpList] using this
end
end Go
