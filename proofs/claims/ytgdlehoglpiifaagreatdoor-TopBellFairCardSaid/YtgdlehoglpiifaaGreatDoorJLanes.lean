/-
  A region that draws its order, within a round of a range over a function: carried out as everywhere.
  Package track: the lanes of an oval, visited.
  Package track: the marked staggers of all lanes.
-/
import Derived.Test.YtgdlehoglpiifaaGreatDoorJNum
import Derived.RangeFuncBox
import Derived.RangeFuncLeaves
import Derived.RangeFuncNested
import Derived.Shelf.Abstract
import Derived.OwnWalkIn
import Derived.TacticsInMore
import Derived.LoopNIn
import Derived.LoopIn
import Derived.Maps.AppendAt
import Derived.Deep.RegionHeld3
import Derived.Test.YtgdlehoglpiifaaGreatDoorJTrack
import Derived.Test.YtgdlehoglpiifaaGreatDoorJRefK
namespace Go
open Go.Sort Go.RowKit
section
variable {P : Program} {md : Region.Mode} {n : Nat} {lb : Nat} {Q : Exit → Act → World → Prop}

def Oper.noDefer (o : Oper) : Bool := match o.op with | .defer _ => false | _ => true
theorem Oper.noDefer_ne {o : Oper} (h : o.noDefer = true) : ∀ c, o.op ≠ .defer c := by
  intro c hc; simp [Oper.noDefer, hc] at h

theorem rows_round {row : String} {args : Array Value} {w : World} {R : Value → World → Prop} (h : Rows P row args w R) : RowsIn (Fence.wide.inRound lb) n P row args w R :=
  fun c cs _ => let ⟨v, w', r, s⟩ := h c cs; ⟨v, w', r, stepsIn_wide.2 s⟩
theorem calls_round {f : FuncId} {args : Array Value} {w : World} {R : Ending → World → Prop} (h : Calls P f args w R) : CallsIn (Fence.wide.inRound lb) n P f args w R :=
  CallsIn.inRound lb (callsIn_wide.2 h)
theorem oper_round {o : Oper} {a : Act} {w : World} {K : Act → World → Prop} (hd : o.noDefer = true) (h : o.wp P a w K Q) : o.wpIn (Fence.wide.inRound lb) n P a w K Q := by
  refine ⟨fun _ _ => trivial, ?_⟩
  rw [Fence.inRound_round, Oper.semAt_some lb _ _ (Oper.noDefer_ne hd)]
  unfold Oper.wp at h
  generalize (execOp a.eval o).run P w = r at *
  cases r with
  | ok x w' =>
    cases x <;> simp only [Oper.upon, Oper.uponIn] at h ⊢ <;>
      first
        | exact h
        | exact ⟨fun h0 => (by cases h0), calls_round (Calls.mono h (fun e w'' he => by cases e <;> exact he))⟩
        | exact ⟨fun h0 => (by cases h0), rows_round h⟩
        | exact h.elim
  | halt x w' => cases x <;> simp only [Oper.upon, Oper.uponIn] at h ⊢ <;> exact h
theorem wpOp_round {ops : Array Oper} (hd : ops.toList.all Oper.noDefer = true) (hQ : ¬ LetsOut Q) {i : Nat} {K : Act → World → Prop} {a : Act} {w : World} (h : wpOp P ops Q i K a w) : wpOpIn (Fence.wide.inRound lb) n P ops Q i K a w := by
  unfold wpOp at h
  unfold wpOpIn
  cases ho : ops[i]? with
  | none => simp only [ho] at h; exact h
  | some o =>
    simp only [ho] at h ⊢
    have hdo : o.noDefer = true := List.all_eq_true.1 hd o (by
      have := Array.mem_of_getElem? ho
      simpa using this)
    split
    · rename_i hw
      simp only [hw, if_true] at h
      rcases h with h | ⟨_, h⟩
      · exact oper_round hdo h
      · exact absurd h hQ
    · rename_i hw
      simp only [hw] at h
      exact ⟨fun _ _ => trivial, h⟩
theorem wpAny_round {ops : Array Oper} (hd : ops.toList.all Oper.noDefer = true) (hQ : ¬ LetsOut Q) :
    ∀ (f : Nat) (L : Array Bool) (a : Act) (w : World), wpAny P md ops Q f L a w → wpAnyIn (Fence.wide.inRound lb) n P md ops Q f L a w
  | 0, _, _, _, h => h
  | f + 1, _, _, _, h => ⟨h.1, fun i hi => wpOp_round hd hQ (wpOp_mono (fun a' w' h' => wpAny_round hd hQ f _ a' w' h') (h.2 i hi))⟩

/-- The first n operations read, and make calls that lay new blocks alone; those behind them come up last, in the text's order. -/
theorem wpAny_region_tail {Q : Exit → Act → World → Prop} {a : Act} {w : World} {l : List Oper} (n : Nat) (hT : Region.tailB .any l n = true) (hB : Region.lexB .any (l.take n).toArray = true)
    (h : wpQuiet P (l.take n).toArray (fun w' => ∃ p : Regrown, w' = grow (redrawn w p.d) p.os) (fun a' => ∀ w', (∃ p : Regrown, w' = grow (redrawn w p.d) p.os) → wpList P l.toArray Q (l.drop n) a' w') (l.take n) a) : wpAny P .any l.toArray Q l.toArray.size (Array.replicate l.toArray.size false) a { w with drawn := w.drawn + 1 } := by
  have hn : n ≤ l.length := by
    simp only [Region.tailB, Bool.and_eq_true, decide_eq_true_eq] at hT
    exact hT.1.2
  simp only [Region.lexB, Bool.and_eq_true] at hB
  have h1 := wpAnyQ_lex (P := P) (C := fun w' => ∃ p : Regrown, w' = grow (redrawn w p.d) p.os) (md := .any) hB.1 (l.take n) 0 (Array.replicate (l.take n).toArray.size false) a (by simp) (by simpa using hB.2) h
  have hlen : (l.take n).length = n := by simp; omega
  have hsz : (l.take n).toArray.size = n := by simpa using hlen
  rw [hsz, hlen] at h1
  have h2 := wpAny_of_quiet (P := P) (Q' := tailPost P l n Q) (fun a' w' hw' hq => hq w' hw') n (Array.replicate n false) a { w with drawn := w.drawn + 1 } ⟨⟨w.drawn + 1, #[]⟩, by rw [grow_empty]; rfl⟩ h1
  have h3 := wpAny_tail hT (l.length - n) (by omega) a _ h2
  rw [show n + (l.length - n) = l.length by omega, List.take_length] at h3
  have h4 : l.toArray.size = l.length := by simp
  rw [h4]
  refine wpAny_mono ?_ _ _ _ _ h3
  intro e a w hq
  cases e <;> first | exact hq | skip
  have : wpList P l.toArray Q (l.drop l.length) a w := hq
  simpa [wpList] using this

/-- Where a region must come out: at its end. -/
def normalPost (K : Act → World → Prop) : Exit → Act → World → Prop
  | .normal, a, w => K a w
  | _, _, _ => False

theorem wpIn_region_tail {id : Nat} {a : Act} {w : World} {l : List Oper} (k : Nat) (hm : P.follows .mixedOrders = true) (hT : Region.tailB .any l k = true) (hB : Region.lexB .any (l.take k).toArray = true) (hd : l.all Oper.noDefer = true)
    (h : wpQuiet P (l.take k).toArray (fun w' => ∃ p : Regrown, w' = grow (redrawn w p.d) p.os) (fun a' => ∀ w', (∃ p : Regrown, w' = grow (redrawn w p.d) p.os) → wpList P l.toArray (normalPost (Q .normal)) (l.drop k) a' w') (l.take k) a) : (Code.region id l.toArray true).wpIn (Fence.wide.inRound lb) n P Q a w := by
  refine wpIn_mono (Q := normalPost (Q .normal)) (wpIn_region_any hm ?_) (fun e a w h => by cases e <;> first | exact h | exact h.elim)
  exact wpAny_round (by simpa using hd) (fun ⟨_, _, h⟩ => h) _ _ _ _ (wpAny_region_tail k hT hB h)

theorem tailPost_normal {l : List Oper} {k : Nat} {a : Act} {w : World} (h : wpList P l.toArray Q (l.drop k) a w) : tailPost P l k Q .normal a w := h
/-- A region whose first k operations are walked while S holds, and whose others come up last, in the text's order. -/
theorem wpIn_region_held {S : World → Prop} {id : Nat} {a : Act} {w : World} {l : List Oper} (k : Nat) (hm : P.follows .mixedOrders = true) (hT : Region.tailB .any l k = true) (hd : l.all Oper.noDefer = true) (hS : S w.drew)
    (h : S w.drew → wpAnyH P .any (l.take k).toArray (tailPost P l k (normalPost (Q .normal))) S k (Array.replicate k false) a w.drew) : (Code.region id l.toArray true).wpIn (Fence.wide.inRound lb) n P Q a w := by
  refine wpIn_mono (Q := normalPost (Q .normal)) (wpIn_region_any hm ?_) (fun e a w h => by cases e <;> first | exact h | exact h.elim)
  have hk : k ≤ l.length := by
    simp only [Region.tailB, Bool.and_eq_true, decide_eq_true_eq] at hT
    exact hT.1.2
  have h2 := wpAny_of_held _ _ _ _ (h hS)
  have h3 := wpAny_tail hT (l.length - k) (by omega) a _ h2
  rw [show k + (l.length - k) = l.length by omega, List.take_length] at h3
  have h4 : l.toArray.size = l.length := by simp
  rw [h4]
  refine wpAny_round (by simpa using hd) (fun ⟨_, _, h⟩ => h) _ _ _ _ (wpAny_mono ?_ _ _ _ _ h3)
  intro e a w hq
  cases e <;> first | exact hq | skip
  have : wpList P l.toArray (normalPost (Q .normal)) (l.drop l.length) a w := hq
  simpa [wpList] using this

/-- The same, outside a round. -/
theorem wp_region_heldT {S : World → Prop} {id : Nat} {a : Act} {w : World} {l : List Oper} (k : Nat) (hm : P.follows .mixedOrders = true) (hT : Region.tailB .any l k = true) (hS : S w.drew)
    (h : S w.drew → wpAnyH P .any (l.take k).toArray (tailPost P l k Q) S k (Array.replicate k false) a w.drew) : (Code.region id l.toArray true).wp P Q a w := by
  refine wp_region_any hm ?_
  have hk : k ≤ l.length := by
    simp only [Region.tailB, Bool.and_eq_true, decide_eq_true_eq] at hT
    exact hT.1.2
  have h2 := wpAny_of_held _ _ _ _ (h hS)
  have h3 := wpAny_tail hT (l.length - k) (by omega) a _ h2
  rw [show k + (l.length - k) = l.length by omega, List.take_length] at h3
  have h4 : l.toArray.size = l.length := by simp
  rw [h4]
  refine wpAny_mono ?_ _ _ _ _ h3
  intro e a w hq
  cases e <;> first | exact hq | skip
  have : wpList P l.toArray Q (l.drop l.length) a w := hq
  simpa [wpList] using this
end
end Go
namespace Go.Proofs.YtgdlehoglpiifaaGreatDoor
open Go.RowKit Go.Sort Go.Shelf
attribute [local go_sem] Oper.semAt_some

theorem grownBy_of_below {w w' : World} (h : Below w.heap.size w w') : w.grownBy w' none := by
  constructor <;> first | exact h.os | exact h.tape | exact h.output | exact h.size | exact fun k hk _ => h.block k hk | exact ⟨h.tape, h.output, h.size, fun k hk _ => h.block k hk⟩ | exact ⟨h.os, h.output, h.size, fun k hk _ => h.block k hk⟩ | exact ⟨h.tape, h.os, h.size, fun k hk _ => h.block k hk⟩
/-- A lane of an oval. -/
abbrev LaneOf (L : Int) := { k : Int // 1 ≤ k ∧ k ≤ L }
def encL (R W F T : Int) {L : Int} (x : LaneOf L) : Array Value := #[.int .i64 x.1, .int .i64 (rad R W F T x.1)]
/-- The first n lanes. -/
def firstLanes (n : Nat) : List Int := (List.range n).map (fun k : Nat => (k : Int) + 1)
theorem firstLanes_snoc (n : Nat) : firstLanes (n + 1) = firstLanes n ++ [(n : Int) + 1] := by simp [firstLanes, List.range_succ]
/-- All lanes have come; some have. -/
def AllLanes {L : Int} (ys : List (LaneOf L)) : Prop := ys.map (·.1) = firstLanes L.toNat
def SomeLanes {L : Int} (_ : List (LaneOf L)) : Prop := True
/-- The oval lies in a box. -/
def OvalBox (w : World) (b : Nat) (S R W F T L : Int) : Prop := w.heap[b]? = some (.cells #[.int .i64 S, .int .i64 R, .int .i64 W, .int .i64 F, .int .i64 T, .int .i64 L] 23 (0, 0))
theorem OvalBox.lt {w : World} {b : Nat} {S R W F T L : Int} (h : OvalBox w b S R W F T L) : b < w.heap.size := (Array.getElem?_eq_some_iff.1 h).1
theorem OvalBox.c0 {w : World} {b : Nat} {S R W F T L : Int} (h : OvalBox w b S R W F T L) : w.cell? ⟨b, 0, none⟩ = some (.int .i64 S) := by simp [World.cell?, show w.heap[b]? = _ from h]
theorem OvalBox.c1 {w : World} {b : Nat} {S R W F T L : Int} (h : OvalBox w b S R W F T L) : w.cell? ⟨b, 1, none⟩ = some (.int .i64 R) := by simp [World.cell?, show w.heap[b]? = _ from h]
theorem OvalBox.c2 {w : World} {b : Nat} {S R W F T L : Int} (h : OvalBox w b S R W F T L) : w.cell? ⟨b, 2, none⟩ = some (.int .i64 W) := by simp [World.cell?, show w.heap[b]? = _ from h]
theorem OvalBox.c3 {w : World} {b : Nat} {S R W F T L : Int} (h : OvalBox w b S R W F T L) : w.cell? ⟨b, 3, none⟩ = some (.int .i64 F) := by simp [World.cell?, show w.heap[b]? = _ from h]
theorem OvalBox.c4 {w : World} {b : Nat} {S R W F T L : Int} (h : OvalBox w b S R W F T L) : w.cell? ⟨b, 4, none⟩ = some (.int .i64 T) := by simp [World.cell?, show w.heap[b]? = _ from h]
theorem OvalBox.c5 {w : World} {b : Nat} {S R W F T L : Int} (h : OvalBox w b S R W F T L) : w.cell? ⟨b, 5, none⟩ = some (.int .i64 L) := by simp [World.cell?, show w.heap[b]? = _ from h]
/-- A block lies as it lay. -/
def KeepsBlock (b : Nat) (w w' : World) : Prop := w'.heap[b]? = w.heap[b]?

theorem lanes_in (n : Nat) {S R W F T L : Int} (o : Oval S R W F T L) (l Bn : Nat) (J Jx : List (LaneOf L) → World → Prop) (w0 : World) (hJ : AbidesFrom w0.heap.size J)
    (hY : ∀ pre x W1, J pre W1 → pre.length < L.toNat → YieldAt Fence.wide (n - 1) Tryz.prog l (encL R W F T x) W1 fun e W' =>
      (e = .returned (.bool true) ∧ J (pre ++ [x]) W' ∧ KeepsBlock Bn W1 W') ∨ (e = .returned (.bool false) ∧ Jx (pre ++ [x]) W'))
    (hBn : OvalBox w0 Bn S R W F T L) (h0 : J [] w0) :
    CallsIn Fence.wide n Tryz.prog 84 #[.func (.yield l) #[] #[], .pointer (some ⟨Bn, 0, none⟩)] w0 fun e W' => (∃ v, e = .returned v) ∧
      ((∃ ys : List (LaneOf L), AllLanes ys ∧ J ys W') ∨ (∃ pre : List (LaneOf L), SomeLanes pre ∧ Jx pre W')) := by
  have hl := o.l
  refine callsIn_of_wp Tryz.func84 rfl trivial ?_ rfl
  simp only [Tryz.ntmps84, List.size_toArray, List.length_cons, List.length_nil, Nat.reduceAdd, Nat.reduceSub, Array.replicate_succ, Array.replicate_zero, List.push_toArray, List.append_toArray, List.nil_append, List.cons_append]
  gi_wp2_with fail
  gi_loopw [3] (fun p wr => ∃ pre : List (LaneOf L), p = .int .i64 ((pre.length : Int) + 1) ∧ pre.map (·.1) = firstLanes pre.length ∧ (pre.length : Int) ≤ L ∧ J pre wr ∧ OvalBox wr Bn S R W F T L)
    (fun p _ => (L + 1 - intOf p).toNat)
  case atStart =>
    exact ⟨[], rfl, rfl, by simp; omega, h0, hBn⟩
  case round =>
    obtain ⟨pre, rfl, hx, hle, hJs, hbox⟩ := hrel
    have hc5 := hbox.c5
    have hc0 := hbox.c0
    have hc1 := hbox.c1
    have hc2 := hbox.c2
    have hc3 := hbox.c3
    have hc4 := hbox.c4
    generalize hm : (pre.length : Int) + 1 = m at *
    have hlen : (pre.length : Int) = m - 1 := by omega
    by_cases hlt : m ≤ L
    · have c1 := Lib.hid (fun w => trRadius S R W F T L o m ⟨by omega, hlt⟩ w)
      gi_wp2_with fail
      refine ⟨trivial, fun h => (by cases h), (callsIn_wide.2 (c1.out _)).mono ?_⟩
      rintro e w1 ⟨rfl, hb⟩
      obtain ⟨fn, tmps, assign, body, hy, hR⟩ := hY pre ⟨m, by omega, hlt⟩ w1 (hJ pre wr w1 none hJs (grownBy_of_below hb) (fun r hr => by cases hr)) (by omega)
      dsimp only [encL] at hy
      have hbox1 : OvalBox w1 Bn S R W F T L := (hb.block Bn hbox.lt).trans hbox
      gi_wp2_with fail
      refine ⟨fun h => (by cases h), hR.mono ?_⟩
      rintro e W3 (⟨rfl, hJ3, hk3⟩ | ⟨rfl, hJx3⟩)
      · have hbox3 : OvalBox W3 Bn S R W F T L := hk3.trans hbox1
        gi_wp2_with fail
        go_roundw
        case rel => exact ⟨pre ++ [⟨m, by omega, hlt⟩], by go_num, by simp [firstLanes_snoc, hx]; omega, by simp; omega, hJ3, hbox3⟩
        case measure => simp [intOf]; omega
      · gi_wp2_with fail
        refine bodyPost_ret (results_none rfl _ _ _) rfl ?_
        exact ⟨⟨_, rfl⟩, .inr ⟨_, trivial, hJx3⟩⟩
    · gi_wp2_with fail
      go_end0
      exact ⟨⟨_, rfl⟩, .inl ⟨pre, by unfold AllLanes; rw [hx]; congr 1; omega, hJs⟩⟩

theorem lanes_stops (n : Nat) {S R W F T L : Int} (o : Oval S R W F T L) (Bn : Nat) (w : World) (hBn : OvalBox w Bn S R W F T L) :
    SeqStopsK Fence.wide n Tryz.prog 84 #[.pointer (some ⟨Bn, 0, none⟩)] (encL R W F T (L := L)) (KeepsBlock Bn) AllLanes SomeLanes L.toNat w := fun l J Jx W hW hJ _ hY h0 =>
  lanes_in n o l Bn J Jx W hJ hY ((hW.block Bn hBn.lt).trans hBn) h0

theorem trLanes (n : Nat) (S R W F T L : Int) (w : World) :
    CallsIn Fence.wide n Tryz.prog 46 #[.agg #[.int .i64 S, .int .i64 R, .int .i64 W, .int .i64 F, .int .i64 T, .int .i64 L]] w fun e w' => e = .returned (.func (.func 84) #[] #[.pointer (some ⟨w.heap.size, 0, none⟩)]) ∧ w' = w.alloc (.cells #[.int .i64 S, .int .i64 R, .int .i64 W, .int .i64 F, .int .i64 T, .int .i64 L] 23) := by
  refine callsIn_of_wp Tryz.func46 rfl trivial ?_ rfl
  simp only [Tryz.ntmps46, List.size_toArray, List.length_cons, List.length_nil, Nat.reduceAdd, Nat.reduceSub, Array.replicate_succ, Array.replicate_zero, List.push_toArray, List.append_toArray, List.nil_append, List.cons_append]
  gi_wp2
  go_ret
  exact ⟨rfl, rfl⟩

/-- What a store into one block and new blocks keep. -/
theorem own_heap {β : Type} (b : Nat) (cs : Array Value) (t : TypeId) (fr : Nat × Nat) : Own (fun (_ : β) (w : World) => w.heap[b]? = some (.cells cs t fr)) := by
  intro s X Y row hs hg hr
  refine (hg.block b (Array.getElem?_eq_some_iff.1 hs).1 (fun e => ?_)).trans hs
  obtain ⟨o, ho, hc⟩ := hr b e.symm
  rw [hs] at ho; cases ho; cases hc
theorem oval_own {β : Type} (b : Nat) (S R W F T L : Int) : Own (fun (_ : β) (w : World) => OvalBox w b S R W F T L) := own_heap b _ _ _
theorem box_own {β : Type} (b : Nat) (t : TypeId) (v : Value) : Own (fun (_ : β) (w : World) => Boxed w b t v) := own_heap b _ _ _
theorem own_and {β : Type} {I I' : β → World → Prop} (h : Own I) (h' : Own I') : Own (fun s w => I s w ∧ I' s w) := fun s X Y row hs hg hr => ⟨h s X Y row hs.1 hg hr, h' s X Y row hs.2 hg hr⟩
theorem not_row {w : World} {b : Nat} {cs : Array Value} {t e : TypeId} {fr : Nat × Nat} (h : w.heap[b]? = some (.cells cs t fr)) (hte : t ≠ e) {base size k : Nat} {v : Value} {xs : List Value} (hr : w.ownsRow base e size v k xs) : some b ≠ v.ownBlock := by
  rcases hr.2 with ⟨rfl, _⟩ | ⟨g, cap, cur, rfl, _, hgb, _⟩
  · simp [Value.ownBlock]
  · intro e'
    obtain rfl : b = g := by simpa [Value.ownBlock] using e'
    have := h.symm.trans hgb
    simp at this
    exact hte this.2.1
theorem row_below {w : World} {base e size k : Nat} {v : Value} {xs : List Value} (h : w.ownsRow base e size v k xs) {b : Nat} (hb : b < base) : some b ≠ v.ownBlock := by
  intro e'
  have := h.lt b e'.symm
  omega
theorem row_low {w : World} {base base' e size k : Nat} {v : Value} {xs : List Value} (h : w.ownsRow base e size v k xs) (hb : base' ≤ base) : w.ownsRow base' e size v k xs :=
  ⟨h.1, h.2.imp id (fun ⟨g, cap, cur, h1, h2, r⟩ => ⟨g, cap, cur, h1, Nat.le_trans hb h2, r⟩)⟩
/-- A block that is neither the box nor the row's own lies as it lay behind an append. -/
theorem block_appended {w1 w4 : World} {B : Nat} {v v' : Value} {tmp : Obj} {b : Nat} (hgrow : (w1.alloc tmp).grownBy w4 v.ownBlock) (hlt : b < w1.heap.size) (hB : b ≠ B) (hr : some b ≠ v.ownBlock) :
    (w4.setCell ⟨B, 0, none⟩ v').heap[b]? = w1.heap[b]? := by
  have h1 := hgrow.block b (by rw [World.size_alloc]; omega) hr
  have h2 := (grownBy_setCell' w4 B v').block b (by have := hgrow.size; rw [World.size_alloc] at this; omega) (by simpa using hB)
  exact h2.trans (h1.trans (Below.heap_alloc _ _ _ hlt))
theorem flat_one {α β : Type} (l : List α) (f : α → β) : l.flatMap (fun x => [f x]) = l.map f := by
  induction l with
  | nil => rfl
  | cons a l ih => rw [List.flatMap_cons, ih]; rfl
end Go.Proofs.YtgdlehoglpiifaaGreatDoor
namespace Go.Proofs.YtgdlehoglpiifaaGreatDoor
open Go.RowKit Go.Sort Go.Shelf
attribute [local go_sem] Oper.semAt_some

/-- Between two rounds of a loop over the lanes that collects. -/
def LaneI (n₀ bO t e size : Nat) (f : Int → List Value) (S R W F T L n : Int) (w0 : World) (pre : List (LaneOf L)) (X : World) : Prop :=
  ((∃ v, Boxed X bO t v ∧ X.ownsRow bO e size v pre.length (pre.flatMap (fun x => f x.1)) ∧ True) ∧ OvalBox X n₀ S R W F T L ∧ Boxed X (n₀ + 1) 3 (.int .i64 n) ∧ OvalBox X (bO + 1) S R W F T L) ∧ Below n₀ w0 X
theorem laneI_own (n₀ bO t e size : Nat) (f : Int → List Value) (S R W F T L n : Int) (w0 : World) (B : Nat) (h0 : n₀ ≤ w0.heap.size) (hB : n₀ ≤ B) : OwnFrom B (LaneI n₀ bO t e size f S R W F T L n w0) :=
  OwnFrom.and (Own.from (own_and (holdsRow_own bO bO t e size (fun pre : List (LaneOf L) => pre.length) (fun pre => pre.flatMap (fun x => f x.1)) (fun _ _ => True)) (own_and (oval_own n₀ S R W F T L) (own_and (box_own (n₀ + 1) 3 (.int .i64 n)) (oval_own (bO + 1) S R W F T L)))) _) (ownFrom_below h0 hB)
/-- The marked staggers, as values. -/
def mstV (R W F T n : Int) (k : Int) : Value := .int .i64 (mst (n * (rad R W F T k - rad R W F T 1)))

set_option maxRecDepth 100000 in
theorem trMarked {S R W F T L : Int} (o : Oval S R W F T L) (n : Int) (hn : 0 ≤ n ∧ n ≤ 16) (w : World) :
    Calls Tryz.prog 14 #[.agg #[.int .i64 S, .int .i64 R, .int .i64 W, .int .i64 F, .int .i64 T, .int .i64 L], .int .i64 n] w fun e w' => ∃ v, e = .returned (.tuple #[v, .int .i64 0]) ∧ w'.ownsRow w.heap.size 3 1 v L.toNat ((firstLanes L.toNat).map (mstV R W F T n)) ∧ Below w.heap.size w w' := by
  obtain ⟨i0, hi, hz0, hz1, hz2⟩ := info_parts info3z
  have c1 := Lib.hid (fun w => trCheckOval S R W F T L o w)
  have c2 := Lib.hid (fun w => trWithin n 0 16 (by omega) (by omega) w)
  refine (callsIn_wide (n := 9)).1 ?_
  refine callsIn_of_wp_marks Tryz.func14 rfl trivial ?_ rfl
  simp only [Tryz.ntmps14, List.size_toArray, List.length_cons, List.length_nil, Nat.reduceAdd, Nat.reduceSub, Array.replicate_succ, Array.replicate_zero, List.push_toArray, List.append_toArray, List.nil_append, List.cons_append]
  gi_wp2_with fail
  refine wpIn_wide.2 ?_
  refine wp_region_tail 4 (by kernel_rfl) (by kernel_rfl) (by kernel_rfl) ?_
  simp only [List.take_succ_cons, List.take_zero, List.drop_succ_cons, List.drop_zero, List.take_nil, List.drop_nil]
  repeat (quiet_step (first | with_reducible exact Calls.regrown_of (c1.out _) | with_reducible exact Calls.regrown_of (c2.out _)))
  refine wpQuiet_nil ?_
  intro w1 hw
  have hb := below_of_regrown hw
  clear hw
  have H1 : Below w.heap.size w w1 := by
    refine Below.trans ?_ (hb.mono ?_)
    · repeat (first | with_reducible assumption | with_reducible exact Below.refl _ _ | with_reducible refine Below.setCell ?_ (by first | omega | (simp [go_sem]; omega) | simp [go_sem]) _ | with_reducible refine Below.alloc ?_ (by first | omega | (simp [go_sem]; omega) | simp [go_sem]) _ | with_reducible refine below_grow ?_ (by first | omega | (simp [go_sem]; omega) | simp [go_sem]) _ _ | with_reducible refine Below.drew ?_)
    · first | omega | (simp [go_sem]; omega) | simp [go_sem]
  have S1 : w.heap.size ≤ w1.heap.size := H1.size
  have s1_0 : w.heap.size < w1.heap.size := Nat.lt_of_lt_of_le (by first | omega | (simp [go_sem]; omega) | simp [go_sem]) hb.size
  have k1_0 := fun o => hb.cell (p := ⟨w.heap.size, o, none⟩) (by first | omega | (simp [go_sem]; omega) | simp [go_sem])
  have f1_0 := fun o => hb.frozen (p := ⟨w.heap.size, o, none⟩) (by first | omega | (simp [go_sem]; omega) | simp [go_sem])
  have h1_0 := hb.block (w.heap.size) (by first | omega | (simp [go_sem]; omega) | simp [go_sem])
  have h1_0 := Lib.hid h1_0
  have s1_1 : w.heap.size + 1 < w1.heap.size := Nat.lt_of_lt_of_le (by first | omega | (simp [go_sem]; omega) | simp [go_sem]) hb.size
  have k1_1 := fun o => hb.cell (p := ⟨w.heap.size + 1, o, none⟩) (by first | omega | (simp [go_sem]; omega) | simp [go_sem])
  have f1_1 := fun o => hb.frozen (p := ⟨w.heap.size + 1, o, none⟩) (by first | omega | (simp [go_sem]; omega) | simp [go_sem])
  have h1_1 := hb.block (w.heap.size + 1) (by first | omega | (simp [go_sem]; omega) | simp [go_sem])
  have h1_1 := Lib.hid h1_1
  have G1 := grownBy_of_below hb
  have B1 := Lib.hid hb
  clear hb
  clear c1 c2
  go_wp2_with fail
  (with_reducible refine (trFirst _ 2 (by decide) _ ?_).mono ?_)
  · intro j hj; rcases j with _ | _ | j <;> first | omega | simp (maxDischargeDepth := 4) [go_sem]
  rintro e w2 ⟨rfl, hb⟩
  have H2 : Below w.heap.size w w2 := by
    refine Below.trans ?_ (hb.mono ?_)
    · repeat (first | with_reducible assumption | with_reducible exact Below.refl _ _ | with_reducible refine Below.setCell ?_ (by first | omega | (simp [go_sem]; omega) | simp [go_sem]) _ | with_reducible refine Below.alloc ?_ (by first | omega | (simp [go_sem]; omega) | simp [go_sem]) _ | with_reducible refine below_grow ?_ (by first | omega | (simp [go_sem]; omega) | simp [go_sem]) _ _ | with_reducible refine Below.drew ?_)
    · first | omega | (simp [go_sem]; omega) | simp [go_sem]
  have S2 : w.heap.size ≤ w2.heap.size := H2.size
  have s2_0 : w.heap.size < w2.heap.size := Nat.lt_of_lt_of_le (by first | omega | (simp [go_sem]; omega) | simp [go_sem]) hb.size
  have k2_0 := fun o => hb.cell (p := ⟨w.heap.size, o, none⟩) (by first | omega | (simp [go_sem]; omega) | simp [go_sem])
  have f2_0 := fun o => hb.frozen (p := ⟨w.heap.size, o, none⟩) (by first | omega | (simp [go_sem]; omega) | simp [go_sem])
  have h2_0 := hb.block (w.heap.size) (by first | omega | (simp [go_sem]; omega) | simp [go_sem])
  have h2_0 := Lib.hid h2_0
  have s2_1 : w.heap.size + 1 < w2.heap.size := Nat.lt_of_lt_of_le (by first | omega | (simp [go_sem]; omega) | simp [go_sem]) hb.size
  have k2_1 := fun o => hb.cell (p := ⟨w.heap.size + 1, o, none⟩) (by first | omega | (simp [go_sem]; omega) | simp [go_sem])
  have f2_1 := fun o => hb.frozen (p := ⟨w.heap.size + 1, o, none⟩) (by first | omega | (simp [go_sem]; omega) | simp [go_sem])
  have h2_1 := hb.block (w.heap.size + 1) (by first | omega | (simp [go_sem]; omega) | simp [go_sem])
  have h2_1 := Lib.hid h2_1
  have G2 := grownBy_of_below hb
  have B2 := Lib.hid hb
  clear hb
  go_wp2_with fail
  gi_wp2_with fail
  have ho1 : OvalBox w1 w.heap.size S R W F T L := h1_0.out.trans ((Below.heap_alloc _ _ _ (by rw [World.size_alloc]; omega)).trans (World.alloc_heap_new w _))
  have hn1 : Boxed w1 (w.heap.size + 1) 3 (.int .i64 n) := h1_1.out.trans (by have := Boxed.new (w.alloc (.cells #[.int .i64 S, .int .i64 R, .int .i64 W, .int .i64 F, .int .i64 T, .int .i64 L] 23)) 3 (.int .i64 n); rwa [World.size_alloc] at this)
  have ho2 : OvalBox w2 w.heap.size S R W F T L := h2_0.out.trans ((Below.heap_alloc _ _ _ ho1.lt).trans ho1)
  have hn2 : Boxed w2 (w.heap.size + 1) 3 (.int .i64 n) := h2_1.out.trans ((Below.heap_alloc _ _ _ hn1.lt).trans hn1)
  clear k1_0 k1_1 f1_0 f1_1 h1_0 h1_1 h2_0 h2_1 ho1 hn1 H1 S1 s1_0 s1_1 k2_0 k2_1 f2_0 f2_1
  refine ⟨trivial, (trLanes _ S R W F T L _).mono ?_⟩
  rintro e w3 ⟨rfl, rfl⟩
  obtain ⟨w3, hw3⟩ : ∃ w3, (w2.alloc (.cells #[.slice none 0 0] 33)).alloc (.cells #[.int .i64 S, .int .i64 R, .int .i64 W, .int .i64 F, .int .i64 T, .int .i64 L] 23) = w3 := ⟨_, rfl⟩
  have ho3 : OvalBox w3 w.heap.size S R W F T L := by
    rw [← hw3]; exact (Below.heap_alloc _ _ _ (by rw [World.size_alloc]; have := ho2.lt; omega)).trans ((Below.heap_alloc _ _ _ ho2.lt).trans ho2)
  have hn3 : Boxed w3 (w.heap.size + 1) 3 (.int .i64 n) := by
    rw [← hw3]; exact (Below.heap_alloc _ _ _ (by rw [World.size_alloc]; have := hn2.lt; omega)).trans ((Below.heap_alloc _ _ _ hn2.lt).trans hn2)
  have hB3 : OvalBox w3 (w2.heap.size + 1) S R W F T L := by
    rw [← hw3]; have := World.alloc_heap_new (w2.alloc (.cells #[.slice none 0 0] 33)) (.cells #[.int .i64 S, .int .i64 R, .int .i64 W, .int .i64 F, .int .i64 T, .int .i64 L] 23); rwa [World.size_alloc] at this
  have hO3 : Boxed w3 w2.heap.size 33 (.slice none 0 0) := by
    rw [← hw3]; exact (Below.heap_alloc _ _ _ (by rw [World.size_alloc]; omega)).trans (World.alloc_heap_new w2 _)
  have H3 : Below w.heap.size w w3 := by
    rw [← hw3]; exact (H2.alloc S2 _).alloc (by rw [World.size_alloc]; omega) _
  simp only [World.size_alloc]
  rw [hw3]
  clear hw3 ho2 hn2 H2
  generalize w2.heap.size = bO at *
  gi_wp2_with fail
  have hbO : w.heap.size + 1 < bO := by omega
  have hlt3 : bO + 1 < w3.heap.size := hB3.lt
  refine wpIn_rangeFunc_ownG rfl (by omega) (gf := 84) (lb := #[.pointer (some ⟨bO + 1, 0, none⟩)]) rfl trivial (enters_of Tryz.func84 (by kernel_rfl) rfl)
    (lanes_stops _ o (bO + 1) w3 hB3) (fun h k => k.trans h) (fun W l u u' hl _ _ _ => World.putObj_heap_other (by omega)) (Below.refl _ _) (fun _ => rfl)
    (LaneI w.heap.size bO 33 3 1 (fun k => [mstV R W F T n k]) S R W F T L n w)
    (fun _ _ _ => False)
    ?hI (fun _ _ _ _ _ hs _ _ => hs)
    ?h0 ?a1 ?assign ?body ?done ?stop
  case h0 => exact ⟨⟨⟨_, hO3, World.ownsRow_nil _ _ _ _, trivial⟩, ho3, hn3, hB3⟩, H3⟩
  case hI => exact laneI_own _ _ _ _ _ _ _ _ _ _ _ _ _ _ _ (Nat.le_refl _) (by omega)
  case assign =>
    intro l x X K hK
    dsimp only [encL]
    gi_wp2
    exact hK
  case body =>
    rintro l pre x X ⟨⟨⟨v, hv, hrow, -⟩, ho, hn', hb⟩, hB⟩ hlt
    have l0 := hv.lt
    have l1 := ho.lt
    have l2 := hn'.lt
    have l3 := hb.lt
    have hr := rad_in o x.2
    have c3 := Lib.hid (fun w => trMarked1 o (rad R W F T x.1) n ⟨by omega, by omega⟩ hn w)
    have v0 := hv.cell
    have v1 := hn'.cell
    have d0 := ho.c0; have d1 := ho.c1; have d2 := ho.c2; have d3 := ho.c3; have d4 := ho.c4; have d5 := ho.c5
    gi_wp2_with fail
    refine wpIn_region_held (S := fun w' => w'.cell? ⟨bO, 0, none⟩ = some v ∧ w'.cell? ⟨w.heap.size, 0, none⟩ = some (.int .i64 S) ∧ w'.cell? ⟨w.heap.size, 1, none⟩ = some (.int .i64 R) ∧ w'.cell? ⟨w.heap.size, 2, none⟩ = some (.int .i64 W) ∧ w'.cell? ⟨w.heap.size, 3, none⟩ = some (.int .i64 F) ∧ w'.cell? ⟨w.heap.size, 4, none⟩ = some (.int .i64 T) ∧ w'.cell? ⟨w.heap.size, 5, none⟩ = some (.int .i64 L) ∧ w'.cell? ⟨w.heap.size + 1, 0, none⟩ = some (.int .i64 n)) 6 (by kernel_rfl) (by kernel_rfl) (by kernel_rfl) ?_ (fun hH => ?_)
    · simp (maxDischargeDepth := 4) [*, go_sem]
    simp only [List.take_succ_cons, List.take_zero, List.drop_succ_cons, List.drop_zero, List.take_nil, List.drop_nil]
    refine wpAnyH_take (i := 0) (v := ?_) rfl (by kernel_rfl) (by kernel_rfl) (by kernel_rfl) (fun _ _ _ h => h) (Or.inl ⟨by rfl, ?_⟩) (by assumption) ?_
    rotate_left
    · intro w' hSw
      try dsimp only at hSw
      first | (go_simp; done) | (go_simp; with_reducible rfl)
    try simp only [Act.put, List.setIfInBounds_toArray, List.set_cons_zero, List.set_cons_succ]
    refine wpAnyH_take (i := 1) (v := ?_) rfl (by kernel_rfl) (by kernel_rfl) (by kernel_rfl) (fun _ _ _ h => h) (Or.inl ⟨by rfl, ?_⟩) (by assumption) ?_
    rotate_left
    · intro w' hSw
      try dsimp only at hSw
      first | (go_simp; done) | (go_simp; with_reducible rfl)
    try simp only [Act.put, List.setIfInBounds_toArray, List.set_cons_zero, List.set_cons_succ]
    refine wpAnyH_take (i := 2) (v := ?_) rfl (by kernel_rfl) (by kernel_rfl) (by kernel_rfl) (fun _ _ _ h => h) (Or.inl ⟨by rfl, ?_⟩) (by assumption) ?_
    rotate_left
    · intro w' hSw
      try dsimp only at hSw
      first | (go_simp; done) | (go_simp; with_reducible rfl)
    try simp only [Act.put, List.setIfInBounds_toArray, List.set_cons_zero, List.set_cons_succ]
    refine wpAnyH_take (i := 3) (v := ?_) rfl (by kernel_rfl) (by kernel_rfl) (by kernel_rfl) (fun _ _ _ h => h) (Or.inl ⟨by rfl, ?_⟩) (by assumption) ?_
    rotate_left
    · intro w' hSw
      try dsimp only at hSw
      first | (go_simp; done) | (go_simp; with_reducible rfl)
    try simp only [Act.put, List.setIfInBounds_toArray, List.set_cons_zero, List.set_cons_succ]
    refine wpAnyH_ready (rs := [4]) (by kernel_rfl) (by simp) (AllReadyH.cons rfl (fun K' hK => ?_) AllReadyH.nil)
    go_simp
    (with_reducible refine (c3.out _).mono ?_)
    rintro e w1 ⟨rfl, hb⟩
    have H1 : Below w.heap.size w w1 := by
      refine Below.trans ?_ (hb.mono ?_)
      · repeat (first | with_reducible assumption | with_reducible exact Below.refl _ _ | with_reducible refine Below.setCell ?_ (by first | omega | (simp [go_sem]; omega) | simp [go_sem]) _ | with_reducible refine Below.alloc ?_ (by first | omega | (simp [go_sem]; omega) | simp [go_sem]) _ | with_reducible refine below_grow ?_ (by first | omega | (simp [go_sem]; omega) | simp [go_sem]) _ _ | with_reducible refine Below.drew ?_)
      · first | omega | (simp [go_sem]; omega) | simp [go_sem]
    have S1 : w.heap.size ≤ w1.heap.size := H1.size
    have s1_0 : bO < w1.heap.size := Nat.lt_of_lt_of_le (by first | omega | (simp [go_sem]; omega) | simp [go_sem]) hb.size
    have k1_0 := fun o => hb.cell (p := ⟨bO, o, none⟩) (by first | omega | (simp [go_sem]; omega) | simp [go_sem])
    have f1_0 := fun o => hb.frozen (p := ⟨bO, o, none⟩) (by first | omega | (simp [go_sem]; omega) | simp [go_sem])
    have h1_0 := hb.block (bO) (by first | omega | (simp [go_sem]; omega) | simp [go_sem])
    have h1_0 := Lib.hid h1_0
    have s1_1 : w.heap.size < w1.heap.size := Nat.lt_of_lt_of_le (by first | omega | (simp [go_sem]; omega) | simp [go_sem]) hb.size
    have k1_1 := fun o => hb.cell (p := ⟨w.heap.size, o, none⟩) (by first | omega | (simp [go_sem]; omega) | simp [go_sem])
    have f1_1 := fun o => hb.frozen (p := ⟨w.heap.size, o, none⟩) (by first | omega | (simp [go_sem]; omega) | simp [go_sem])
    have h1_1 := hb.block (w.heap.size) (by first | omega | (simp [go_sem]; omega) | simp [go_sem])
    have h1_1 := Lib.hid h1_1
    have s1_2 : w.heap.size + 1 < w1.heap.size := Nat.lt_of_lt_of_le (by first | omega | (simp [go_sem]; omega) | simp [go_sem]) hb.size
    have k1_2 := fun o => hb.cell (p := ⟨w.heap.size + 1, o, none⟩) (by first | omega | (simp [go_sem]; omega) | simp [go_sem])
    have f1_2 := fun o => hb.frozen (p := ⟨w.heap.size + 1, o, none⟩) (by first | omega | (simp [go_sem]; omega) | simp [go_sem])
    have h1_2 := hb.block (w.heap.size + 1) (by first | omega | (simp [go_sem]; omega) | simp [go_sem])
    have h1_2 := Lib.hid h1_2
    have s1_3 : bO + 1 < w1.heap.size := Nat.lt_of_lt_of_le (by first | omega | (simp [go_sem]; omega) | simp [go_sem]) hb.size
    have k1_3 := fun o => hb.cell (p := ⟨bO + 1, o, none⟩) (by first | omega | (simp [go_sem]; omega) | simp [go_sem])
    have f1_3 := fun o => hb.frozen (p := ⟨bO + 1, o, none⟩) (by first | omega | (simp [go_sem]; omega) | simp [go_sem])
    have h1_3 := hb.block (bO + 1) (by first | omega | (simp [go_sem]; omega) | simp [go_sem])
    have h1_3 := Lib.hid h1_3
    have G1 := grownBy_of_below hb
    have B1 := Lib.hid hb
    clear hb
    refine hK.out _ _ ?_ (fun hH => ?_)
    · simp (maxDischargeDepth := 4) [*, go_sem]
    clear hK K'
    try simp only [Act.put, List.setIfInBounds_toArray, List.set_cons_zero, List.set_cons_succ]
    refine wpAnyH_ready (rs := [5]) (by kernel_rfl) (by simp) (AllReadyH.cons rfl (fun K' hK => ?_) AllReadyH.nil)
    go_simp
    refine hK.out _ _ ?_ (fun hH => ?_)
    · simp (maxDischargeDepth := 4) [*, go_sem]
    clear hK K'
    try simp only [Act.put, List.setIfInBounds_toArray, List.set_cons_zero, List.set_cons_succ]
    refine wpAnyH_done (by kernel_rfl) (tailPost_normal ?_) _
    simp only [List.drop_succ_cons, List.drop_zero, List.drop_nil]
    clear hH
    have hv1 := (show Boxed X.drew bO 33 v from hv).kept G1 (by simp)
    have hrow1 := (show X.drew.ownsRow bO 3 1 v _ _ from hrow).kept G1 (by cases h : v.ownBlock <;> simp)
    have ho1 : OvalBox w1 w.heap.size S R W F T L := (h1_1.out).trans ho
    have hn1 : Boxed w1 (w.heap.size + 1) 3 (.int .i64 n) := (h1_2.out).trans hn'
    have hb1 : OvalBox w1 (bO + 1) S R W F T L := (h1_3.out).trans hb
    clear v0 v1 d0 d1 d2 d3 d4 d5 k1_0 k1_1 k1_2 k1_3 f1_0 f1_1 f1_2 f1_3 c3 hr
    have hX := B1.out.size
    have hL := o.l
    have hp := hB.size
    have w0 := hv1.cell
    have w1f := hv1.frozen
    go_wp2_with (at_builtin; go_must (refine wpList_append_own _ rfl _ _ 33 rfl bO 3 i0 (.int .i64 0) 1 8 Tryz.underlying33 hi hz0 hz1 hz2 rfl (by decide) _ _ _ rfl (hrow1.alloc _) ⟨w1.heap.size, 0, none⟩ 1 1 [mstV R W F T n x.1] rfl rfl (cell_one_new _ _ _) (by simp [Value.oneCell', mstV]) (Nat.le_trans (show pre.length + 1 ≤ 11 by omega) (by decide)) (by omega) (by simp; omega) ?_); intro v' w4 hown' hgrow _; obtain ⟨g', cap', rfl⟩ := ownsRow_succ hown'; obtain ⟨hv2, hv3, hr2, hk2, hb2⟩ := hv1.appended (by decide) hrow1 (by omega) (Nat.le_refl _) hown' hgrow; have hc1 := hv2.cell; have hf1 := hv2.frozen)
    have e1 := block_appended (B := bO) (v' := .slice (some ⟨g', 0, none⟩) (pre.length + 1) cap') hgrow ho1.lt (by omega) (row_below hrow1 (by omega))
    have e2 := block_appended (B := bO) (v' := .slice (some ⟨g', 0, none⟩) (pre.length + 1) cap') hgrow hn1.lt (by omega) (row_below hrow1 (by omega))
    have e3 := block_appended (B := bO) (v' := .slice (some ⟨g', 0, none⟩) (pre.length + 1) cap') hgrow hb1.lt (by omega) (not_row hb1 (by decide) hrow1)
    refine ⟨(((KeepsOthers.drew X).trans (KeepsOthers.of_grownBy G1 (fun j o ej => by cases ej))).trans hk2).from _, e3.trans h1_3.out, ⟨⟨_, hv3, ?_, trivial⟩, e1.trans ho1, e2.trans hn1, e3.trans hb1⟩, H1.trans (hb2.mono (by omega))⟩
    simpa [List.flatMap_append] using hr2
  case done =>
    rintro D ys X hD hys ⟨⟨⟨v, hv, hrow, -⟩, ho, hn', hb⟩, hB⟩ hK
    have hc := hv.cell
    gi_wp2
    refine ⟨by simp, .inl ⟨_, _, rfl, run_takeDeferred hK, ?_⟩⟩
    have hlen : ys.length = L.toNat := by have := congrArg List.length hys; simpa [firstLanes] using this
    have hfm : ys.flatMap (fun x => [mstV R W F T n x.1]) = (firstLanes L.toNat).map (mstV R W F T n) := by
      rw [← show ys.map (·.1) = firstLanes L.toNat from hys, List.map_map]
      exact flat_one ys (fun x => mstV R W F T n x.1)
    have hrow' := row_low (base' := w.heap.size) (ownsRow_putObj hrow (.deferred none) hK rfl) (by omega)
    rw [hlen, hfm] at hrow'
    exact ⟨_, results_tmp2 rfl _ _ _, v, rfl, hrow', hB.trans (belowK_b (w := w) (Nat.le_refl _) X D _ _ (by omega) hK rfl rfl)⟩
  case stop =>
    rintro D c pre X _ _ h _
    exact h.elim
end Go.Proofs.YtgdlehoglpiifaaGreatDoor
