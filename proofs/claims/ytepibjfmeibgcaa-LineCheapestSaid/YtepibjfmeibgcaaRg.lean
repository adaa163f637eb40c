/- A region that draws its order, whose last operations wait for all before them: the head in one quiet walk, the tail in its order; in a round of a range over a function, too. No program is in sight here. -/
import Derived.OrdersHeld
import Derived.Deep.RegionHeld
import Derived.Test.YtepibjfmeibgcaaIt
import Derived.Deep.Quiet
import Derived.StillTail
namespace Go.Proofs.Ytepibjfmeibgcaa
open Go.RowKit
set_option linter.unusedVariables false

/-- The last operation waits for all others; the others wait for earlier ones alone. -/
def tailOk (head : Array Oper) (o : Oper) : Bool :=
  ((List.range head.size).all fun i => match head[i]? with
    | none => true
    | some o' => (o'.after.all fun e => !Region.binds .any e || decide (e.on < i)) && (match o'.guard with | none => true | some (j, _) => decide (j < head.size))) &&
  ((List.range head.size).all fun j => o.after.any fun e => Region.binds .any e && e.on == j) &&
  (o.after.all fun e => !Region.binds .any e || decide (e.on < head.size))

section
variable {P : Program} {head : Array Oper} {o : Oper} {Q : Exit → Act → World → Prop}
theorem tailOk_spec (h : tailOk head o = true) :
    (∀ i o', head[i]? = some o' → (∀ e ∈ o'.after, Region.binds .any e = true → e.on < i) ∧ (∀ j b, o'.guard = some (j, b) → j < head.size)) ∧
    (∀ j, j < head.size → ∃ e ∈ o.after, Region.binds .any e = true ∧ e.on = j) ∧ (∀ e ∈ o.after, Region.binds .any e = true → e.on < head.size) := by
  unfold tailOk at h
  simp only [Bool.and_eq_true] at h
  obtain ⟨⟨h1, h2⟩, h3⟩ := h
  rw [List.all_eq_true] at h1 h2
  refine ⟨fun i o' ho => ?_, fun j hj => ?_, fun e he hb => ?_⟩
  · have hi : i < head.size := (Array.getElem?_eq_some_iff.1 ho).1
    have := h1 i (List.mem_range.2 hi)
    rw [ho] at this
    simp only [Bool.and_eq_true] at this
    refine ⟨fun e he hb => ?_, fun j b hg => ?_⟩
    · have h4 := this.1
      rw [Array.all_eq_true_iff_forall_mem] at h4
      have := h4 e he
      rw [hb] at this
      simpa using this
    · have h4 := this.2
      rw [hg] at h4
      simpa using h4
  · have := h2 j (List.mem_range.2 hj)
    rw [← Array.any_toList, List.any_eq_true] at this
    obtain ⟨e, he, hb⟩ := this
    rw [Array.mem_toList_iff] at he
    simp only [Bool.and_eq_true, beq_iff_eq] at hb
    exact ⟨e, he, hb.1, hb.2⟩
  · rw [Array.all_eq_true_iff_forall_mem] at h3
    have := h3 e he
    rw [hb] at this
    simpa using this

theorem Oper.wp_then {x : Oper} {a : Act} {w : World} {K K' : Act → World → Prop} : x.wp P a w K (Exit.then K' Q) = x.wp P a w K Q := by
  unfold Oper.wp
  generalize (execOp a.eval x).run P w = r
  cases r with
  | ok n w' => cases n <;> rfl
  | halt hh w' => cases hh <;> rfl

theorem wanted_push {x : Oper} {tmps : Array Value} (h : ∀ j b, x.guard = some (j, b) → j < head.size) : Region.wanted x (yielded (head.push o) tmps) = Region.wanted x (yielded head tmps) := by
  unfold Region.wanted
  cases hg : x.guard with
  | none => rfl
  | some jb =>
    obtain ⟨j, b⟩ := jb
    have hj := h j b hg
    have : (head.push o)[j]? = head[j]? := by rw [Array.getElem?_push, if_neg (by omega)]
    simp [yielded, this]

theorem push_getD {listed : Array Bool} {i : Nat} (d : Bool) (h : i < listed.size) : (listed.push false).getD i d = listed.getD i d := by
  simp [Array.getD_eq_getD_getElem?, Array.getElem?_push, Nat.ne_of_lt h]

theorem all_listed (h : tailOk head o = true) {listed : Array Bool} (hs : listed.size = head.size) (hr : Region.ready .any head listed = []) : ∀ i, i < head.size → listed.getD i false = true := by
  obtain ⟨h1, _, _⟩ := tailOk_spec h
  intro i
  induction i using Nat.strongRecOn with
  | _ i ih =>
    intro hi
    cases hl : listed.getD i false with
    | true => rfl
    | false =>
      have hm : i ∈ Region.ready .any head listed := by
        rw [mem_ready]
        refine ⟨?_, head[i], Array.getElem?_eq_getElem hi, fun e he hb => ?_⟩
        · rw [Array.getD_eq_getD_getElem?, Array.getElem?_eq_getElem (by omega)] at hl ⊢; simpa using hl
        · have := (h1 i _ (Array.getElem?_eq_getElem hi)).1 e he hb
          exact ih _ this (by omega)
      rw [hr] at hm; cases hm

theorem ready_push (h : tailOk head o = true) {listed : Array Bool} (hs : listed.size = head.size) {i : Nat} (hi : i < head.size) :
    i ∈ Region.ready .any (head.push o) (listed.push false) ↔ i ∈ Region.ready .any head listed := by
  obtain ⟨h1, _, _⟩ := tailOk_spec h
  rw [mem_ready, mem_ready]
  have e1 : (head.push o)[i]? = head[i]? := by rw [Array.getElem?_push, if_neg (by omega)]
  rw [e1, push_getD true (by omega)]
  refine and_congr Iff.rfl ⟨?_, ?_⟩
  · rintro ⟨o', ho, hh⟩
    refine ⟨o', ho, fun e he hb => ?_⟩
    have := hh e he hb
    rwa [push_getD false (by have := (h1 i o' ho).1 e he hb; omega)] at this
  · rintro ⟨o', ho, hh⟩
    refine ⟨o', ho, fun e he hb => ?_⟩
    rw [push_getD false (by have := (h1 i o' ho).1 e he hb; omega)]
    exact hh e he hb

theorem set_push {listed : Array Bool} {i : Nat} (h : i < listed.size) : (listed.push false).setIfInBounds i true = (listed.setIfInBounds i true).push false := by
  apply Array.ext'
  simp [h]

theorem wpAny_snoc (h : tailOk head o = true) : ∀ (fuel : Nat) (listed : Array Bool) (a : Act) (w : World), listed.size = head.size →
    wpAny P .any head (Exit.then (wpOp P (head.push o) Q head.size (fun a w => Q .normal a w)) Q) fuel listed a w → wpAny P .any (head.push o) Q (fuel + 1) (listed.push false) a w := by
  obtain ⟨h1, h2, h3⟩ := tailOk_spec h
  have hon : (head.push o)[head.size]? = some o := by simp
  -- where all others are listed, the last one stands alone
  have last : ∀ (listed : Array Bool), listed.size = head.size → Region.ready .any head listed = [] → ∀ i, i ∈ Region.ready .any (head.push o) (listed.push false) ↔ i = head.size := by
    intro listed hs hr i
    have hal := all_listed h hs hr
    constructor
    · intro hi
      have hlt : i < (head.push o).size := by
        rw [mem_ready] at hi; obtain ⟨_, o', ho, _⟩ := hi; exact (Array.getElem?_eq_some_iff.1 ho).1
      rw [Array.size_push] at hlt
      rcases Nat.lt_or_ge i head.size with hh | hh
      · rw [ready_push h hs hh, hr] at hi; cases hi
      · omega
    · rintro rfl
      rw [mem_ready]
      refine ⟨by rw [← hs]; simp [Array.getD_eq_getD_getElem?], o, hon, fun e he hb => ?_⟩
      have hlt := h3 e he hb
      rw [push_getD false (by omega)]
      exact hal _ hlt
  have done : ∀ (listed : Array Bool), listed.size = head.size → Region.ready .any head listed = [] → Region.ready .any (head.push o) ((listed.push false).setIfInBounds head.size true) = [] := by
    intro listed hs hr
    rw [List.eq_nil_iff_forall_not_mem]
    intro i hi
    rw [mem_ready] at hi
    obtain ⟨hn, o', ho, _⟩ := hi
    have hlt : i < (head.push o).size := (Array.getElem?_eq_some_iff.1 ho).1
    rw [Array.size_push] at hlt
    have hal := all_listed h hs hr
    rcases Nat.lt_or_ge i head.size with hh | hh
    · have e1 : ((listed.push false).setIfInBounds head.size true).getD i true = true := by
        rw [Array.getD_eq_getD_getElem?, Array.getElem?_setIfInBounds_ne (by omega), Array.getElem?_push, if_neg (by omega)]
        have := hal i hh
        rw [Array.getD_eq_getD_getElem?, Array.getElem?_eq_getElem (by omega)] at this
        rw [Array.getElem?_eq_getElem (by omega)]
        simpa using this
      rw [e1] at hn; cases hn
    · have : i = head.size := by omega
      subst this
      have e1 : ((listed.push false).setIfInBounds head.size true).getD head.size true = true := by
        rw [Array.getD_eq_getD_getElem?, Array.getElem?_setIfInBounds_self_of_lt (by rw [Array.size_push]; omega)]; rfl
      rw [e1] at hn; cases hn
  have stop : ∀ fuel a w (listed : Array Bool), listed.size = head.size → Region.ready .any head listed = [] → Q .normal a w → wpAny P .any (head.push o) Q fuel ((listed.push false).setIfInBounds head.size true) a w := by
    intro fuel a w listed hs hr hq
    cases fuel with
    | zero => exact ⟨done listed hs hr, hq⟩
    | succ fuel => exact ⟨fun _ => hq, fun i hi => by rw [done listed hs hr] at hi; cases hi⟩
  intro fuel
  induction fuel with
  | zero =>
    rintro listed a w hs ⟨hr, hq⟩
    refine ⟨fun hr' => ?_, fun i hi => ?_⟩
    · have := (last listed hs hr head.size).2 rfl; rw [hr'] at this; cases this
    · obtain rfl := (last listed hs hr i).1 hi
      exact wpOp_mono (fun a w hk => stop _ a w listed hs hr hk) hq
  | succ fuel ih =>
    rintro listed a w hs ⟨hq, hall⟩
    refine ⟨fun hr' => ?_, fun i hi => ?_⟩
    · by_cases hr : Region.ready .any head listed = []
      · have := (last listed hs hr head.size).2 rfl; rw [hr'] at this; cases this
      · obtain ⟨i, hi⟩ := List.exists_mem_of_ne_nil _ hr
        have hlt : i < head.size := by rw [mem_ready] at hi; obtain ⟨_, o', ho, _⟩ := hi; exact (Array.getElem?_eq_some_iff.1 ho).1
        have := (ready_push h hs hlt).2 hi
        rw [hr'] at this; cases this
    · have hlt : i < (head.push o).size := by
        rw [mem_ready] at hi; obtain ⟨_, o', ho, _⟩ := hi; exact (Array.getElem?_eq_some_iff.1 ho).1
      rw [Array.size_push] at hlt
      rcases Nat.lt_or_ge i head.size with hh | hh
      · have hi' := (ready_push h hs hh).1 hi
        have hop := hall i hi'
        rw [set_push (by omega)]
        have e1 : (head.push o)[i]? = head[i]? := by rw [Array.getElem?_push, if_neg (by omega)]
        have hg : head[i]? = some head[i] := Array.getElem?_eq_getElem hh
        have hgd := (h1 i _ hg).2
        refine wpOp_mono (K := wpAny P .any head (Exit.then (wpOp P (head.push o) Q head.size (fun a w => Q .normal a w)) Q) fuel (listed.setIfInBounds i true)) (fun a w hk => ih _ a w (by simp [hs]) hk) ?_
        unfold wpOp at hop ⊢
        rw [hg] at hop
        rw [e1, hg]
        simp only at hop ⊢
        rw [wanted_push hgd]
        split
        · rename_i hw
          simp only [hw, if_true] at hop
          rw [Oper.wp_then] at hop
          exact hop
        · rename_i hw
          simp only [hw] at hop
          exact hop
      · have : i = head.size := by omega
        subst this
        have hr : Region.ready .any head listed = [] := by
          rw [List.eq_nil_iff_forall_not_mem]
          intro j hj
          rw [mem_ready] at hi hj
          obtain ⟨_, o', ho, hdep⟩ := hi
          rw [hon] at ho; obtain rfl := Option.some.inj ho
          obtain ⟨hn, oj, hoj, _⟩ := hj
          have hjl : j < head.size := (Array.getElem?_eq_some_iff.1 hoj).1
          obtain ⟨e, he, hb, rfl⟩ := h2 j hjl
          have := hdep e he hb
          rw [push_getD false (by omega), Array.getD_eq_getD_getElem?, Array.getElem?_eq_getElem (by omega)] at this
          rw [Array.getD_eq_getD_getElem?, Array.getElem?_eq_getElem (by omega)] at hn
          simp at this hn
          rw [this] at hn; cases hn
        exact wpOp_mono (fun a w hk => stop _ a w listed hs hr hk) (hq hr)
end

/-- Each operation of the tail waits for all before it, and is bare. -/
def tailsOk : List Oper → List Oper → Bool
  | _, [] => true
  | head, o :: T => tailOk head.toArray o && o.guard.isNone && tailsOk (head ++ [o]) T
theorem then_self {Q : Exit → Act → World → Prop} : Exit.then (fun a w => Q .normal a w) Q = Q := by
  funext e a w; cases e <;> rfl
theorem then_then {K K' : Act → World → Prop} {Q : Exit → Act → World → Prop} : Exit.then K (Exit.then K' Q) = Exit.then K Q := by
  funext e a w; cases e <;> rfl
theorem letsOut_then {K : Act → World → Prop} {Q : Exit → Act → World → Prop} : LetsOut (Exit.then K Q) = LetsOut Q := rfl
theorem wpAny_tail {P : Program} {Q : Exit → Act → World → Prop} : ∀ (T head : List Oper) (full : Array Oper) (fuel : Nat) (a : Act) (w : World), full = (head ++ T).toArray → tailsOk head T = true →
    wpAny P .any head.toArray (Exit.then (fun a w => wpList P full Q T a w) Q) fuel (Array.replicate head.length false) a w → wpAny P .any full Q (fuel + T.length) (Array.replicate (head.length + T.length) false) a w := by
  intro T
  induction T with
  | nil =>
    intro head full fuel a w hf _ h
    subst hf
    have e : Exit.then (fun a w => wpList P (head ++ []).toArray Q [] a w) Q = Q := then_self
    rw [e] at h
    simpa using h
  | cons o T ih =>
    intro head full fuel a w hf hT h
    simp only [tailsOk, Bool.and_eq_true] at hT
    obtain ⟨⟨h1, h2⟩, h3⟩ := hT
    have hg : o.guard = none := by simpa using h2
    have e1 : full = ((head ++ [o]) ++ T).toArray := by rw [hf]; simp
    have e2 : (head.toArray.push o) = (head ++ [o]).toArray := by simp
    have e3 : (Array.replicate head.length false).push false = Array.replicate (head ++ [o]).length false := by
      apply Array.ext'; simp [List.replicate_succ']
    have := wpAny_snoc (P := P) (Q := Exit.then (fun a w => wpList P full Q T a w) Q) h1 fuel (Array.replicate head.length false) a w (by simp) ?_
    · rw [e2, e3] at this
      have := ih (head ++ [o]) full (fuel + 1) a w e1 h3 this
      have e4 : fuel + 1 + T.length = fuel + (o :: T).length := by simp; omega
      have e5 : (head ++ [o]).length + T.length = head.length + (o :: T).length := by simp; omega
      rw [e4, e5] at this
      exact this
    · rw [then_then]
      have e6 : (fun a w => wpList P full Q (o :: T) a w) = wpOp P (head.toArray.push o) (Exit.then (fun a w => wpList P full Q T a w) Q) head.toArray.size (fun a w => Exit.then (fun a w => wpList P full Q T a w) Q .normal a w) := by
        funext a w
        have hon : (head.toArray.push o)[head.toArray.size]? = some o := by simp
        unfold wpOp
        rw [hon]
        simp only [wpList, Region.wanted, hg, if_true]
        rw [Oper.wp_then]
        rfl
      rw [← e6]
      exact h

section
variable {P : Program}
theorem wpAny_qt {Q : Exit → Act → World → Prop} {a : Act} {w : World} {L : List Oper} (n : Nat) (hB : Region.lexB .any (L.take n).toArray = true) (hT : tailsOk (L.take n) (L.drop n) = true)
    (h : wpQuiet P (L.take n).toArray (fun w' => ∃ k, w' = w.drewN k) (fun a' => ∀ w', (∃ k, w' = w.drewN k) → wpList P L.toArray Q (L.drop n) a' w') (L.take n) a) :
    wpAny P .any L.toArray Q L.toArray.size (Array.replicate L.toArray.size false) a { w with drawn := w.drawn + 1 } := by
  simp only [Region.lexB, Bool.and_eq_true] at hB
  have hq := wpAnyQ_lex (C := fun w' => ∃ k, w' = w.drewN k) (md := .any) hB.1 (L.take n) 0 (Array.replicate (L.take n).toArray.size false) a (by simp) (by simpa using hB.2) h
  have h2 := wpAny_of_quiet (P := P) (md := .any) (Q := fun a' => ∀ w', (∃ k, w' = w.drewN k) → wpList P L.toArray Q (L.drop n) a' w') (Q' := Exit.then (fun a w => wpList P L.toArray Q (L.drop n) a w) Q) (fun _ w' hw' h => h w' hw') _ _ _ { w with drawn := w.drawn + 1 } ⟨1, rfl⟩ hq
  have h3 := wpAny_tail (L.drop n) (L.take n) L.toArray (L.take n).length a { w with drawn := w.drawn + 1 } (by rw [List.take_append_drop]) hT (by simpa using h2)
  have e : (L.take n).length + (L.drop n).length = L.length := by rw [← List.length_append, List.take_append_drop]
  rw [e] at h3
  simpa using h3
theorem wp_region_qt {id : Nat} {Q : Exit → Act → World → Prop} {a : Act} {w : World} {L : List Oper} (n : Nat) (hm : P.follows .mixedOrders = true) (hB : Region.lexB .any (L.take n).toArray = true) (hT : tailsOk (L.take n) (L.drop n) = true)
    (h : wpQuiet P (L.take n).toArray (fun w' => ∃ k, w' = w.drewN k) (fun a' => ∀ w', (∃ k, w' = w.drewN k) → wpList P L.toArray Q (L.drop n) a' w') (L.take n) a) : (Code.region id L.toArray true).wp P Q a w :=
  wp_region_any hm (wpAny_qt n hB hT h)

/-- A region whose last operations wait for all others: the others, with a condition on the world that holds till then. -/
theorem wp_region_ht {id : Nat} {Q : Exit → Act → World → Prop} {a : Act} {w : World} {L : List Oper} (n : Nat) (S : World → Prop) (hm : P.follows .mixedOrders = true) (hT : tailsOk (L.take n) (L.drop n) = true) (hS : S w.drew)
    (h : S w.drew → wpAnyH P .any (L.take n).toArray (Exit.then (fun a w => wpList P L.toArray Q (L.drop n) a w) Q) S (L.take n).length (Array.replicate (L.take n).length false) a w.drew) : (Code.region id L.toArray true).wp P Q a w := by
  refine wp_region_any hm ?_
  have h2 := wpAny_of_held _ _ _ _ (h hS)
  have h3 := wpAny_tail (L.drop n) (L.take n) L.toArray (L.take n).length a w.drew (by rw [List.take_append_drop]) hT h2
  have e : (L.take n).length + (L.drop n).length = L.length := by rw [← List.length_append, List.take_append_drop]
  rw [e] at h3
  simpa using h3
/-- No operation is a defer statement. -/
def noDefer (ops : Array Oper) : Bool := ops.all fun o => match o.op with | .defer _ => false | _ => true
theorem wpOpsIn_of {l n : Nat} {ops : Array Oper} {Q : Exit → Act → World → Prop} (hd : noDefer ops = true) (hQ : ¬ LetsOut Q) : ∀ (is : List Nat) (a : Act) (w : World), wpOps P ops Q is a w → wpOpsIn (Fence.wide.inRound l) n P ops Q is a w := by
  intro is
  induction is with
  | nil => intro a w h; exact h
  | cons i is ih =>
    intro a w h
    simp only [wpOps] at h
    simp only [wpOpsIn]
    cases ho : ops[i]? with
    | none => rw [ho] at h; exact ih _ _ h
    | some o =>
      rw [ho] at h
      simp only at h ⊢
      split
      · rename_i hw
        simp only [hw, if_true] at h
        rcases h with h | ⟨_, h⟩
        · refine ⟨fun _ _ => trivial, ?_⟩
          have hnd : ∀ c, o.op ≠ .defer c := by
            intro c hc
            unfold noDefer at hd
            rw [Array.all_eq_true_iff_forall_mem] at hd
            have := hd o (Array.mem_of_getElem? ho)
            rw [hc] at this; cases this
          rw [Oper.semAt_eq _ _ _ hnd]
          unfold Oper.wp at h
          generalize (execOp a.eval o).run P w = r at h ⊢
          cases r with
          | ok x w' =>
            cases x <;> simp only [Oper.upon] at h <;> first
              | exact ih _ _ h
              | exact h.elim
              | (refine ⟨(fun h => by cases h), CallsIn.inRound l (callsIn_wide.2 (h.mono fun e w'' he => ?_))⟩
                 cases e with
                 | returned v => exact ih _ _ he
                 | panicked ch => exact he
                 | outgrown => exact he)
              | (refine ⟨(fun h => by cases h), fun c cs _ => ?_⟩
                 obtain ⟨v, w'', hR, hs⟩ := h c cs
                 exact ⟨v, w'', ih _ _ hR, stepsIn_wide.2 hs⟩)
          | halt x w' => cases x <;> simp only [Oper.upon] at h <;> first | exact h | exact h.elim
        · exact absurd h hQ
      · rename_i hw
        simp only [hw] at h
        exact ⟨fun _ _ => trivial, ih _ _ h⟩
theorem wpIn_region_qt {id l n' : Nat} {Q : Exit → Act → World → Prop} {a : Act} {w : World} {L : List Oper} (n : Nat) (hm : P.follows .mixedOrders = true) (hB : Region.lexB .any (L.take n).toArray = true) (hT : tailsOk (L.take n) (L.drop n) = true) (hd : noDefer L.toArray = true) (hQ : ¬ LetsOut Q)
    (h : wpQuiet P (L.take n).toArray (fun w' => ∃ k, w' = w.drewN k) (fun a' => ∀ w', (∃ k, w' = w.drewN k) → wpList P L.toArray Q (L.drop n) a' w') (L.take n) a) : (Code.region id L.toArray true).wpIn (Fence.wide.inRound l) n' P Q a w :=
  wpIn_region_draw fun t => by
    simp only [Region.schedule, hm, Bool.true_or, if_true]
    exact wpOpsIn_of hd hQ _ _ _ (wpAny_sound _ t _ a _ (wpAny_qt n hB hT h))
end
theorem quiet_left {P : Program} {f : FuncId} {args : Array Value} {w : World} {n : Nat} {v : Value} (h : Calls P f args (w.drewN n) fun e w' => e = .returned v ∧ w.drewN n = w') : Calls P f args (w.drewN n) fun e w'' => e = .returned v ∧ ∃ m, w'' = w.drewN m :=
  h.mono fun _ _ hh => ⟨hh.1, n, hh.2.symm⟩
theorem quiet_add_left {P : Program} {f : FuncId} {args : Array Value} {w : World} {a n : Nat} {v : Value} (h : Calls P f args (w.drewN (a + n)) fun e w' => e = .returned v ∧ w.drewN (a + n) = w') : Calls P f args (w.drewN (a + n)) fun e w'' => e = .returned v ∧ ∃ m, w'' = w.drewN (a + m) :=
  h.mono fun _ _ hh => ⟨hh.1, n, hh.2.symm⟩
end Go.Proofs.Ytepibjfmeibgcaa
