/- Regions of operations in a round of a range over a function. No program is in sight here. -/
import Derived.RangeFuncNested
import Derived.RangeFuncBound
import Derived.RangeFuncCalls
import Derived.RangeFuncLeaves
import Derived.WalkKit
import Derived.OrdersIn
namespace Go.Proofs.Ytbpblhmigijkaaa
open Go.RowKit
set_option linter.unusedVariables false
def noDefer (ops : Array Oper) : Bool := ops.all fun o => match o.op with | .defer _ => false | _ => true
def FenceOf : Option Nat → Fence
 | none => Fence.wide
 | some l => Fence.wide.inRound l
theorem FenceOf.fn (r : Option Nat) (f : FuncId) : (FenceOf r).fn f := by cases r <;> trivial
theorem FenceOf.depth (r : Option Nat) : (FenceOf r).depth = none := by cases r <;> rfl
theorem callsIn_fence {r : Option Nat} {n : Nat} {P : Program} {f : FuncId} {args : Array Value} {w : World} {R : Ending → World → Prop} : CallsIn (FenceOf r) n P f args w R ↔ Calls P f args w R := by
 cases r with
 | none => exact callsIn_wide
 | some l => exact ⟨fun h => callsIn_wide.1 (CallsIn.outOfRound (n := n) h), fun h => CallsIn.inRound l (callsIn_wide.2 h)⟩
theorem rowsIn_fence {r : Option Nat} {n : Nat} {P : Program} {row : String} {args : Array Value} {w : World} {R : Value → World → Prop} (h : Rows P row args w R) : RowsIn (FenceOf r) n P row args w R := by
 have key : ∀ (c : Frame) (cs : List Frame), ∃ v w', R v w' ∧ StepsIn (Machine.fenced P Fence.wide) P (lone (Frame.ofRow P row args .normal) (c :: cs) w) (lone (c.finish v) cs w') := fun c cs => by
  obtain ⟨v, w'', hR, hs⟩ := h c cs
  exact ⟨v, w'', hR, stepsIn_wide.2 hs⟩
 cases r with
 | none => exact fun c cs _ => key c cs
 | some l => exact fun c cs _ => key c cs
theorem opIn_of {r : Option Nat} {n : Nat} {P : Program} {o : Oper} {a : Act} {w : World} {K : Act → World → Prop} {Q : Exit → Act → World → Prop} (hnd : ∀ c, o.op ≠ .defer c) (hQ : ¬ LetsOut Q) (h : o.wp P a w K Q) : o.wpIn (FenceOf r) n P a w K Q := by
  refine ⟨fun _ _ => FenceOf.fn r _, ?_⟩
  rw [Oper.semAt_eq _ _ _ hnd]
  unfold Oper.wp at h
  generalize (execOp a.eval o).run P w = x at h ⊢
  cases x with
  | ok x w' =>
    cases x <;> simp only [Oper.upon] at h <;> first
      | exact h
      | exact h.elim
      | (refine ⟨(fun h => by rw [FenceOf.depth] at h; cases h), callsIn_fence.2 (h.mono fun e w'' he => ?_)⟩
         cases e with
         | returned v => exact he
         | panicked ch => exact he
         | outgrown => exact he)
      | (exact ⟨(fun h => by rw [FenceOf.depth] at h; cases h), rowsIn_fence h⟩)
  | halt x w' => cases x <;> simp only [Oper.upon] at h <;> first | exact h | exact h.elim
theorem opsIn_of {r : Option Nat} {n : Nat} {P : Program} {ops : Array Oper} {Q : Exit → Act → World → Prop} (hd : noDefer ops = true) (hQ : ¬ LetsOut Q) : ∀ (is : List Nat) (a : Act) (w : World), wpOps P ops Q is a w → wpOpsIn (FenceOf r) n P ops Q is a w := by
 intro is
 induction is with
 | nil => intro a w h; exact h
 | cons i is ih =>
  intro a w h
  simp only [wpOps] at h
  simp only [wpOpsIn]
  cases ho : ops[i]? with
  | none => rw [ho] at h; exact ih _ _ h
  | some o =>
   rw [ho] at h
   simp only at h ⊢
   split
   ·rename_i hw
    simp only [hw, if_true] at h
    rcases h with h | ⟨_, h⟩
    ·have hnd : ∀ c, o.op ≠ .defer c := by
      intro c hc
      unfold noDefer at hd
      rw [Array.all_eq_true_iff_forall_mem] at hd
      have := hd o (Array.mem_of_getElem? ho)
      rw [hc] at this; cases this
     exact Oper.wpIn_mono (fun a w h => ih a w h) (opIn_of hnd hQ h)
    ·exact absurd h hQ
   ·rename_i hw
    simp only [hw] at h
    exact ⟨fun _ _ => FenceOf.fn r _, ih _ _ h⟩
theorem wpIn_lit {r : Option Nat} {n id : Nat} {P : Program} {l : List Oper} {Q : Exit → Act → World → Prop} {a : Act} {w : World} (hd : noDefer l.toArray = true) (hQ : ¬ LetsOut Q) (h : wpList P l.toArray Q l a w) : (Code.region id l.toArray false).wpIn (FenceOf r) n P Q a w := by
 refine wpIn_region (opsIn_of hd hQ _ _ _ ?_)
 rw [List.range_eq_range', List.size_toArray, wpOps_eq_wpList l 0 (fun j => by simp)]
 exact h
theorem wpIn_drawn {r : Option Nat} {n id : Nat} {P : Program} {ops : Array Oper} {Q : Exit → Act → World → Prop} {a : Act} {w : World} (hm : P.follows .mixedOrders = true) (hd : noDefer ops = true) (hQ : ¬ LetsOut Q)
  (h : wpAny P .any ops Q ops.size (Array.replicate ops.size false) a { w with drawn := w.drawn + 1 }) : (Code.region id ops true).wpIn (FenceOf r) n P Q a w :=
 wpIn_region_draw fun t => by
  simp only [Region.schedule, hm, Bool.true_or, if_true]
  exact opsIn_of hd hQ _ _ _ (wpAny_sound _ t _ a _ h)
end Go.Proofs.Ytbpblhmigijkaaa
