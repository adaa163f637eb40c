/- Contracts of the law's helpers and of the program's functions, each in one word. -/
import Derived.Test.YtepibjfmeibgcaaRb
namespace Go.Proofs.Ytepibjfmeibgcaa
open Go.RowKit
theorem ownC (pump : Int) (A : Option Addr) (c lo hi : Nat) (xs : List Pipe) (w : World) (hR : RdP w lo hi A xs) (hh : hi ≤ w.heap.size) (hn : xs.length ≤ 1000000) :
    Calls Try.prog 17 #[.agg #[.int .i64 pump, .slice A xs.length c]] w fun e w' => (∃ B c', e = .returned (.agg #[.int .i64 pump, .slice B xs.length c']) ∧ xs.length ≤ c' ∧ RdP w' w.heap.size w'.heap.size B xs) ∧ Below w.heap.size w w' :=
  (own_ pump A c lo hi xs w hR hh hn).mono fun e w' h => by
    obtain ⟨B, c', rfl, ho, hb⟩ := h
    obtain ⟨A', c2, ev, hcc, hRB⟩ := ownsRow_rd encP_len (by decide) ho rfl
    simp only [Value.slice.injEq] at ev
    obtain ⟨rfl, _, rfl⟩ := ev
    exact ⟨⟨B, c', rfl, hcc, hRB⟩, hb⟩
theorem rangesC (A : Option Addr) (c lo hi : Nat) (xs : List Rng) (w : World) (hR : RdR w lo hi A xs) (hh : hi ≤ w.heap.size) (hn : xs.length ≤ 1000000) :
    Calls Try.prog 18 #[.slice A xs.length c] w fun e w' => (∃ B c', e = .returned (.slice B xs.length c') ∧ xs.length ≤ c' ∧ RdR w' w.heap.size w'.heap.size B xs) ∧ Below w.heap.size w w' :=
  (ranges_ A c lo hi xs w hR hh hn).mono fun e w' h => by
    obtain ⟨v, rfl, ho, hb⟩ := h
    obtain ⟨A', c2, rfl, hcc, hRB⟩ := ownsRow_rd encR_len (by decide) ho rfl
    exact ⟨⟨A', c2, rfl, hcc, hRB⟩, hb⟩
theorem numbersC (A : Option Addr) (c lo hi : Nat) (xs : List Int) (w : World) (hR : RdI w lo hi A xs) (hh : hi ≤ w.heap.size) (hn : xs.length ≤ 1000000) :
    Calls Try.prog 28 #[.slice A xs.length c] w fun e w' => (∃ B c', e = .returned (.slice B xs.length c') ∧ xs.length ≤ c' ∧ RdI w' w.heap.size w'.heap.size B xs) ∧ Below w.heap.size w w' :=
  (numbers_ A c lo hi xs w hR hh hn).mono fun e w' h => by
    obtain ⟨v, rfl, ho, hb⟩ := h
    obtain ⟨A', c2, rfl, hcc, hRB⟩ := ownsRow_rd encI_len (by decide) ho rfl
    exact ⟨⟨A', c2, rfl, hcc, hRB⟩, hb⟩
theorem chkF_zero {m : Nat} {flows : List Rng} {zs : List Int} (h : chkF m flows zs = 0) : flows.length = m ∧ flowsB flows = true := by
  unfold chkF at h
  split at h
  · split at h
    · exact ⟨‹_›, ‹_›⟩
    · cases h
  · cases h
/-- What each function of the program comes to, with its error. -/
def HeightsV (n : Net) : List Int × Int := if netB n then (heightsL n.pipes, 0) else ([], 2)
def ClimbsV (n : Net) : List Int × Int := if netB n then (climbsL n.pipes, 0) else ([], 2)
def WayV (n : Net) (i : Int) : List Int × Int := if netB n then (if inB 0 (n.pipes.length - 1) i then (wayL n.pipes i, 0) else ([], 7)) else ([], 2)
def BehindV (n : Net) (i : Int) : List Int × Int := if netB n then (if inB 0 (n.pipes.length - 1) i then (trues (behL n.pipes i) 0, 0) else ([], 7)) else ([], 2)
def BetweenV (n : Net) (a b : Int) : Int × Int := if netB n then (if inAll 0 (n.pipes.length - 1) [a, b] then (betL n.pipes a b, 0) else (0, 7)) else (0, 2)
/-- The error of flows and frozen pipes for tubing. -/
def flowE (n : Net) (flows : List Rng) (zs : List Int) : Int := if netB n then chkF n.pipes.length flows zs else 2
def LoadsV (n : Net) (flows : List Rng) (zs : List Int) : List Rng × Int := if flowE n flows zs = 0 then (pairL (loadsL n.pipes (lowF flows) zs) (loadsL n.pipes (highF flows) zs), 0) else ([], flowE n flows zs)
def VacuumV (n : Net) (flows : List Rng) (zs : List Int) : List Rng × Int := if flowE n flows zs = 0 then (pairL (vacsL n.pump n.pipes (highF flows) zs) (vacsL n.pump n.pipes (lowF flows) zs), 0) else ([], flowE n flows zs)
section
variable (n : Net) (A : Option Addr) (c : Nat) (w : World) (lo hi : Nat) (hR : RdP w lo hi A n.pipes) (hhi : hi ≤ w.heap.size) (hc : n.pipes.length ≤ c) (hn : n.pipes.length ≤ maxLen)
include hR hhi hc hn
theorem HeightsC : Calls Try.prog 30 #[.agg #[.int .i64 n.pump, .slice A n.pipes.length c]] w fun e w' => RetI w.heap.size e w' (HeightsV n).1 (HeightsV n).2 ∧ Below w.heap.size w w' := by
  unfold HeightsV
  cases h : netB n with
  | false => exact Heights_bad n A c w lo hi hR hhi hc hn h
  | true => exact Heights_ok n A c w lo hi hR hhi hc h
theorem ClimbsC : Calls Try.prog 31 #[.agg #[.int .i64 n.pump, .slice A n.pipes.length c]] w fun e w' => RetI w.heap.size e w' (ClimbsV n).1 (ClimbsV n).2 ∧ Below w.heap.size w w' := by
  unfold ClimbsV
  cases h : netB n with
  | false => exact Climbs_bad n A c w lo hi hR hhi hc hn h
  | true => exact Climbs_ok n A c w lo hi hR hhi hc h
theorem WayC (i : Int) : Calls Try.prog 25 #[.agg #[.int .i64 n.pump, .slice A n.pipes.length c], .int .i64 i] w fun e w' => RetI w.heap.size e w' (WayV n i).1 (WayV n i).2 ∧ Below w.heap.size w w' := by
  unfold WayV
  cases h : netB n with
  | false => exact Way_arg n i A c w lo hi hR hhi hc hn h
  | true =>
    cases h2 : inB 0 (n.pipes.length - 1) i with
    | false => exact Way_none n i A c w lo hi hR hhi hc h h2
    | true => exact Way_ok n i A c w lo hi hR hhi hc h h2
theorem BehindC (i : Int) : Calls Try.prog 44 #[.agg #[.int .i64 n.pump, .slice A n.pipes.length c], .int .i64 i] w fun e w' => RetI w.heap.size e w' (BehindV n i).1 (BehindV n i).2 ∧ Below w.heap.size w w' := by
  unfold BehindV
  cases h : netB n with
  | false => exact Behind_arg n i A c w lo hi hR hhi hc hn h
  | true =>
    cases h2 : inB 0 (n.pipes.length - 1) i with
    | false => exact Behind_none n i A c w lo hi hR hhi hc h h2
    | true => exact Behind_ok n i A c w lo hi hR hhi hc h h2
theorem BetweenC (a b : Int) : Calls Try.prog 45 #[.agg #[.int .i64 n.pump, .slice A n.pipes.length c], .int .i64 a, .int .i64 b] w fun e w' => e = retN (BetweenV n a b).1 (BetweenV n a b).2 ∧ Below w.heap.size w w' := by
  unfold BetweenV
  cases h : netB n with
  | false => exact Between_arg n a b A c w lo hi hR hhi hc hn h
  | true =>
    cases h2 : inAll 0 (n.pipes.length - 1) [a, b] with
    | false => exact Between_none n a b A c w lo hi hR hhi hc h h2
    | true => exact Between_ok n a b A c w lo hi hR hhi hc h h2
section
variable (B C : Option Addr) (cb cc : Nat) (flows : List Rng) (zs : List Int) (l2 h2 l3 h3 : Nat) (hF : RdR w l2 h2 B flows) (hh2 : h2 ≤ w.heap.size) (hfl : flows.length ≤ maxLen) (hZ : RdI w l3 h3 C zs) (hh3 : h3 ≤ w.heap.size) (hzc : zs.length ≤ cc) (hzl : zs.length ≤ maxLen)
include hF hh2 hfl hZ hh3 hzc hzl
theorem LoadsC : Calls Try.prog 23 #[.agg #[.int .i64 n.pump, .slice A n.pipes.length c], .slice B flows.length cb, .slice C zs.length cc] w fun e w' => RetR w.heap.size e w' (LoadsV n flows zs).1 (LoadsV n flows zs).2 ∧ Below w.heap.size w w' := by
  unfold LoadsV flowE
  cases h : netB n with
  | false => exact Loads_arg n A B C c cb cc flows.length zs w lo hi hR hhi hc hn h
  | true =>
    by_cases hk : chkF n.pipes.length flows zs = 0
    · simp only [if_true, if_pos hk]
      have hlf := chkF_zero hk
      exact Loads_ok n A B C c cb cc flows zs w lo hi l2 h2 l3 h3 hR hhi hc hF hh2 hfl hZ hh3 hzc hzl h hk hlf.1 hlf.2
    · simp only [if_true, if_neg hk]
      exact Loads_chk n A B C c cb cc flows zs w lo hi l2 h2 l3 h3 hR hhi hc hF hh2 hfl hZ hh3 hzc hzl h hk
theorem VacuumC : Calls Try.prog 24 #[.agg #[.int .i64 n.pump, .slice A n.pipes.length c], .slice B flows.length cb, .slice C zs.length cc] w fun e w' => RetR w.heap.size e w' (VacuumV n flows zs).1 (VacuumV n flows zs).2 ∧ Below w.heap.size w w' := by
  unfold VacuumV flowE
  cases h : netB n with
  | false => exact Vacuum_arg n A B C c cb cc flows.length zs w lo hi hR hhi hc hn h
  | true =>
    by_cases hk : chkF n.pipes.length flows zs = 0
    · simp only [if_true, if_pos hk]
      have hlf := chkF_zero hk
      exact Vacuum_ok n A B C c cb cc flows zs w lo hi l2 h2 l3 h3 hR hhi hc hF hh2 hfl hZ hh3 hzc hzl h hk hlf.1 hlf.2
    · simp only [if_true, if_neg hk]
      exact Vacuum_chk n A B C c cb cc flows zs w lo hi l2 h2 l3 h3 hR hhi hc hF hh2 hfl hZ hh3 hzc hzl h hk
end
end
end Go.Proofs.Ytepibjfmeibgcaa
