/- What line.Way returns, for any tubing that can be read. -/
import Derived.Test.YtepibjfmeibgcaaSeq
import Derived.Test.YtepibjfmeibgcaaWd
namespace Go.Proofs.Ytepibjfmeibgcaa
open Go.RowKit Go.Shelf
set_option linter.unusedVariables false

theorem tree_of_ord {p : Pipe} {ps : List Pipe} (h0 : p.parent = -1) (h : Ord (p :: ps)) : Tree (p :: ps) := by
  intro i hi
  unfold par
  cases i with
  | zero => simp [h0]
  | succ i =>
    have hg : (p :: ps)[i + 1]? = some ((p :: ps)[i + 1]) := List.getElem?_eq_getElem hi
    have := h i _ hg
    have e : ((p :: ps).getD ((i + 1 : Nat) : Int).toNat default) = (p :: ps)[i + 1] := by
      rw [Int.toNat_natCast, List.getD_eq_getElem?_getD, hg]; rfl
    rw [e]; omega
theorem netB_tree {n : Net} (h : netB n = true) : Tree n.pipes := by
  have ho := netB_ord h
  unfold netB at h; simp only [Bool.and_eq_true, decide_eq_true_eq] at h
  obtain ⟨pump, pipes⟩ := n
  cases pipes with
  | nil => simp at h
  | cons p ps =>
    have : p = pump0 := by have := h.1.2; simpa using this
    subst this
    exact tree_of_ord rfl ho

theorem collect_ (g : FuncId) (lb : Array Value) (eg : ∀ args w, (callFunc g args).run Try.prog w = .ok (.enter g args) w) (xs : List Int) (Sb Kb : Nat → Prop) (w : World) (hseq : ∀ o, Iter Try.prog g lb (fun x => #[.int .i64 x]) xs Sb Kb (w.alloc o))
    (hS : ∀ k, Sb k → k < w.heap.size) (hK : ∀ k, Kb k → k < w.heap.size) (hN : xs.length ≤ 1000000) :
    Calls Try.prog 70 #[.func (.func g) #[] lb] w fun e w' => (∃ A c, e = .returned (.slice A xs.length c) ∧ xs.length ≤ c ∧ RdI w' w.heap.size w'.heap.size A xs) ∧ Only Sb w w' := by
  go_enter Try.func70, Try.ntmps70
  go_wp2_with (go_at_call 96; refine (appendSeq_ g lb eg xs Sb Kb _ hseq hS hK hN).mono ?_; rintro e w' ⟨⟨A, c, rfl, h1, h2⟩, h3⟩)
  go_ret
  exact ⟨⟨A, c, rfl, h1, h2⟩, h3⟩

theorem up_ (pump node : Int) (A : Option Addr) (l c : Nat) (w : World) :
    Calls Try.prog 71 #[.agg #[.int .i64 pump, .slice A l c], .int .i64 node] w fun e w' => e = .returned (.func (.func 97) #[] #[.pointer (some ⟨w.heap.size + 1, 0, none⟩), .pointer (some ⟨w.heap.size, 0, none⟩)]) ∧
      w' = (w.alloc (.cells #[.int .i64 pump, .slice A l c] 111)).alloc (.cells #[.int .i64 node] 3) := by
  go_enter Try.func71, Try.ntmps71
  go_wp2
  go_ret
  exact ⟨rfl, rfl⟩

attribute [local go_sem] Oper.semAt_some
/-- The node that a box holds. -/
def nodeIn (b : Nat) (w : World) : Nat := match w.cell? ⟨b, 0, none⟩ with | some (.int _ i) => (i + 1).toNat | _ => 0

set_option maxHeartbeats 2000000 in
set_option maxRecDepth 100000 in
theorem up1_ (pump node : Int) (A : Option Addr) (c : Nat) (ps : List Pipe) (w : World) (lo hi Bn Bt : Nat) (hR : RdP w lo hi A ps) (hhi : hi ≤ Bt) (hT : Blk w Bt 111 #[.int .i64 pump, .slice A ps.length c]) (hN : Blk w Bn 3 #[.int .i64 node]) (hBn : Bt < Bn) (ht : Tree ps) (hn : node < ps.length) (hn0 : -1 ≤ node) (hl : ps.length ≤ 60) :
    Iter Try.prog 97 #[.pointer (some ⟨Bn, 0, none⟩), .pointer (some ⟨Bt, 0, none⟩)] (fun x => #[.int .i64 x]) (wayL ps node) (fun k => k = Bn) (fun k => k ≤ Bt ∨ k = Bn) w := by
  intro l J W hW _ hJ hY h0
  refine callsIn_of_wp Try.func97 rfl trivial ?_
  simp only [Try.ntmps97, List.size_toArray, List.length_cons, List.length_nil, Nat.reduceAdd, Nat.reduceSub, Array.replicate_succ, Array.replicate_zero, List.push_toArray, List.append_toArray, List.nil_append, List.cons_append]
  gi_wp2
  gi_loopw [] (fun wr => ∃ (pre : List Int) (i : Int), wayL ps node = pre ++ wayL ps i ∧ -1 ≤ i ∧ i < ps.length ∧ RdP wr lo hi A ps ∧ Blk wr Bt 111 #[.int .i64 pump, .slice A ps.length c] ∧ Blk wr Bn 3 #[.int .i64 i] ∧ J pre wr) (fun wr => nodeIn Bn wr)
  case atStart =>
    have hTl := hT.lt
    have hNl := hN.lt
    exact ⟨[], node, rfl, hn0, hn, hR.only hW (by omega) (fun _ _ _ h => h), hW.heap hT (fun h => h), hW.heap hN (fun h => h), h0⟩
  case round =>
    obtain ⟨pre, i, hw, hi0, hi1, hR1, hT1, hN1, hJ1⟩ := hrel
    have HW := Lib.hid hw
    clear hw
    have hTl := hT1.lt
    have hNl := hN1.lt
    obtain ⟨hc0, hf0⟩ := box_cell hN1
    by_cases hi2 : 0 ≤ i
    · have hst := wayL_step ht hi2 hi1
      have hpr : pre ++ [i] <+: wayL ps node := ⟨wayL ps (par ps i), by rw [HW.out, hst]; simp⟩
      have HST := Lib.hid hst
      clear hst
      obtain ⟨fn, tmps, assign, body, hy, hRd⟩ := hY pre i wr hJ1 hpr
      gi_wp2
      refine hRd.mono ?_
      rintro e W3 ⟨rfl, hJ3, hk3⟩
      have hT3 : Blk W3 Bt 111 #[.int .i64 pump, .slice A ps.length c] := hk3.heap hT1 (by simp)
      have hN3 : Blk W3 Bn 3 #[.int .i64 i] := hk3.heap hN1 (by simp)
      have hR3 := hR1.only hk3 (by omega) (fun k _ h => by simp; omega)
      obtain ⟨hc3, hf3⟩ := box_cell hN3
      have hs3 := hk3.2.2.2.1
      have ht3 := hT3.cell 1
      obtain ⟨b, off, rfl, hb1, hb2, p0, p1, p2, p3, p4⟩ := RdP.at_ (k := i.toNat) hR3 (by omega)
      have hpar : ps[i.toNat].parent = par ps i := by
        unfold par; rw [List.getD_eq_getElem?_getD, List.getElem?_eq_getElem (show i.toNat < ps.length by omega)]; rfl
      rw [hpar] at p0
      have htr := ht i.toNat (by omega)
      have ei : ((i.toNat : Nat) : Int) = i := by omega
      rw [ei] at htr
      obtain ⟨q0, q1, _⟩ := htr
      generalize par ps i = j at *
      clear hpar ei p1 p2 p3 p4 hc0 hf0
      simp only [List.getElem?_toArray, List.getElem?_cons_succ, List.getElem?_cons_zero] at ht3
      gi_wp2
      go_roundw
      case rel => exact ⟨pre ++ [i], j, by rw [HW.out, HST.out]; simp, q0, by omega, hR3.setCell (by simp only; omega) _, hT3.far (by simp only; omega) _, hN3.set_ 0 _, hJ _ _ _ hJ3 (Only.setCell _ _ _ rfl)⟩
      case measure => 
        have e1 : (W3.setCell ⟨Bn, 0, none⟩ (.int .i64 j)).cell? ⟨Bn, 0, none⟩ = some (.int .i64 j) := (box_cell (hN3.set_ 0 (.int .i64 j))).1
        have e2 := (box_cell hN1).1
        unfold nodeIn; rw [e1, e2]; simp only; omega
    · gi_wp2
      go_end0
      have e : wayL ps i = [] := wayL_neg ps (by omega)
      have : pre = wayL ps node := by rw [HW.out, e]; simp
      exact ⟨⟨_, rfl⟩, by rw [← this]; exact hJ1⟩
end Go.Proofs.Ytepibjfmeibgcaa
