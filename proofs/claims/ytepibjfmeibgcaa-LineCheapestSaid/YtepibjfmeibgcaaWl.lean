/- The iterator of slices.Backward over pipes, and the flows that line.both hands on. -/
import Derived.Test.YtepibjfmeibgcaaWk
import Derived.Test.YtepibjfmeibgcaaWg
import Derived.Test.YtepibjfmeibgcaaLoad
namespace Go.Proofs.Ytepibjfmeibgcaa
open Go.RowKit Go.Shelf
set_option maxHeartbeats 400000 in
set_option maxRecDepth 100000 in
theorem low_ (k : Nat) (bb : Nat) (B : Option Addr) (cb l2 h2 : Nat) (flows : List Rng) (w : World) (hF : RdR w l2 h2 B flows) (hk : k < flows.length) (hbox : w.cell? ⟨bb, 0, none⟩ = some (.slice B flows.length cb)) :
    Calls Try.prog 90 #[.int .i64 (k : Int), .pointer (some ⟨bb, 0, none⟩)] w fun e w' => e = .returned (.int .i64 flows[k].low) ∧ w = w' := by
  obtain ⟨b, off, rfl, _, _, c0, c1⟩ := RdR.at_ hF hk
  have hk' : (k : Int) < flows.length := by omega
  go_enter Try.func90, Try.ntmps90
  go_wp2
  go_ret
  exact ⟨rfl, rfl⟩
set_option maxHeartbeats 400000 in
set_option maxRecDepth 100000 in
theorem high_ (k : Nat) (bb : Nat) (B : Option Addr) (cb l2 h2 : Nat) (flows : List Rng) (w : World) (hF : RdR w l2 h2 B flows) (hk : k < flows.length) (hbox : w.cell? ⟨bb, 0, none⟩ = some (.slice B flows.length cb)) :
    Calls Try.prog 91 #[.int .i64 (k : Int), .pointer (some ⟨bb, 0, none⟩)] w fun e w' => e = .returned (.int .i64 flows[k].high) ∧ w = w' := by
  obtain ⟨b, off, rfl, _, _, c0, c1⟩ := RdR.at_ hF hk
  have hk' : (k : Int) < flows.length := by omega
  go_enter Try.func91, Try.ntmps91
  go_wp2
  go_ret
  exact ⟨rfl, rfl⟩
theorem backward_ (A : Option Addr) (l c : Nat) (w : World) :
    Calls Try.prog 108 #[.slice A l c] w fun e w' => e = .returned (.func (.func 116) #[] #[.pointer (some ⟨w.heap.size, 0, none⟩)]) ∧ w' = w.alloc (.cells #[.slice A l c] 22) := by
  go_enter Try.func108, Try.ntmps108
  go_wp2
  go_ret
  exact ⟨rfl, rfl⟩

/-- The pipe at an index. -/
def pAt (ps : List Pipe) (i : Nat) : Pipe := ps.getD i default
theorem pAt_eq {ps : List Pipe} {i : Nat} (h : i < ps.length) : pAt ps i = ps[i] := by unfold pAt; rw [List.getD_eq_getElem?_getD, List.getElem?_eq_getElem h]; rfl
attribute [local go_sem] Oper.semAt_some
set_option maxHeartbeats 2000000 in
set_option maxRecDepth 100000 in
theorem backward1_ (A : Option Addr) (c : Nat) (ps : List Pipe) (w : World) (lo hi Bs : Nat) (hR : RdP w lo hi A ps) (hhi : hi ≤ Bs) (hS : Blk w Bs 22 #[.slice A ps.length c]) (hl : ps.length ≤ 60) :
    Iter Try.prog 116 #[.pointer (some ⟨Bs, 0, none⟩)] (fun i : Nat => #[.int .i64 (i : Int), aggP (pAt ps i)]) (downTo ps.length) (fun _ => False) (fun k => k < hi ∨ k = Bs) w := by
  intro l J W hW _ hJ hY h0
  have hSl := hS.lt
  have hSW : Blk W Bs 22 #[.slice A ps.length c] := hW.heap hS (fun h => h)
  obtain ⟨hcW, _⟩ := box_cell hSW
  refine callsIn_of_wp Try.func116 rfl trivial ?_
  simp only [Try.ntmps116, List.size_toArray, List.length_cons, List.length_nil, Nat.reduceAdd, Nat.reduceSub, Array.replicate_succ, Array.replicate_zero, List.push_toArray, List.append_toArray, List.nil_append, List.cons_append]
  gi_wp2
  gi_loopw [3] (fun i wr => ∃ (pre : List Nat) (m : Nat), i = .int .i64 ((m : Int) - 1) ∧ m ≤ ps.length ∧ downTo ps.length = pre ++ downTo m ∧ RdP wr lo hi A ps ∧ Blk wr Bs 22 #[.slice A ps.length c] ∧ J pre wr) (fun i _ => (intOf i + 1).toNat)
  case atStart => exact ⟨[], ps.length, rfl, Nat.le_refl _, rfl, hR.only hW (by omega) (fun _ _ _ h => h), hSW, h0⟩
  case round =>
    obtain ⟨pre, m, rfl, hm, hd, hR1, hS1, hJ1⟩ := hrel
    have HD := Lib.hid hd
    clear hd hcW
    obtain ⟨hc1, _⟩ := box_cell hS1
    have hSl1 := hS1.lt
    cases m with
    | zero =>
      gi_wp2
      go_end0
      have : pre = downTo ps.length := by rw [HD.out]; simp [downTo]
      exact ⟨⟨_, rfl⟩, by rw [← this]; exact hJ1⟩
    | succ m =>
      have hds := downTo_succ m
      have hpr : pre ++ [m] <+: downTo ps.length := ⟨downTo m, by rw [HD.out, hds]; simp⟩
      have HS := Lib.hid hds
      clear hds
      obtain ⟨b, off, rfl, hb1, hb2, c0, c1, c2, c3, c4⟩ := RdP.at_ hR1 (show m < ps.length by omega)
      obtain ⟨fn, tmps, assign, body, hy, hRd⟩ := hY pre m wr hJ1 hpr
      have hg : pAt ps m = ps[m] := pAt_eq (by omega)
      rw [hg] at hy
      simp only [aggP] at hy
      clear hg
      have e1 : (((m + 1 : Nat) : Int) - 1) = (m : Int) := by omega
      rw [e1]
      clear e1
      have hml : (m : Int) < ps.length := by omega
      gi_wp2
      refine hRd.mono ?_
      rintro e W3 ⟨rfl, hJ3, hk3⟩
      have hS3 : Blk W3 Bs 22 #[.slice (some ⟨b, off, none⟩) ps.length c] := hk3.heap hS1 (by simp)
      have hR3 := hR1.only hk3 (by omega) (fun k _ h => by simp; omega)
      gi_wp2
      go_roundw
      case rel => exact ⟨pre ++ [m], m, rfl, by omega, by rw [HD.out, HS.out]; simp, hR3, hS3, hJ3⟩
      case measure => first | (simp [intOf]; done) | (simp [intOf]; omega)
end Go.Proofs.Ytepibjfmeibgcaa
