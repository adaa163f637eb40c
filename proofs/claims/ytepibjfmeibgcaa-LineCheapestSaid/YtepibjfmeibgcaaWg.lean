/- What line.Way returns, for any tubing that can be read. -/
import Derived.Test.YtepibjfmeibgcaaSeq
import Derived.Test.YtepibjfmeibgcaaWd
namespace Go.Proofs.Ytepibjfmeibgcaa
open Go.RowKit Go.Shelf
set_option linter.unusedVariables false

theorem tree_of_ord {p : Pipe} {ps : List Pipe} (h0 : p.parent = -1) (h : Ord (p :: ps)) : Tree (p :: ps) := by
  intro i hi
  unfold par
  cases i with
  | zero => simp [h0]
  | succ i =>
    have hg : (p :: ps)[i + 1]? = some ((p :: ps)[i + 1]) := List.getElem?_eq_getElem hi
    have := h i _ hg
    have e : ((p :: ps).getD ((i + 1 : Nat) : Int).toNat default) = (p :: ps)[i + 1] := by
      rw [Int.toNat_natCast, List.getD_eq_getElem?_getD, hg]; rfl
    rw [e]; omega
theorem netB_tree {n : Net} (h : netB n = true) : Tree n.pipes := by
  have ho := netB_ord h
  unfold netB at h; simp only [Bool.and_eq_true, decide_eq_true_eq] at h
  obtain ⟨pump, pipes⟩ := n
  cases pipes with
  | nil => simp at h
  | cons p ps =>
    have : p = pump0 := by have := h.1.2; simpa using this
    subst this
    exact tree_of_ord rfl ho

theorem collect_ (g : FuncId) (lb : Array Value) (eg : ∀ args w, (callFunc g args).run Try.prog w = .ok (.enter g args) w) (xs : List Int) (Sb Kb : Nat → Prop) (w : World) (hseq : ∀ o, Iter Try.prog g lb (fun x => #[.int .i64 x]) xs Sb Kb (w.alloc o))
    (hS : ∀ k, Sb k → k < w.heap.size) (hK : ∀ k, Kb k → k < w.heap.size) (hN : xs.length ≤ 1000000) :
    Calls Try.prog 70 #[.func (.func g) #[] lb] w fun e w' => (∃ A c, e = .returned (.slice A xs.length c) ∧ xs.length ≤ c ∧ RdI w' w.heap.size w'.heap.size A xs) ∧ Only Sb w w' := by
  go_enter Try.func70, Try.ntmps70
  go_wp2_with (go_at_call 96; refine (appendSeq_ g lb eg xs Sb Kb _ hseq hS hK hN).mono ?_; rintro e w' ⟨⟨A, c, rfl, h1, h2⟩, h3⟩)
  go_ret
  exact ⟨⟨A, c, rfl, h1, h2⟩, h3⟩

theorem up_ (pump node : Int) (A : Option Addr) (l c : Nat) (w : World) :
    Calls Try.prog 71 #[.agg #[.int .i64 pump, .slice A l c], .int .i64 node] w fun e w' => e = .returned (.func (.func 97) #[] #[.pointer (some ⟨w.heap.size + 1, 0, none⟩), .pointer (some ⟨w.heap.size, 0, none⟩)]) ∧
      w' = (w.alloc (.cells #[.int .i64 pump, .slice A l c] 111)).alloc (.cells #[.int .i64 node] 3) := by
  go_enter Try.func71, Try.ntmps71
  go_wp2
  go_ret
  exact ⟨rfl, rfl⟩

attribute [local go_sem] Oper.semAt_some
/-- The node that a box holds. -/
def nodeIn (b : Nat) (w : World) : Nat := match w.cell? ⟨b, 0, none⟩ with | some (.int _ i) => (i + 1).toNat | _ => 0

set_option maxHeartbeats 2000000 in
set_option maxRecDepth 100000 in
theorem up1_ (pump node : Int) (A : Option Addr) (c : Nat) (ps : List Pipe) (w : World) (lo hi Bn Bt : Nat) (hR : RdP w lo hi A ps) (hhi : hi ≤ Bt) (hT : Blk w Bt 111 #[.int .i64 pump, .slice A ps.length c]) (hN : Blk w Bn 3 #[.int .i64 node]) (hBn : Bt < Bn) (ht : Tree ps) (hn : node < ps.length) (hn0 : -1 ≤ node) (hl : ps.length ≤ 60) :
    Iter Try.prog 97 #[.pointer (some ⟨Bn, 0, none⟩), .pointer (some ⟨Bt, 0, none⟩)] (fun x => #[.int .i64 x]) (wayL ps node) (fun k => k = Bn) (fun k => k ≤ Bt ∨ k = Bn) w := by
  intro l J W hW _ hJ hY h0
  refine callsIn_of_wp Try.func97 rfl trivial ?_
  simp only [Try.ntmps97, List.size_toArray, List.length_cons, List.length_nil, Nat.reduceAdd, Nat.reduceSub, Array.replicate_succ, Array.replicate_zero, List.push_toArray, List.append_toArray, List.nil_append, List.cons_append]
  gi_wp2
  gi_loopw [] (fun wr => ∃ (pre : List Int) (i : Int), wayL ps node = pre ++ wayL ps i ∧ -1 ≤ i ∧ i < ps.length ∧ RdP wr lo hi A ps ∧ Blk wr Bt 111 #[.int .i64 pump, .slice A ps.length c] ∧ Blk wr Bn 3 #[.int .i64 i] ∧ J pre wr) (fun wr => nodeIn Bn wr)
  case atStart =>
    have hTl := hT.lt
    have hNl := hN.lt
    exact ⟨[], node, rfl, hn0, hn, hR.only hW (by omega) (fun _ _ _ h => h), hW.heap hT (fun h => h), hW.heap hN (fun h => h), h0⟩
  case round =>
    obtain ⟨pre, i, hw, hi0, hi1, hR1, hT1, hN1, hJ1⟩ := hrel
    have HW := Lib.hid hw
    clear hw
    have hTl := hT1.lt
    have hNl := hN1.lt
    obtain ⟨hc0, hf0⟩ := box_cell hN1
    by_cases hi2 : 0 ≤ i
    · have hst := wayL_step ht hi2 hi1
      have hpr : pre ++ [i] <+: wayL ps node := ⟨wayL ps (par ps i), by rw [HW.out, hst]; simp⟩
      have HST := Lib.hid hst
      clear hst
      obtain ⟨fn, tmps, assign, body, hy, hRd⟩ := hY pre i wr hJ1 hpr
      gi_wp2
      refine hRd.mono ?_
      rintro e W3 ⟨rfl, hJ3, hk3⟩
      have hT3 : Blk W3 Bt 111 #[.int .i64 pump, .slice A ps.length c] := hk3.heap hT1 (by simp)
      have hN3 : Blk W3 Bn 3 #[.int .i64 i] := hk3.heap hN1 (by simp)
      have hR3 := hR1.only hk3 (by omega) (fun k _ h => by simp; omega)
      obtain ⟨hc3, hf3⟩ := box_cell hN3
      have hs3 := hk3.2.2.2.1
      have ht3 := hT3.cell 1
      obtain ⟨b, off, rfl, hb1, hb2, p0, p1, p2, p3, p4⟩ := RdP.at_ (k := i.toNat) hR3 (by omega)
      have hpar : ps[i.toNat].parent = par ps i := by
        unfold par; rw [List.getD_eq_getElem?_getD, List.getElem?_eq_getElem (show i.toNat < ps.length by omega)]; rfl
      rw [hpar] at p0
      have htr := ht i.toNat (by omega)
      have ei : ((i.toNat : Nat) : Int) = i := by omega
      rw [ei] at htr
      obtain ⟨q0, q1, _⟩ := htr
      generalize par ps i = j at *
      clear hpar ei p1 p2 p3 p4 hc0 hf0
      simp only [List.getElem?_toArray, List.getElem?_cons_succ, List.getElem?_cons_zero] at ht3
      gi_wp2
      go_roundw
      case rel => exact ⟨pre ++ [i], j, by rw [HW.out, HST.out]; simp, q0, by omega, hR3.setCell (by simp only; omega) _, hT3.far (by simp only; omega) _, hN3.set_ 0 _, hJ _ _ _ hJ3 (Only.setCell _ _ _ rfl)⟩
      case measure => 
        have e1 : (W3.setCell ⟨Bn, 0, none⟩ (.int .i64 j)).cell? ⟨Bn, 0, none⟩ = some (.int .i64 j) := (box_cell (hN3.set_ 0 (.int .i64 j))).1
        have e2 := (box_cell hN1).1
        unfold nodeIn; rw [e1, e2]; simp only; omega
    · gi_wp2
      go_end0
      have e : wayL ps i = [] := wayL_neg ps (by omega)
      have : pre = wayL ps node := by rw [HW.out, e]; simp
      exact ⟨⟨_, rfl⟩, by rw [← this]; exact hJ1⟩
end Go.Proofs.Ytepibjfmeibgcaa
/- What line.Way and line.Between return, for any tubing that can be read. -/
namespace Go.Proofs.Ytepibjfmeibgcaa
open Go.RowKit Go.Shelf
theorem Only.toBelow {S : Nat → Prop} {B : Nat} {a W W' : World} (h : Below B a W) (ho : Only S W W') (hB : B ≤ W.heap.size) (hs : ∀ k, S k → B ≤ k) : Below B a W' := h.trans (ho.below hB hs)

set_option maxHeartbeats 800000 in
set_option maxRecDepth 100000 in
theorem Way_arg (n : Net) (node : Int) (A : Option Addr) (c : Nat) (w : World) (lo hi : Nat) (hR : RdP w lo hi A n.pipes) (hhi : hi ≤ w.heap.size) (hc : n.pipes.length ≤ c) (hn : n.pipes.length ≤ maxLen) (hbad : netB n = false) :
    Calls Try.prog 25 #[.agg #[.int .i64 n.pump, .slice A n.pipes.length c], .int .i64 node] w fun e w' => RetI w.heap.size e w' [] 2 ∧ Below w.heap.size w w' := by
  go_enter Try.func25, Try.ntmps25
  go_wp2_with (go_at_call 69; refine (open_arg n A _ c _ [node] _ lo hi ((hR.alloc hhi _).alloc (by simp; omega) _) (by simp; omega) hc hn hbad).mono ?_; rintro e w1 ⟨rfl, hb⟩; obtain ⟨hc1, hf1, hz1⟩ := bcell hb; have hB1 := Below.step (B := w.heap.size) (a := w) (by repeat (first | exact Below.refl _ _ | exact (Below.refl _ _) | assumption | (refine Below.setCell ?_ (by first | omega | (simp; done) | (simp; omega) | (simp [World.setCell]; done) | (simp [World.setCell]; omega)) _) | (refine Below.alloc ?_ (by first | omega | (simp; done) | (simp; omega) | (simp [World.setCell]; done) | (simp [World.setCell]; omega)) _) | (refine Below.drewN_ ?_ _) | (refine Below.drew ?_))) hb (by first | omega | (simp; done) | (simp; omega) | (simp [World.setCell]; done) | (simp [World.setCell]; omega)); simp only [World.size_alloc] at hc1 hf1 hz1)
  go_ret2
  exact ⟨RetI.mk rfl rfl (Nat.le_refl _) Rd.nil, (by repeat (first | exact Below.refl _ _ | exact (Below.refl _ _) | assumption | (refine Below.setCell ?_ (by first | omega | (simp; done) | (simp; omega) | (simp [World.setCell]; done) | (simp [World.setCell]; omega)) _) | (refine Below.alloc ?_ (by first | omega | (simp; done) | (simp; omega) | (simp [World.setCell]; done) | (simp [World.setCell]; omega)) _) | (refine Below.drewN_ ?_ _) | (refine Below.drew ?_)))⟩
set_option maxHeartbeats 800000 in
set_option maxRecDepth 100000 in
theorem Way_none (n : Net) (node : Int) (A : Option Addr) (c : Nat) (w : World) (lo hi : Nat) (hR : RdP w lo hi A n.pipes) (hhi : hi ≤ w.heap.size) (hc : n.pipes.length ≤ c) (hok : netB n = true) (hin : inB 0 (n.pipes.length - 1) node = false) :
    Calls Try.prog 25 #[.agg #[.int .i64 n.pump, .slice A n.pipes.length c], .int .i64 node] w fun e w' => RetI w.heap.size e w' [] 7 ∧ Below w.heap.size w w' := by
  have hin' : inAll 0 (n.pipes.length - 1) [node] = false := by rw [inAll_one]; exact hin
  go_enter Try.func25, Try.ntmps25
  go_wp2_with (go_at_call 69; refine (open_none n A _ c _ 0 _ [node] _ lo hi ((hR.alloc hhi _).alloc (by simp; omega) _) (by simp; omega) hc (rd_one (by go_simp) (by simp)) (Nat.le_refl _) (by unfold maxLen; simp) hok hin').mono ?_; rintro e w1 ⟨rfl, hb⟩; obtain ⟨hc1, hf1, hz1⟩ := bcell hb; have hB1 := Below.step (B := w.heap.size) (a := w) (by repeat (first | exact Below.refl _ _ | exact (Below.refl _ _) | assumption | (refine Below.setCell ?_ (by first | omega | (simp; done) | (simp; omega) | (simp [World.setCell]; done) | (simp [World.setCell]; omega)) _) | (refine Below.alloc ?_ (by first | omega | (simp; done) | (simp; omega) | (simp [World.setCell]; done) | (simp [World.setCell]; omega)) _) | (refine Below.drewN_ ?_ _) | (refine Below.drew ?_))) hb (by first | omega | (simp; done) | (simp; omega) | (simp [World.setCell]; done) | (simp [World.setCell]; omega)); simp only [World.size_alloc] at hc1 hf1 hz1)
  go_ret2
  exact ⟨RetI.mk rfl rfl (Nat.le_refl _) Rd.nil, (by repeat (first | exact Below.refl _ _ | exact (Below.refl _ _) | assumption | (refine Below.setCell ?_ (by first | omega | (simp; done) | (simp; omega) | (simp [World.setCell]; done) | (simp [World.setCell]; omega)) _) | (refine Below.alloc ?_ (by first | omega | (simp; done) | (simp; omega) | (simp [World.setCell]; done) | (simp [World.setCell]; omega)) _) | (refine Below.drewN_ ?_ _) | (refine Below.drew ?_)))⟩
set_option maxHeartbeats 800000 in
set_option maxRecDepth 100000 in
theorem Way_ok (n : Net) (node : Int) (A : Option Addr) (c : Nat) (w : World) (lo hi : Nat) (hR : RdP w lo hi A n.pipes) (hhi : hi ≤ w.heap.size) (hc : n.pipes.length ≤ c) (hok : netB n = true) (hin : inB 0 (n.pipes.length - 1) node = true) :
    Calls Try.prog 25 #[.agg #[.int .i64 n.pump, .slice A n.pipes.length c], .int .i64 node] w fun e w' => RetI w.heap.size e w' (wayL n.pipes node) 0 ∧ Below w.heap.size w w' := by
  have hin' : inAll 0 (n.pipes.length - 1) [node] = true := by rw [inAll_one]; exact hin
  have hnd := inB_true hin
  have hln := netB_len hok
  have htr := netB_tree hok
  have hwl : (wayL n.pipes node).length ≤ 1000000 := by have := wayL_len n.pipes node; omega
  go_enter Try.func25, Try.ntmps25
  go_wp2_with (first
    | (go_at_call 69; refine (open_ok n A _ c _ 0 _ [node] _ lo hi ((hR.alloc hhi _).alloc (by simp; omega) _) (by simp; omega) hc (rd_one (by go_simp) (by simp)) (Nat.le_refl _) (by unfold maxLen; simp) hok hin').mono ?_; rintro e w1 ⟨rfl, hb⟩; obtain ⟨hc1, hf1, hz1⟩ := bcell hb; have hB1 := Below.step (B := w.heap.size) (a := w) (by repeat (first | exact Below.refl _ _ | exact (Below.refl _ _) | assumption | (refine Below.setCell ?_ (by first | omega | (simp; done) | (simp; omega) | (simp [World.setCell]; done) | (simp [World.setCell]; omega)) _) | (refine Below.alloc ?_ (by first | omega | (simp; done) | (simp; omega) | (simp [World.setCell]; done) | (simp [World.setCell]; omega)) _) | (refine Below.drewN_ ?_ _) | (refine Below.drew ?_))) hb (by first | omega | (simp; done) | (simp; omega) | (simp [World.setCell]; done) | (simp [World.setCell]; omega)); have hR1 := ((hR.alloc hhi _).alloc (by simp; omega) _).below hb (by simp; omega); simp only [World.size_alloc] at hc1 hf1 hz1)
    | (go_at_call 71; refine (up_ _ _ _ _ _ _).mono ?_; rintro e w2 ⟨rfl, rfl⟩))
  have hz2 : w1.heap.size + 1 < w1.heap.size + 1 + 1 + 1 := by omega
  have hit : ∀ o, Iter Try.prog 97 #[.pointer (some ⟨w1.heap.size + 1 + 1, 0, none⟩), .pointer (some ⟨w1.heap.size + 1, 0, none⟩)] (fun x => #[.int .i64 x]) (wayL n.pipes node) (fun k => k = w1.heap.size + 1 + 1) (fun k => k ≤ w1.heap.size + 1 ∨ k = w1.heap.size + 1 + 1)
      ((((w1.alloc (.cells #[.int .i64 n.pump, .slice A n.pipes.length c] 111)).alloc (.cells #[.int .i64 n.pump, .slice A n.pipes.length c] 111)).alloc (.cells #[.int .i64 node] 3)).alloc o) := fun o =>
    up1_ n.pump node A c n.pipes _ lo hi (w1.heap.size + 1 + 1) (w1.heap.size + 1)
      ((((hR1.alloc (by omega) _).alloc (by simp; omega) _).alloc (by simp; omega) _).alloc (by simp; omega) _) (by omega)
      ((by simpa using (Blk.new (w1.alloc _) _ _ : Blk _ _ _ _)) |> fun h : Blk ((w1.alloc (.cells #[.int .i64 n.pump, .slice A n.pipes.length c] 111)).alloc (.cells #[.int .i64 n.pump, .slice A n.pipes.length c] 111)) (w1.heap.size + 1) 111 #[.int .i64 n.pump, .slice A n.pipes.length c] => (h.alloc _).alloc _)
      ((by simpa using (Blk.new ((w1.alloc _).alloc _) _ _ : Blk _ _ _ _)) |> fun h : Blk (((w1.alloc (.cells #[.int .i64 n.pump, .slice A n.pipes.length c] 111)).alloc (.cells #[.int .i64 n.pump, .slice A n.pipes.length c] 111)).alloc (.cells #[.int .i64 node] 3)) (w1.heap.size + 1 + 1) 3 #[.int .i64 node] => h.alloc _)
      (by omega) htr (by omega) (by omega) hln.2
  refine (collect_ _ _ (enters_of Try.func97 (by kernel_rfl) rfl) _ _ _ _ hit (fun k hk => by simp; omega) (fun k hk => by simp; omega) hwl).mono ?_
  rintro e w3 ⟨⟨B, cap, rfl, hl, hrd⟩, ho⟩
  go_wp2
  go_ret2
  exact ⟨RetI.mk (base := w.heap.size) rfl rfl hl (hrd.mono (by simp; omega) (Nat.le_refl _)), Only.toBelow (by repeat (first | exact Below.refl _ _ | exact (Below.refl _ _) | assumption | (refine Below.setCell ?_ (by first | omega | (simp; done) | (simp; omega) | (simp [World.setCell]; done) | (simp [World.setCell]; omega)) _) | (refine Below.alloc ?_ (by first | omega | (simp; done) | (simp; omega) | (simp [World.setCell]; done) | (simp [World.setCell]; omega)) _) | (refine Below.drewN_ ?_ _) | (refine Below.drew ?_))) ho (by simp; omega) (fun k hk => by omega)⟩

/-- A number and an error. -/
abbrev retN (d err : Int) : Ending := .returned (.tuple #[.int .i64 d, .int .i64 err])
set_option maxHeartbeats 800000 in
set_option maxRecDepth 100000 in
theorem Between_arg (n : Net) (a b : Int) (A : Option Addr) (c : Nat) (w : World) (lo hi : Nat) (hR : RdP w lo hi A n.pipes) (hhi : hi ≤ w.heap.size) (hc : n.pipes.length ≤ c) (hn : n.pipes.length ≤ maxLen) (hbad : netB n = false) :
    Calls Try.prog 45 #[.agg #[.int .i64 n.pump, .slice A n.pipes.length c], .int .i64 a, .int .i64 b] w fun e w' => e = retN 0 2 ∧ Below w.heap.size w w' := by
  go_enter Try.func45, Try.ntmps45
  go_wp2_with (go_at_call 69; refine (open_arg n A _ c _ [a, b] _ lo hi ((hR.alloc hhi _).alloc (by simp; omega) _) (by simp; omega) hc hn hbad).mono ?_; rintro e w1 ⟨rfl, hb⟩; obtain ⟨hc1, hf1, hz1⟩ := bcell hb; have hB1 := Below.step (B := w.heap.size) (a := w) (by repeat (first | exact Below.refl _ _ | exact (Below.refl _ _) | assumption | (refine Below.setCell ?_ (by first | omega | (simp; done) | (simp; omega) | (simp [World.setCell]; done) | (simp [World.setCell]; omega)) _) | (refine Below.alloc ?_ (by first | omega | (simp; done) | (simp; omega) | (simp [World.setCell]; done) | (simp [World.setCell]; omega)) _) | (refine Below.drewN_ ?_ _) | (refine Below.drew ?_))) hb (by first | omega | (simp; done) | (simp; omega) | (simp [World.setCell]; done) | (simp [World.setCell]; omega)); simp only [World.size_alloc] at hc1 hf1 hz1)
  go_ret2
  exact ⟨rfl, (by repeat (first | exact Below.refl _ _ | exact (Below.refl _ _) | assumption | (refine Below.setCell ?_ (by first | omega | (simp; done) | (simp; omega) | (simp [World.setCell]; done) | (simp [World.setCell]; omega)) _) | (refine Below.alloc ?_ (by first | omega | (simp; done) | (simp; omega) | (simp [World.setCell]; done) | (simp [World.setCell]; omega)) _) | (refine Below.drewN_ ?_ _) | (refine Below.drew ?_)))⟩
set_option maxHeartbeats 800000 in
set_option maxRecDepth 100000 in
theorem Between_none (n : Net) (a b : Int) (A : Option Addr) (c : Nat) (w : World) (lo hi : Nat) (hR : RdP w lo hi A n.pipes) (hhi : hi ≤ w.heap.size) (hc : n.pipes.length ≤ c) (hok : netB n = true) (hin : inAll 0 (n.pipes.length - 1) [a, b] = false) :
    Calls Try.prog 45 #[.agg #[.int .i64 n.pump, .slice A n.pipes.length c], .int .i64 a, .int .i64 b] w fun e w' => e = retN 0 7 ∧ Below w.heap.size w w' := by
  go_enter Try.func45, Try.ntmps45
  go_wp2_with (go_at_call 69; refine (open_none n A _ c _ 0 _ [a, b] _ lo hi ((hR.alloc hhi _).alloc (by simp; omega) _) (by simp; omega) hc (rd_two (by go_simp) (by go_simp) (by simp)) (Nat.le_refl _) (by unfold maxLen; simp) hok hin).mono ?_; rintro e w1 ⟨rfl, hb⟩; obtain ⟨hc1, hf1, hz1⟩ := bcell hb; have hB1 := Below.step (B := w.heap.size) (a := w) (by repeat (first | exact Below.refl _ _ | exact (Below.refl _ _) | assumption | (refine Below.setCell ?_ (by first | omega | (simp; done) | (simp; omega) | (simp [World.setCell]; done) | (simp [World.setCell]; omega)) _) | (refine Below.alloc ?_ (by first | omega | (simp; done) | (simp; omega) | (simp [World.setCell]; done) | (simp [World.setCell]; omega)) _) | (refine Below.drewN_ ?_ _) | (refine Below.drew ?_))) hb (by first | omega | (simp; done) | (simp; omega) | (simp [World.setCell]; done) | (simp [World.setCell]; omega)); simp only [World.size_alloc] at hc1 hf1 hz1)
  go_ret2
  exact ⟨rfl, (by repeat (first | exact Below.refl _ _ | exact (Below.refl _ _) | assumption | (refine Below.setCell ?_ (by first | omega | (simp; done) | (simp; omega) | (simp [World.setCell]; done) | (simp [World.setCell]; omega)) _) | (refine Below.alloc ?_ (by first | omega | (simp; done) | (simp; omega) | (simp [World.setCell]; done) | (simp [World.setCell]; omega)) _) | (refine Below.drewN_ ?_ _) | (refine Below.drew ?_)))⟩
theorem netB_pipe {n : Net} (h : netB n = true) {i : Nat} (hi : i < n.pipes.length) (h0 : 0 < i) : pipeB n.pipes[i] (i - 1) = true := by
  unfold netB at h; simp only [Bool.and_eq_true] at h
  obtain ⟨j, rfl⟩ : ∃ j, i = j + 1 := ⟨i - 1, by omega⟩
  have hj : j < (n.pipes.drop 1).length := by rw [List.length_drop]; omega
  have hg : (n.pipes.drop 1)[j] = n.pipes[j + 1] := by rw [List.getElem_drop]; congr 1; omega
  cases hb : pipeB n.pipes[j + 1] ((j + 1 : Nat) - 1) with
  | true => rfl
  | false =>
    have e : (((j + 1 : Nat) : Int) - 1) = (j : Int) := by omega
    rw [e, ← hg] at hb
    have := pipesB_false _ j hj hb
    rw [this] at h; simp at h
set_option maxHeartbeats 2000000 in
set_option maxRecDepth 100000 in
theorem Between_ok (n : Net) (a0 b0 : Int) (A : Option Addr) (c : Nat) (w : World) (lo hi : Nat) (hR : RdP w lo hi A n.pipes) (hhi : hi ≤ w.heap.size) (hc : n.pipes.length ≤ c) (hok : netB n = true) (hin : inAll 0 (n.pipes.length - 1) [a0, b0] = true) :
    Calls Try.prog 45 #[.agg #[.int .i64 n.pump, .slice A n.pipes.length c], .int .i64 a0, .int .i64 b0] w fun e w' => e = retN (betL n.pipes a0 b0) 0 ∧ Below w.heap.size w w' := by
  have hnd : 0 ≤ a0 ∧ a0 < n.pipes.length ∧ 0 ≤ b0 ∧ b0 < n.pipes.length := by
    rw [inAll_two, Bool.and_eq_true] at hin
    have h1 := inB_true hin.1; have h2 := inB_true hin.2; omega
  have hln := netB_len hok
  have htr := netB_tree hok
  go_enter Try.func45, Try.ntmps45
  go_wp2_with (go_at_call 69; refine (open_ok n A _ c _ 0 _ [a0, b0] _ lo hi ((hR.alloc hhi _).alloc (by simp; omega) _) (by simp; omega) hc (rd_two (by go_simp) (by go_simp) (by simp)) (Nat.le_refl _) (by unfold maxLen; simp) hok hin).mono ?_; rintro e w1 ⟨rfl, hb⟩; obtain ⟨hc1, hf1, hz1⟩ := bcell hb; have hB1 := Below.step (B := w.heap.size) (a := w) (by repeat (first | exact Below.refl _ _ | exact (Below.refl _ _) | assumption | (refine Below.setCell ?_ (by first | omega | (simp; done) | (simp; omega) | (simp [World.setCell]; done) | (simp [World.setCell]; omega)) _) | (refine Below.alloc ?_ (by first | omega | (simp; done) | (simp; omega) | (simp [World.setCell]; done) | (simp [World.setCell]; omega)) _) | (refine Below.drewN_ ?_ _) | (refine Below.drew ?_))) hb (by first | omega | (simp; done) | (simp; omega) | (simp [World.setCell]; done) | (simp [World.setCell]; omega)); have hR1 := ((hR.alloc hhi _).alloc (by simp; omega) _).below hb (by simp; omega); simp only [World.size_alloc] at hc1 hf1 hz1)
  have hR2 := hR1.alloc (by omega) (.cells #[.int .i64 n.pump, .slice A n.pipes.length c] 111)
  go_loop [1, 2, 6] (fun x y z => ∃ a b s : Int, x = .int .i64 a ∧ y = .int .i64 b ∧ z = .int .i64 s ∧ 0 ≤ a ∧ a < n.pipes.length ∧ 0 ≤ b ∧ b < n.pipes.length ∧ s + betL n.pipes a b = betL n.pipes a0 b0 ∧ 0 ≤ s ∧ s ≤ 100000 * (a0 + b0 - a - b)) (fun x y _ => (intOf x + intOf y).toNat)
  case atStart => exact ⟨a0, b0, 0, rfl, rfl, rfl, by omega, by omega, by omega, by omega, by omega, by omega, by omega⟩
  case round =>
    obtain ⟨a, b, s, rfl, rfl, rfl, ha0, ha1, hb0, hb1, hs, hs0, hs1⟩ := hrel
    have HS := Lib.hid hs
    clear hs
    by_cases he : a = b
    · subst he
      have hne : (a != a) = false := by simp
      go_wp2
      go_ret2
      exact ⟨by have := HS.out; rw [betL_same] at this; rw [← this]; simp, (by repeat (first | exact Below.refl _ _ | exact (Below.refl _ _) | assumption | (refine Below.setCell ?_ (by first | omega | (simp; done) | (simp; omega) | (simp [World.setCell]; done) | (simp [World.setCell]; omega)) _) | (refine Below.alloc ?_ (by first | omega | (simp; done) | (simp; omega) | (simp [World.setCell]; done) | (simp [World.setCell]; omega)) _) | (refine Below.drewN_ ?_ _) | (refine Below.drew ?_)))⟩
    · have hne : (a != b) = true := by simpa using he
      obtain ⟨e1, e2, e3⟩ := betL_step htr ha0 hb0 ha1 hb1 he
      rcases Int.lt_or_gt_of_ne he with hlt | hlt
      · rw [Int.max_eq_right (by omega), Int.min_eq_left (by omega)] at e1
        rw [Int.max_eq_right (by omega)] at e2 e3
        have hM1 : b.toNat < n.pipes.length := by omega
        have hpb := netB_pipe hok hM1 (by omega)
        obtain ⟨bb, off, rfl, hb1', hb2', p0, p1, p2, p3, p4⟩ := RdP.at_ (k := b.toNat) hR2 hM1
        unfold pipeB at hpb; simp only [Bool.and_eq_true] at hpb
        have hlen := inB_true hpb.1.1.1.2
        have q0 : n.pipes[b.toNat].parent = par n.pipes b := by unfold par; rw [List.getD_eq_getElem?_getD, List.getElem?_eq_getElem hM1]; rfl
        have q1 : n.pipes[b.toNat].length = (n.pipes.getD b.toNat default).length := by rw [List.getD_eq_getElem?_getD, List.getElem?_eq_getElem hM1]; rfl
        rw [q0] at p0
        rw [← q1] at e1
        clear q0 q1 hpb p2 p3 p4
        have HE := Lib.hid e1
        generalize n.pipes[b.toNat].length = L at *
        generalize par n.pipes b = j at *
        clear e1 he
        go_wp2
        refine ⟨⟨j, a, s + L, rfl, rfl, rfl, e2, by omega, ha0, ha1, ?_, by omega, by omega⟩, by simp [intOf]; omega⟩
        have h1 := HE.out; have h2 := HS.out; omega
      · rw [Int.max_eq_left (by omega), Int.min_eq_right (by omega)] at e1
        rw [Int.max_eq_left (by omega)] at e2 e3
        have hM1 : a.toNat < n.pipes.length := by omega
        have hpb := netB_pipe hok hM1 (by omega)
        obtain ⟨bb, off, rfl, hb1', hb2', p0, p1, p2, p3, p4⟩ := RdP.at_ (k := a.toNat) hR2 hM1
        unfold pipeB at hpb; simp only [Bool.and_eq_true] at hpb
        have hlen := inB_true hpb.1.1.1.2
        have q0 : n.pipes[a.toNat].parent = par n.pipes a := by unfold par; rw [List.getD_eq_getElem?_getD, List.getElem?_eq_getElem hM1]; rfl
        have q1 : n.pipes[a.toNat].length = (n.pipes.getD a.toNat default).length := by rw [List.getD_eq_getElem?_getD, List.getElem?_eq_getElem hM1]; rfl
        rw [q0] at p0
        rw [← q1] at e1
        clear q0 q1 hpb p2 p3 p4
        have HE := Lib.hid e1
        generalize n.pipes[a.toNat].length = L at *
        generalize par n.pipes a = j at *
        clear e1 he
        go_wp2
        refine ⟨⟨j, b, s + L, rfl, rfl, rfl, e2, by omega, hb0, hb1, ?_, by omega, by omega⟩, by simp [intOf]; omega⟩
        have h1 := HE.out; have h2 := HS.out; omega
end Go.Proofs.Ytepibjfmeibgcaa
/- What line.Behind returns, for any tubing that can be read. -/
namespace Go.Proofs.Ytepibjfmeibgcaa
open Go.RowKit Go.Shelf
theorem infoBool : (Try.prog.info? 4).map (fun i => (i.zero, i.size, i.bytes)) = some (some (.bool false), 1, 1) := by kernel_rfl
/-- make([]T, n), for T of one cell. -/
theorem run_make_one {P : Program} {t e : TypeId} {i : TypeInfo} {z : Value} (ht : P.underlying t = some (.slice e)) (hi : P.info? e = some i) (hz : i.zero = some z) (hc : z.cells = #[z]) (hs : i.size = 1) (hb : i.bytes ≤ 16) (n : Nat) (hn : n ≤ 1000000) :
    ∀ W : World, (Instr.makeSlice t (.int .i64 (n : Int)) (.int .i64 (n : Int))).run P W = .ok (.slice (some ⟨W.heap.size, 0, none⟩) n n) (W.alloc (.cells (List.replicate n z).toArray e)) := fun W => by
  have hr := run_make (P := P) W t e i z ht hi hz .i64 .i64 n n (by omega) (by omega) (by have : (i.bytes : Int) * n ≤ 16 * 1000000 := Int.mul_le_mul (by omega) (by omega) (by omega) (by omega); omega) (by omega)
  rw [hr]
  simp [hs, madeCells, hc]
  congr 2
  apply Array.ext
  · simp
  · intro j h1 h2; simp [Nat.mod_one]
def encB (b : Bool) : List Value := [.bool b]
abbrev RdB (w : World) (lo hi : Nat) (A : Option Addr) (xs : List Bool) : Prop := Rd encB 1 w lo hi A xs
theorem Rd.one_at {α : Type} {f : α → Value} {w : World} {lo hi : Nat} {A : Option Addr} {xs : List α} {k : Nat} (h : Rd (fun x => [f x]) 1 w lo hi A xs) (hk : k < xs.length) : ∃ b off, A = some ⟨b, off, none⟩ ∧ lo ≤ b ∧ b < hi ∧ w.cell? ⟨b, off + k, none⟩ = some (f xs[k]) := by
  obtain ⟨b, off, e, h1, h2, hc⟩ := Rd.at_ h hk
  have := hc 0 (f xs[k]) rfl
  simp only [Nat.mul_one, Nat.add_zero] at this
  exact ⟨b, off, e, h1, h2, this⟩
theorem Blk.rdOne {α : Type} {f : α → Value} {w : World} {g : Nat} {t : TypeId} {xs : List α} (h : Blk w g t (xs.map f).toArray) {lo hi : Nat} (h1 : lo ≤ g) (h2 : g < hi) : Rd (fun x => [f x]) 1 w lo hi (some ⟨g, 0, none⟩) xs := fun _ => by
  refine ⟨g, 0, rfl, h1, h2, fun i x hx j u hu => ?_⟩
  rw [h.cell]
  match j, hu with
  | 0, hu => simp at hu; subst hu; simp [hx]
theorem Blk.at_ {α : Type} {f : α → Value} {w : World} {g : Nat} {t : TypeId} {xs : List α} {i : Nat} {x : α} (h : Blk w g t (xs.map f).toArray) (hx : xs[i]? = some x) : w.cell? ⟨g, i, none⟩ = some (f x) := by
  rw [h.cell]; simp [hx]

set_option maxHeartbeats 2000000 in
set_option maxRecDepth 100000 in
theorem behind_ (pump node : Int) (A : Option Addr) (c : Nat) (ps : List Pipe) (w : World) (lo hi : Nat) (hR : RdP w lo hi A ps) (hhi : hi ≤ w.heap.size) (hn : ps.length ≤ 60) (h1 : 1 ≤ ps.length) (ht : Tree ps) (hnd : 0 ≤ node) :
    Calls Try.prog 81 #[.agg #[.int .i64 pump, .slice A ps.length c], .int .i64 node] w fun e w' => e = .returned (.slice (some ⟨w.heap.size + 1, 0, none⟩) ps.length ps.length) ∧ Blk w' (w.heap.size + 1) 4 ((behL ps node).map Value.bool).toArray ∧ Below w.heap.size w w' := by
  obtain ⟨i0, hi0, hz0, hz1, hz2⟩ := info_parts infoBool
  have hmk := run_make_one (P := Try.prog) Try.underlying139 hi0 hz0 rfl hz1 (by omega) ps.length (by omega)
  clear hi0 hz0 hz1 hz2
  go_enter Try.func81, Try.ntmps81
  go_wp2_with fail
  go_loopw [17] (fun i wr => ∃ k : Nat, k ≤ ps.length ∧ i = .int .i64 k ∧ Blk wr (w.heap.size + 1) 4 ((row ps.length false (behF node (ps.take k) [])).map Value.bool).toArray ∧ Below w.heap.size w wr ∧ w.heap.size + 1 < wr.heap.size) (fun i _ => ps.length - (intOf i).toNat)
  case atStart => exact ⟨0, by omega, rfl, by simpa [behF, row_nil] using Blk.new (w.alloc _) 4 _, ((Below.refl _ _).alloc (Nat.le_refl _) _).alloc (by simp) _, by simp⟩
  case round =>
    obtain ⟨k, hk, rfl, hblk, hB, hz⟩ := hrel
    by_cases hlt : k < ps.length
    · obtain ⟨b, off, rfl, hb1, hb2, c0, c1, c2, c3, c4⟩ := RdP.at_ (hR.below hB hhi) hlt
      have hl : (behF node (ps.take k) []).length = k := by rw [behF_len]; simp; omega
      have hsn := behF_snoc node (ps.take k) ps[k] []
      rw [← take_snoc ps k hlt, hl] at hsn
      have htr := ht k hlt
      have hpar : par ps k = ps[k].parent := by unfold par; rw [Int.toNat_natCast, List.getD_eq_getElem?_getD, List.getElem?_eq_getElem hlt]; rfl
      rw [hpar] at htr
      generalize behF node (ps.take k) [] = l at *
      generalize ps[k] = p at *
      have hset := row_set (n := ps.length) (d := false) (x := behStep node k p l) (l := l) (by omega)
      rw [hl, ← hsn] at hset
      have HSET := Lib.hid hset
      have g1 := hblk.at_ (row_next (d := false) (l := l) (n := ps.length) (by omega))
      rw [hl] at g1
      have g2 := hblk.frozen k
      have p5 : (k : Int) < ps.length := by omega
      have fin : ∀ v : Bool, behStep node k p l = v → ∀ o, ∀ W, W = (wr.setCell ⟨w.heap.size + 1, k, none⟩ (.bool v)).alloc o → (∃ k_1 : Nat, k_1 ≤ ps.length ∧ Value.int .i64 ((k : Int) + 1) = .int .i64 k_1 ∧ Blk W (w.heap.size + 1) 4 ((row ps.length false (behF node (ps.take k_1) [])).map Value.bool).toArray ∧ Below w.heap.size w W ∧ w.heap.size + 1 < W.heap.size) := by
        intro v hv o W hW
        subst hW
        refine ⟨k + 1, by omega, by go_num, ?_, (hB.setCell (by simp) _).alloc (by simp [World.setCell]; omega) _, by simp [World.setCell]; omega⟩
        have e := HSET.out
        rw [hv] at e
        rw [← e, List.map_set, ← List.setIfInBounds_toArray]
        exact (hblk.set_ k _).alloc _
      have FIN := Lib.hid fin
      clear fin hset hsn
      by_cases he : (k : Int) = node
      · have he1 : ((k : Int) == node) = true := by simpa using he
        have hv := Lib.hid (show behStep node k p l = true by simp [behStep, he])
        clear he
        go_wp2
        exact ⟨FIN.out _ hv.out _ _ rfl, by simp [intOf]; omega⟩
      · have he1 : ((k : Int) == node) = false := by simpa using he
        by_cases hg : node < (k : Int)
        · have hp0 : 0 ≤ p.parent := by omega
          have hp1 : p.parent < (ps.length : Int) := by omega
          have em : max p.parent 0 = p.parent := Int.max_eq_left hp0
          have g3 := hblk.at_ (i := p.parent.toNat) (x := l.getD p.parent.toNat false) (by
            rw [row_get (by omega), List.getD_eq_getElem?_getD, List.getElem?_eq_getElem (show p.parent.toNat < l.length by omega)]; rfl)
          have hv := Lib.hid (show behStep node k p l = l.getD p.parent.toNat false by simp [behStep, he, hg, em])
          generalize l.getD p.parent.toNat false = v at *
          clear he em
          go_wp2
          exact ⟨FIN.out _ hv.out _ _ rfl, by simp [intOf]; omega⟩
        · have hv := Lib.hid (show behStep node k p l = false by simp [behStep, he, hg])
          clear he
          have hg' : decide (node < (k : Int)) = false := by simpa using hg
          go_wp2
          exact ⟨FIN.out _ hv.out _ _ rfl, by simp [intOf]; omega⟩
    · obtain rfl : k = ps.length := by omega
      go_wp2_with fail
      go_ret
      refine ⟨rfl, ?_, hB⟩
      rw [List.take_length] at hblk
      rw [row_full (by rw [behF_len]; simp)] at hblk
      exact hblk

theorem behL_len (ps : List Pipe) (node : Int) : (behL ps node).length = ps.length := by unfold behL; rw [behF_len]; simp

set_option maxHeartbeats 800000 in
set_option maxRecDepth 100000 in
theorem Behind_arg (n : Net) (node : Int) (A : Option Addr) (c : Nat) (w : World) (lo hi : Nat) (hR : RdP w lo hi A n.pipes) (hhi : hi ≤ w.heap.size) (hc : n.pipes.length ≤ c) (hn : n.pipes.length ≤ maxLen) (hbad : netB n = false) :
    Calls Try.prog 44 #[.agg #[.int .i64 n.pump, .slice A n.pipes.length c], .int .i64 node] w fun e w' => RetI w.heap.size e w' [] 2 ∧ Below w.heap.size w w' := by
  go_enter Try.func44, Try.ntmps44
  go_wp2_with (go_at_call 69; refine (open_arg n A _ c _ [node] _ lo hi ((hR.alloc hhi _).alloc (by simp; omega) _) (by simp; omega) hc hn hbad).mono ?_; rintro e w1 ⟨rfl, hb⟩; obtain ⟨hc1, hf1, hz1⟩ := bcell hb; have hB1 := Below.step (B := w.heap.size) (a := w) (by repeat (first | exact Below.refl _ _ | exact (Below.refl _ _) | assumption | (refine Below.setCell ?_ (by first | omega | (simp; done) | (simp; omega) | (simp [World.setCell]; done) | (simp [World.setCell]; omega)) _) | (refine Below.alloc ?_ (by first | omega | (simp; done) | (simp; omega) | (simp [World.setCell]; done) | (simp [World.setCell]; omega)) _) | (refine Below.drewN_ ?_ _) | (refine Below.drew ?_))) hb (by first | omega | (simp; done) | (simp; omega) | (simp [World.setCell]; done) | (simp [World.setCell]; omega)); simp only [World.size_alloc] at hc1 hf1 hz1)
  go_ret2
  exact ⟨RetI.mk rfl rfl (Nat.le_refl _) Rd.nil, (by repeat (first | exact Below.refl _ _ | exact (Below.refl _ _) | assumption | (refine Below.setCell ?_ (by first | omega | (simp; done) | (simp; omega) | (simp [World.setCell]; done) | (simp [World.setCell]; omega)) _) | (refine Below.alloc ?_ (by first | omega | (simp; done) | (simp; omega) | (simp [World.setCell]; done) | (simp [World.setCell]; omega)) _) | (refine Below.drewN_ ?_ _) | (refine Below.drew ?_)))⟩
set_option maxHeartbeats 800000 in
set_option maxRecDepth 100000 in
theorem Behind_none (n : Net) (node : Int) (A : Option Addr) (c : Nat) (w : World) (lo hi : Nat) (hR : RdP w lo hi A n.pipes) (hhi : hi ≤ w.heap.size) (hc : n.pipes.length ≤ c) (hok : netB n = true) (hin : inB 0 (n.pipes.length - 1) node = false) :
    Calls Try.prog 44 #[.agg #[.int .i64 n.pump, .slice A n.pipes.length c], .int .i64 node] w fun e w' => RetI w.heap.size e w' [] 7 ∧ Below w.heap.size w w' := by
  have hin' : inAll 0 (n.pipes.length - 1) [node] = false := by rw [inAll_one]; exact hin
  go_enter Try.func44, Try.ntmps44
  go_wp2_with (go_at_call 69; refine (open_none n A _ c _ 0 _ [node] _ lo hi ((hR.alloc hhi _).alloc (by simp; omega) _) (by simp; omega) hc (rd_one (by go_simp) (by simp)) (Nat.le_refl _) (by unfold maxLen; simp) hok hin').mono ?_; rintro e w1 ⟨rfl, hb⟩; obtain ⟨hc1, hf1, hz1⟩ := bcell hb; have hB1 := Below.step (B := w.heap.size) (a := w) (by repeat (first | exact Below.refl _ _ | exact (Below.refl _ _) | assumption | (refine Below.setCell ?_ (by first | omega | (simp; done) | (simp; omega) | (simp [World.setCell]; done) | (simp [World.setCell]; omega)) _) | (refine Below.alloc ?_ (by first | omega | (simp; done) | (simp; omega) | (simp [World.setCell]; done) | (simp [World.setCell]; omega)) _) | (refine Below.drewN_ ?_ _) | (refine Below.drew ?_))) hb (by first | omega | (simp; done) | (simp; omega) | (simp [World.setCell]; done) | (simp [World.setCell]; omega)); simp only [World.size_alloc] at hc1 hf1 hz1)
  go_ret2
  exact ⟨RetI.mk rfl rfl (Nat.le_refl _) Rd.nil, (by repeat (first | exact Below.refl _ _ | exact (Below.refl _ _) | assumption | (refine Below.setCell ?_ (by first | omega | (simp; done) | (simp; omega) | (simp [World.setCell]; done) | (simp [World.setCell]; omega)) _) | (refine Below.alloc ?_ (by first | omega | (simp; done) | (simp; omega) | (simp [World.setCell]; done) | (simp [World.setCell]; omega)) _) | (refine Below.drewN_ ?_ _) | (refine Below.drew ?_)))⟩
set_option maxHeartbeats 2000000 in
set_option maxRecDepth 100000 in
theorem Behind_ok (n : Net) (node : Int) (A : Option Addr) (c : Nat) (w : World) (lo hi : Nat) (hR : RdP w lo hi A n.pipes) (hhi : hi ≤ w.heap.size) (hc : n.pipes.length ≤ c) (hok : netB n = true) (hin : inB 0 (n.pipes.length - 1) node = true) :
    Calls Try.prog 44 #[.agg #[.int .i64 n.pump, .slice A n.pipes.length c], .int .i64 node] w fun e w' => RetI w.heap.size e w' (trues (behL n.pipes node) 0) 0 ∧ Below w.heap.size w w' := by
  have hin' : inAll 0 (n.pipes.length - 1) [node] = true := by rw [inAll_one]; exact hin
  have hnd := inB_true hin
  have hln := netB_len hok
  have htr := netB_tree hok
  obtain ⟨i0, ei0, ez0, ez1, ez2⟩ := info_parts infoInt
  go_enter Try.func44, Try.ntmps44
  go_wp2_with (first
    | (go_at_call 69; refine (open_ok n A _ c _ 0 _ [node] _ lo hi ((hR.alloc hhi _).alloc (by simp; omega) _) (by simp; omega) hc (rd_one (by go_simp) (by simp)) (Nat.le_refl _) (by unfold maxLen; simp) hok hin').mono ?_; rintro e w1 ⟨rfl, hb⟩; obtain ⟨hc1, hf1, hz1⟩ := bcell hb; have hB1 := Below.step (B := w.heap.size) (a := w) (by repeat (first | exact Below.refl _ _ | exact (Below.refl _ _) | assumption | (refine Below.setCell ?_ (by first | omega | (simp; done) | (simp; omega) | (simp [World.setCell]; done) | (simp [World.setCell]; omega)) _) | (refine Below.alloc ?_ (by first | omega | (simp; done) | (simp; omega) | (simp [World.setCell]; done) | (simp [World.setCell]; omega)) _) | (refine Below.drewN_ ?_ _) | (refine Below.drew ?_))) hb (by first | omega | (simp; done) | (simp; omega) | (simp [World.setCell]; done) | (simp [World.setCell]; omega)); have hR1 := ((hR.alloc hhi _).alloc (by simp; omega) _).below hb (by simp; omega); simp only [World.size_alloc] at hc1 hf1 hz1)
    | (go_at_call 81; refine (behind_ n.pump node A c n.pipes _ lo hi (hR1.alloc (by omega) _) (by simp; omega) hln.2 hln.1 htr (by omega)).mono ?_; rintro e w2 ⟨rfl, hblk, hb2⟩; have hB2 := Below.step (B := w.heap.size) (a := w) (by repeat (first | exact Below.refl _ _ | exact (Below.refl _ _) | assumption | (refine Below.setCell ?_ (by first | omega | (simp; done) | (simp; omega) | (simp [World.setCell]; done) | (simp [World.setCell]; omega)) _) | (refine Below.alloc ?_ (by first | omega | (simp; done) | (simp; omega) | (simp [World.setCell]; done) | (simp [World.setCell]; omega)) _) | (refine Below.drewN_ ?_ _) | (refine Below.drew ?_))) hb2 (by first | omega | (simp; done) | (simp; omega) | (simp [World.setCell]; done) | (simp [World.setCell]; omega)); simp only [World.size_alloc] at hblk))
  have hbl := behL_len n.pipes node
  have hrd := hblk.rdOne (f := Value.bool) (lo := w1.heap.size + 1 + 1) (hi := w2.heap.size) (Nat.le_refl _) hblk.lt
  have hz2' := hb2.size
  simp only [World.size_alloc] at hz2'
  generalize hbs : behL n.pipes node = bs at *
  have HBS := Lib.hid hbs
  clear hbs
  have HBL := Lib.hid hbl
  clear hbl
  go_loopw [4, 23] (fun v i wr => ∃ k : Nat, k ≤ bs.length ∧ i = .int .i64 k ∧ wr.ownsRow w2.heap.size 3 1 v (trues (bs.take k) 0).length ((trues (bs.take k) 0).map I) ∧ Below w2.heap.size w2 wr) (fun _ i _ => bs.length - (intOf i).toNat)
  case atStart => exact ⟨0, by omega, rfl, ⟨by simp [trues], .inl ⟨rfl, rfl⟩⟩, Below.refl _ _⟩
  case round =>
    obtain ⟨k, hk, rfl, hrow, hB⟩ := hrel
    by_cases hlt : k < bs.length
    · have hlt' : (k : Int) < n.pipes.length := by have := HBL.out; omega
      have hkc : wr.cell? ⟨w1.heap.size + 1 + 1, k, none⟩ = some (.bool bs[k]) := by
        rw [hB.cell (by simp only; exact hblk.lt)]; exact hblk.at_ (List.getElem?_eq_getElem hlt)
      have hsn := trues_snoc (bs.take k) bs[k] 0
      rw [← take_snoc bs k hlt] at hsn
      have hkl : (bs.take k).length = k := by simp; omega
      rw [hkl, Nat.zero_add] at hsn
      have htl := trues_len (bs.take k) 0
      rw [hkl] at htl
      have hbl60 : bs.length ≤ 60 := by have := HBL.out; omega
      generalize trues (bs.take k) 0 = L at *
      have HSN := Lib.hid hsn
      clear hsn hkl
      cases hb3 : bs[k] with
      | false =>
        rw [hb3] at hkc
        have hb3' := Lib.hid hb3
        clear hb3
        go_wp2
        refine ⟨⟨k + 1, by omega, by go_num, ?_, hB⟩, by simp [intOf]; omega⟩
        rw [HSN.out, hb3'.out]; simpa using hrow
      | true =>
        rw [hb3] at hkc
        have hb3' := Lib.hid hb3
        clear hb3
        have hsz := hB.size
        go_wp2_with (at_builtin; (refine wpList_append_own _ rfl _ _ 31 rfl w2.heap.size 3 i0 (.int .i64 0) 1 8 Try.underlying31 ei0 ez0 ez1 ez2 rfl (by decide) _ _ _ rfl (hrow.alloc _) ⟨wr.heap.size, 0, none⟩ 1 1 [.int .i64 k] rfl rfl (cell_one_new _ _ _) (by simp [Value.oneCell']) (by unfold maxLen; omega) (by omega) (by simp; omega) ?_); intro v' w3 hown' hgrow _)
        refine ⟨⟨k + 1, by omega, by go_num, ?_, (hB.alloc hsz _).grown hgrow (by simp; omega) (fun r e => (hrow.lt r e).1)⟩, by simp [intOf]; omega⟩
        rw [HSN.out, hb3'.out]
        simpa using hown'
    · obtain rfl : k = bs.length := by omega
      rw [List.take_length] at hrow
      obtain ⟨A', c', rfl, h2, h3⟩ := ownsRow_rdI hrow
      have hge : (n.pipes.length : Int) ≤ bs.length := by have := HBL.out; omega
      go_wp2
      go_ret2
      exact ⟨by rw [HBS.out]; exact RetI.mk (base := w.heap.size) rfl rfl h2 (h3.mono (by omega) (Nat.le_refl _)), hB2.trans (hB.mono (by omega))⟩
end Go.Proofs.Ytepibjfmeibgcaa
