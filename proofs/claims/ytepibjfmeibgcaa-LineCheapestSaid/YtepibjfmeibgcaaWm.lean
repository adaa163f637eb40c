/- What the run of flows through tubing returns. -/
import Derived.Test.YtepibjfmeibgcaaWl
import Derived.Test.YtepibjfmeibgcaaRg
import Derived.Test.YtepibjfmeibgcaaWh
import Derived.Deep.RegionHeld3
namespace Go.Proofs.Ytepibjfmeibgcaa
open Go.RowKit Go.Shelf
theorem BlkI.only {S : Nat → Prop} {w w' : World} {g : Nat} {xs : List Int} (h : BlkI w g xs) (ho : Only S w w') (hs : ¬ S g) : BlkI w' g xs := by obtain ⟨cur, h, ht⟩ := h; exact ⟨cur, ho.heap h hs, ht⟩
attribute [local go_sem] Oper.semAt_some
/-- What holds between two rounds of the loads. -/
def LdI (w : World) (ps : List Pipe) (pump : Int) (A C : Option Addr) (c cc : Nat) (zs : List Int) (g fb : Nat) (f : Nat → Int) (gs gl gv : Nat) (pre : List Nat) (W : World) : Prop :=
  BlkI W gl (pre.foldl (ldStep ps f zs) (List.replicate ps.length 0)) ∧ BlkI W gv (List.replicate ps.length 0) ∧ Blk W gs 103 #[.slice (some ⟨gl, 0, none⟩) ps.length ps.length, .slice (some ⟨gv, 0, none⟩) ps.length ps.length] ∧
  Blk W w.heap.size 111 #[.int .i64 pump, .slice A ps.length c] ∧ Blk W (w.heap.size + 1) 150 #[.func (.func g) #[] #[.pointer (some ⟨fb, 0, none⟩)]] ∧ Blk W (w.heap.size + 2) 31 #[.slice C zs.length cc] ∧ Blk W (w.heap.size + 3) 103 #[.slice none 0 0, .slice none 0 0] ∧ Below w.heap.size w W
theorem ldI_end {w : World} {ps : List Pipe} {pump : Int} {A C : Option Addr} {c cc : Nat} {zs : List Int} {g fb : Nat} {f : Nat → Int} {gs gl gv : Nat} {pre : List Nat} {W V : World} (n1 : gl ≠ gv) (n2 : gs ≠ gl) (z2 : w.heap.size + 4 ≤ gl)
    (h : LdI w ps pump A C c cc zs g fb f gs gl gv pre W) (ho : Only (fun k => k = gl) W V) {q : List Nat} (hb : BlkI V gl (q.foldl (ldStep ps f zs) (List.replicate ps.length 0))) : LdI w ps pump A C c cc zs g fb f gs gl gv q V := by
  obtain ⟨_, a2, a3, a4, a5, a6, a7, a8⟩ := h
  refine ⟨hb, a2.only ho (by omega), ho.heap a3 (by omega), ho.heap a4 (by omega), ho.heap a5 (by omega), ho.heap a6 (by omega), ho.heap a7 (by omega), a8.trans (ho.below a8.size (fun k hk => by omega))⟩
theorem hid_par {ps : List Pipe} {x : Nat} {p : Pipe} (hp : pAt ps x = p) (ht : Tree ps) (h0 : 0 < x) (hx : x < ps.length) : ∃ q : Nat, p.parent = (q : Int) ∧ q < x := by
  have h := ht x hx
  have e : par ps (x : Int) = p.parent := by rw [← hp]; unfold par pAt; rw [Int.toNat_natCast]
  rw [e] at h
  have : p.parent ≠ -1 := fun hh => by have := h.2.2.1 hh; omega
  exact ⟨p.parent.toNat, by omega, by omega⟩
theorem row_more {n : Nat} {l : List Int} (h : l.length < n) : row n 0 (l ++ [0]) = row n 0 l := by
  unfold row
  obtain ⟨m, hm⟩ : ∃ m, n - l.length = m + 1 := ⟨n - l.length - 1, by omega⟩
  rw [hm, show n - (l ++ [(0 : Int)]).length = m by simp; omega]
  simp [List.replicate_succ]
theorem getD_nonneg {l : List Int} (h : ∀ x ∈ l, 0 ≤ x) (j : Nat) : 0 ≤ l.getD j 0 := by
  rw [List.getD_eq_getElem?_getD]
  cases hg : l[j]? with
  | none => simp
  | some y => exact h y (List.mem_of_getElem? hg)
theorem getD_rng {l : List Int} {B : Int} (hB : 0 ≤ B) (h : ∀ x ∈ l, 0 ≤ x ∧ x ≤ B) (j : Nat) : 0 ≤ l.getD j 0 ∧ l.getD j 0 ≤ B := by
  rw [List.getD_eq_getElem?_getD]
  cases hg : l[j]? with
  | none => simp; exact hB
  | some y => exact h y (List.mem_of_getElem? hg)
theorem vacF_bd {loads z : List Int} (hl : ∀ j, 0 ≤ loads.getD j 0 ∧ loads.getD j 0 ≤ 60000000000) : ∀ (ps : List Pipe) (vs : List Int), (∀ p ∈ ps, PipeOk p) → (∀ x ∈ vs, 0 ≤ x ∧ x ≤ 10000) → ∀ x ∈ vacF loads z ps vs, 0 ≤ x ∧ x ≤ 10000 := by
  intro ps
  induction ps with
  | nil => intro vs _ h; exact h
  | cons p ps ih =>
    intro vs hp h
    refine ih _ (fun q hq => hp q (by simp [hq])) (fun x hx => ?_)
    rw [List.mem_append] at hx
    rcases hx with hx | hx
    · exact h x hx
    · simp only [List.mem_singleton] at hx
      have b := lossZ_bd (hp p (by simp)) (hl vs.length).1 (hl vs.length).2
      have g := getD_rng (by omega) h p.parent.toNat
      subst hx
      split <;> omega
theorem blk_new' (W : World) (k : Nat) (t : TypeId) (cs : Array Value) (hk : W.heap.size = k) : Blk (W.alloc (.cells cs t)) k t cs := by subst hk; exact Blk.new W t cs
set_option maxHeartbeats 4000000 in
set_option maxRecDepth 100000 in
theorem run_ (pump : Int) (A C : Option Addr) (c cc : Nat) (ps : List Pipe) (zs : List Int) (g fb : Nat) (f : Nat → Int) (w : World) (lo hi l3 h3 : Nat) (hR : RdP w lo hi A ps) (hhi : hi ≤ w.heap.size) (hZ : RdI w l3 h3 C zs) (hh3 : h3 ≤ w.heap.size) (hzl : zs.length ≤ maxLen)
    (hn : ps.length ≤ 60) (h1 : 1 ≤ ps.length) (hc : ps.length ≤ c) (ht : Tree ps) (hpp : ∀ i p, ps[i + 1]? = some p → PipeOk p) (hpump : 0 ≤ pump ∧ pump ≤ 10000)
    (eg : ∀ args w, (callFunc g args).run Try.prog w = .ok (.enter g args) w) (hf : ∀ k, k < ps.length → 0 ≤ f k ∧ f k ≤ 1000000000)
    (hflow : ∀ k W, k < ps.length → Below w.heap.size w W → Calls Try.prog g #[.int .i64 (k : Int), .pointer (some ⟨fb, 0, none⟩)] W fun e w' => e = .returned (.int .i64 (f k)) ∧ W = w') :
    Calls Try.prog 89 #[.agg #[.int .i64 pump, .slice A ps.length c], .func (.func g) #[] #[.pointer (some ⟨fb, 0, none⟩)], .slice C zs.length cc] w fun e w' =>
      (∃ gl gv, e = .returned (.agg #[.slice (some ⟨gl, 0, none⟩) ps.length ps.length, .slice (some ⟨gv, 0, none⟩) ps.length ps.length]) ∧ w.heap.size ≤ gl ∧ w.heap.size ≤ gv ∧ BlkI w' gl (loadsL ps f zs) ∧ BlkI w' gv (vacsL pump ps f zs)) ∧ Below w.heap.size w w' := by
  obtain ⟨i0, ei0, ez0, ez1, ez2⟩ := info_parts infoInt
  have hmk := run_make_ints (P := Try.prog) Try.underlying31 ei0 ez0 ez1 ez2 ps.length (by omega)
  clear ei0 ez0 ez1 ez2
  have HFL := Lib.hid hflow
  clear hflow
  refine callsIn_wide.1 (callsIn_of_wp_marks (n := 9) Try.func89 rfl trivial (wpIn_wide.2 ?_))
  simp only [Try.ntmps89, List.size_toArray, List.length_cons, List.length_nil, Nat.reduceAdd, Nat.reduceSub, Array.replicate_succ, Array.replicate_zero, List.push_toArray, List.append_toArray, List.nil_append, List.cons_append]
  go_upto_region 1 with fail
  go_cut [7] from 13 to 24 (fun v7 wx => ∃ gs gl gv : Nat, v7 = .pointer (some ⟨gs, 0, none⟩) ∧ Blk wx gs 103 #[.slice (some ⟨gl, 0, none⟩) ps.length ps.length, .slice (some ⟨gv, 0, none⟩) ps.length ps.length] ∧ BlkI wx gl (List.replicate ps.length 0) ∧ BlkI wx gv (List.replicate ps.length 0) ∧ gl ≠ gv ∧
     gs ≠ gl ∧ gs ≠ gv ∧ w.heap.size + 4 ≤ gs ∧ w.heap.size + 4 ≤ gl ∧ w.heap.size + 4 ≤ gv ∧ Blk wx w.heap.size 111 #[.int .i64 pump, .slice A ps.length c] ∧ Blk wx (w.heap.size + 1) 150 #[.func (.func g) #[] #[.pointer (some ⟨fb, 0, none⟩)]] ∧ Blk wx (w.heap.size + 2) 31 #[.slice C zs.length cc] ∧ Blk wx (w.heap.size + 3) 103 #[.slice none 0 0, .slice none 0 0] ∧ Below w.heap.size w wx)
  case first =>
    go_region
    all_goals (go_wp2_with fail; go_meet)
    all_goals
      first
        | (refine ⟨w.heap.size + 1 + 1 + 1 + 1, w.heap.size + 1 + 1 + 1 + 1 + 1, w.heap.size + 1 + 1 + 1 + 1 + 1 + 1, rfl, ?_, ⟨Array.replicate ps.length (I 0), ?_, by simp⟩, ⟨Array.replicate ps.length (I 0), ?_, by simp⟩, by omega, by omega, by omega, by omega, by omega, by omega, ?_, ?_, ?_, ?_, (by repeat (first | exact Below.refl _ _ | exact (Below.refl _ _) | assumption | (refine Below.setCell ?_ (by first | omega | (simp; done) | (simp; omega) | (simp [World.setCell]; done) | (simp [World.setCell]; omega)) _) | (refine Below.alloc ?_ (by first | omega | (simp; done) | (simp; omega) | (simp [World.setCell]; done) | (simp [World.setCell]; omega)) _) | (refine Below.drewN_ ?_ _) | (refine Below.drew ?_)))⟩ <;> (refine Blk.drew ?_; repeat (first | (refine blk_new' _ _ _ _ ?_; simp; done) | refine Blk.alloc ?_ _)) <;> done)
        | (refine ⟨w.heap.size + 1 + 1 + 1 + 1, w.heap.size + 1 + 1 + 1 + 1 + 1 + 1, w.heap.size + 1 + 1 + 1 + 1 + 1, rfl, ?_, ⟨Array.replicate ps.length (I 0), ?_, by simp⟩, ⟨Array.replicate ps.length (I 0), ?_, by simp⟩, by omega, by omega, by omega, by omega, by omega, by omega, ?_, ?_, ?_, ?_, (by repeat (first | exact Below.refl _ _ | exact (Below.refl _ _) | assumption | (refine Below.setCell ?_ (by first | omega | (simp; done) | (simp; omega) | (simp [World.setCell]; done) | (simp [World.setCell]; omega)) _) | (refine Below.alloc ?_ (by first | omega | (simp; done) | (simp; omega) | (simp [World.setCell]; done) | (simp [World.setCell]; omega)) _) | (refine Below.drewN_ ?_ _) | (refine Below.drew ?_)))⟩ <;> (refine Blk.drew ?_; repeat (first | (refine blk_new' _ _ _ _ ?_; simp; done) | refine Blk.alloc ?_ _)) <;> done)
        | (refine ⟨w.heap.size + 1 + 1 + 1 + 1 + 1, w.heap.size + 1 + 1 + 1 + 1, w.heap.size + 1 + 1 + 1 + 1 + 1 + 1, rfl, ?_, ⟨Array.replicate ps.length (I 0), ?_, by simp⟩, ⟨Array.replicate ps.length (I 0), ?_, by simp⟩, by omega, by omega, by omega, by omega, by omega, by omega, ?_, ?_, ?_, ?_, (by repeat (first | exact Below.refl _ _ | exact (Below.refl _ _) | assumption | (refine Below.setCell ?_ (by first | omega | (simp; done) | (simp; omega) | (simp [World.setCell]; done) | (simp [World.setCell]; omega)) _) | (refine Below.alloc ?_ (by first | omega | (simp; done) | (simp; omega) | (simp [World.setCell]; done) | (simp [World.setCell]; omega)) _) | (refine Below.drewN_ ?_ _) | (refine Below.drew ?_)))⟩ <;> (refine Blk.drew ?_; repeat (first | (refine blk_new' _ _ _ _ ?_; simp; done) | refine Blk.alloc ?_ _)) <;> done)
        | (refine ⟨w.heap.size + 1 + 1 + 1 + 1 + 1, w.heap.size + 1 + 1 + 1 + 1 + 1 + 1, w.heap.size + 1 + 1 + 1 + 1, rfl, ?_, ⟨Array.replicate ps.length (I 0), ?_, by simp⟩, ⟨Array.replicate ps.length (I 0), ?_, by simp⟩, by omega, by omega, by omega, by omega, by omega, by omega, ?_, ?_, ?_, ?_, (by repeat (first | exact Below.refl _ _ | exact (Below.refl _ _) | assumption | (refine Below.setCell ?_ (by first | omega | (simp; done) | (simp; omega) | (simp [World.setCell]; done) | (simp [World.setCell]; omega)) _) | (refine Below.alloc ?_ (by first | omega | (simp; done) | (simp; omega) | (simp [World.setCell]; done) | (simp [World.setCell]; omega)) _) | (refine Below.drewN_ ?_ _) | (refine Below.drew ?_)))⟩ <;> (refine Blk.drew ?_; repeat (first | (refine blk_new' _ _ _ _ ?_; simp; done) | refine Blk.alloc ?_ _)) <;> done)
        | (refine ⟨w.heap.size + 1 + 1 + 1 + 1 + 1 + 1, w.heap.size + 1 + 1 + 1 + 1, w.heap.size + 1 + 1 + 1 + 1 + 1, rfl, ?_, ⟨Array.replicate ps.length (I 0), ?_, by simp⟩, ⟨Array.replicate ps.length (I 0), ?_, by simp⟩, by omega, by omega, by omega, by omega, by omega, by omega, ?_, ?_, ?_, ?_, (by repeat (first | exact Below.refl _ _ | exact (Below.refl _ _) | assumption | (refine Below.setCell ?_ (by first | omega | (simp; done) | (simp; omega) | (simp [World.setCell]; done) | (simp [World.setCell]; omega)) _) | (refine Below.alloc ?_ (by first | omega | (simp; done) | (simp; omega) | (simp [World.setCell]; done) | (simp [World.setCell]; omega)) _) | (refine Below.drewN_ ?_ _) | (refine Below.drew ?_)))⟩ <;> (refine Blk.drew ?_; repeat (first | (refine blk_new' _ _ _ _ ?_; simp; done) | refine Blk.alloc ?_ _)) <;> done)
        | (refine ⟨w.heap.size + 1 + 1 + 1 + 1 + 1 + 1, w.heap.size + 1 + 1 + 1 + 1 + 1, w.heap.size + 1 + 1 + 1 + 1, rfl, ?_, ⟨Array.replicate ps.length (I 0), ?_, by simp⟩, ⟨Array.replicate ps.length (I 0), ?_, by simp⟩, by omega, by omega, by omega, by omega, by omega, by omega, ?_, ?_, ?_, ?_, (by repeat (first | exact Below.refl _ _ | exact (Below.refl _ _) | assumption | (refine Below.setCell ?_ (by first | omega | (simp; done) | (simp; omega) | (simp [World.setCell]; done) | (simp [World.setCell]; omega)) _) | (refine Below.alloc ?_ (by first | omega | (simp; done) | (simp; omega) | (simp [World.setCell]; done) | (simp [World.setCell]; omega)) _) | (refine Below.drewN_ ?_ _) | (refine Below.drew ?_)))⟩ <;> (refine Blk.drew ?_; repeat (first | (refine blk_new' _ _ _ _ ?_; simp; done) | refine Blk.alloc ?_ _)) <;> done)
  case rest =>
    obtain ⟨gs, gl, gv, rfl, hS, hl, hv, n1, n2, n3, z1, z2, z3, hT, hG, hF, hO, hB⟩ := hcut
    have hzc := hB.size
    have t0 : wc.cell? ⟨w.heap.size, 0, none⟩ = some (.int .i64 pump) := by rw [hT.cell]; rfl
    have t1 : wc.cell? ⟨w.heap.size, 1, none⟩ = some (.slice A ps.length c) := by rw [hT.cell]; rfl
    have hTl := hT.lt
    have hSl := hS.lt
    have hll := hl.lt
    have hvl := hv.lt
    have hFl := hF.lt
    have hOl := hO.lt
    go_wp2_with (go_at_call 108; refine (backward_ A ps.length c _).mono ?_; rintro e w' ⟨rfl, rfl⟩)
    obtain ⟨w0, hw0⟩ : ∃ w0, wc.alloc (.cells #[.slice A ps.length c] 22) = w0 := ⟨_, rfl⟩
    have hz0 : w0.heap.size = wc.heap.size + 1 := by rw [← hw0]; simp
    have hBs : Blk w0 wc.heap.size 22 #[.slice A ps.length c] := by rw [← hw0]; exact Blk.new _ _ _
    have hR0 : RdP w0 lo hi A ps := by rw [← hw0]; exact (hR.below hB hhi).alloc (by omega) _
    have hin : LdI w ps pump A C c cc zs g fb f gs gl gv [] w0 := by
      rw [← hw0]; exact ⟨hl.alloc _, hv.alloc _, hS.alloc _, hT.alloc _, hG.alloc _, hF.alloc _, hO.alloc _, hB.alloc hzc _⟩
    rw [hw0]
    refine (wpIn_wide (n := 9)).1 (wp_rangeItA (encs := fun i : Nat => #[.int .i64 (i : Int), aggP (pAt ps i)]) (xs := downTo ps.length) rfl (enters_of Try.func116 (by kernel_rfl) rfl)
      (backward1_ A c ps w0 lo hi wc.heap.size hR0 (by omega) hBs hn) (by intro x; rfl) (fun _ h => h.elim) (fun k h => by rcases h with h | h <;> omega) (LdI w ps pump A C c cc zs g fb f gs gl gv) ?hI hin
      (fun (x : Nat) a' W => ∃ Bx : Nat, Blk W Bx 54 (encP (pAt ps x)).toArray ∧ w0.heap.size + 2 ≤ Bx ∧ a' = { tmps := #[.agg #[.int .i64 pump, .slice A ps.length c], .func (.func g) #[] #[.pointer (some ⟨fb, 0, none⟩)], .slice C zs.length cc, .pointer (some ⟨w.heap.size, 0, none⟩), .pointer (some ⟨w.heap.size + 1, 0, none⟩), .pointer (some ⟨w.heap.size + 1 + 1, 0, none⟩), .pointer (some ⟨w.heap.size + 1 + 1 + 1, 0, none⟩), .pointer (some ⟨gs, 0, none⟩), .int .i64 (x : Int), .pointer (some ⟨Bx, 0, none⟩), undef, undef, undef, u13, u14, u15, u16, u17, u18, u19, u20, u21, u22, u23, .pointer (some ⟨w.heap.size, 0, none⟩), .pointer (some ⟨w.heap.size, 1, none⟩), .slice A ps.length c, .func (.func 116) #[] #[.pointer (some ⟨wc.heap.size, 0, none⟩)], .int .i64 (x : Int), aggP (pAt ps x), undef, undef, undef, undef, undef, undef, undef, undef, undef, undef, undef, undef, undef, undef, undef, undef, undef, undef, undef, undef, undef, undef, undef, undef, undef, undef, undef, undef, undef, undef, undef, undef, undef, undef, undef, undef, undef, undef, undef, undef, undef, undef, undef, undef, undef, undef, undef, undef, undef, undef, undef, undef, undef, undef, undef, undef, undef, undef, undef, undef, undef, undef, undef, undef, undef, undef, undef, undef, undef, undef, undef, undef, undef, undef], defers := [] })
      ?hAx ?hassign ?hbody ?hdone)
    case hI =>
      rintro pre W1 W2 ⟨a1, a2, a3, a4, a5, a6, a7, a8⟩ ho
      have hk : ∀ k, k < w0.heap.size → ¬ (False ∨ (w0.heap.size ≤ k ∧ k ≤ w0.heap.size + 1)) := fun k hk h => by rcases h with h | h; exact h; omega
      exact ⟨a1.only ho (hk _ (by omega)), a2.only ho (hk _ (by omega)), ho.heap a3 (hk _ (by omega)), ho.heap a4 (hk _ (by omega)), ho.heap a5 (hk _ (by omega)), ho.heap a6 (hk _ (by omega)), ho.heap a7 (hk _ (by omega)), a8.trans (ho.below a8.size (fun k h => by rcases h with h | h; exact h.elim; omega))⟩
    case hAx =>
      rintro x a' W1 W2 ⟨Bx, b1, b2, rfl⟩ ho
      exact ⟨Bx, ho.heap b1 (by omega), b2, rfl⟩
    case hassign =>
      intro l pre x W K hi hz hK
      gi_wp2
      exact hK _ _ ⟨W.heap.size, Blk.new _ _ _, hz, rfl⟩ (Only.alloc _ _ _)
    case hbody =>
      rintro l pre x a' W ⟨a1, a2, a3, a4, a5, a6, a7, a8⟩ ⟨Bx, b1, b2, rfl⟩ hpre hz
      have hxl : x < ps.length := by have := downTo_snoc hpre; omega
      have hli := loads_inv (z := zs) ht hn hf pre.length pre rfl ((List.prefix_append _ _).trans hpre)
      have hxe := downTo_snoc hpre
      rw [show ps.length - pre.length = x + 1 by omega] at hli
      have hst := ldStep_inv (z := zs) ht hn hf hxl hli
      have HF := Lib.hid (show (pre ++ [x]).foldl (ldStep ps f zs) (List.replicate ps.length 0) = ldStep ps f zs (pre.foldl (ldStep ps f zs) (List.replicate ps.length 0)) x by rw [List.foldl_append]; rfl)
      generalize hL0' : pre.foldl (ldStep ps f zs) (List.replicate ps.length 0) = L at *
      have HL0 := Lib.hid hL0'
      clear hL0'
      obtain ⟨k1, k2, k3, k4⟩ := hli
      have hfx := hf x hxl
      obtain ⟨f0, f1⟩ := hfx
      have hL0 : 0 ≤ L.getD x 0 := k2 _ (List.mem_of_getElem? (some_getD (by omega)))
      have hL1 : L.getD x 0 ≤ 60000000000 := Int.le_trans (getD_le_sum k2 (x + 1) x (by omega)) (by omega)
      have s0 : W.cell? ⟨gs, 0, none⟩ = some (.slice (some ⟨gl, 0, none⟩) ps.length ps.length) := by rw [a3.cell]; rfl
      have lx := a1.at_ (some_getD (show x < L.length by omega))
      have lf := a1.frozen x
      have gc : W.cell? ⟨w.heap.size + 1, 0, none⟩ = some (.func (.func g) #[] #[.pointer (some ⟨fb, 0, none⟩)]) := by rw [a5.cell]; rfl
      have fc : W.cell? ⟨w.heap.size + 1 + 1, 0, none⟩ = some (.slice C zs.length cc) := by rw [a6.cell]; rfl
      have hxl' : (x : Int) < ps.length := by omega
      have hmix : Try.prog.follows .mixedOrders = true := by kernel_rfl
      generalize hLx : L.getD x 0 = Lx at *
      have HLx := Lib.hid hLx
      clear hLx
      generalize hp : pAt ps x = p at *
      have HP := Lib.hid hp
      clear hp hf hst
      have HCALL := Lib.hid (show ∀ W', Below w.heap.size w W' → Calls Try.prog g #[.int .i64 (x : Int), .pointer (some ⟨fb, 0, none⟩)] W' (fun e w' => e = .returned (.int .i64 (f x)) ∧ W' = w') from fun W' hb => HFL.out x W' hxl hb)
      have HEQ := Lib.hid (⟨hxe, k1, hz0⟩ : x + pre.length + 1 = ps.length ∧ L.length = ps.length ∧ w0.heap.size = wc.heap.size + 1)
      have HB2 := Lib.hid b2
      have HLL := Lib.hid hll
      have HK := Lib.hid (⟨k2, k3, k4⟩ : (∀ x ∈ L, 0 ≤ x) ∧ (L.take (x + 1)).sum ≤ ((ps.length : Int) - ((x + 1 : Nat) : Int)) * 1000000000 ∧ ∀ j, x + 1 ≤ j → L.getD j 0 ≤ 60000000000)
      have HT := Lib.hid ht
      clear hxe k1 hz0 hw0 hin hR0 hBs k2 k3 k4 hpre hpp ht hmk hFl hOl hSl hll hvl hTl t0 t1 hG hF hO hT hS hl hv hB
      clear b2
      gi_wp2_with fail
      refine wpIn_region_qt 10 (by kernel_rfl) (by kernel_rfl) (by kernel_rfl) (by kernel_rfl) (by rintro ⟨_, _, h⟩; exact h) ?_
      simp only [List.take_succ_cons, List.take_zero, List.drop_succ_cons, List.drop_zero]
      (repeat (go_big_quiet_step (fail)))
      refine wpQuiet_step (fun K hK => ?_)
      go_simp
      refine ⟨_, fun m => quiet_left (HCALL.out _ (Below.drewN_ a8 m)), hK _ ?_⟩
      clear hK K
      (repeat (go_big_quiet_step (fail)))
      refine wpQuiet_nil ?_
      intro _ hw'
      obtain ⟨nq, hw''⟩ := hw'
      subst hw''
      go_wp2_with fail
      have hZ2 : RdI ((W.drewN nq).setCell ⟨gl, x, none⟩ (.int .i64 (Lx + f x))) l3 h3 C zs := hZ.below ((by repeat (first | exact Below.refl _ _ | exact (Below.refl _ _) | assumption | (refine Below.setCell ?_ (by first | omega | (simp; done) | (simp; omega) | (simp [World.setCell]; done) | (simp [World.setCell]; omega)) _) | (refine Below.alloc ?_ (by first | omega | (simp; done) | (simp; omega) | (simp [World.setCell]; done) | (simp [World.setCell]; omega)) _) | (refine Below.drewN_ ?_ _) | (refine Below.drew ?_)))) hh3
      have HM := Lib.hid hmix
      have HA := Lib.hid (show LdI w ps pump A C c cc zs g fb f gs gl gv pre W from ⟨HL0.out ▸ a1, a2, a3, a4, a5, a6, a7, a8⟩)
      have HO : Only (fun k => k = gl) W ((W.drewN nq).setCell ⟨gl, x, none⟩ (.int .i64 (Lx + f x))) := (Only.drewN _ _ nq).trans (Only.setCell _ _ _ rfl)
      have HV : BlkI ((W.drewN nq).setCell ⟨gl, x, none⟩ (.int .i64 (Lx + f x))) gl (L.set x (Lx + f x)) := (a1.drewN nq).set_ x _
      have fin : ∀ V, Only (fun k => k = gl) W V → BlkI V gl (ldStep ps f zs L x) → ∀ a, itPost (fun k => k < hi ∨ k = wc.heap.size) w0.heap.size (LdI w ps pump A C c cc zs g fb f gs gl gv (pre ++ [x])) W Exit.normal a V := fun V ho hb a =>
        ⟨ldI_end n1 n2 z2 HA.out ho (by rw [HF.out]; exact hb), ho.mono fun k hk hh => by subst hh; have := HEQ.out.2.2; have := HLL.out; exact ⟨by omega, by omega⟩⟩
      cases hmb : memB zs x with
      | true =>
        have fin' : ∀ a, itPost (fun k => k < hi ∨ k = wc.heap.size) w0.heap.size (LdI w ps pump A C c cc zs g fb f gs gl gv (pre ++ [x])) W Exit.normal a ((W.drewN nq).setCell ⟨gl, x, none⟩ (.int .i64 (Lx + f x))) := fin _ HO (by unfold ldStep; rw [HLx.out, hmb]; simpa using HV)
        have FIN := Lib.hid fin'
        clear fin' fin HV HO
        rcases Nat.eq_zero_or_pos x with hx0 | hx0
        · subst hx0
          gi_wp2_with fail
          refine ⟨trivial, ?_⟩
          gi_wp2_with fail
          exact FIN.out _
        · have hx0' : (0 : Int) < (x : Int) := by omega
          gi_wp2_with (first | (gi_at_call 107; refine (CallsIn.inRound l (callsIn_wide.2 (contains_ C cc l3 h3 zs _ _ hZ2 hzl))).mono ?_; rintro e w1 ⟨rfl, rfl⟩; rw [hmb]) | (refine (⟨trivial, ?_⟩ : Fence.wide.fn 107 ∧ _)))
          exact FIN.out _
      | false =>
        rcases Nat.eq_zero_or_pos x with hx0 | hx0
        · have fin' : ∀ a, itPost (fun k => k < hi ∨ k = wc.heap.size) w0.heap.size (LdI w ps pump A C c cc zs g fb f gs gl gv (pre ++ [x])) W Exit.normal a ((W.drewN nq).setCell ⟨gl, x, none⟩ (.int .i64 (Lx + f x))) := fin _ HO (by unfold ldStep; rw [HLx.out, if_neg (by omega)]; exact HV)
          have FIN := Lib.hid fin'
          clear fin' fin HV HO
          subst hx0
          gi_wp2_with fail
          refine ⟨trivial, ?_⟩
          gi_wp2_with fail
          exact FIN.out _
        · have hx0' : (0 : Int) < (x : Int) := by omega
          have HPL := hid_par HP.out HT.out hx0 hxl
          obtain ⟨q, hq, hqx⟩ := HPL
          have hL2 : (L.set x (Lx + f x)).length = ps.length := by rw [List.length_set]; exact HEQ.out.2.1
          have lq := HV.at_ (some_getD (show q < (L.set x (Lx + f x)).length by omega))
          have lx2 := HV.at_ (some_getD (show x < (L.set x (Lx + f x)).length by omega))
          have e1 : (L.set x (Lx + f x)).getD q 0 = L.getD q 0 := by rw [getD_set _ _ _ (by have := HEQ.out; omega), if_neg (by omega)]
          have e2 : (L.set x (Lx + f x)).getD x 0 = Lx + f x := by rw [getD_set _ _ _ (by have := HEQ.out; omega), if_pos rfl]
          rw [e1] at lq
          rw [e2] at lx2
          have q0 : 0 ≤ L.getD q 0 := HK.out.1 _ (List.mem_of_getElem? (some_getD (by have := HEQ.out; omega)))
          have q1 : L.getD q 0 ≤ 60000000000 := Int.le_trans (getD_le_sum HK.out.1 (x + 1) q (by omega)) (by have := HK.out.2.1; have : ((ps.length : Int) - ((x + 1 : Nat) : Int)) * 1000000000 ≤ 60000000000 := by omega
                                                                                                             omega)
          have lqf := HV.frozen q
          have c0 : ((W.drewN nq).setCell ⟨gl, x, none⟩ (.int .i64 (Lx + f x))).cell? ⟨gs, 0, none⟩ = some (.slice (some ⟨gl, 0, none⟩) ps.length ps.length) := by rw [(show Blk _ gs _ _ from HO.heap a3 (by omega)).cell]; rfl
          have cb : ((W.drewN nq).setCell ⟨gl, x, none⟩ (.int .i64 (Lx + f x))).cell? ⟨Bx, 0, none⟩ = some (.int .i64 (q : Int)) := by rw [(show Blk _ Bx _ _ from HO.heap b1 (by have := HB2.out; have := HEQ.out; have := HLL.out; omega)).cell, ← hq]; rfl
          have fin' : ∀ V, Only (fun k => k = gl) ((W.drewN nq).setCell ⟨gl, x, none⟩ (.int .i64 (Lx + f x))) V → BlkI V gl ((L.set x (Lx + f x)).set q (L.getD q 0 + (Lx + f x))) → ∀ a, itPost (fun k => k < hi ∨ k = wc.heap.size) w0.heap.size (LdI w ps pump A C c cc zs g fb f gs gl gv (pre ++ [x])) W Exit.normal a V := fun V ho hb a =>
            fin V (HO.trans ho) (by unfold ldStep; simp only [HLx.out]; rw [if_pos ⟨hx0, hmb⟩, show (par ps (x : Int)).toNat = q from ?_, e1, e2]; exact hb; rw [show par ps (x : Int) = p.parent by rw [← HP.out]; unfold par pAt; rw [Int.toNat_natCast], hq, Int.toNat_natCast]) a
          have FIN := Lib.hid fin'
          clear fin' fin
          generalize L.getD q 0 = Lq at *
          have hql : (q : Int) < ps.length := by omega
          gi_wp2_with (first | (gi_at_call 107; refine (CallsIn.inRound l (callsIn_wide.2 (contains_ C cc l3 h3 zs _ _ hZ2 hzl))).mono ?_; rintro e w1 ⟨rfl, rfl⟩; rw [hmb]) | (refine (⟨trivial, ?_⟩ : Fence.wide.fn 107 ∧ _)))
          have hmix := HM.out
          clear hc hq
          generalize ((W.drewN nq).setCell ⟨gl, x, none⟩ (.int .i64 (Lx + f x))) = W3 at *
          (refine wpIn_region_qt 13 (by kernel_rfl) (by kernel_rfl) (by kernel_rfl) (by kernel_rfl) (by rintro ⟨_, _, h⟩; exact h) ?_; simp only [List.take_succ_cons, List.take_zero, List.drop_succ_cons, List.drop_zero]; (repeat (go_big_quiet_step (fail))); refine wpQuiet_nil ?_; intro _ hw'; obtain ⟨nq, hw''⟩ := hw'; subst hw'')
          go_wp2_with fail
          exact FIN.out _ ((Only.drewN _ _ nq).trans (Only.setCell _ _ _ rfl)) ((HV.drewN nq).set_ q _) _
    case hdone =>
      rintro W ⟨a1, a2, a3, a4, a5, a6, a7, a8⟩ hz
      have HLS := Lib.hid (⟨hSl, hll, hvl, hz0⟩ : gs < wc.heap.size ∧ gl < wc.heap.size ∧ gv < wc.heap.size ∧ w0.heap.size = wc.heap.size + 1)
      have d := loadsL_inv (z := zs) ht hn hf
      have HVS := Lib.hid (show vacsL pump ps f zs = vacF (loadsL ps f zs) zs (ps.drop 1) [pump] from rfl)
      obtain ⟨LD, hLD⟩ : ∃ LD, loadsL ps f zs = LD := ⟨_, rfl⟩
      replace a1 : BlkI W gl LD := by rw [← hLD]; exact a1
      rw [hLD] at HVS d
      have HLD := Lib.hid hLD
      clear hLD
      obtain ⟨d1, d2, _, d4⟩ := d
      have hBd := Lib.hid (fun k => vacF_bd (loads := LD) (z := zs) (fun j => ⟨getD_nonneg d2 j, d4 j (Nat.zero_le _)⟩) ((ps.drop 1).take k) [pump] (fun p hp => by
        obtain ⟨j, hj⟩ := List.mem_iff_getElem?.1 (List.mem_of_mem_take hp)
        rw [List.getElem?_drop, Nat.add_comm] at hj
        exact hpp j p hj) (by simp only [List.mem_singleton]; rintro x rfl; exact hpump))
      obtain ⟨i5, hi5, hy0, hy1, hy2⟩ := info_parts infoPipe
      obtain ⟨A1, hA1, hsl⟩ := run_from1 (P := Try.prog) Try.underlying22 hi5 A ps.length c h1
      rw [hy1] at hA1
      have hRt := (hR.from1 hc hA1).below a8 hhi
      clear hA1 hy0 hy1 hy2 hi5 hR hR0 hin hz0 hTl hSl hll hvl hFl hOl t0 t1 hw0 hBs hT hG hF hO hS hl hv HFL
      have t0 : W.cell? ⟨w.heap.size, 0, none⟩ = some (.int .i64 pump) := by rw [a4.cell]; rfl
      have t1 : W.cell? ⟨w.heap.size, 1, none⟩ = some (.slice A ps.length c) := by rw [a4.cell]; rfl
      have s0 : W.cell? ⟨gs, 0, none⟩ = some (.slice (some ⟨gl, 0, none⟩) ps.length ps.length) := by rw [a3.cell]; rfl
      have s1 : W.cell? ⟨gs, 1, none⟩ = some (.slice (some ⟨gv, 0, none⟩) ps.length ps.length) := by rw [a3.cell]; rfl
      have fv := a2.frozen 0
      have v0 := a2.at_ (i := 0) (x := 0) (by rw [List.getElem?_replicate, if_pos (by omega)])
      have h0n : (0 : Int) < ps.length := by omega
      have hvlt := a2.lt
      have hZW : RdI W l3 h3 C zs := hZ.below a8 hh3
      go_wp2_with fail
      have hO1 : Only (fun k => k = gv) W (W.setCell ⟨gv, 0, none⟩ (.int .i64 pump)) := Only.setCell _ _ _ rfl
      have hV1 : BlkI (W.setCell ⟨gv, 0, none⟩ (.int .i64 pump)) gv (row ps.length 0 [pump]) := by
        have := a2.set_ 0 pump
        rwa [← row_nil, show (0 : Nat) = ([] : List Int).length from rfl, row_set (by simp; omega)] at this
      go_loopw [72] (fun i wr => ∃ k : Nat, k ≤ ps.length - 1 ∧ i = .int .i64 k ∧ BlkI wr gv (row ps.length 0 (vacF LD zs ((ps.drop 1).take k) [pump])) ∧ Only (fun k => k = gv) W wr) (fun i _ => ps.length - 1 - (intOf i).toNat)
      case atStart => exact ⟨0, by omega, rfl, hV1, hO1⟩
      case round =>
        obtain ⟨k, hk, rfl, hv1, ho⟩ := hrel
        have hvl : (vacF LD zs ((ps.drop 1).take k) [pump]).length = k + 1 := by rw [vacF_len]; simp; omega
        have s0 := (show Blk wr gs 103 _ from ho.heap a3 (by omega)).cell 0
        have s1 := (show Blk wr gs 103 _ from ho.heap a3 (by omega)).cell 1
        have fc := (show Blk wr (w.heap.size + 1 + 1) 31 _ from ho.heap a6 (by omega)).cell 0
        have hob : Blk wr (w.heap.size + 1 + 1 + 1) 103 _ := ho.heap a7 (by omega)
        have oc0 := hob.cell 0
        have oc1 := hob.cell 1
        have of0 := hob.frozen 0
        have of1 := hob.frozen 1
        simp at s0 s1 fc oc0 oc1
        have hzr := ho.2.2.2.1
        have hgs := a3.lt
        have hgl := a1.lt
        have hw8 := a8.size
        obtain ⟨la0, la1, la2, la3, la4, la5⟩ := lt6 (show w.heap.size + 1 + 1 < wr.heap.size by omega)
        obtain ⟨ma0, ma1, ma2, ma3, ma4, ma5⟩ := lt6 (show gs < wr.heap.size by omega)
        obtain ⟨na0, na1, na2, na3, na4, na5⟩ := lt6 (show gl < wr.heap.size by omega)
        obtain ⟨qa0, qa1, qa2, qa3, qa4, qa5⟩ := lt6 (show gv < wr.heap.size by omega)
        by_cases hlt : k < ps.length - 1
        · have hk1 : k < (ps.drop 1).length := by rw [List.length_drop]; omega
          have hsn := vacF_snoc LD zs ((ps.drop 1).take k) (ps.drop 1)[k] [pump]
          rw [← take_snoc _ k hk1, hvl] at hsn
          obtain ⟨b, off, rfl, hb1, hb2, c0, c1, c2, c3, c4⟩ := RdP.at_ (Rd.only hRt ho (by omega) (fun k hk1 hk2 h => by omega)) hk1
          have hxi : ps[k + 1]? = some (ps.drop 1)[k] := by
            have h := List.getElem?_eq_getElem hk1
            rw [List.getElem?_drop, Nat.add_comm] at h
            exact h
          have hpo := hpp k _ hxi
          obtain ⟨q, hq, hqx⟩ := hid_par (x := k + 1) (p := (ps.drop 1)[k]) (by unfold pAt; rw [List.getD_eq_getElem?_getD, hxi]; rfl) ht (by omega) (by omega)
          clear hxi
          generalize (ps.drop 1)[k] = x at *
          have hbd := hBd.out k
          generalize vacF LD zs ((ps.drop 1).take k) [pump] = vs at *
          have hq0 := getD_rng (by omega) hbd q
          have hf0 := d4 (k + 1) (by omega)
          have hf1 := getD_nonneg d2 (k + 1)
          obtain ⟨x0, x1, x2, x3, x4⟩ := x
          simp only at hq hpo c0 c1 c2 c3 c4
          subst hq
          simp only [Int.toNat_natCast] at hsn
          have hk2 : (k : Int) < ps.length - 1 := by omega
          have hk3 : (k : Int) + 1 < ps.length := by omega
          have hZ3 : RdI wr l3 h3 C zs := Rd.only hZW ho (by omega) (fun k hk1 hk2 h => by omega)
          have hZ4 := Lib.hid (fun o => Rd.alloc hZ3 (show h3 ≤ wr.heap.size by omega) o)
          cases hmb : memB zs ((k : Int) + 1) with
          | true =>
            rw [show ((k + 1 : Nat) : Int) = (k : Int) + 1 by omega, hmb] at hsn
            go_wp2_with (go_at_call 107; refine (contains_ C cc l3 h3 zs _ _ (hZ4.out _) hzl).mono ?_; rintro e w1 ⟨rfl, rfl⟩; rw [hmb])
            refine ⟨⟨k + 1, by omega, by go_num, ?_, ho.trans (Only.alloc _ _ _)⟩, by simp [intOf]; omega⟩
            rw [hsn, if_pos trivial, show row ps.length 0 (vs ++ [0]) = row ps.length 0 vs from row_more (by omega)]
            exact hv1.alloc _
          | false =>
            rw [show ((k + 1 : Nat) : Int) = (k : Int) + 1 by omega, hmb] at hsn
            have HSN := Lib.hid hsn
            clear hsn
            have v1 := hv1.at_ (i := q) (x := vs.getD q 0) (by rw [row_get (by omega)]; exact some_getD (by omega))
            have v2 := hv1.at_ (row_next (n := ps.length) (d := 0) (l := vs) (by omega))
            rw [hvl] at v2
            have v3 := hv1.frozen (k + 1)
            have v4 := (a1.only ho (by omega)).at_ (i := k + 1) (x := LD.getD (k + 1) 0) (some_getD (by omega))
            have hset := row_set (n := ps.length) (d := (0 : Int)) (x := max 0 (vs.getD q 0 - lossZ ⟨q, x1, x2, x3, x4⟩ (LD.getD (k + 1) 0))) (l := vs) (by omega)
            rw [hvl] at hset
            have HSET := Lib.hid hset
            clear hset
            have hloss := lossZ_bd hpo hf1 hf0
            generalize hfl : LD.getD (k + 1) 0 = fl at *
            generalize hvq : vs.getD q 0 = vq at *
            have HFL := Lib.hid hfl
            have HVQ := Lib.hid hvq
            clear hfl hvq
            have hLC := fun W => loss_ ⟨q, x1, x2, x3, x4⟩ fl W hpo hf1 hf0
            simp only at hLC
            have HLC := Lib.hid hLC
            clear hLC
            generalize lossZ ⟨q, x1, x2, x3, x4⟩ fl = ls at *
            go_wp2_with (go_at_call 107; refine (contains_ C cc l3 h3 zs _ _ (hZ4.out _) hzl).mono ?_; rintro e w1 ⟨rfl, rfl⟩; rw [hmb])
            have hnb : Blk (wr.alloc (.cells #[.int .i64 (q : Int), .int .i64 x1, .int .i64 x2, .int .i64 x3, .int .i64 x4] 54)) wr.heap.size 54 #[.int .i64 (q : Int), .int .i64 x1, .int .i64 x2, .int .i64 x3, .int .i64 x4] := Blk.new _ _ _
            have hO3 : Only (fun k => k = gv) W (wr.alloc (.cells #[.int .i64 (q : Int), .int .i64 x1, .int .i64 x2, .int .i64 x3, .int .i64 x4] 54)) := ho.trans (Only.alloc _ _ _)
            have hv3 := hv1.alloc (.cells #[.int .i64 (q : Int), .int .i64 x1, .int .i64 x2, .int .i64 x3, .int .i64 x4] 54)
            have hl3 := a1.only hO3 (by omega)
            have hs3 : Blk (wr.alloc (.cells #[.int .i64 (q : Int), .int .i64 x1, .int .i64 x2, .int .i64 x3, .int .i64 x4] 54)) gs 103 _ := hO3.heap a3 (by omega)
            have hgz : gv < wr.heap.size := by omega
            clear v1 v2 v3 v4 s0 s1 fc oc0 oc1 of0 of1 hZ4 c0 c1 c2 c3 c4
            have hi4 : (row ps.length 0 vs)[q]? = some vq := by rw [row_get (by omega), some_getD (by omega), HVQ.out]
            have hi5 : (row ps.length 0 vs)[k + 1]? = some 0 := by have := row_next (n := ps.length) (d := (0 : Int)) (l := vs) (by omega); rwa [hvl] at this
            have hi6 : LD[k + 1]? = some fl := by rw [some_getD (by omega), HFL.out]
            generalize wr.alloc (.cells #[.int .i64 (q : Int), .int .i64 x1, .int .i64 x2, .int .i64 x3, .int .i64 x4] 54) = wA at *
            have hS : ∀ w', Below wA.heap.size wA w' → w'.cell? ⟨gs, 0, none⟩ = some (.slice (some ⟨gl, 0, none⟩) ps.length ps.length) ∧ w'.cell? ⟨gs, 1, none⟩ = some (.slice (some ⟨gv, 0, none⟩) ps.length ps.length) ∧
                w'.cell? ⟨wr.heap.size, 0, none⟩ = some (.int .i64 (q : Int)) ∧ w'.cell? ⟨wr.heap.size, 1, none⟩ = some (.int .i64 x1) ∧ w'.cell? ⟨wr.heap.size, 2, none⟩ = some (.int .i64 x2) ∧ w'.cell? ⟨wr.heap.size, 3, none⟩ = some (.int .i64 x3) ∧ w'.cell? ⟨wr.heap.size, 4, none⟩ = some (.int .i64 x4) ∧
                w'.cell? ⟨gv, q, none⟩ = some (.int .i64 vq) ∧ w'.cell? ⟨gv, k + 1, none⟩ = some (.int .i64 0) ∧ w'.cell? ⟨gl, k + 1, none⟩ = some (.int .i64 fl) ∧ w'.frozen? ⟨gv, k + 1, none⟩ = false := by
              intro w' hb
              have b1 := hnb.below hb hnb.lt
              have b2 := hs3.below hb hs3.lt
              have b3 := hv3.below hb hv3.lt
              have b4 := hl3.below hb hl3.lt
              exact ⟨by rw [b2.cell]; rfl, by rw [b2.cell]; rfl, by rw [b1.cell]; rfl, by rw [b1.cell]; rfl, by rw [b1.cell]; rfl, by rw [b1.cell]; rfl, by rw [b1.cell]; rfl, b3.at_ hi4, b3.at_ hi5, b4.at_ hi6, b3.frozen _⟩
            have HS := Lib.hid hS
            obtain ⟨f1, f2, f3, f4, f5, f6, f7, f8, f9, f10, f11⟩ := hS wA (Below.refl _ _)
            clear hS
            have FIN : Hid (∀ V v, Below wA.heap.size wA V → v = max 0 (vq - ls) → BlkI (V.setCell ⟨gv, k + 1, none⟩ (.int .i64 v)) gv (row ps.length 0 (vacF LD zs ((ps.drop 1).take (k + 1)) [pump])) ∧ Only (fun k => k = gv) W (V.setCell ⟨gv, k + 1, none⟩ (.int .i64 v))) := Lib.hid (by
              rintro V v hb rfl
              refine ⟨?_, (hO3.trans (Only.of_below hb _)).trans (Only.setCell _ _ _ rfl)⟩
              rw [HSN.out, if_neg (by simp), ← HSET.out]
              exact (hv3.below hb hv3.lt).set_ _ _)
            clear hi4 hi5 hi6 hnb hs3 hv3 hl3 hO3 hv1 HSN HSET ho
            obtain ⟨ls0, ls1⟩ := hloss
            obtain ⟨vq0, vq1⟩ := hq0
            have hqn : (q : Int) < ps.length := by omega
            have hk4 : (0 : Int) ≤ (k : Int) + 1 := by omega
            have HT := Lib.hid (fun w' hb => by have h := HS.out w' hb; exact ⟨h.1, h.2.1, h.2.2.1, h.2.2.2.1, h.2.2.2.2.1, h.2.2.2.2.2.1, h.2.2.2.2.2.2.1, h.2.2.2.2.2.2.2.1, h.2.2.2.2.2.2.2.2.2.1, h.2.2.2.2.2.2.2.2.2.2⟩ : ∀ w', Below wA.heap.size wA w' → w'.cell? ⟨gs, 0, none⟩ = some (.slice (some ⟨gl, 0, none⟩) ps.length ps.length) ∧ w'.cell? ⟨gs, 1, none⟩ = some (.slice (some ⟨gv, 0, none⟩) ps.length ps.length) ∧
                w'.cell? ⟨wr.heap.size, 0, none⟩ = some (.int .i64 (q : Int)) ∧ w'.cell? ⟨wr.heap.size, 1, none⟩ = some (.int .i64 x1) ∧ w'.cell? ⟨wr.heap.size, 2, none⟩ = some (.int .i64 x2) ∧ w'.cell? ⟨wr.heap.size, 3, none⟩ = some (.int .i64 x3) ∧ w'.cell? ⟨wr.heap.size, 4, none⟩ = some (.int .i64 x4) ∧
                w'.cell? ⟨gv, q, none⟩ = some (.int .i64 vq) ∧ w'.cell? ⟨gl, k + 1, none⟩ = some (.int .i64 fl) ∧ w'.frozen? ⟨gv, k + 1, none⟩ = false)
            have HU := Lib.hid (fun w' v hb => by
              have h := HT.out w' hb
              have n : ∀ p : Addr, p ≠ ⟨gv, k + 1, none⟩ → (w'.setCell ⟨gv, k + 1, none⟩ v).cell? p = w'.cell? p := fun p hp => World.cell?_setCell_other w' _ p v (fun e => hp e.symm)
              have f := h.2.2.2.2.2.2.2.2.2
              rw [n _ (by first | (simp; done) | (simp; omega)), n _ (by first | (simp; done) | (simp; omega)), n _ (by first | (simp; done) | (simp; omega)), n _ (by first | (simp; done) | (simp; omega)), n _ (by first | (simp; done) | (simp; omega)), n _ (by first | (simp; done) | (simp; omega)), n _ (by first | (simp; done) | (simp; omega)), n _ (by first | (simp; done) | (simp; omega)), n _ (by first | (simp; done) | (simp; omega))]
              exact ⟨h.1, h.2.1, h.2.2.1, h.2.2.2.1, h.2.2.2.2.1, h.2.2.2.2.2.1, h.2.2.2.2.2.2.1, h.2.2.2.2.2.2.2.1, h.2.2.2.2.2.2.2.2.1, by simpa using f⟩ : ∀ w' v, Below wA.heap.size wA w' → (w'.setCell ⟨gv, k + 1, none⟩ v).cell? ⟨gs, 0, none⟩ = some (.slice (some ⟨gl, 0, none⟩) ps.length ps.length) ∧ (w'.setCell ⟨gv, k + 1, none⟩ v).cell? ⟨gs, 1, none⟩ = some (.slice (some ⟨gv, 0, none⟩) ps.length ps.length) ∧
                (w'.setCell ⟨gv, k + 1, none⟩ v).cell? ⟨wr.heap.size, 0, none⟩ = some (.int .i64 (q : Int)) ∧ (w'.setCell ⟨gv, k + 1, none⟩ v).cell? ⟨wr.heap.size, 1, none⟩ = some (.int .i64 x1) ∧ (w'.setCell ⟨gv, k + 1, none⟩ v).cell? ⟨wr.heap.size, 2, none⟩ = some (.int .i64 x2) ∧ (w'.setCell ⟨gv, k + 1, none⟩ v).cell? ⟨wr.heap.size, 3, none⟩ = some (.int .i64 x3) ∧ (w'.setCell ⟨gv, k + 1, none⟩ v).cell? ⟨wr.heap.size, 4, none⟩ = some (.int .i64 x4) ∧
                (w'.setCell ⟨gv, k + 1, none⟩ v).cell? ⟨gv, q, none⟩ = some (.int .i64 vq) ∧ (w'.setCell ⟨gv, k + 1, none⟩ v).cell? ⟨gl, k + 1, none⟩ = some (.int .i64 fl) ∧ (w'.setCell ⟨gv, k + 1, none⟩ v).frozen? ⟨gv, k + 1, none⟩ = false)
            go_region_held3 (fun w' => w'.cell? ⟨gs, 0, none⟩ = some (.slice (some ⟨gl, 0, none⟩) ps.length ps.length) ∧ w'.cell? ⟨gs, 1, none⟩ = some (.slice (some ⟨gv, 0, none⟩) ps.length ps.length) ∧
                w'.cell? ⟨wr.heap.size, 0, none⟩ = some (.int .i64 (q : Int)) ∧ w'.cell? ⟨wr.heap.size, 1, none⟩ = some (.int .i64 x1) ∧ w'.cell? ⟨wr.heap.size, 2, none⟩ = some (.int .i64 x2) ∧ w'.cell? ⟨wr.heap.size, 3, none⟩ = some (.int .i64 x3) ∧ w'.cell? ⟨wr.heap.size, 4, none⟩ = some (.int .i64 x4) ∧
                w'.cell? ⟨gv, q, none⟩ = some (.int .i64 vq) ∧ w'.cell? ⟨gl, k + 1, none⟩ = some (.int .i64 fl) ∧ w'.frozen? ⟨gv, k + 1, none⟩ = false) (first | exact HT.out _ (Below.refl _ _) | exact HT.out _ (Below.refl _ _).drew | exact HT.out _ hbL | exact HU.out _ _ hbL) (first | (go_at_call 76; refine (HLC.out _).mono ?_; rintro e w5 ⟨rfl, hbL'⟩; have hbL : Below wA.heap.size wA w5 := (Below.refl _ _).drew.trans (hbL'.mono (Nat.le_refl _)); clear hbL'; obtain ⟨_, _, _, _, _, _, _, _, g9, _, g11⟩ := HS.out _ hbL))
            go_wp2_with fail
            have FN := FIN.out _ _ hbL (show (if 0 < vq - ls then vq - ls else 0) = max 0 (vq - ls) by split <;> omega)
            refine ⟨⟨k + 1, by omega, by go_num, FN.1, FN.2⟩, by simp [intOf]; omega⟩
        · obtain rfl : k = ps.length - 1 := by omega
          go_wp2_with fail
          have hO2 : Only (fun k => k = w.heap.size + 1 + 1 + 1 ∨ k = gv) W ((wr.setCell ⟨w.heap.size + 1 + 1 + 1, 0, none⟩ (.slice (some ⟨gl, 0, none⟩) ps.length ps.length)).setCell ⟨w.heap.size + 1 + 1 + 1, 1, none⟩ (.slice (some ⟨gv, 0, none⟩) ps.length ps.length)) :=
            ((ho.mono fun _ _ h => .inr h).trans (Only.setCell _ _ _ (.inl rfl))).trans (Only.setCell _ _ _ (.inl rfl))
          obtain ⟨y1, y2, y3, y4⟩ := HLS.out
          have hvN := (hv1.far (p := ⟨w.heap.size + 1 + 1 + 1, 0, none⟩) (by simp only; omega) (.slice (some ⟨gl, 0, none⟩) ps.length ps.length)).far (p := ⟨w.heap.size + 1 + 1 + 1, 1, none⟩) (by simp only; omega) (.slice (some ⟨gv, 0, none⟩) ps.length ps.length)
          rw [row_full (by rw [hvl]; omega), List.take_of_length_le (by rw [List.length_drop]; omega), ← HVS.out] at hvN
          have hlN := a1.only hO2 (by omega)
          have hoN := ((hob.set_ 0 (.slice (some ⟨gl, 0, none⟩) ps.length ps.length)).set_ 1 (.slice (some ⟨gv, 0, none⟩) ps.length ps.length))
          generalize ((wr.setCell ⟨w.heap.size + 1 + 1 + 1, 0, none⟩ (.slice (some ⟨gl, 0, none⟩) ps.length ps.length)).setCell ⟨w.heap.size + 1 + 1 + 1, 1, none⟩ (.slice (some ⟨gv, 0, none⟩) ps.length ps.length)) = F at *
          have hD : F.heap[w0.heap.size]? = some (.deferred (some [])) := hO2.heap hz (by omega)
          refine ⟨by simp, .inl ⟨_, _, rfl, run_takeDeferred hD, ?_⟩⟩
          have hp := Only.putObj (S := fun k => k = w0.heap.size) F w0.heap.size (.deferred none) rfl
          have hoF : (F.putObj w0.heap.size (.deferred none)).heap[w.heap.size + 1 + 1 + 1]? = some (.cells #[.slice (some ⟨gl, 0, none⟩) ps.length ps.length, .slice (some ⟨gv, 0, none⟩) ps.length ps.length] 103) := hp.heap hoN (by omega)
          refine ⟨_, results_cell_row rfl _ _ _ _ _ _ _ rfl hoF Try.underlying103 rfl (by kernel_rfl), ⟨gl, gv, rfl, by omega, by omega, ?_, hvN.only hp (by omega)⟩, a8.trans ((hO2.below a8.size (fun k h => by rcases h with h | h <;> omega)).trans (hp.below (Nat.le_trans a8.size hO2.2.2.2.1) (fun k h => by omega)))⟩
          rw [HLD.out]
          exact hlN.only hp (by omega)
end Go.Proofs.Ytepibjfmeibgcaa
