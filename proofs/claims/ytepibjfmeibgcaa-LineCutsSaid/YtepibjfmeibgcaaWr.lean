/- What the planner's sum over the children returns. -/
import Derived.Test.YtepibjfmeibgcaaWq
namespace Go.Proofs.Ytepibjfmeibgcaa
open Go.RowKit Go.Shelf
open Go.Maps (Keyed)
/-- What the planner was given is well. -/
structure PlOk (ps : List Pipe) (loads : List Int) (bores : List Bor) (need pump : Int) : Prop where
  t : Tree ps
  n : ps.length ≤ 60
  ll : loads.length = ps.length
  l : ∀ j, 0 ≤ loads.getD j 0 ∧ loads.getD j 0 ≤ 60000000000
  p : ∀ j, 0 < j → j < ps.length → PipeOk (pAt ps j)
  b : boresB bores = true
  bn : bores.length ≤ 6
  need : 0 ≤ need ∧ need ≤ 10000
theorem atL_bd {ps : List Pipe} {loads : List Int} {bores : List Bor} {need pump : Int} (h : PlOk ps loads bores need pump) {node : Nat} {vac : Int} (h0 : 0 < node) (hn : node < ps.length) (v0 : 0 ≤ vac) (v1 : vac ≤ 10000) :
    -1 ≤ (atL ps loads bores need node vac).index ∧ (atL ps loads bores need node vac).index < 6 ∧ 0 ≤ (atL ps loads bores need node vac).cost ∧ (atL ps loads bores need node vac).cost ≤ 6000000000 ∧ 0 ≤ (atL ps loads bores need node vac).vac ∧ (atL ps loads bores need node vac).vac ≤ 10000 := by
  obtain ⟨a1, a2, a3, a4, a5, a6⟩ := atF_ok (need := need) h.t h.l h.p h.b (ps.length - node) node vac h0 hn v0 v1
  have w := wL_bd h.t (M := 100000000) (by omega) hn
  have hb := h.bn
  have hl := h.n
  unfold wL at w
  unfold atL
  exact ⟨a1, by omega, a3, by omega, a5, a6⟩
def AtR (N bm : Nat) (W0 : World) (ps : List Pipe) (loads : List Int) (bores : List Bor) (need : Int) (bx node : Nat) (vac : Int) : Prop :=
  ∀ W, Kp N bm W0 W → PlT ps loads bores need W bm → Calls Try.prog 63 #[.pointer (some ⟨bx, 0, none⟩), keyV node vac] W fun e W' => e = .returned (choV (atL ps loads bores need node vac)) ∧ PlT ps loads bores need W' bm ∧ W.grownBy W' (some bm)
def AllR (N bm : Nat) (W0 : World) (ps : List Pipe) (loads : List Int) (bores : List Bor) (need : Int) (bx node : Nat) (vac : Int) : Prop :=
  ∀ W, Kp N bm W0 W → PlT ps loads bores need W bm → Calls Try.prog 62 #[.pointer (some ⟨bx, 0, none⟩), .int .i64 node, .int .i64 vac] W fun e W' => e = .returned (.tuple #[.int .i64 (allF (atL ps loads bores need) vac (kids ps node) 0).1, .bool (allF (atL ps loads bores need) vac (kids ps node) 0).2]) ∧ PlT ps loads bores need W' bm ∧ W.grownBy W' (some bm)
theorem allF_step (rec : Nat → Int → Cho) (v : Int) (ks : List Nat) (k : Nat) (hk : k < ks.length) (s : Int) : allF rec v (ks.drop k) s = if (rec ks[k] v).index < 0 then (0, false) else allF rec v (ks.drop (k + 1)) (s + (rec ks[k] v).cost) := by
  rw [List.drop_eq_getElem_cons hk]; rfl
set_option maxHeartbeats 1000000 in
set_option maxRecDepth 100000 in
theorem all_ (N bm : Nat) (W0 : World) (ps : List Pipe) (loads : List Int) (bores : List Bor) (need pump : Int) (bx bc node : Nat) (vac : Int) (A L B : Option Addr) (c cl cb : Nat) (hS : PlS N bm W0 ps loads bores need pump bx bc A L B c cl cb) (hok : PlOk ps loads bores need pump)
    (hn : node < ps.length) (v0 : 0 ≤ vac) (v1 : vac ≤ 10000) (hat : ∀ k ∈ kids ps node, AtR N bm W0 ps loads bores need bx k vac) : AllR N bm W0 ps loads bores need bx node vac := by
  intro W hK hT
  obtain ⟨A1, kc, lo, hi, k0, kr, kf⟩ := hS.k node hn
  have kcell := Lib.hid (hK.2 bc hS.kN hS.km)
  have hX := hK.blk hS.x hS.xN hS.xm
  have x3 := hX.cell 3
  simp at x3
  have k1 : W.cell? ⟨bc, node, none⟩ = some (.slice A1 (kids ps node).length kc) := (World.cell?_of_block (w := W0) kcell.out).trans k0
  have hlen : (kids ps node).length ≤ 60 := by
    have := hok.n
    have h := List.length_filter_le (fun (j : Nat) => decide (0 < j ∧ par ps j = node)) (List.range ps.length)
    unfold kids; rw [List.length_range] at h; omega
  have hbm := hT.lt
  have hpl := hok.n
  clear kcell k0
  go_enter Try.func62, Try.ntmps62
  go_wp2_with fail
  go_loopw [6, 19] (fun s i wr => ∃ (k : Nat) (z : Int), k ≤ (kids ps node).length ∧ i = .int .i64 k ∧ s = .int .i64 z ∧ 0 ≤ z ∧ z ≤ k * 6000000000 ∧ allF (atL ps loads bores need) vac (kids ps node) 0 = allF (atL ps loads bores need) vac ((kids ps node).drop k) z ∧ PlT ps loads bores need wr bm ∧ W.grownBy wr (some bm)) (fun _ i _ => (kids ps node).length - (intOf i).toNat)
  case atStart => exact ⟨0, 0, Nat.zero_le _, rfl, rfl, by omega, by omega, rfl, hT, World.grownBy.refl _ _⟩
  case round =>
    obtain ⟨k, z, hk, rfl, rfl, z0, z1, he, hTw, hg⟩ := hrel
    have HE := Lib.hid he
    clear he
    have hKw := hK.grown hg
    have hzz := hg.size
    by_cases hlt : k < (kids ps node).length
    · have hmem := List.getElem_mem hlt
      have hst := Lib.hid (allF_step (atL ps loads bores need) vac (kids ps node) k hlt z)
      have hgt := kids_gt hok.t hmem
      have hbd := atL_bd hok (show 0 < (kids ps node)[k] by omega) hgt.2 v0 v1
      have hcall := Lib.hid (hat _ hmem)
      have hkr := hKw.rd kr kf
      obtain ⟨b, off, rfl, _, hbh, ck⟩ := RdI.at_ hkr (show k < ((kids ps node).map Int.ofNat).length by simpa using hlt)
      rw [List.getElem_map] at ck
      generalize (kids ps node)[k] = ch at *
      generalize hcc : atL ps loads bores need ch vac = cc at *
      have HCC := Lib.hid hcc
      clear hcc
      obtain ⟨i1, i2, i3, i4, i5, i6⟩ := hbd
      by_cases hneg : cc.index < 0
      · go_wp2_with (go_at_call 63; refine (hcall.out _ hKw hTw).mono ?_; rintro e w1 ⟨rfl, hT1, hg1⟩; rw [HCC.out]; have hz1 := hg1.size)
        go_ret2
        have := HE.out
        rw [hst.out, if_pos hneg] at this
        exact ⟨by rw [this]; rfl, hT1.alloc _, (hg.trans hg1).trans (World.grownBy_alloc _ _ _)⟩
      · go_wp2_with (go_at_call 63; refine (hcall.out _ hKw hTw).mono ?_; rintro e w1 ⟨rfl, hT1, hg1⟩; rw [HCC.out]; have hz1 := hg1.size)
        go_roundw
        case rel =>
          have := HE.out
          rw [hst.out, if_neg (by omega)] at this
          exact ⟨k + 1, z + cc.cost, by omega, by go_num, rfl, by omega, by omega, this, hT1.alloc _, (hg.trans hg1).trans (World.grownBy_alloc _ _ _)⟩
        case measure => simp [intOf]; omega
    · obtain rfl : k = (kids ps node).length := by omega
      go_wp2
      go_ret2
      have := HE.out
      rw [List.drop_length] at this
      exact ⟨by rw [this]; rfl, hTw, hg⟩
end Go.Proofs.Ytepibjfmeibgcaa
