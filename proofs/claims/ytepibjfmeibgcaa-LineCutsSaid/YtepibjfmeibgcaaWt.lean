/- What the planner's choice at a place returns. -/
import Derived.Test.YtepibjfmeibgcaaWr
import Derived.IntWalk
namespace Go.Proofs.Ytepibjfmeibgcaa
open Go.RowKit Go.Shelf
open Go.Maps (Keyed)
theorem wp_one {P : Program} {C : Code} {Q : Exit → Act → World → Prop} {a A : Act} {w W : World} (h1 : C.wp P (fun ex a' w' => ex = .normal ∧ a' = A ∧ w' = W) a w) (h2 : Q .normal A W) : C.wp P Q a w :=
  Code.wp_mono (fun _ _ _ h => by obtain ⟨rfl, rfl, rfl⟩ := h; exact h2) h1
/-- What one bore more comes to, by what is left and what the children cost. -/
theorem boreStep_skip {ps : List Pipe} {loads : List Int} {need : Int} {rec : Nat → Int → Cho} {node : Nat} {vac : Int} {i : Nat} {b : Bor} {c : Cho} {q : Pipe} {v : Int} (hq : { pAt ps node with bore := b.size } = q) (hv : max 0 (vac - lossZ q (loads.getD node 0)) = v) (h : 0 < q.taps ∧ v < need) :
    boreStep ps loads need rec node vac i b c = c := by
  subst hq; simp only [boreStep]; rw [hv]; exact if_pos h
theorem boreStep_no {ps : List Pipe} {loads : List Int} {need : Int} {rec : Nat → Int → Cho} {node : Nat} {vac : Int} {i : Nat} {b : Bor} {c : Cho} {q : Pipe} {v : Int} {r : Int × Bool} (hq : { pAt ps node with bore := b.size } = q) (hv : max 0 (vac - lossZ q (loads.getD node 0)) = v) (h : ¬ (0 < q.taps ∧ v < need)) (hr : allF rec v (kids ps node) 0 = r)
    (hn : ¬ (r.2 = true ∧ (c.index < 0 ∨ r.1 + q.length * b.price < c.cost))) : boreStep ps loads need rec node vac i b c = c := by
  subst hq; simp only [boreStep]; rw [hv, hr]; exact (if_neg h).trans (if_neg hn)
theorem boreStep_yes {ps : List Pipe} {loads : List Int} {need : Int} {rec : Nat → Int → Cho} {node : Nat} {vac : Int} {i : Nat} {b : Bor} {c : Cho} {q : Pipe} {v : Int} {r : Int × Bool} (hq : { pAt ps node with bore := b.size } = q) (hv : max 0 (vac - lossZ q (loads.getD node 0)) = v) (h : ¬ (0 < q.taps ∧ v < need)) (hr : allF rec v (kids ps node) 0 = r)
    (hn : r.2 = true ∧ (c.index < 0 ∨ r.1 + q.length * b.price < c.cost)) : boreStep ps loads need rec node vac i b c = ⟨i, r.1 + q.length * b.price, v⟩ := by
  subst hq; simp only [boreStep]; rw [hv, hr]; exact (if_neg h).trans (if_pos hn)
theorem boresF_drop {ps : List Pipe} {loads : List Int} {need : Int} {rec : Nat → Int → Cho} {node : Nat} {vac : Int} {bs : List Bor} {k : Nat} (hk : k < bs.length) (c : Cho) : boresF ps loads need rec node vac (bs.drop k) k c = boresF ps loads need rec node vac (bs.drop (k + 1)) (k + 1) (boreStep ps loads need rec node vac k bs[k] c) := by
  rw [List.drop_eq_getElem_cons hk]; rfl
theorem below_grown {W V : World} (h : Below W.heap.size W V) (r : Option Nat) : W.grownBy V r := ⟨h.os, h.tape, h.output, h.size, fun k hk _ => h.block k hk⟩
theorem zero_cho (W : World) : (zeroValue 118).run Try.prog W = .ok (choV ⟨0, 0, 0⟩) W := by kernel_rfl
set_option maxHeartbeats 2000000 in
set_option maxRecDepth 100000 in
theorem at_ (N bm : Nat) (W0 : World) (ps : List Pipe) (loads : List Int) (bores : List Bor) (need pump : Int) (bx bc node : Nat) (vac : Int) (A L B : Option Addr) (c cl cb : Nat) (hS : PlS N bm W0 ps loads bores need pump bx bc A L B c cl cb) (hok : PlOk ps loads bores need pump)
    (hn0 : 0 < node) (hn : node < ps.length) (v0 : 0 ≤ vac) (v1 : vac ≤ 10000) (hall : ∀ v, 0 ≤ v → v ≤ 10000 → AllR N bm W0 ps loads bores need bx node v) : AtR N bm W0 ps loads bores need bx node vac := by
  intro W hK hT
  have hX := hK.blk hS.x hS.xN hS.xm
  have x1 := hX.cell 1
  have x2 := hX.cell 2
  have x4 := hX.cell 4
  have x5 := hX.cell 5
  have x6 := hX.cell 6
  simp at x1 x2 x4 x5 x6
  have hbm := hT.lt
  have hpl := hok.n
  have hbn6 := hok.bn
  obtain ⟨lop, hip, rp, fp⟩ := hS.p
  have rp := hK.rd rp fp
  obtain ⟨ba, oa, rfl, _, hba, a0, a1, a2, a3, a4⟩ := RdP.at_ rp hn
  have hbaW : ba < W.heap.size := by have := hK.1; have := fp.1; omega
  obtain ⟨kl, hkey⟩ := key_of node vac (WalkArith.wf_i64 (by omega)) (WalkArith.wf_i64 (by omega))
  go_enter_defers Try.func63, Try.ntmps63
  go_wp2_with fail
  have hbx := hX.lt
  obtain ⟨lx0, lx1, lx2, lx3, lx4, lx5⟩ := lt6 (show bx < W.heap.size by omega)
  obtain ⟨v, is, hlook, hgood, hzero⟩ := hT.look_all key_place Try.underlying113 zero_cho hkey
  obtain ⟨cv, rfl, hcv⟩ : ∃ cv : Cho, v = choV cv ∧ (is = true → cv = atL ps loads bores need node vac) := by
    cases is
    · exact ⟨_, hzero rfl, fun h => by cases h⟩
    · exact ⟨_, choGood_at (hgood rfl), fun _ => rfl⟩
  clear hgood hzero
  apply wp_one
  · go_region_held3 (fun w' => w'.cell? ⟨W.heap.size, 0, none⟩ = some (.pointer (some ⟨bx, 0, none⟩)) ∧ w'.cell? ⟨bx, 6, none⟩ = some (.map (some bm)) ∧ w'.cell? ⟨W.heap.size + 1, 0, none⟩ = some (.int .i64 node) ∧ w'.cell? ⟨W.heap.size + 1, 1, none⟩ = some (.int .i64 vac) ∧ w'.heap[bm]? = W.heap[bm]?) (refine ⟨by (go_keep; done), (Below.cell (B := W.heap.size) (w := W) (by repeat (first | exact Below.refl _ _ | exact (Below.refl _ _) | assumption | (refine Below.setCell ?_ (by first | omega | (simp; done) | (simp; omega) | (simp [World.setCell]; done) | (simp [World.setCell]; omega)) _) | (refine Below.alloc ?_ (by first | omega | (simp; done) | (simp; omega) | (simp [World.setCell]; done) | (simp [World.setCell]; omega)) _) | (refine Below.drewN_ ?_ _) | (refine Below.drew ?_))) hbx).trans x6, by (go_keep; done), by (go_keep; done), (Below.block (B := W.heap.size) (w := W) (by repeat (first | exact Below.refl _ _ | exact (Below.refl _ _) | assumption | (refine Below.setCell ?_ (by first | omega | (simp; done) | (simp; omega) | (simp [World.setCell]; done) | (simp [World.setCell]; omega)) _) | (refine Below.alloc ?_ (by first | omega | (simp; done) | (simp; omega) | (simp [World.setCell]; done) | (simp [World.setCell]; omega)) _) | (refine Below.drewN_ ?_ _) | (refine Below.drew ?_))) _ hbm)⟩) (fail)
    all_goals exact ⟨rfl, rfl, rfl⟩
  cases is
  · go_wp2_with fail
    apply wp_one
    · go_region_held3 (fun w' => w'.cell? ⟨W.heap.size, 0, none⟩ = some (.pointer (some ⟨bx, 0, none⟩)) ∧ w'.cell? ⟨bx, 1, none⟩ = some (.slice (some ⟨ba, oa, none⟩) ps.length c) ∧ w'.cell? ⟨W.heap.size + 1, 0, none⟩ = some (.int .i64 node) ∧
          w'.cell? ⟨ba, oa + node * 5, none⟩ = some (.int .i64 ps[node].parent) ∧ w'.cell? ⟨ba, oa + node * 5 + 1, none⟩ = some (.int .i64 ps[node].length) ∧ w'.cell? ⟨ba, oa + node * 5 + 2, none⟩ = some (.int .i64 ps[node].bore) ∧ w'.cell? ⟨ba, oa + node * 5 + 3, none⟩ = some (.int .i64 ps[node].drop) ∧ w'.cell? ⟨ba, oa + node * 5 + 4, none⟩ = some (.int .i64 ps[node].taps))
        (refine ⟨(by first | (go_keep; done) | ((repeat (first | refine (World.cell?_alloc_lt _ _ _ (by first | omega | (simp; done) | (simp; omega))).trans ?_ | refine (World.cell?_setCell_other _ _ _ _ (by first | (simp; done) | (simp; omega))).trans ?_)); first | assumption | (go_keep; done))), (Below.cell (B := W.heap.size) (w := W) (by repeat (first | exact Below.refl _ _ | exact (Below.refl _ _) | assumption | (refine Below.setCell ?_ (by first | omega | (simp; done) | (simp; omega) | (simp [World.setCell]; done) | (simp [World.setCell]; omega)) _) | (refine Below.alloc ?_ (by first | omega | (simp; done) | (simp; omega) | (simp [World.setCell]; done) | (simp [World.setCell]; omega)) _) | (refine Below.drewN_ ?_ _) | (refine Below.drew ?_))) hbx).trans x1, (by first | (go_keep; done) | ((repeat (first | refine (World.cell?_alloc_lt _ _ _ (by first | omega | (simp; done) | (simp; omega))).trans ?_ | refine (World.cell?_setCell_other _ _ _ _ (by first | (simp; done) | (simp; omega))).trans ?_)); first | assumption | (go_keep; done))), (Below.cell (B := W.heap.size) (w := W) (by repeat (first | exact Below.refl _ _ | exact (Below.refl _ _) | assumption | (refine Below.setCell ?_ (by first | omega | (simp; done) | (simp; omega) | (simp [World.setCell]; done) | (simp [World.setCell]; omega)) _) | (refine Below.alloc ?_ (by first | omega | (simp; done) | (simp; omega) | (simp [World.setCell]; done) | (simp [World.setCell]; omega)) _) | (refine Below.drewN_ ?_ _) | (refine Below.drew ?_))) hbaW).trans a0, (Below.cell (B := W.heap.size) (w := W) (by repeat (first | exact Below.refl _ _ | exact (Below.refl _ _) | assumption | (refine Below.setCell ?_ (by first | omega | (simp; done) | (simp; omega) | (simp [World.setCell]; done) | (simp [World.setCell]; omega)) _) | (refine Below.alloc ?_ (by first | omega | (simp; done) | (simp; omega) | (simp [World.setCell]; done) | (simp [World.setCell]; omega)) _) | (refine Below.drewN_ ?_ _) | (refine Below.drew ?_))) hbaW).trans a1, (Below.cell (B := W.heap.size) (w := W) (by repeat (first | exact Below.refl _ _ | exact (Below.refl _ _) | assumption | (refine Below.setCell ?_ (by first | omega | (simp; done) | (simp; omega) | (simp [World.setCell]; done) | (simp [World.setCell]; omega)) _) | (refine Below.alloc ?_ (by first | omega | (simp; done) | (simp; omega) | (simp [World.setCell]; done) | (simp [World.setCell]; omega)) _) | (refine Below.drewN_ ?_ _) | (refine Below.drew ?_))) hbaW).trans a2, (Below.cell (B := W.heap.size) (w := W) (by repeat (first | exact Below.refl _ _ | exact (Below.refl _ _) | assumption | (refine Below.setCell ?_ (by first | omega | (simp; done) | (simp; omega) | (simp [World.setCell]; done) | (simp [World.setCell]; omega)) _) | (refine Below.alloc ?_ (by first | omega | (simp; done) | (simp; omega) | (simp [World.setCell]; done) | (simp [World.setCell]; omega)) _) | (refine Below.drewN_ ?_ _) | (refine Below.drew ?_))) hbaW).trans a3, (Below.cell (B := W.heap.size) (w := W) (by repeat (first | exact Below.refl _ _ | exact (Below.refl _ _) | assumption | (refine Below.setCell ?_ (by first | omega | (simp; done) | (simp; omega) | (simp [World.setCell]; done) | (simp [World.setCell]; omega)) _) | (refine Below.alloc ?_ (by first | omega | (simp; done) | (simp; omega) | (simp [World.setCell]; done) | (simp [World.setCell]; omega)) _) | (refine Below.drewN_ ?_ _) | (refine Below.drew ?_))) hbaW).trans a4⟩) (fail)
      all_goals exact ⟨rfl, rfl, rfl⟩
    go_wp2_with fail
    have hkb := sum_nonneg (l := (kids ps node).map (wL ps 100000000)) (fun x hx => by obtain ⟨k, _, rfl⟩ := List.mem_map.1 hx; exact wF_nonneg (by omega) _ k)
    have hkb2 := (wL_bd hok.t (M := 100000000) (by omega) hn).2.2
    have hkr : ∀ k ∈ kids ps node, ∀ v, 0 ≤ v → v ≤ 10000 → 0 ≤ (atL ps loads bores need k v).cost ∧ (atL ps loads bores need k v).cost ≤ wL ps 100000000 k := fun k hk v a b => by
      have hg := kids_gt hok.t hk
      have := atF_ok (need := need) hok.t hok.l hok.p hok.b (ps.length - k) k v (by omega) hg.2 a b
      exact ⟨this.2.2.1, this.2.2.2.1⟩
    have HKR := Lib.hid hkr
    clear hkr
    generalize hS0 : ((kids ps node).map (wL ps 100000000)).sum = S0 at *
    have HS0 := Lib.hid hS0
    clear hS0
    have hS1 : S0 ≤ 6000000000 := by omega
    clear hkb2
    go_loopw [41] (fun i wr => ∃ (k : Nat) (cc : Cho) (bo : Int), k ≤ bores.length ∧ i = .int .i64 k ∧ Hid (boresF ps loads need (atL ps loads bores need) node vac bores 0 noCho = boresF ps loads need (atL ps loads bores need) node vac (bores.drop k) k cc) ∧ ChoOk bores.length (100000000 + S0) cc ∧
      Blk wr W.heap.size 109 #[.pointer (some ⟨bx, 0, none⟩)] ∧ Blk wr (W.heap.size + 1) 121 #[.int .i64 node, .int .i64 vac] ∧ Blk wr (W.heap.size + 1 + 1) 118 #[.int .i64 cc.index, .int .i64 cc.cost, .int .i64 cc.vac] ∧
      Blk wr (W.heap.size + 1 + 1 + 1 + 1) 54 #[.int .i64 ps[node].parent, .int .i64 ps[node].length, .int .i64 bo, .int .i64 ps[node].drop, .int .i64 ps[node].taps] ∧ PlT ps loads bores need wr bm ∧ W.grownBy wr (some bm)) (fun i _ => bores.length - (intOf i).toNat)
    case atStart =>
      refine ⟨0, noCho, ps[node].bore, Nat.zero_le _, rfl, Lib.hid rfl, ⟨by decide, by simp only [noCho]; omega, by decide, by simp only [noCho]; omega, by decide, by decide⟩, ?_, ?_, ?_, ?_, ?_, ?_⟩
      · exact (((((Blk.new W _ _).alloc _).alloc _).alloc _).alloc _).drew.drew
      · exact ((((blk_new' _ _ _ _ (by simp)).alloc _).alloc _).alloc _).drew.drew
      · exact (((blk_new' _ _ _ _ (by simp)).alloc _).alloc _).drew.drew
      · exact (blk_new' _ _ _ _ (by simp)).drew.drew
      · exact (((((hT.alloc _).alloc _).alloc _).alloc _).alloc _).drew.drew
      · exact below_grown (by repeat (first | exact Below.refl _ _ | exact (Below.refl _ _) | assumption | (refine Below.setCell ?_ (by first | omega | (simp; done) | (simp; omega) | (simp [World.setCell]; done) | (simp [World.setCell]; omega)) _) | (refine Below.alloc ?_ (by first | omega | (simp; done) | (simp; omega) | (simp [World.setCell]; done) | (simp [World.setCell]; omega)) _) | (refine Below.drewN_ ?_ _) | (refine Below.drew ?_))) _
    case round =>
      obtain ⟨k, cc, bo, hk, rfl, hbf, hcc, b0, b1, b2, b4, hTw, hg⟩ := hrel
      have hKw := hK.grown hg
      have hXw := hKw.blk hS.x hS.xN hS.xm
      have y2 := hXw.cell 2
      have y5 := hXw.cell 5
      simp at y2 y5
      by_cases hlt : k < bores.length
      · obtain ⟨lob, hib, rb, fb⟩ := hS.b
        obtain ⟨bb, ob, rfl, _, hbb, s0, s1⟩ := RdO.at_ (hKw.rd rb fb) hlt
        obtain ⟨lol, hil, rl, fl⟩ := hS.l
        have hnl : node < loads.length := by have := hok.ll; omega
        obtain ⟨bl, ol, rfl, _, hbl, l0⟩ := RdI.at_ (hKw.rd rl fl) hnl
        have hld := hok.l node
        rw [show loads.getD node 0 = loads[node] by rw [List.getD_eq_getElem?_getD, List.getElem?_eq_getElem hnl]; rfl] at hld
        have hpk := hok.p node hn0 hn
        rw [pAt_eq hn] at hpk
        have hbk : boreB bores[k] = true := List.all_eq_true.1 hok.b _ (List.getElem_mem hlt)
        have hbk2 : (4 ≤ bores[k].size ∧ bores[k].size ≤ 80) ∧ 0 ≤ bores[k].price ∧ bores[k].price ≤ 1000 := by
          unfold boreB at hbk; rw [Bool.and_eq_true] at hbk; exact ⟨inB_true hbk.1, inB_true hbk.2⟩
        obtain ⟨⟨e0, e1⟩, e2, e3⟩ := hbk2
        have hzz := hg.size
        have hNN := hKw.1
        have hbbN := fb.1
        have hblN := fl.1
        have x0 := b0.cell 0; have xf0 := b0.frozen 0; simp at x0
        have p0 := b1.cell 0; have pf0 := b1.frozen 0; have p1 := b1.cell 1; have pf1 := b1.frozen 1; simp at p0 p1
        have z0 := b2.cell 0; have zf0 := b2.frozen 0; have z1 := b2.cell 1; have zf1 := b2.frozen 1; have z2 := b2.cell 2; have zf2 := b2.frozen 2; simp at z0 z1 z2
        have t0 := b4.cell 0; have tf0 := b4.frozen 0; have t1 := b4.cell 1; have tf1 := b4.frozen 1; have t2 := b4.cell 2; have tf2 := b4.frozen 2; have t3 := b4.cell 3; have tf3 := b4.frozen 3; have t4 := b4.cell 4; have tf4 := b4.frozen 4; simp at t0 t1 t2 t3 t4
        have hl4 := b4.lt
        obtain ⟨la0, la1, la2, la3, la4, la5⟩ := lt6 (show W.heap.size + 1 + 1 + 1 + 1 < wr.heap.size by omega)
        go_wp2_with fail
        have v0' := (b0.far (p := ⟨W.heap.size + 1 + 1 + 1 + 1, 2, none⟩) (by first | omega | (simp; done) | (simp; omega) | (simp [World.setCell]; omega)) (.int .i64 bores[k].size)).alloc (.cells #[.int .i64 bores[k].size, .int .i64 bores[k].price] 38)
        have v1' := (b1.far (p := ⟨W.heap.size + 1 + 1 + 1 + 1, 2, none⟩) (by first | omega | (simp; done) | (simp; omega) | (simp [World.setCell]; omega)) (.int .i64 bores[k].size)).alloc (.cells #[.int .i64 bores[k].size, .int .i64 bores[k].price] 38)
        have v2' := (b2.far (p := ⟨W.heap.size + 1 + 1 + 1 + 1, 2, none⟩) (by first | omega | (simp; done) | (simp; omega) | (simp [World.setCell]; omega)) (.int .i64 bores[k].size)).alloc (.cells #[.int .i64 bores[k].size, .int .i64 bores[k].price] 38)
        have v4' := (b4.set_ 2 (.int .i64 bores[k].size)).alloc (.cells #[.int .i64 bores[k].size, .int .i64 bores[k].price] 38)
        have vn' := blk_new' (wr.setCell ⟨W.heap.size + 1 + 1 + 1 + 1, 2, none⟩ (.int .i64 bores[k].size)) wr.heap.size 38 #[.int .i64 bores[k].size, .int .i64 bores[k].price] (by simp [World.setCell])
        have vT := (hTw.setCell (a := ⟨W.heap.size + 1 + 1 + 1 + 1, 2, none⟩) (by first | omega | (simp; done) | (simp; omega) | (simp [World.setCell]; omega)) (.int .i64 bores[k].size)).alloc (.cells #[.int .i64 bores[k].size, .int .i64 bores[k].price] 38)
        have vg := grown_alloc (grown_set hg (p := ⟨W.heap.size + 1 + 1 + 1 + 1, 2, none⟩) (by first | omega | (simp; done) | (simp; omega) | (simp [World.setCell]; omega)) (.int .i64 bores[k].size)) (.cells #[.int .i64 bores[k].size, .int .i64 bores[k].price] 38)
        have vz : wr.heap.size < ((wr.setCell ⟨W.heap.size + 1 + 1 + 1 + 1, 2, none⟩ (.int .i64 bores[k].size)).alloc (.cells #[.int .i64 bores[k].size, .int .i64 bores[k].price] 38)).heap.size := by simp [World.setCell]
        simp only [List.setIfInBounds_toArray, List.set_cons_zero, List.set_cons_succ] at v4'
        generalize (wr.setCell ⟨W.heap.size + 1 + 1 + 1 + 1, 2, none⟩ (.int .i64 bores[k].size)).alloc (.cells #[.int .i64 bores[k].size, .int .i64 bores[k].price] 38) = V at *
        generalize wr.heap.size = nb at *
        clear la0 la1 la2 la3 la4 la5 tf0 tf1 tf2 tf3 tf4 t0 t1 t2 t3 t4 zf0 zf1 zf2 z0 z1 z2 pf0 pf1 p0 p1 xf0 x0 b0 b1 b2 b4 s0 s1 l0 y2 y5 hXw hl4
        have hKV := hK.grown vg
        have hXV := hKV.blk hS.x hS.xN hS.xm
        obtain ⟨bl', ol', hel, _, _, l0⟩ := RdI.at_ (hKV.rd rl fl) hnl
        cases hel
        have y2 := hXV.cell 2
        have y5 := hXV.cell 5
        simp at y2 y5
        have x0 := v0'.cell 0; have xf0 := v0'.frozen 0; simp at x0
        have p0 := v1'.cell 0; have pf0 := v1'.frozen 0; have p1 := v1'.cell 1; have pf1 := v1'.frozen 1; simp at p0 p1
        have z0 := v2'.cell 0; have zf0 := v2'.frozen 0; have z1 := v2'.cell 1; have zf1 := v2'.frozen 1; have z2 := v2'.cell 2; have zf2 := v2'.frozen 2; simp at z0 z1 z2
        have t0 := v4'.cell 0; have tf0 := v4'.frozen 0; have t1 := v4'.cell 1; have tf1 := v4'.frozen 1; have t2 := v4'.cell 2; have tf2 := v4'.frozen 2; have t3 := v4'.cell 3; have tf3 := v4'.frozen 3; have t4 := v4'.cell 4; have tf4 := v4'.frozen 4; simp at t0 t1 t2 t3 t4
        have n0 := vn'.cell 0; have nf0 := vn'.frozen 0; have n1 := vn'.cell 1; have nf1 := vn'.frozen 1; simp at n0 n1
        have hl4 := v4'.lt
        have hlX := hXV.lt
        have hllV : bl < V.heap.size := by have := hKV.1; omega
        go_region_held3 (fun w' => w'.cell? ⟨W.heap.size + 1, 1, none⟩ = some (.int .i64 vac) ∧ w'.cell? ⟨W.heap.size + 1, 0, none⟩ = some (.int .i64 node) ∧ w'.cell? ⟨W.heap.size, 0, none⟩ = some (.pointer (some ⟨bx, 0, none⟩)) ∧ w'.cell? ⟨bx, 2, none⟩ = some (.slice (some ⟨bl, ol, none⟩) loads.length cl) ∧ w'.cell? ⟨bl, ol + node, none⟩ = some (.int .i64 loads[node]) ∧
            w'.cell? ⟨W.heap.size + 1 + 1 + 1 + 1, 0, none⟩ = some (.int .i64 ps[node].parent) ∧ w'.cell? ⟨W.heap.size + 1 + 1 + 1 + 1, 1, none⟩ = some (.int .i64 ps[node].length) ∧ w'.cell? ⟨W.heap.size + 1 + 1 + 1 + 1, 2, none⟩ = some (.int .i64 bores[k].size) ∧ w'.cell? ⟨W.heap.size + 1 + 1 + 1 + 1, 3, none⟩ = some (.int .i64 ps[node].drop) ∧ w'.cell? ⟨W.heap.size + 1 + 1 + 1 + 1, 4, none⟩ = some (.int .i64 ps[node].taps))
          (first | exact ⟨p1, p0, x0, y2, l0, t0, t1, t2, t3, t4⟩ | exact ⟨(hb1.cell (by first | omega | (simp; omega))).trans p1, (hb1.cell (by first | omega | (simp; omega))).trans p0, (hb1.cell (by first | omega | (simp; omega))).trans x0, (hb1.cell (by first | omega | (simp; omega))).trans y2, (hb1.cell (by first | omega | (simp; omega))).trans l0, (hb1.cell (by first | omega | (simp; omega))).trans t0, (hb1.cell (by first | omega | (simp; omega))).trans t1, (hb1.cell (by first | omega | (simp; omega))).trans t2, (hb1.cell (by first | omega | (simp; omega))).trans t3, (hb1.cell (by first | omega | (simp; omega))).trans t4⟩)
          (first | (go_at_call 76; refine (loss_ ⟨ps[node].parent, ps[node].length, bores[k].size, ps[node].drop, ps[node].taps⟩ loads[node] _ ⟨hpk.1, hpk.2.1, e0, e1, hpk.2.2.2.2.1, hpk.2.2.2.2.2⟩ hld.1 hld.2).mono ?_; rintro e w1 ⟨rfl, hb1⟩))
        have hq : { pAt ps node with bore := bores[k].size } = (⟨ps[node].parent, ps[node].length, bores[k].size, ps[node].drop, ps[node].taps⟩ : Pipe) := by rw [pAt_eq hn]
        have hlsb := lossZ_bd (p := ⟨ps[node].parent, ps[node].length, bores[k].size, ps[node].drop, ps[node].taps⟩) (flow := loads[node]) ⟨hpk.1, hpk.2.1, e0, e1, hpk.2.2.2.2.1, hpk.2.2.2.2.2⟩ hld.1 hld.2
        have hldg : loads.getD node 0 = loads[node] := by rw [List.getD_eq_getElem?_getD, List.getElem?_eq_getElem hnl]; rfl
        have hv : max 0 (vac - lossZ ⟨ps[node].parent, ps[node].length, bores[k].size, ps[node].drop, ps[node].taps⟩ (loads.getD node 0)) = max 0 (vac - lossZ ⟨ps[node].parent, ps[node].length, bores[k].size, ps[node].drop, ps[node].taps⟩ loads[node]) := by rw [hldg]
        have HV := Lib.hid hv
        have HQ := Lib.hid hq
        clear hv hq hldg
        generalize lossZ ⟨ps[node].parent, ps[node].length, bores[k].size, ps[node].drop, ps[node].taps⟩ loads[node] = ls at *
        rw [show (if 0 < IntKind.i64.wrap (vac - ls) then IntKind.i64.wrap (vac - ls) else 0) = max 0 (vac - ls) by rw [IntWalk.i64_in (vac - ls) (by omega)]; omega]
        have hvv : 0 ≤ max 0 (vac - ls) ∧ max 0 (vac - ls) ≤ 10000 := by omega
        generalize max 0 (vac - ls) = vv at *
        have c0 := v0'.drew.below hb1 v0'.lt
        have c1 := v1'.drew.below hb1 v1'.lt
        have c2 := v2'.drew.below hb1 v2'.lt
        have c4 := v4'.drew.below hb1 v4'.lt
        have cn := vn'.drew.below hb1 vn'.lt
        have cT : PlT ps loads bores need w1 bm := vT.drew.below hb1 vT.lt
        have cg : W.grownBy w1 (some bm) := (grown_drew vg).trans (below_grown hb1 _)
        clear v0' v1' v2' v4' vn' hXV hKV y2 y5 xf0 x0 pf0 pf1 p0 p1 zf0 zf1 zf2 z0 z1 z2 tf0 tf1 tf2 tf3 tf4 t0 t1 t2 t3 t4 nf0 nf1 n0 n1 l0
        have hK1 := hK.grown cg
        have hX1 := hK1.blk hS.x hS.xN hS.xm
        have y5 := hX1.cell 5
        simp at y5
        have x0 := c0.cell 0; have xf0 := c0.frozen 0; simp at x0
        have p0 := c1.cell 0; have pf0 := c1.frozen 0; have p1 := c1.cell 1; have pf1 := c1.frozen 1; simp at p0 p1
        have z0 := c2.cell 0; have zf0 := c2.frozen 0; have z1 := c2.cell 1; have zf1 := c2.frozen 1; have z2 := c2.cell 2; have zf2 := c2.frozen 2; simp at z0 z1 z2
        have t0 := c4.cell 0; have tf0 := c4.frozen 0; have t1 := c4.cell 1; have tf1 := c4.frozen 1; have t2 := c4.cell 2; have tf2 := c4.frozen 2; have t3 := c4.cell 3; have tf3 := c4.frozen 3; have t4 := c4.cell 4; have tf4 := c4.frozen 4; simp at t0 t1 t2 t3 t4
        have n0 := cn.cell 0; have nf0 := cn.frozen 0; have n1 := cn.cell 1; have nf1 := cn.frozen 1; simp at n0 n1
        have hdrop := Lib.hid (boresF_drop (ps := ps) (loads := loads) (need := need) (rec := atL ps loads bores need) (node := node) (vac := vac) hlt cc)
        by_cases hskip : 0 < ps[node].taps ∧ vv < need
        · obtain ⟨hs1, hs2⟩ := hskip
          have hstep := Lib.hid (boreStep_skip (rec := atL ps loads bores need) (i := k) (c := cc) HQ.out HV.out ⟨hs1, hs2⟩)
          go_wp2_with fail
          refine ⟨⟨k + 1, cc, bores[k].size, by omega, by go_num, Lib.hid ?_, hcc, c0, c1, c2, c4, cT, cg⟩, by simp [intOf]; omega⟩
          rw [hbf.out, hdrop.out, hstep.out]
        · have HSK := Lib.hid hskip
          have hcase : ps[node].taps ≤ 0 ∨ (0 < ps[node].taps ∧ need ≤ vv) := by omega
          clear hskip
          have hcall := Lib.hid (hall vv hvv.1 hvv.2 w1 hK1 cT)
          have hrb := allF_bd (rec := atL ps loads bores need) (v := vv) (W := wL ps 100000000) (kids ps node) 0 (fun k hk => HKR.out k hk vv hvv.1 hvv.2) (Int.le_refl _)
          rw [HS0.out] at hrb
          obtain ⟨rc, rb, hr⟩ : ∃ rc rb, allF (atL ps loads bores need) vv (kids ps node) 0 = (rc, rb) := ⟨_, _, rfl⟩
          rw [hr] at hrb
          have HR := Lib.hid hr
          clear hr
          obtain ⟨r0, r1⟩ := hrb
          simp only at r0 r1
          rcases hcase with ht | ⟨ht, ht2⟩
          all_goals
            go_wp2_with fail
            refine hcall.out.mono ?_
            rw [HR.out]
            rintro e w2 ⟨rfl, hT2, hg2⟩
            have d0 : Blk w2 _ _ _ := (hg2.block _ c0.lt (by simp; omega)).trans c0
            have d1 : Blk w2 _ _ _ := (hg2.block _ c1.lt (by simp; omega)).trans c1
            have d2 : Blk w2 _ _ _ := (hg2.block _ c2.lt (by simp; omega)).trans c2
            have d4 : Blk w2 _ _ _ := (hg2.block _ c4.lt (by simp; omega)).trans c4
            have dn : Blk w2 _ _ _ := (hg2.block _ cn.lt (by simp; omega)).trans cn
            have dg := cg.trans hg2
            clear xf0 x0 pf0 pf1 p0 p1 zf0 zf1 zf2 z0 z1 z2 tf0 tf1 tf2 tf3 tf4 t0 t1 t2 t3 t4 nf0 nf1 n0 n1 c0 c1 c2 c4 cn cT hK1 hX1
            have z0 := d2.cell 0; have zf0 := d2.frozen 0; have z1 := d2.cell 1; have zf1 := d2.frozen 1; have z2 := d2.cell 2; have zf2 := d2.frozen 2; simp at z0 z1 z2
            have t0 := d4.cell 0; have tf0 := d4.frozen 0; have t1 := d4.cell 1; have tf1 := d4.frozen 1; have t2 := d4.cell 2; have tf2 := d4.frozen 2; have t3 := d4.cell 3; have tf3 := d4.frozen 3; have t4 := d4.cell 4; have tf4 := d4.frozen 4; simp at t0 t1 t2 t3 t4
            have n0 := dn.cell 0; have nf0 := dn.frozen 0; have n1 := dn.cell 1; have nf1 := dn.frozen 1; simp at n0 n1
            have hl2 := d2.lt
            have hmul := mul_bounds (show 0 ≤ ps[node].length by have := hpk.1; omega) hpk.2.1 e2 e3
            obtain ⟨hm0, hm1⟩ := hmul
            obtain ⟨i0, i1, i2, i3, i4, i5⟩ := hcc
            cases rb
            · have hstep := Lib.hid (boreStep_no (rec := atL ps loads bores need) (i := k) (c := cc) HQ.out HV.out HSK.out HR.out (by rintro ⟨h, _⟩; cases h))
              go_wp2_with fail
              refine ⟨⟨k + 1, cc, bores[k].size, by omega, by go_num, Lib.hid ?_, ⟨i0, i1, i2, i3, i4, i5⟩, d0, d1, d2, d4, hT2, dg⟩, by simp [intOf]; omega⟩
              rw [hbf.out, hdrop.out, hstep.out]
            · by_cases hneg : cc.index < 0
              · have hstep := Lib.hid (boreStep_yes (rec := atL ps loads bores need) (i := k) (c := cc) HQ.out HV.out HSK.out HR.out ⟨rfl, Or.inl hneg⟩)
                go_wp2_with fail
                have f2 := ((((((d2).set_ 0 (.int .i64 (k : Int)))).set_ 1 (.int .i64 (rc + ps[node].length * bores[k].price)))).set_ 2 (.int .i64 vv))
                simp only [List.setIfInBounds_toArray, List.set_cons_zero, List.set_cons_succ] at f2
                refine ⟨⟨k + 1, ⟨(k : Int), rc + ps[node].length * bores[k].price, vv⟩, bores[k].size, by omega, by go_num, Lib.hid ?_, ⟨by simp only; omega, by simp only; omega, by simp only; omega, by simp only; omega, hvv.1, hvv.2⟩, ((((((d0).far (p := ⟨W.heap.size + 1 + 1, 0, none⟩) (by first | omega | (simp; done) | (simp; omega) | (simp [World.setCell]; omega)) (.int .i64 (k : Int)))).far (p := ⟨W.heap.size + 1 + 1, 1, none⟩) (by first | omega | (simp; done) | (simp; omega) | (simp [World.setCell]; omega)) (.int .i64 (rc + ps[node].length * bores[k].price)))).far (p := ⟨W.heap.size + 1 + 1, 2, none⟩) (by first | omega | (simp; done) | (simp; omega) | (simp [World.setCell]; omega)) (.int .i64 vv)), ((((((d1).far (p := ⟨W.heap.size + 1 + 1, 0, none⟩) (by first | omega | (simp; done) | (simp; omega) | (simp [World.setCell]; omega)) (.int .i64 (k : Int)))).far (p := ⟨W.heap.size + 1 + 1, 1, none⟩) (by first | omega | (simp; done) | (simp; omega) | (simp [World.setCell]; omega)) (.int .i64 (rc + ps[node].length * bores[k].price)))).far (p := ⟨W.heap.size + 1 + 1, 2, none⟩) (by first | omega | (simp; done) | (simp; omega) | (simp [World.setCell]; omega)) (.int .i64 vv)), f2, ((((((d4).far (p := ⟨W.heap.size + 1 + 1, 0, none⟩) (by first | omega | (simp; done) | (simp; omega) | (simp [World.setCell]; omega)) (.int .i64 (k : Int)))).far (p := ⟨W.heap.size + 1 + 1, 1, none⟩) (by first | omega | (simp; done) | (simp; omega) | (simp [World.setCell]; omega)) (.int .i64 (rc + ps[node].length * bores[k].price)))).far (p := ⟨W.heap.size + 1 + 1, 2, none⟩) (by first | omega | (simp; done) | (simp; omega) | (simp [World.setCell]; omega)) (.int .i64 vv)), ((((((hT2).setCell (a := ⟨W.heap.size + 1 + 1, 0, none⟩) (by first | omega | (simp; done) | (simp; omega) | (simp [World.setCell]; omega)) (.int .i64 (k : Int)))).setCell (a := ⟨W.heap.size + 1 + 1, 1, none⟩) (by first | omega | (simp; done) | (simp; omega) | (simp [World.setCell]; omega)) (.int .i64 (rc + ps[node].length * bores[k].price)))).setCell (a := ⟨W.heap.size + 1 + 1, 2, none⟩) (by first | omega | (simp; done) | (simp; omega) | (simp [World.setCell]; omega)) (.int .i64 vv)), (grown_set (grown_set (grown_set dg (p := ⟨W.heap.size + 1 + 1, 0, none⟩) (by first | omega | (simp; done) | (simp; omega) | (simp [World.setCell]; omega)) (.int .i64 (k : Int))) (p := ⟨W.heap.size + 1 + 1, 1, none⟩) (by first | omega | (simp; done) | (simp; omega) | (simp [World.setCell]; omega)) (.int .i64 (rc + ps[node].length * bores[k].price))) (p := ⟨W.heap.size + 1 + 1, 2, none⟩) (by first | omega | (simp; done) | (simp; omega) | (simp [World.setCell]; omega)) (.int .i64 vv))⟩, by simp [intOf]; omega⟩
                rw [hbf.out, hdrop.out, hstep.out]
              · by_cases hch : rc + ps[node].length * bores[k].price < cc.cost
                · have hstep := Lib.hid (boreStep_yes (rec := atL ps loads bores need) (i := k) (c := cc) HQ.out HV.out HSK.out HR.out ⟨rfl, Or.inr hch⟩)
                  go_wp2_with fail
                  have f2 := ((((((d2).set_ 0 (.int .i64 (k : Int)))).set_ 1 (.int .i64 (rc + ps[node].length * bores[k].price)))).set_ 2 (.int .i64 vv))
                  simp only [List.setIfInBounds_toArray, List.set_cons_zero, List.set_cons_succ] at f2
                  refine ⟨⟨k + 1, ⟨(k : Int), rc + ps[node].length * bores[k].price, vv⟩, bores[k].size, by omega, by go_num, Lib.hid ?_, ⟨by simp only; omega, by simp only; omega, by simp only; omega, by simp only; omega, hvv.1, hvv.2⟩, ((((((d0).far (p := ⟨W.heap.size + 1 + 1, 0, none⟩) (by first | omega | (simp; done) | (simp; omega) | (simp [World.setCell]; omega)) (.int .i64 (k : Int)))).far (p := ⟨W.heap.size + 1 + 1, 1, none⟩) (by first | omega | (simp; done) | (simp; omega) | (simp [World.setCell]; omega)) (.int .i64 (rc + ps[node].length * bores[k].price)))).far (p := ⟨W.heap.size + 1 + 1, 2, none⟩) (by first | omega | (simp; done) | (simp; omega) | (simp [World.setCell]; omega)) (.int .i64 vv)), ((((((d1).far (p := ⟨W.heap.size + 1 + 1, 0, none⟩) (by first | omega | (simp; done) | (simp; omega) | (simp [World.setCell]; omega)) (.int .i64 (k : Int)))).far (p := ⟨W.heap.size + 1 + 1, 1, none⟩) (by first | omega | (simp; done) | (simp; omega) | (simp [World.setCell]; omega)) (.int .i64 (rc + ps[node].length * bores[k].price)))).far (p := ⟨W.heap.size + 1 + 1, 2, none⟩) (by first | omega | (simp; done) | (simp; omega) | (simp [World.setCell]; omega)) (.int .i64 vv)), f2, ((((((d4).far (p := ⟨W.heap.size + 1 + 1, 0, none⟩) (by first | omega | (simp; done) | (simp; omega) | (simp [World.setCell]; omega)) (.int .i64 (k : Int)))).far (p := ⟨W.heap.size + 1 + 1, 1, none⟩) (by first | omega | (simp; done) | (simp; omega) | (simp [World.setCell]; omega)) (.int .i64 (rc + ps[node].length * bores[k].price)))).far (p := ⟨W.heap.size + 1 + 1, 2, none⟩) (by first | omega | (simp; done) | (simp; omega) | (simp [World.setCell]; omega)) (.int .i64 vv)), ((((((hT2).setCell (a := ⟨W.heap.size + 1 + 1, 0, none⟩) (by first | omega | (simp; done) | (simp; omega) | (simp [World.setCell]; omega)) (.int .i64 (k : Int)))).setCell (a := ⟨W.heap.size + 1 + 1, 1, none⟩) (by first | omega | (simp; done) | (simp; omega) | (simp [World.setCell]; omega)) (.int .i64 (rc + ps[node].length * bores[k].price)))).setCell (a := ⟨W.heap.size + 1 + 1, 2, none⟩) (by first | omega | (simp; done) | (simp; omega) | (simp [World.setCell]; omega)) (.int .i64 vv)), (grown_set (grown_set (grown_set dg (p := ⟨W.heap.size + 1 + 1, 0, none⟩) (by first | omega | (simp; done) | (simp; omega) | (simp [World.setCell]; omega)) (.int .i64 (k : Int))) (p := ⟨W.heap.size + 1 + 1, 1, none⟩) (by first | omega | (simp; done) | (simp; omega) | (simp [World.setCell]; omega)) (.int .i64 (rc + ps[node].length * bores[k].price))) (p := ⟨W.heap.size + 1 + 1, 2, none⟩) (by first | omega | (simp; done) | (simp; omega) | (simp [World.setCell]; omega)) (.int .i64 vv))⟩, by simp [intOf]; omega⟩
                  rw [hbf.out, hdrop.out, hstep.out]
                · have hstep := Lib.hid (boreStep_no (rec := atL ps loads bores need) (i := k) (c := cc) HQ.out HV.out HSK.out HR.out (by rintro ⟨_, h | h⟩; exact hneg h; exact hch h))
                  go_wp2_with fail
                  refine ⟨⟨k + 1, cc, bores[k].size, by omega, by go_num, Lib.hid ?_, ⟨i0, i1, i2, i3, i4, i5⟩, d0, d1, d2, d4, hT2, dg⟩, by simp [intOf]; omega⟩
                  rw [hbf.out, hdrop.out, hstep.out]
      · obtain rfl : k = bores.length := by omega
        have z0 := b2.cell 0; have zf0 := b2.frozen 0; have z1 := b2.cell 1; have zf1 := b2.frozen 1; have z2 := b2.cell 2; have zf2 := b2.frozen 2; simp at z0 z1 z2
        have hzz := hg.size
        go_wp2_with fail
        have hfin := hbf.out
        rw [List.drop_length] at hfin
        have hcc2 : cc = atL ps loads bores need node vac := by rw [atL_eq hok.t _ _ _ _ _ hn, hfin]; rfl
        refine leaves_cons (f := 95) (args := #[.pointer (some ⟨W.heap.size + 1 + 1, 0, none⟩), .pointer (some ⟨W.heap.size, 0, none⟩), .pointer (some ⟨W.heap.size + 1, 0, none⟩)]) (by simp) (by simp [go_sem]) ?_
        have b3 := ((b2.set_ 0 (.int .i64 cc.index)).set_ 1 (.int .i64 cc.cost)).set_ 2 (.int .i64 cc.vac)
        have b03 := ((b0.far (p := ⟨W.heap.size + 1 + 1, 0, none⟩) (by first | omega | (simp; done) | (simp; omega) | (simp [World.setCell]; omega)) (.int .i64 cc.index)).far (p := ⟨W.heap.size + 1 + 1, 1, none⟩) (by first | omega | (simp; done) | (simp; omega) | (simp [World.setCell]; omega)) (.int .i64 cc.cost)).far (p := ⟨W.heap.size + 1 + 1, 2, none⟩) (by first | omega | (simp; done) | (simp; omega) | (simp [World.setCell]; omega)) (.int .i64 cc.vac)
        have b13 := ((b1.far (p := ⟨W.heap.size + 1 + 1, 0, none⟩) (by first | omega | (simp; done) | (simp; omega) | (simp [World.setCell]; omega)) (.int .i64 cc.index)).far (p := ⟨W.heap.size + 1 + 1, 1, none⟩) (by first | omega | (simp; done) | (simp; omega) | (simp [World.setCell]; omega)) (.int .i64 cc.cost)).far (p := ⟨W.heap.size + 1 + 1, 2, none⟩) (by first | omega | (simp; done) | (simp; omega) | (simp [World.setCell]; omega)) (.int .i64 cc.vac)
        have bx3 := ((hXw.far (p := ⟨W.heap.size + 1 + 1, 0, none⟩) (by first | omega | (simp; done) | (simp; omega) | (simp [World.setCell]; omega)) (.int .i64 cc.index)).far (p := ⟨W.heap.size + 1 + 1, 1, none⟩) (by first | omega | (simp; done) | (simp; omega) | (simp [World.setCell]; omega)) (.int .i64 cc.cost)).far (p := ⟨W.heap.size + 1 + 1, 2, none⟩) (by first | omega | (simp; done) | (simp; omega) | (simp [World.setCell]; omega)) (.int .i64 cc.vac)
        have hT3 := ((hTw.setCell (a := ⟨W.heap.size + 1 + 1, 0, none⟩) (by first | omega | (simp; done) | (simp; omega) | (simp [World.setCell]; omega)) (.int .i64 cc.index)).setCell (a := ⟨W.heap.size + 1 + 1, 1, none⟩) (by first | omega | (simp; done) | (simp; omega) | (simp [World.setCell]; omega)) (.int .i64 cc.cost)).setCell (a := ⟨W.heap.size + 1 + 1, 2, none⟩) (by first | omega | (simp; done) | (simp; omega) | (simp [World.setCell]; omega)) (.int .i64 cc.vac)
        have hg3 := grown_set (grown_set (grown_set hg (p := ⟨W.heap.size + 1 + 1, 0, none⟩) (by first | omega | (simp; done) | (simp; omega) | (simp [World.setCell]; omega)) (.int .i64 cc.index)) (p := ⟨W.heap.size + 1 + 1, 1, none⟩) (by first | omega | (simp; done) | (simp; omega) | (simp [World.setCell]; omega)) (.int .i64 cc.cost)) (p := ⟨W.heap.size + 1 + 1, 2, none⟩) (by first | omega | (simp; done) | (simp; omega) | (simp [World.setCell]; omega)) (.int .i64 cc.vac)
        generalize ((wr.setCell ⟨W.heap.size + 1 + 1, 0, none⟩ (.int .i64 cc.index)).setCell ⟨W.heap.size + 1 + 1, 1, none⟩ (.int .i64 cc.cost)).setCell ⟨W.heap.size + 1 + 1, 2, none⟩ (.int .i64 cc.vac) = w3 at *
        simp only [List.setIfInBounds_toArray, List.set_cons_zero, List.set_cons_succ] at b3
        rw [hcc2] at b3
        refine (at1_ ps loads bores need pump bx bm (W.heap.size + 1 + 1) W.heap.size (W.heap.size + 1) node vac .returning w3 hT3 hok.n hn v0 v1 (b3.cell 0) (b3.cell 1) (b3.cell 2) (b03.cell 0) (b13.cell 0) (b13.cell 1) (bx3.cell 6)).mono ?_
        rintro e u' w4 ⟨rfl, rfl, hT4, hg4⟩
        have b4 : Blk w4 (W.heap.size + 1 + 1) _ _ := (hg4.block _ b3.lt (by simp; omega)).trans b3
        have q0 := b4.cell 0; have qf0 := b4.frozen 0; have q1 := b4.cell 1; have qf1 := b4.frozen 1; have q2 := b4.cell 2; have qf2 := b4.frozen 2; simp at q0 q1 q2
        exact ⟨choV (atL ps loads bores need node vac), by simp [results, Try.results63, go_sem, q0, q1, q2], rfl, hT4, hg3.trans hg4⟩
  · go_wp2_with fail
    have he := hcv trivial
    exact ⟨choV (atL ps loads bores need node vac), by simp [results, Try.results63, go_sem], rfl, ((((hT.alloc _).alloc _).alloc _).alloc _).drew, below_grown (by repeat (first | exact Below.refl _ _ | exact (Below.refl _ _) | assumption | (refine Below.setCell ?_ (by first | omega | (simp; done) | (simp; omega) | (simp [World.setCell]; done) | (simp [World.setCell]; omega)) _) | (refine Below.alloc ?_ (by first | omega | (simp; done) | (simp; omega) | (simp [World.setCell]; done) | (simp [World.setCell]; omega)) _) | (refine Below.drewN_ ?_ _) | (refine Below.drew ?_))) _⟩
/-- The planner's choices and sums, everywhere. -/
theorem plan_rec (N bm : Nat) (W0 : World) (ps : List Pipe) (loads : List Int) (bores : List Bor) (need pump : Int) (bx bc : Nat) (A L B : Option Addr) (c cl cb : Nat) (hS : PlS N bm W0 ps loads bores need pump bx bc A L B c cl cb) (hok : PlOk ps loads bores need pump) :
    ∀ (d node : Nat), node < ps.length → ps.length - node ≤ d → (∀ v, 0 ≤ v → v ≤ 10000 → AllR N bm W0 ps loads bores need bx node v) ∧ (0 < node → ∀ v, 0 ≤ v → v ≤ 10000 → AtR N bm W0 ps loads bores need bx node v) := by
  intro d
  induction d with
  | zero => intro node h1 h2; omega
  | succ d ih =>
    intro node h1 h2
    have hall : ∀ v, 0 ≤ v → v ≤ 10000 → AllR N bm W0 ps loads bores need bx node v := fun v a b =>
      all_ N bm W0 ps loads bores need pump bx bc node v A L B c cl cb hS hok h1 a b (fun k hk => by
        have hg := kids_gt hok.t hk
        exact (ih k hg.2 (by omega)).2 (by omega) v a b)
    exact ⟨hall, fun h0 v a b => at_ N bm W0 ps loads bores need pump bx bc node v A L B c cl cb hS hok h0 h1 a b hall⟩
end Go.Proofs.Ytepibjfmeibgcaa
/- What line.Plan returns. -/
namespace Go.Proofs.Ytepibjfmeibgcaa
open Go.RowKit Go.Shelf
open Go.Maps (Keyed)
/-- The bores, their cost and the error. -/
def PlanR (base : Nat) (e : Ending) (w' : World) (xs : List Int) (cost err : Int) : Prop :=
  ∃ v, e = .returned (.tuple #[v, .int .i64 cost, .int .i64 err]) ∧ w'.ownsRow base 3 1 v xs.length (xs.map I)
theorem planR_nil {base : Nat} {w : World} (cost err : Int) : PlanR base (.returned (.tuple #[.slice none 0 0, .int .i64 cost, .int .i64 err])) w [] cost err := ⟨_, rfl, rfl, .inl ⟨rfl, rfl⟩⟩
set_option maxHeartbeats 800000 in
set_option maxRecDepth 100000 in
theorem plan_err (n : Net) (A B D : Option Addr) (c lf cb nb cd : Nat) (need : Int) (l1 v1 l2 v2 : List Int) (m : Nat) (err : Int) (w : World) (he : err ≠ 0)
    (h : ∀ o, Calls Try.prog 57 #[.agg #[.int .i64 n.pump, .slice A n.pipes.length c], .slice B lf cb, .slice none 0 0] (w.alloc o) fun e w' => BothR (w.alloc o).heap.size e w' m l1 v1 l2 v2 err ∧ Below (w.alloc o).heap.size (w.alloc o) w') :
    Calls Try.prog 16 #[.agg #[.int .i64 n.pump, .slice A n.pipes.length c], .slice B lf cb, .slice D nb cd, .int .i64 need] w fun e w' => PlanR w.heap.size e w' [] 0 err ∧ Below w.heap.size w w' := by
  have H := Lib.hid h
  have hb : (err != 0) = true := by simp [he]
  clear h
  go_enter Try.func16, Try.ntmps16
  go_wp2_with (go_at_call 57; refine (H.out _).mono ?_; rintro e w1 ⟨⟨A1, A2, A3, A4, rfl, a1, a2, a3, a4⟩, hb⟩; have hB1 := Below.step (B := w.heap.size) (a := w) (by repeat (first | exact Below.refl _ _ | exact (Below.refl _ _) | assumption | (refine Below.setCell ?_ (by first | omega | (simp; done) | (simp; omega) | (simp [World.setCell]; done) | (simp [World.setCell]; omega)) _) | (refine Below.alloc ?_ (by first | omega | (simp; done) | (simp; omega) | (simp [World.setCell]; done) | (simp [World.setCell]; omega)) _) | (refine Below.drewN_ ?_ _) | (refine Below.drew ?_))) hb (by first | omega | (simp; done) | (simp; omega) | (simp [World.setCell]; done) | (simp [World.setCell]; omega)); have hz1 := hb.size; simp only [World.size_alloc] at hz1; obtain ⟨la0, la1, la2, la3, la4, la5⟩ := lt6 (show w.heap.size < w1.heap.size by omega))
  go_ret3
  exact ⟨planR_nil _ _, (by repeat (first | exact Below.refl _ _ | exact (Below.refl _ _) | assumption | (refine Below.setCell ?_ (by first | omega | (simp; done) | (simp; omega) | (simp [World.setCell]; done) | (simp [World.setCell]; omega)) _) | (refine Below.alloc ?_ (by first | omega | (simp; done) | (simp; omega) | (simp [World.setCell]; done) | (simp [World.setCell]; omega)) _) | (refine Below.drewN_ ?_ _) | (refine Below.drew ?_)))⟩
set_option maxHeartbeats 800000 in
set_option maxRecDepth 100000 in
theorem plan_long (n : Net) (A B D : Option Addr) (c lf cb nb cd : Nat) (need : Int) (l1 v1 l2 v2 : List Int) (m : Nat) (w : World) (he : 6 < nb) (hnb : nb ≤ maxLen)
    (h : ∀ o, Calls Try.prog 57 #[.agg #[.int .i64 n.pump, .slice A n.pipes.length c], .slice B lf cb, .slice none 0 0] (w.alloc o) fun e w' => BothR (w.alloc o).heap.size e w' m l1 v1 l2 v2 0 ∧ Below (w.alloc o).heap.size (w.alloc o) w') :
    Calls Try.prog 16 #[.agg #[.int .i64 n.pump, .slice A n.pipes.length c], .slice B lf cb, .slice D nb cd, .int .i64 need] w fun e w' => PlanR w.heap.size e w' [] 0 5 ∧ Below w.heap.size w w' := by
  have H := Lib.hid h
  clear h
  unfold maxLen at hnb
  go_enter Try.func16, Try.ntmps16
  go_wp2_with (go_at_call 57; refine (H.out _).mono ?_; rintro e w1 ⟨⟨A1, A2, A3, A4, rfl, a1, a2, a3, a4⟩, hb⟩; have hB1 := Below.step (B := w.heap.size) (a := w) (by repeat (first | exact Below.refl _ _ | exact (Below.refl _ _) | assumption | (refine Below.setCell ?_ (by first | omega | (simp; done) | (simp; omega) | (simp [World.setCell]; done) | (simp [World.setCell]; omega)) _) | (refine Below.alloc ?_ (by first | omega | (simp; done) | (simp; omega) | (simp [World.setCell]; done) | (simp [World.setCell]; omega)) _) | (refine Below.drewN_ ?_ _) | (refine Below.drew ?_))) hb (by first | omega | (simp; done) | (simp; omega) | (simp [World.setCell]; done) | (simp [World.setCell]; omega)); have hz1 := hb.size; simp only [World.size_alloc] at hz1; obtain ⟨la0, la1, la2, la3, la4, la5⟩ := lt6 (show w.heap.size < w1.heap.size by omega))
  go_ret3
  exact ⟨planR_nil _ _, (by repeat (first | exact Below.refl _ _ | exact (Below.refl _ _) | assumption | (refine Below.setCell ?_ (by first | omega | (simp; done) | (simp; omega) | (simp [World.setCell]; done) | (simp [World.setCell]; omega)) _) | (refine Below.alloc ?_ (by first | omega | (simp; done) | (simp; omega) | (simp [World.setCell]; done) | (simp [World.setCell]; omega)) _) | (refine Below.drewN_ ?_ _) | (refine Below.drew ?_)))⟩
set_option maxHeartbeats 800000 in
set_option maxRecDepth 100000 in
theorem plan_bad (n : Net) (A B D : Option Addr) (c lf cb cd lo hi : Nat) (need : Int) (l1 v1 l2 v2 : List Int) (bores : List Bor) (m : Nat) (w : World) (hR : RdO w lo hi D bores) (hhi : hi ≤ w.heap.size) (he : bores.length ≤ 6) (hbad : bores = [] ∨ boresB bores = false)
    (h : ∀ o, Calls Try.prog 57 #[.agg #[.int .i64 n.pump, .slice A n.pipes.length c], .slice B lf cb, .slice none 0 0] (w.alloc o) fun e w' => BothR (w.alloc o).heap.size e w' m l1 v1 l2 v2 0 ∧ Below (w.alloc o).heap.size (w.alloc o) w') :
    Calls Try.prog 16 #[.agg #[.int .i64 n.pump, .slice A n.pipes.length c], .slice B lf cb, .slice D bores.length cd, .int .i64 need] w fun e w' => PlanR w.heap.size e w' [] 0 2 ∧ Below w.heap.size w w' := by
  have H := Lib.hid h
  clear h
  by_cases h0 : bores.length = 0
  · rw [h0]
    go_enter Try.func16, Try.ntmps16
    go_wp2_with (go_at_call 57; refine (H.out _).mono ?_; rintro e w1 ⟨⟨A1, A2, A3, A4, rfl, a1, a2, a3, a4⟩, hb⟩; have hB1 := Below.step (B := w.heap.size) (a := w) (by repeat (first | exact Below.refl _ _ | exact (Below.refl _ _) | assumption | (refine Below.setCell ?_ (by first | omega | (simp; done) | (simp; omega) | (simp [World.setCell]; done) | (simp [World.setCell]; omega)) _) | (refine Below.alloc ?_ (by first | omega | (simp; done) | (simp; omega) | (simp [World.setCell]; done) | (simp [World.setCell]; omega)) _) | (refine Below.drewN_ ?_ _) | (refine Below.drew ?_))) hb (by first | omega | (simp; done) | (simp; omega) | (simp [World.setCell]; done) | (simp [World.setCell]; omega)); have hz1 := hb.size; simp only [World.size_alloc] at hz1; obtain ⟨la0, la1, la2, la3, la4, la5⟩ := lt6 (show w.heap.size < w1.heap.size by omega))
    go_ret3
    exact ⟨planR_nil _ _, (by repeat (first | exact Below.refl _ _ | exact (Below.refl _ _) | assumption | (refine Below.setCell ?_ (by first | omega | (simp; done) | (simp; omega) | (simp [World.setCell]; done) | (simp [World.setCell]; omega)) _) | (refine Below.alloc ?_ (by first | omega | (simp; done) | (simp; omega) | (simp [World.setCell]; done) | (simp [World.setCell]; omega)) _) | (refine Below.drewN_ ?_ _) | (refine Below.drew ?_)))⟩
  · have hb2 := Lib.hid (show boresB bores = false by rcases hbad with rfl | h; exact absurd rfl h0; exact h)
    have h1 : ((bores.length : Int) == 0) = false := by simp; exact fun h => h0 (by simp [h])
    have h2 : 0 < bores.length := by omega
    clear hbad h0
    go_enter Try.func16, Try.ntmps16
    go_wp2_with (first
      | (go_at_call 57; refine (H.out _).mono ?_; rintro e w1 ⟨⟨A1, A2, A3, A4, rfl, a1, a2, a3, a4⟩, hb⟩; have hB1 := Below.step (B := w.heap.size) (a := w) (by repeat (first | exact Below.refl _ _ | exact (Below.refl _ _) | assumption | (refine Below.setCell ?_ (by first | omega | (simp; done) | (simp; omega) | (simp [World.setCell]; done) | (simp [World.setCell]; omega)) _) | (refine Below.alloc ?_ (by first | omega | (simp; done) | (simp; omega) | (simp [World.setCell]; done) | (simp [World.setCell]; omega)) _) | (refine Below.drewN_ ?_ _) | (refine Below.drew ?_))) hb (by first | omega | (simp; done) | (simp; omega) | (simp [World.setCell]; done) | (simp [World.setCell]; omega)); have hz1 := hb.size; simp only [World.size_alloc] at hz1; obtain ⟨la0, la1, la2, la3, la4, la5⟩ := lt6 (show w.heap.size < w1.heap.size by omega))
      | (go_at_call 58; refine (containsB_ D cd lo hi bores _ (((hR.below hB1 hhi).alloc (by omega) _).alloc (by simp; omega) _) (by simp; omega) (by unfold maxLen; omega)).mono ?_; rintro e w2 ⟨rfl, hb2'⟩; rw [hb2.out]; have hB2 := Below.step (B := w.heap.size) (a := w) (by repeat (first | exact Below.refl _ _ | exact (Below.refl _ _) | assumption | (refine Below.setCell ?_ (by first | omega | (simp; done) | (simp; omega) | (simp [World.setCell]; done) | (simp [World.setCell]; omega)) _) | (refine Below.alloc ?_ (by first | omega | (simp; done) | (simp; omega) | (simp [World.setCell]; done) | (simp [World.setCell]; omega)) _) | (refine Below.drewN_ ?_ _) | (refine Below.drew ?_))) hb2' (by first | omega | (simp; done) | (simp; omega) | (simp [World.setCell]; done) | (simp [World.setCell]; omega))))
    go_ret3
    exact ⟨planR_nil _ _, (by repeat (first | exact Below.refl _ _ | exact (Below.refl _ _) | assumption | (refine Below.setCell ?_ (by first | omega | (simp; done) | (simp; omega) | (simp [World.setCell]; done) | (simp [World.setCell]; omega)) _) | (refine Below.alloc ?_ (by first | omega | (simp; done) | (simp; omega) | (simp [World.setCell]; done) | (simp [World.setCell]; omega)) _) | (refine Below.drewN_ ?_ _) | (refine Below.drew ?_)))⟩
end Go.Proofs.Ytepibjfmeibgcaa
