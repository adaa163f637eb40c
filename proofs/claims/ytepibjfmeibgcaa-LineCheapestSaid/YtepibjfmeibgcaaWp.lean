/- What line.both returns. -/
import Derived.Test.YtepibjfmeibgcaaWm
namespace Go.Proofs.Ytepibjfmeibgcaa
open Go.RowKit Go.Shelf
/-- The low and the high flow at a node. -/
def lowF (l : List Rng) (k : Nat) : Int := (l.getD k default).low
def highF (l : List Rng) (k : Nat) : Int := (l.getD k default).high
theorem rng_getD {l : List Rng} {k : Nat} (h : k < l.length) : l.getD k default = l[k] := by rw [List.getD_eq_getElem?_getD, List.getElem?_eq_getElem h]; rfl
theorem flow_at {l : List Rng} (h : flowsB l = true) {k : Nat} (hk : k < l.length) : 0 ≤ lowF l k ∧ lowF l k ≤ highF l k ∧ highF l k ≤ 1000000000 := by
  unfold lowF highF
  rw [rng_getD hk]
  unfold flowsB at h
  rw [List.all_eq_true] at h
  have := h _ (List.getElem_mem hk)
  unfold flowB at this
  simp only [Bool.and_eq_true, decide_eq_true_eq] at this
  have a := inB_true this.1.1
  have b := inB_true this.1.2
  have := this.2
  omega
theorem net_pipe {n : Net} (h : netB n = true) (i : Nat) (p : Pipe) (hp : n.pipes[i + 1]? = some p) : PipeOk p := by
  obtain ⟨hi, rfl⟩ := List.getElem?_eq_some_iff.1 hp
  exact pipeB_ok (netB_pipe h hi (by omega))
theorem net_pump {n : Net} (h : netB n = true) : 0 ≤ n.pump ∧ n.pump ≤ 10000 := by
  unfold netB at h; simp only [Bool.and_eq_true] at h
  exact inB_true h.1.1.2
def RunR (base N : Nat) (l v : List Int) (e : Ending) (w' : World) : Prop :=
  ∃ gl gv, e = .returned (.agg #[.slice (some ⟨gl, 0, none⟩) N N, .slice (some ⟨gv, 0, none⟩) N N]) ∧ base ≤ gl ∧ base ≤ gv ∧ BlkI w' gl l ∧ BlkI w' gv v
theorem run_low (n : Net) (A B C : Option Addr) (c cb cc : Nat) (flows : List Rng) (zs : List Int) (W0 W : World) (lo hi l2 h2 l3 h3 fb : Nat) (hb : Below W0.heap.size W0 W) (hR : RdP W0 lo hi A n.pipes) (hhi : hi ≤ W0.heap.size) (hc : n.pipes.length ≤ c)
    (hF : RdR W0 l2 h2 B flows) (hh2 : h2 ≤ W0.heap.size) (hZ : RdI W0 l3 h3 C zs) (hh3 : h3 ≤ W0.heap.size) (hzl : zs.length ≤ maxLen) (hbox : Blk W0 fb 25 #[.slice B flows.length cb]) (hok : netB n = true) (hl : flows.length = n.pipes.length) (hfb : flowsB flows = true) :
    Calls Try.prog 89 #[.agg #[.int .i64 n.pump, .slice A n.pipes.length c], .func (.func 90) #[] #[.pointer (some ⟨fb, 0, none⟩)], .slice C zs.length cc] W fun e w' =>
      RunR W.heap.size n.pipes.length (loadsL n.pipes (lowF flows) zs) (vacsL n.pump n.pipes (lowF flows) zs) e w' ∧ Below W.heap.size W w' := by
  have hs := hb.size
  have hln := netB_len hok
  refine (run_ n.pump A C c cc n.pipes zs 90 fb (lowF flows) W lo hi l3 h3 (hR.below hb hhi) (by omega) (hZ.below hb hh3) (by omega) hzl hln.2 hln.1 hc (netB_tree hok) (net_pipe hok) (net_pump hok)
    (enters_of Try.func90 (by kernel_rfl) rfl) (fun k hk => by have := flow_at hfb (show k < flows.length by omega); omega) (fun k W' hk hb' => ?_)).mono ?_
  · have h := low_ k fb B cb l2 h2 flows W' ((hF.below hb hh2).below hb' (by omega)) (by omega) (by have := (hbox.below hb hbox.lt).below hb' (by have := hbox.lt; omega); rw [this.cell]; rfl)
    refine h.mono ?_
    rintro e w' ⟨rfl, rfl⟩
    refine ⟨?_, rfl⟩
    unfold lowF; rw [rng_getD (by omega)]
  · rintro e w' ⟨⟨gl, gv, rfl, g1, g2, g3, g4⟩, hb'⟩
    exact ⟨⟨gl, gv, rfl, g1, g2, g3, g4⟩, hb'⟩
theorem run_high (n : Net) (A B C : Option Addr) (c cb cc : Nat) (flows : List Rng) (zs : List Int) (W0 W : World) (lo hi l2 h2 l3 h3 fb : Nat) (hb : Below W0.heap.size W0 W) (hR : RdP W0 lo hi A n.pipes) (hhi : hi ≤ W0.heap.size) (hc : n.pipes.length ≤ c)
    (hF : RdR W0 l2 h2 B flows) (hh2 : h2 ≤ W0.heap.size) (hZ : RdI W0 l3 h3 C zs) (hh3 : h3 ≤ W0.heap.size) (hzl : zs.length ≤ maxLen) (hbox : Blk W0 fb 25 #[.slice B flows.length cb]) (hok : netB n = true) (hl : flows.length = n.pipes.length) (hfb : flowsB flows = true) :
    Calls Try.prog 89 #[.agg #[.int .i64 n.pump, .slice A n.pipes.length c], .func (.func 91) #[] #[.pointer (some ⟨fb, 0, none⟩)], .slice C zs.length cc] W fun e w' =>
      RunR W.heap.size n.pipes.length (loadsL n.pipes (highF flows) zs) (vacsL n.pump n.pipes (highF flows) zs) e w' ∧ Below W.heap.size W w' := by
  have hs := hb.size
  have hln := netB_len hok
  refine (run_ n.pump A C c cc n.pipes zs 91 fb (highF flows) W lo hi l3 h3 (hR.below hb hhi) (by omega) (hZ.below hb hh3) (by omega) hzl hln.2 hln.1 hc (netB_tree hok) (net_pipe hok) (net_pump hok)
    (enters_of Try.func91 (by kernel_rfl) rfl) (fun k hk => by have := flow_at hfb (show k < flows.length by omega); omega) (fun k W' hk hb' => ?_)).mono ?_
  · have h := high_ k fb B cb l2 h2 flows W' ((hF.below hb hh2).below hb' (by omega)) (by omega) (by have := (hbox.below hb hbox.lt).below hb' (by have := hbox.lt; omega); rw [this.cell]; rfl)
    refine h.mono ?_
    rintro e w' ⟨rfl, rfl⟩
    refine ⟨?_, rfl⟩
    unfold highF; rw [rng_getD (by omega)]
  · rintro e w' ⟨⟨gl, gv, rfl, g1, g2, g3, g4⟩, hb'⟩
    exact ⟨⟨gl, gv, rfl, g1, g2, g3, g4⟩, hb'⟩

theorem results_two {P : Program} {fn : Func} {p q u : Tmp} {ty : TypeId} (h : fn.results = #[.cell p ty, .cell q ty, .tmp u]) (tmps : Array Value) (w : World) (g g' : Nat) (t t' : TypeId) (cs cs' : Array Value) (fr fr' : Nat × Nat) (d : TypeDesc)
    (hp : tmps.getD p undef = .pointer (some ⟨g, 0, none⟩)) (hq : tmps.getD q undef = .pointer (some ⟨g', 0, none⟩)) (hg : w.heap[g]? = some (.cells cs t fr)) (hg' : w.heap[g']? = some (.cells cs' t' fr'))
    (hu : P.underlying ty = some d) (hd : (match d with | .struct _ | .array _ _ => true | _ => false) = true) (hi : (P.info? ty).map (·.size) = some cs.size) (hi' : (P.info? ty).map (·.size) = some cs'.size) :
    (results fn tmps).run P w = .ok (.tuple #[.agg cs, .agg cs', tmps.getD u undef]) w := by
  have hp' : tmps[p]?.getD undef = .pointer (some ⟨g, 0, none⟩) := by simpa using hp
  have hq' : tmps[q]?.getD undef = .pointer (some ⟨g', 0, none⟩) := by simpa using hq
  simp [results, h, hp', hq', asAddr, run_loadVar_row w g t ty cs fr d hg hu hd hi, run_loadVar_row w g' t' ty cs' fr' d hg' hu hd hi']
/-- The two states and the error. -/
def BothR (base : Nat) (e : Ending) (w' : World) (m : Nat) (l1 v1 l2 v2 : List Int) (err : Int) : Prop :=
  ∃ A1 A2 A3 A4, e = .returned (.tuple #[.agg #[.slice A1 m m, .slice A2 m m], .agg #[.slice A3 m m, .slice A4 m m], .int .i64 err]) ∧
    RdI w' base w'.heap.size A1 l1 ∧ RdI w' base w'.heap.size A2 v1 ∧ RdI w' base w'.heap.size A3 l2 ∧ RdI w' base w'.heap.size A4 v2
theorem both_fin (bm bl N : Nat) (w w2 w4 w5 : World) (gl gv hl hv : Nat) (l1 v1 l2 v2 : List Int) (hm : Blk w2 bm 103 #[.slice none 0 0, .slice none 0 0]) (hn : Blk w2 bl 103 #[.slice none 0 0, .slice none 0 0]) (hne : bm ≠ bl) (z1 : w.heap.size ≤ bm) (z2 : w.heap.size ≤ bl)
    (hB2 : Below w.heap.size w w2) (hB4 : Below w2.heap.size w2 w4) (hb5 : Below w4.heap.size w4 w5) (g1 : w2.heap.size ≤ gl) (g2 : w2.heap.size ≤ gv) (g3 : BlkI w4 gl l1) (g4 : BlkI w4 gv v1) (k1 : w4.heap.size ≤ hl) (k2 : w4.heap.size ≤ hv) (k3 : BlkI w5 hl l2) (k4 : BlkI w5 hv v2) (F : World)
    (hF : F = (((w5.setCell ⟨bm, 0, none⟩ (.slice (some ⟨gl, 0, none⟩) N N)).setCell ⟨bm, 1, none⟩ (.slice (some ⟨gv, 0, none⟩) N N)).setCell ⟨bl, 0, none⟩ (.slice (some ⟨hl, 0, none⟩) N N)).setCell ⟨bl, 1, none⟩ (.slice (some ⟨hv, 0, none⟩) N N)) :
    F.heap[bm]? = some (.cells #[.slice (some ⟨gl, 0, none⟩) N N, .slice (some ⟨gv, 0, none⟩) N N] 103) ∧ F.heap[bl]? = some (.cells #[.slice (some ⟨hl, 0, none⟩) N N, .slice (some ⟨hv, 0, none⟩) N N] 103) ∧ Below w.heap.size w F ∧
    BothR w.heap.size (.returned (.tuple #[.agg #[.slice (some ⟨gl, 0, none⟩) N N, .slice (some ⟨gv, 0, none⟩) N N], .agg #[.slice (some ⟨hl, 0, none⟩) N N, .slice (some ⟨hv, 0, none⟩) N N], .int .i64 0])) F N l1 v1 l2 v2 0 := by
  have hml := hm.lt
  have hnl := hn.lt
  have s4 := hB4.size
  have s5 := hb5.size
  have s2 := hB2.size
  have hm5 := (hm.below hB4 hml).below hb5 (by omega)
  have hn5 := (hn.below hB4 hnl).below hb5 (by omega)
  have g35 := g3.below hb5 g3.lt
  have g45 := g4.below hb5 g4.lt
  have ho : Only (fun k => k = bm ∨ k = bl) w5 F := by
    rw [hF]
    exact (((Only.setCell _ _ _ (.inl rfl)).trans (Only.setCell _ _ _ (.inl rfl))).trans (Only.setCell _ _ _ (.inr rfl))).trans (Only.setCell _ _ _ (.inr rfl))
  have hmF := (((hm5.set_ 0 (.slice (some ⟨gl, 0, none⟩) N N)).set_ 1 (.slice (some ⟨gv, 0, none⟩) N N)).far (p := ⟨bl, 0, none⟩) hne (.slice (some ⟨hl, 0, none⟩) N N)).far (p := ⟨bl, 1, none⟩) hne (.slice (some ⟨hv, 0, none⟩) N N)
  have hnF := (((hn5.far (p := ⟨bm, 0, none⟩) hne.symm (.slice (some ⟨gl, 0, none⟩) N N)).far (p := ⟨bm, 1, none⟩) hne.symm (.slice (some ⟨gv, 0, none⟩) N N)).set_ 0 (.slice (some ⟨hl, 0, none⟩) N N)).set_ 1 (.slice (some ⟨hv, 0, none⟩) N N)
  rw [← hF] at hmF hnF
  have a1 := g35.only ho (by omega)
  have a2 := g45.only ho (by omega)
  have a3 := k3.only ho (by omega)
  have a4 := k4.only ho (by omega)
  refine ⟨hmF, hnF, hB2.trans (((hB4.mono s2).trans (hb5.mono (by omega))).trans (ho.below (by omega) (fun k h => by rcases h with h | h <;> omega))), ?_⟩
  exact ⟨_, _, _, _, rfl, a1.rdI (by omega) a1.lt, a2.rdI (by omega) a2.lt, a3.rdI (by omega) a3.lt, a4.rdI (by omega) a4.lt⟩
set_option maxHeartbeats 2000000 in
set_option maxRecDepth 100000 in
theorem both_arg (n : Net) (A B C : Option Addr) (c cb cc lf : Nat) (zs : List Int) (w : World) (lo hi : Nat) (hR : RdP w lo hi A n.pipes) (hhi : hi ≤ w.heap.size) (hc : n.pipes.length ≤ c) (hn : n.pipes.length ≤ maxLen) (hbad : netB n = false) :
    Calls Try.prog 57 #[.agg #[.int .i64 n.pump, .slice A n.pipes.length c], .slice B lf cb, .slice C zs.length cc] w fun e w' => BothR w.heap.size e w' 0 [] [] [] [] 2 ∧ Below w.heap.size w w' := by
  go_enter Try.func57, Try.ntmps57
  go_wp2_with (go_at_call 69; refine (open_arg n A none c 0 [] _ lo hi ((((hR.alloc hhi _).alloc (by simp; omega) _).alloc (by simp; omega) _).alloc (by simp; omega) _) (by simp; omega) hc hn hbad).mono ?_; rintro e w1 ⟨rfl, hb⟩; obtain ⟨hc1, hf1, hz1⟩ := bcell hb; have hB1 := Below.step (B := w.heap.size) (a := w) (by repeat (first | exact Below.refl _ _ | exact (Below.refl _ _) | assumption | (refine Below.setCell ?_ (by first | omega | (simp; done) | (simp; omega) | (simp [World.setCell]; done) | (simp [World.setCell]; omega)) _) | (refine Below.alloc ?_ (by first | omega | (simp; done) | (simp; omega) | (simp [World.setCell]; done) | (simp [World.setCell]; omega)) _) | (refine Below.drewN_ ?_ _) | (refine Below.drew ?_))) hb (by first | omega | (simp; done) | (simp; omega) | (simp [World.setCell]; done) | (simp [World.setCell]; omega)); simp only [World.size_alloc] at hc1 hf1 hz1; have hM := ((Blk.new ((w.alloc _).alloc _) 103 #[.slice none 0 0, .slice none 0 0]).alloc (.cells #[.slice none 0 0, .slice none 0 0] 103)).below hb (by simp); have hL := (Blk.new (((w.alloc _).alloc _).alloc _) 103 #[.slice none 0 0, .slice none 0 0]).below hb (by simp); simp only [World.size_alloc] at hM hL; have m0 := hM.cell 0; have m1 := hM.cell 1; have m2 := hM.frozen 0; have m3 := hM.frozen 1; have n0 := hL.cell 0; have n1 := hL.cell 1; have n2 := hL.frozen 0; have n3 := hL.frozen 1; simp at m0 m1 m2 m3 n0 n1 n2 n3; obtain ⟨la0, la1, la2, la3, la4, la5⟩ := lt6 (show w.heap.size + 1 + 1 < w1.heap.size by omega); obtain ⟨lb0, lb1, lb2, lb3, lb4, lb5⟩ := lt6 (show w.heap.size + 1 + 1 + 1 < w1.heap.size by omega))
  have hM' := ((((hM.set_ 0 (.slice none 0 0)).set_ 1 (.slice none 0 0)).far (p := ⟨w.heap.size + 1 + 1 + 1, 0, none⟩) (by simp) (.slice none 0 0)).far (p := ⟨w.heap.size + 1 + 1 + 1, 1, none⟩) (by simp) (.slice none 0 0)).alloc (.cells #[.int .i64 0, .slice none 0 0] 111)
  have hL' := ((((hL.far (p := ⟨w.heap.size + 1 + 1, 0, none⟩) (by simp) (.slice none 0 0)).far (p := ⟨w.heap.size + 1 + 1, 1, none⟩) (by simp) (.slice none 0 0)).set_ 0 (.slice none 0 0)).set_ 1 (.slice none 0 0)).alloc (.cells #[.int .i64 0, .slice none 0 0] 111)
  refine bodyPost_ret (results_two rfl _ _ _ _ _ _ _ _ _ _ _ rfl rfl hM' hL' Try.underlying103 rfl (by kernel_rfl) (by kernel_rfl)) rfl ?_
  exact ⟨⟨none, none, none, none, rfl, Rd.nil, Rd.nil, Rd.nil, Rd.nil⟩, (by repeat (first | exact Below.refl _ _ | exact (Below.refl _ _) | assumption | (refine Below.setCell ?_ (by first | omega | (simp; done) | (simp; omega) | (simp [World.setCell]; done) | (simp [World.setCell]; omega)) _) | (refine Below.alloc ?_ (by first | omega | (simp; done) | (simp; omega) | (simp [World.setCell]; done) | (simp [World.setCell]; omega)) _) | (refine Below.drewN_ ?_ _) | (refine Below.drew ?_)))⟩
set_option maxHeartbeats 2000000 in
set_option maxRecDepth 100000 in
theorem both_chk (n : Net) (A B C : Option Addr) (c cb cc : Nat) (flows : List Rng) (zs : List Int) (w : World) (lo hi l2 h2 l3 h3 : Nat) (hR : RdP w lo hi A n.pipes) (hhi : hi ≤ w.heap.size) (hc : n.pipes.length ≤ c) (hF : RdR w l2 h2 B flows) (hh2 : h2 ≤ w.heap.size) (hfl : flows.length ≤ maxLen)
    (hZ : RdI w l3 h3 C zs) (hh3 : h3 ≤ w.heap.size) (hzc : zs.length ≤ cc) (hzl : zs.length ≤ maxLen) (hok : netB n = true) (hk : chkF n.pipes.length flows zs ≠ 0) :
    Calls Try.prog 57 #[.agg #[.int .i64 n.pump, .slice A n.pipes.length c], .slice B flows.length cb, .slice C zs.length cc] w fun e w' => BothR w.heap.size e w' 0 [] [] [] [] (chkF n.pipes.length flows zs) ∧ Below w.heap.size w w' := by
  have hln := netB_len hok
  go_enter Try.func57, Try.ntmps57
  go_wp2_with (first
    | (go_at_call 69; refine (open_ok n A none c 0 0 0 [] _ lo hi ((((hR.alloc hhi _).alloc (by simp; omega) _).alloc (by simp; omega) _).alloc (by simp; omega) _) (by simp; omega) hc Rd.nil (Nat.zero_le _) (by simp) hok rfl).mono ?_; rintro e w1 ⟨rfl, hb⟩; obtain ⟨hc1, hf1, hz1⟩ := bcell hb; have hB1 := Below.step (B := w.heap.size) (a := w) (by repeat (first | exact Below.refl _ _ | exact (Below.refl _ _) | assumption | (refine Below.setCell ?_ (by first | omega | (simp; done) | (simp; omega) | (simp [World.setCell]; done) | (simp [World.setCell]; omega)) _) | (refine Below.alloc ?_ (by first | omega | (simp; done) | (simp; omega) | (simp [World.setCell]; done) | (simp [World.setCell]; omega)) _) | (refine Below.drewN_ ?_ _) | (refine Below.drew ?_))) hb (by first | omega | (simp; done) | (simp; omega) | (simp [World.setCell]; done) | (simp [World.setCell]; omega)); simp only [World.size_alloc] at hc1 hf1 hz1; have hM := ((Blk.new ((w.alloc _).alloc _) 103 #[.slice none 0 0, .slice none 0 0]).alloc (.cells #[.slice none 0 0, .slice none 0 0] 103)).below hb (by simp); have hL := (Blk.new (((w.alloc _).alloc _).alloc _) 103 #[.slice none 0 0, .slice none 0 0]).below hb (by simp); simp only [World.size_alloc] at hM hL; have m0 := hM.cell 0; have m1 := hM.cell 1; have m2 := hM.frozen 0; have m3 := hM.frozen 1; have n0 := hL.cell 0; have n1 := hL.cell 1; have n2 := hL.frozen 0; have n3 := hL.frozen 1; simp at m0 m1 m2 m3 n0 n1 n2 n3; obtain ⟨la0, la1, la2, la3, la4, la5⟩ := lt6 (show w.heap.size + 1 + 1 < w1.heap.size by omega); obtain ⟨lb0, lb1, lb2, lb3, lb4, lb5⟩ := lt6 (show w.heap.size + 1 + 1 + 1 < w1.heap.size by omega); have hQ := (((Blk.new (w.alloc _) 25 #[.slice B flows.length cb]).alloc _).alloc _).below hb (by simp); have q0 := hQ.cell 0; simp at q0; obtain ⟨lc0, lc1, lc2, lc3, lc4, lc5⟩ := lt6 (show w.heap.size + 1 < w1.heap.size by omega))
    | (go_at_call 88; refine (checkF_ n.pump A B C c cb cc n.pipes.length l2 h2 l3 h3 flows zs _ ((hF.below hB1 hh2).alloc (by omega) _) (by simp; omega) ((hZ.below hB1 hh3).alloc (by omega) _) (by simp; omega) hln.2 hfl hzc hzl).mono ?_; rintro e w2 ⟨rfl, hb2⟩; obtain ⟨hc2, hf2, hz2⟩ := bcell hb2; have hB2 := Below.step (B := w.heap.size) (a := w) (by repeat (first | exact Below.refl _ _ | exact (Below.refl _ _) | assumption | (refine Below.setCell ?_ (by first | omega | (simp; done) | (simp; omega) | (simp [World.setCell]; done) | (simp [World.setCell]; omega)) _) | (refine Below.alloc ?_ (by first | omega | (simp; done) | (simp; omega) | (simp [World.setCell]; done) | (simp [World.setCell]; omega)) _) | (refine Below.drewN_ ?_ _) | (refine Below.drew ?_))) hb2 (by first | omega | (simp; done) | (simp; omega) | (simp [World.setCell]; done) | (simp [World.setCell]; omega)); simp only [World.size_alloc] at hc2 hf2 hz2; clear m0 m1 m2 m3 n0 n1 n2 n3; have hM2 := (hM.alloc _).below hb2 (by simp; omega); have hL2 := (hL.alloc _).below hb2 (by simp; omega); have m0 := hM2.cell 0; have m1 := hM2.cell 1; have m2 := hM2.frozen 0; have m3 := hM2.frozen 1; have n0 := hL2.cell 0; have n1 := hL2.cell 1; have n2 := hL2.frozen 0; have n3 := hL2.frozen 1; simp at m0 m1 m2 m3 n0 n1 n2 n3))
  have hM' := ((((hM2.set_ 0 (.slice none 0 0)).set_ 1 (.slice none 0 0)).far (p := ⟨w.heap.size + 1 + 1 + 1, 0, none⟩) (by simp) (.slice none 0 0)).far (p := ⟨w.heap.size + 1 + 1 + 1, 1, none⟩) (by simp) (.slice none 0 0))
  have hL' := ((((hL2.far (p := ⟨w.heap.size + 1 + 1, 0, none⟩) (by simp) (.slice none 0 0)).far (p := ⟨w.heap.size + 1 + 1, 1, none⟩) (by simp) (.slice none 0 0)).set_ 0 (.slice none 0 0)).set_ 1 (.slice none 0 0))
  refine bodyPost_ret (results_two rfl _ _ _ _ _ _ _ _ _ _ _ rfl rfl hM' hL' Try.underlying103 rfl (by kernel_rfl) (by kernel_rfl)) rfl ?_
  exact ⟨⟨none, none, none, none, rfl, Rd.nil, Rd.nil, Rd.nil, Rd.nil⟩, (by repeat (first | exact Below.refl _ _ | exact (Below.refl _ _) | assumption | (refine Below.setCell ?_ (by first | omega | (simp; done) | (simp; omega) | (simp [World.setCell]; done) | (simp [World.setCell]; omega)) _) | (refine Below.alloc ?_ (by first | omega | (simp; done) | (simp; omega) | (simp [World.setCell]; done) | (simp [World.setCell]; omega)) _) | (refine Below.drewN_ ?_ _) | (refine Below.drew ?_)))⟩
set_option maxHeartbeats 2000000 in
set_option maxRecDepth 100000 in
theorem both_ok (n : Net) (A B C : Option Addr) (c cb cc : Nat) (flows : List Rng) (zs : List Int) (w : World) (lo hi l2 h2 l3 h3 : Nat) (hR : RdP w lo hi A n.pipes) (hhi : hi ≤ w.heap.size) (hc : n.pipes.length ≤ c) (hF : RdR w l2 h2 B flows) (hh2 : h2 ≤ w.heap.size) (hfl : flows.length ≤ maxLen)
    (hZ : RdI w l3 h3 C zs) (hh3 : h3 ≤ w.heap.size) (hzc : zs.length ≤ cc) (hzl : zs.length ≤ maxLen) (hok : netB n = true) (hk : chkF n.pipes.length flows zs = 0) (hl : flows.length = n.pipes.length) (hfb : flowsB flows = true) :
    Calls Try.prog 57 #[.agg #[.int .i64 n.pump, .slice A n.pipes.length c], .slice B flows.length cb, .slice C zs.length cc] w fun e w' =>
      BothR w.heap.size e w' n.pipes.length (loadsL n.pipes (lowF flows) zs) (vacsL n.pump n.pipes (lowF flows) zs) (loadsL n.pipes (highF flows) zs) (vacsL n.pump n.pipes (highF flows) zs) 0 ∧ Below w.heap.size w w' := by
  have hln := netB_len hok
  have HLN := Lib.hid hl
  clear hl
  go_enter Try.func57, Try.ntmps57
  go_upto_region 6 with (first
    | (go_at_call 69; refine (open_ok n A none c 0 0 0 [] _ lo hi ((((hR.alloc hhi _).alloc (by simp; omega) _).alloc (by simp; omega) _).alloc (by simp; omega) _) (by simp; omega) hc Rd.nil (Nat.zero_le _) (by simp) hok rfl).mono ?_; rintro e w1 ⟨rfl, hb⟩; obtain ⟨hc1, hf1, hz1⟩ := bcell hb; have hB1 := Below.step (B := w.heap.size) (a := w) (by repeat (first | exact Below.refl _ _ | exact (Below.refl _ _) | assumption | (refine Below.setCell ?_ (by first | omega | (simp; done) | (simp; omega) | (simp [World.setCell]; done) | (simp [World.setCell]; omega)) _) | (refine Below.alloc ?_ (by first | omega | (simp; done) | (simp; omega) | (simp [World.setCell]; done) | (simp [World.setCell]; omega)) _) | (refine Below.drewN_ ?_ _) | (refine Below.drew ?_))) hb (by first | omega | (simp; done) | (simp; omega) | (simp [World.setCell]; done) | (simp [World.setCell]; omega)); simp only [World.size_alloc] at hc1 hf1 hz1; have hM := ((Blk.new ((w.alloc _).alloc _) 103 #[.slice none 0 0, .slice none 0 0]).alloc (.cells #[.slice none 0 0, .slice none 0 0] 103)).below hb (by simp); have hL := (Blk.new (((w.alloc _).alloc _).alloc _) 103 #[.slice none 0 0, .slice none 0 0]).below hb (by simp); simp only [World.size_alloc] at hM hL; have m0 := hM.cell 0; have m1 := hM.cell 1; have m2 := hM.frozen 0; have m3 := hM.frozen 1; have n0 := hL.cell 0; have n1 := hL.cell 1; have n2 := hL.frozen 0; have n3 := hL.frozen 1; simp at m0 m1 m2 m3 n0 n1 n2 n3; obtain ⟨la0, la1, la2, la3, la4, la5⟩ := lt6 (show w.heap.size + 1 + 1 < w1.heap.size by omega); obtain ⟨lb0, lb1, lb2, lb3, lb4, lb5⟩ := lt6 (show w.heap.size + 1 + 1 + 1 < w1.heap.size by omega); have hQ := (((Blk.new (w.alloc _) 25 #[.slice B flows.length cb]).alloc _).alloc _).below hb (by simp); have q0 := hQ.cell 0; simp at q0; obtain ⟨lc0, lc1, lc2, lc3, lc4, lc5⟩ := lt6 (show w.heap.size + 1 < w1.heap.size by omega))
    | (go_at_call 88; refine (checkF_ n.pump A B C c cb cc n.pipes.length l2 h2 l3 h3 flows zs _ ((hF.below hB1 hh2).alloc (by omega) _) (by simp; omega) ((hZ.below hB1 hh3).alloc (by omega) _) (by simp; omega) hln.2 hfl hzc hzl).mono ?_; rintro e w2 ⟨rfl, hb2⟩; rw [hk]; obtain ⟨hc2, hf2, hz2⟩ := bcell hb2; have hB2 := Below.step (B := w.heap.size) (a := w) (by repeat (first | exact Below.refl _ _ | exact (Below.refl _ _) | assumption | (refine Below.setCell ?_ (by first | omega | (simp; done) | (simp; omega) | (simp [World.setCell]; done) | (simp [World.setCell]; omega)) _) | (refine Below.alloc ?_ (by first | omega | (simp; done) | (simp; omega) | (simp [World.setCell]; done) | (simp [World.setCell]; omega)) _) | (refine Below.drewN_ ?_ _) | (refine Below.drew ?_))) hb2 (by first | omega | (simp; done) | (simp; omega) | (simp [World.setCell]; done) | (simp [World.setCell]; omega)); simp only [World.size_alloc] at hc2 hf2 hz2))
  have hsz := hb2.size
  simp only [World.size_alloc] at hsz
  have hM2 := (hM.alloc (.cells #[.int .i64 n.pump, .slice A n.pipes.length c] 111)).below hb2 (by simp; omega)
  have hL2 := (hL.alloc (.cells #[.int .i64 n.pump, .slice A n.pipes.length c] 111)).below hb2 (by simp; omega)
  simp only [World.size_alloc] at hQ
  have hQ2 := (hQ.alloc (.cells #[.int .i64 n.pump, .slice A n.pipes.length c] 111)).below hb2 (by simp; omega)
  have hT2 := (Blk.new w1 111 #[.int .i64 n.pump, .slice A n.pipes.length c]).below hb2 (by simp)
  have hR2 := hR.below hB2 hhi
  have hF2 := hF.below hB2 hh2
  have hZ2 := hZ.below hB2 hh3
  have hS : ∀ w', Below w2.heap.size w2 w' → w'.cell? ⟨w1.heap.size, 0, none⟩ = some (.int .i64 n.pump) ∧ w'.cell? ⟨w1.heap.size, 1, none⟩ = some (.slice A n.pipes.length c) := by
    intro w' hb
    have b1 := hT2.below hb hT2.lt
    exact ⟨by rw [b1.cell]; rfl, by rw [b1.cell]; rfl⟩
  have HS := Lib.hid hS
  clear hS m0 m1 m2 m3 n0 n1 n2 n3 q0
  have m0 := hM2.cell 0
  have m1 := hM2.cell 1
  have m2 := hM2.frozen 0
  have m3 := hM2.frozen 1
  have n0 := hL2.cell 0
  have n1 := hL2.cell 1
  have n2 := hL2.frozen 0
  have n3 := hL2.frozen 1
  simp at m0 m1 m2 m3 n0 n1 n2 n3
  have hw1 : w.heap.size + 4 ≤ w1.heap.size := by have := hb.size; simp at this; omega
  have hx1 : ¬ w.heap.size + 1 + 1 = w1.heap.size := by omega
  have hx2 : ¬ w.heap.size + 1 + 1 + 1 = w1.heap.size := by omega
  have hx3 : ¬ w1.heap.size = w.heap.size + 1 + 1 := by omega
  have hx4 : ¬ w1.heap.size = w.heap.size + 1 + 1 + 1 := by omega
  have HM : Hid (∀ w', Below w2.heap.size w2 w' → w'.cell? ⟨w.heap.size + 1 + 1, 0, none⟩ = some (.slice none 0 0) ∧ w'.cell? ⟨w.heap.size + 1 + 1, 1, none⟩ = some (.slice none 0 0) ∧ w'.frozen? ⟨w.heap.size + 1 + 1, 0, none⟩ = false ∧ w'.frozen? ⟨w.heap.size + 1 + 1, 1, none⟩ = false ∧ w'.cell? ⟨w.heap.size + 1 + 1 + 1, 0, none⟩ = some (.slice none 0 0) ∧ w'.cell? ⟨w.heap.size + 1 + 1 + 1, 1, none⟩ = some (.slice none 0 0) ∧ w'.frozen? ⟨w.heap.size + 1 + 1 + 1, 0, none⟩ = false ∧ w'.frozen? ⟨w.heap.size + 1 + 1 + 1, 1, none⟩ = false) := Lib.hid (by
    intro w' hb
    have b1 := hM2.below hb hM2.lt
    have b2 := hL2.below hb hL2.lt
    exact ⟨by rw [b1.cell]; rfl, by rw [b1.cell]; rfl, b1.frozen _, b1.frozen _, by rw [b2.cell]; rfl, by rw [b2.cell]; rfl, b2.frozen _, b2.frozen _⟩)
  have HM2 := Lib.hid hM2
  have HL2 := Lib.hid hL2
  clear m0 m1 m2 m3 n0 n1 n2 n3 la0 la1 la2 la3 la4 la5 lb0 lb1 lb2 lb3 lb4 lb5 lc0 lc1 lc2 lc3 lc4 lc5 hc1 hf1 hc2 hf2 hM2 hL2 hM hL hQ hT2
  go_region_held3 (fun w' => w'.cell? ⟨w1.heap.size, 0, none⟩ = some (.int .i64 n.pump) ∧ w'.cell? ⟨w1.heap.size, 1, none⟩ = some (.slice A n.pipes.length c)) (first | (with_reducible exact HS.out _ hB5) | (with_reducible exact HS.out _ hB4) | (with_reducible exact HS.out _ (Below.refl _ _)) | (with_reducible exact HS.out _ (Below.refl _ _).drew) | (refine ⟨?_, ?_⟩ <;> (repeat (rw [World.cell?_setCell_other _ _ _ _ (by simp; omega)])) <;> first | exact (HS.out _ hB5).1 | exact (HS.out _ hB5).2) | go_keep | (have HSS := HS.out _ hB5; go_keep)) (first
    | (go_at_call 89; (with_reducible refine (run_low n A B C c cb cc flows zs w2 _ lo hi l2 h2 l3 h3 (w.heap.size + 1) (by first | exact hB5 | exact (Below.refl _ _).drew | exact Below.refl _ _) hR2 (by omega) hc hF2 (by omega) hZ2 (by omega) hzl hQ2 hok HLN.out hfb).mono ?_); rintro e w4 ⟨⟨gl, gv, rfl, g1, g2, g3, g4⟩, hb4⟩; have hB4 : Below w2.heap.size w2 w4 := Below.step (B := w2.heap.size) (a := w2) (by first | exact hB5 | exact (Below.refl _ _).drew | exact Below.refl _ _) hb4 (by first | exact Nat.le_refl _ | exact hB5.size); obtain ⟨m0, m1, m2, m3, n0, n1, n2, n3⟩ := HM.out _ hB4)
    | (go_at_call 89; (with_reducible refine (run_high n A B C c cb cc flows zs w2 _ lo hi l2 h2 l3 h3 (w.heap.size + 1) (by first | exact hB4 | exact (Below.refl _ _).drew | exact Below.refl _ _) hR2 (by omega) hc hF2 (by omega) hZ2 (by omega) hzl hQ2 hok HLN.out hfb).mono ?_); rintro e w5 ⟨⟨hl5, hv5, rfl, k1, k2, k3, k4⟩, hb5⟩; have hB5 : Below w2.heap.size w2 w5 := Below.step (B := w2.heap.size) (a := w2) (by first | exact hB4 | exact (Below.refl _ _).drew | exact Below.refl _ _) hb5 (by first | exact Nat.le_refl _ | exact hB4.size); obtain ⟨m0, m1, m2, m3, n0, n1, n2, n3⟩ := HM.out _ hB5))
  all_goals
    go_wp2_with fail
    obtain ⟨e1, e2, e3, e4⟩ := both_fin (w.heap.size + 1 + 1) (w.heap.size + 1 + 1 + 1) n.pipes.length w w2 w4 w5 gl gv hl5 hv5 _ _ _ _ HM2.out HL2.out (by omega) (by omega) (by omega) hB2 hB4 hb5 g1 g2 g3 g4 k1 k2 k3 k4 _ rfl
    refine bodyPost_ret (results_two rfl _ _ _ _ _ _ _ _ _ _ _ rfl rfl e1 e2 Try.underlying103 rfl (by kernel_rfl) (by kernel_rfl)) rfl ?_
    exact ⟨e4, e3⟩
end Go.Proofs.Ytepibjfmeibgcaa
/- What line.Loads and line.Vacuum return. -/
namespace Go.Proofs.Ytepibjfmeibgcaa
open Go.RowKit Go.Shelf
/-- A new list of ranges and an error. -/
def RetR (base : Nat) (e : Ending) (w' : World) (xs : List Rng) (err : Int) : Prop :=
  ∃ v, e = .returned (.tuple #[v, .int .i64 err]) ∧ w'.ownsRow base 52 2 v xs.length (xs.flatMap encR)
set_option maxHeartbeats 2000000 in
set_option maxRecDepth 100000 in
theorem Loads_of (n : Net) (A B C : Option Addr) (c cb cc lf lz m : Nat) (l1 v1 l2 v2 : List Int) (err : Int) (w : World) (h1 : l1.length = m) (h2 : l2.length = m) (hm : m ≤ 60)
    (h : ∀ o, Calls Try.prog 57 #[.agg #[.int .i64 n.pump, .slice A n.pipes.length c], .slice B lf cb, .slice C lz cc] (w.alloc o) fun e w' => BothR (w.alloc o).heap.size e w' m l1 v1 l2 v2 err ∧ Below (w.alloc o).heap.size (w.alloc o) w') :
    Calls Try.prog 23 #[.agg #[.int .i64 n.pump, .slice A n.pipes.length c], .slice B lf cb, .slice C lz cc] w fun e w' => RetR w.heap.size e w' (pairL l1 l2) err ∧ Below w.heap.size w w' := by
  have H := Lib.hid h
  have H1 := Lib.hid h1
  have H2 := Lib.hid h2
  clear h h1 h2
  go_enter Try.func23, Try.ntmps23
  go_wp2_with (first
    | (go_at_call 57; refine (H.out _).mono ?_; rintro e w1 ⟨⟨A1, A2, A3, A4, rfl, a1, a2, a3, a4⟩, hb⟩; have hB1 := Below.step (B := w.heap.size) (a := w) (by repeat (first | exact Below.refl _ _ | exact (Below.refl _ _) | assumption | (refine Below.setCell ?_ (by first | omega | (simp; done) | (simp; omega) | (simp [World.setCell]; done) | (simp [World.setCell]; omega)) _) | (refine Below.alloc ?_ (by first | omega | (simp; done) | (simp; omega) | (simp [World.setCell]; done) | (simp [World.setCell]; omega)) _) | (refine Below.drewN_ ?_ _) | (refine Below.drew ?_))) hb (by first | omega | (simp; done) | (simp; omega) | (simp [World.setCell]; done) | (simp [World.setCell]; omega)); have hz1 := hb.size; simp only [World.size_alloc] at hz1; obtain ⟨la0, la1, la2, la3, la4, la5⟩ := lt6 (show w.heap.size < w1.heap.size by omega))
    | (go_at_call 68; refine (pair_ A1 A3 m m _ _ _ _ m l1 l2 _ ((a1.alloc (Nat.le_refl _) _).alloc (by simp) _) (by simp; omega) ((a3.alloc (Nat.le_refl _) _).alloc (by simp) _) (by simp; omega) H1.out H2.out (by omega)).mono ?_; rintro e w2 ⟨⟨v, rfl, ho⟩, hb2⟩; have hB2 := Below.step (B := w.heap.size) (a := w) (by repeat (first | exact Below.refl _ _ | exact (Below.refl _ _) | assumption | (refine Below.setCell ?_ (by first | omega | (simp; done) | (simp; omega) | (simp [World.setCell]; done) | (simp [World.setCell]; omega)) _) | (refine Below.alloc ?_ (by first | omega | (simp; done) | (simp; omega) | (simp [World.setCell]; done) | (simp [World.setCell]; omega)) _) | (refine Below.drewN_ ?_ _) | (refine Below.drew ?_))) hb2 (by first | omega | (simp; done) | (simp; omega) | (simp [World.setCell]; done) | (simp [World.setCell]; omega))))
  go_ret2
  refine ⟨⟨v, rfl, ?_⟩, hB2⟩
  rw [pairL_len _ _ (by rw [H1.out, H2.out]), H1.out]
  exact ownsRow_base' ho (by simp; omega)
set_option maxHeartbeats 2000000 in
set_option maxRecDepth 100000 in
theorem Vacuum_of (n : Net) (A B C : Option Addr) (c cb cc lf lz m : Nat) (l1 v1 l2 v2 : List Int) (err : Int) (w : World) (h1 : v1.length = m) (h2 : v2.length = m) (hm : m ≤ 60)
    (h : ∀ o, Calls Try.prog 57 #[.agg #[.int .i64 n.pump, .slice A n.pipes.length c], .slice B lf cb, .slice C lz cc] (w.alloc o) fun e w' => BothR (w.alloc o).heap.size e w' m l1 v1 l2 v2 err ∧ Below (w.alloc o).heap.size (w.alloc o) w') :
    Calls Try.prog 24 #[.agg #[.int .i64 n.pump, .slice A n.pipes.length c], .slice B lf cb, .slice C lz cc] w fun e w' => RetR w.heap.size e w' (pairL v2 v1) err ∧ Below w.heap.size w w' := by
  have H := Lib.hid h
  have H1 := Lib.hid h1
  have H2 := Lib.hid h2
  clear h h1 h2
  go_enter Try.func24, Try.ntmps24
  go_wp2_with (first
    | (go_at_call 57; refine (H.out _).mono ?_; rintro e w1 ⟨⟨A1, A2, A3, A4, rfl, a1, a2, a3, a4⟩, hb⟩; have hB1 := Below.step (B := w.heap.size) (a := w) (by repeat (first | exact Below.refl _ _ | exact (Below.refl _ _) | assumption | (refine Below.setCell ?_ (by first | omega | (simp; done) | (simp; omega) | (simp [World.setCell]; done) | (simp [World.setCell]; omega)) _) | (refine Below.alloc ?_ (by first | omega | (simp; done) | (simp; omega) | (simp [World.setCell]; done) | (simp [World.setCell]; omega)) _) | (refine Below.drewN_ ?_ _) | (refine Below.drew ?_))) hb (by first | omega | (simp; done) | (simp; omega) | (simp [World.setCell]; done) | (simp [World.setCell]; omega)); have hz1 := hb.size; simp only [World.size_alloc] at hz1; obtain ⟨la0, la1, la2, la3, la4, la5⟩ := lt6 (show w.heap.size < w1.heap.size by omega))
    | (go_at_call 68; refine (pair_ A4 A2 m m _ _ _ _ m v2 v1 _ ((a4.alloc (Nat.le_refl _) _).alloc (by simp) _) (by simp; omega) ((a2.alloc (Nat.le_refl _) _).alloc (by simp) _) (by simp; omega) H2.out H1.out (by omega)).mono ?_; rintro e w2 ⟨⟨v, rfl, ho⟩, hb2⟩; have hB2 := Below.step (B := w.heap.size) (a := w) (by repeat (first | exact Below.refl _ _ | exact (Below.refl _ _) | assumption | (refine Below.setCell ?_ (by first | omega | (simp; done) | (simp; omega) | (simp [World.setCell]; done) | (simp [World.setCell]; omega)) _) | (refine Below.alloc ?_ (by first | omega | (simp; done) | (simp; omega) | (simp [World.setCell]; done) | (simp [World.setCell]; omega)) _) | (refine Below.drewN_ ?_ _) | (refine Below.drew ?_))) hb2 (by first | omega | (simp; done) | (simp; omega) | (simp [World.setCell]; done) | (simp [World.setCell]; omega))))
  go_ret2
  refine ⟨⟨v, rfl, ?_⟩, hB2⟩
  rw [pairL_len _ _ (by rw [H1.out, H2.out]), H2.out]
  exact ownsRow_base' ho (by simp; omega)

theorem loadsL_len' {n : Net} (hok : netB n = true) (f : Nat → Int) (zs : List Int) (hf : ∀ k, k < n.pipes.length → 0 ≤ f k ∧ f k ≤ 1000000000) : (loadsL n.pipes f zs).length = n.pipes.length :=
  (loadsL_inv (z := zs) (netB_tree hok) (netB_len hok).2 hf).1
theorem vacsL_len' {n : Net} (hok : netB n = true) (pump : Int) (f : Nat → Int) (zs : List Int) : (vacsL pump n.pipes f zs).length = n.pipes.length := by
  have := netB_len hok
  unfold vacsL; rw [vacF_len]; simp; omega
theorem Loads_arg (n : Net) (A B C : Option Addr) (c cb cc lf : Nat) (zs : List Int) (w : World) (lo hi : Nat) (hR : RdP w lo hi A n.pipes) (hhi : hi ≤ w.heap.size) (hc : n.pipes.length ≤ c) (hn : n.pipes.length ≤ maxLen) (hbad : netB n = false) :
    Calls Try.prog 23 #[.agg #[.int .i64 n.pump, .slice A n.pipes.length c], .slice B lf cb, .slice C zs.length cc] w fun e w' => RetR w.heap.size e w' [] 2 ∧ Below w.heap.size w w' :=
  Loads_of n A B C c cb cc lf zs.length 0 [] [] [] [] 2 w rfl rfl (by omega) (fun o => both_arg n A B C c cb cc lf zs _ lo hi (hR.alloc hhi o) (by simp; omega) hc hn hbad)
theorem Loads_chk (n : Net) (A B C : Option Addr) (c cb cc : Nat) (flows : List Rng) (zs : List Int) (w : World) (lo hi l2 h2 l3 h3 : Nat) (hR : RdP w lo hi A n.pipes) (hhi : hi ≤ w.heap.size) (hc : n.pipes.length ≤ c) (hF : RdR w l2 h2 B flows) (hh2 : h2 ≤ w.heap.size) (hfl : flows.length ≤ maxLen)
    (hZ : RdI w l3 h3 C zs) (hh3 : h3 ≤ w.heap.size) (hzc : zs.length ≤ cc) (hzl : zs.length ≤ maxLen) (hok : netB n = true) (hk : chkF n.pipes.length flows zs ≠ 0) :
    Calls Try.prog 23 #[.agg #[.int .i64 n.pump, .slice A n.pipes.length c], .slice B flows.length cb, .slice C zs.length cc] w fun e w' => RetR w.heap.size e w' [] (chkF n.pipes.length flows zs) ∧ Below w.heap.size w w' :=
  Loads_of n A B C c cb cc flows.length zs.length 0 [] [] [] [] _ w rfl rfl (by omega) (fun o => both_chk n A B C c cb cc flows zs _ lo hi l2 h2 l3 h3 (hR.alloc hhi o) (by simp; omega) hc (hF.alloc hh2 o) (by simp; omega) hfl (hZ.alloc hh3 o) (by simp; omega) hzc hzl hok hk)
theorem Loads_ok (n : Net) (A B C : Option Addr) (c cb cc : Nat) (flows : List Rng) (zs : List Int) (w : World) (lo hi l2 h2 l3 h3 : Nat) (hR : RdP w lo hi A n.pipes) (hhi : hi ≤ w.heap.size) (hc : n.pipes.length ≤ c) (hF : RdR w l2 h2 B flows) (hh2 : h2 ≤ w.heap.size) (hfl : flows.length ≤ maxLen)
    (hZ : RdI w l3 h3 C zs) (hh3 : h3 ≤ w.heap.size) (hzc : zs.length ≤ cc) (hzl : zs.length ≤ maxLen) (hok : netB n = true) (hk : chkF n.pipes.length flows zs = 0) (hl : flows.length = n.pipes.length) (hfb : flowsB flows = true) :
    Calls Try.prog 23 #[.agg #[.int .i64 n.pump, .slice A n.pipes.length c], .slice B flows.length cb, .slice C zs.length cc] w fun e w' => RetR w.heap.size e w' (pairL (loadsL n.pipes (lowF flows) zs) (loadsL n.pipes (highF flows) zs)) 0 ∧ Below w.heap.size w w' := by
  have f1 : ∀ k, k < n.pipes.length → 0 ≤ lowF flows k ∧ lowF flows k ≤ 1000000000 := fun k hk => by have := flow_at hfb (show k < flows.length by omega); omega
  have f2 : ∀ k, k < n.pipes.length → 0 ≤ highF flows k ∧ highF flows k ≤ 1000000000 := fun k hk => by have := flow_at hfb (show k < flows.length by omega); omega
  exact Loads_of n A B C c cb cc flows.length zs.length n.pipes.length _ _ _ _ 0 w (loadsL_len' hok _ zs f1) (loadsL_len' hok _ zs f2) (netB_len hok).2 (fun o => both_ok n A B C c cb cc flows zs _ lo hi l2 h2 l3 h3 (hR.alloc hhi o) (by simp; omega) hc (hF.alloc hh2 o) (by simp; omega) hfl (hZ.alloc hh3 o) (by simp; omega) hzc hzl hok hk hl hfb)
theorem Vacuum_arg (n : Net) (A B C : Option Addr) (c cb cc lf : Nat) (zs : List Int) (w : World) (lo hi : Nat) (hR : RdP w lo hi A n.pipes) (hhi : hi ≤ w.heap.size) (hc : n.pipes.length ≤ c) (hn : n.pipes.length ≤ maxLen) (hbad : netB n = false) :
    Calls Try.prog 24 #[.agg #[.int .i64 n.pump, .slice A n.pipes.length c], .slice B lf cb, .slice C zs.length cc] w fun e w' => RetR w.heap.size e w' [] 2 ∧ Below w.heap.size w w' :=
  Vacuum_of n A B C c cb cc lf zs.length 0 [] [] [] [] 2 w rfl rfl (by omega) (fun o => both_arg n A B C c cb cc lf zs _ lo hi (hR.alloc hhi o) (by simp; omega) hc hn hbad)
theorem Vacuum_chk (n : Net) (A B C : Option Addr) (c cb cc : Nat) (flows : List Rng) (zs : List Int) (w : World) (lo hi l2 h2 l3 h3 : Nat) (hR : RdP w lo hi A n.pipes) (hhi : hi ≤ w.heap.size) (hc : n.pipes.length ≤ c) (hF : RdR w l2 h2 B flows) (hh2 : h2 ≤ w.heap.size) (hfl : flows.length ≤ maxLen)
    (hZ : RdI w l3 h3 C zs) (hh3 : h3 ≤ w.heap.size) (hzc : zs.length ≤ cc) (hzl : zs.length ≤ maxLen) (hok : netB n = true) (hk : chkF n.pipes.length flows zs ≠ 0) :
    Calls Try.prog 24 #[.agg #[.int .i64 n.pump, .slice A n.pipes.length c], .slice B flows.length cb, .slice C zs.length cc] w fun e w' => RetR w.heap.size e w' [] (chkF n.pipes.length flows zs) ∧ Below w.heap.size w w' :=
  Vacuum_of n A B C c cb cc flows.length zs.length 0 [] [] [] [] _ w rfl rfl (by omega) (fun o => both_chk n A B C c cb cc flows zs _ lo hi l2 h2 l3 h3 (hR.alloc hhi o) (by simp; omega) hc (hF.alloc hh2 o) (by simp; omega) hfl (hZ.alloc hh3 o) (by simp; omega) hzc hzl hok hk)
theorem Vacuum_ok (n : Net) (A B C : Option Addr) (c cb cc : Nat) (flows : List Rng) (zs : List Int) (w : World) (lo hi l2 h2 l3 h3 : Nat) (hR : RdP w lo hi A n.pipes) (hhi : hi ≤ w.heap.size) (hc : n.pipes.length ≤ c) (hF : RdR w l2 h2 B flows) (hh2 : h2 ≤ w.heap.size) (hfl : flows.length ≤ maxLen)
    (hZ : RdI w l3 h3 C zs) (hh3 : h3 ≤ w.heap.size) (hzc : zs.length ≤ cc) (hzl : zs.length ≤ maxLen) (hok : netB n = true) (hk : chkF n.pipes.length flows zs = 0) (hl : flows.length = n.pipes.length) (hfb : flowsB flows = true) :
    Calls Try.prog 24 #[.agg #[.int .i64 n.pump, .slice A n.pipes.length c], .slice B flows.length cb, .slice C zs.length cc] w fun e w' => RetR w.heap.size e w' (pairL (vacsL n.pump n.pipes (highF flows) zs) (vacsL n.pump n.pipes (lowF flows) zs)) 0 ∧ Below w.heap.size w w' := by
  have f1 : ∀ k, k < n.pipes.length → 0 ≤ lowF flows k ∧ lowF flows k ≤ 1000000000 := fun k hk => by have := flow_at hfb (show k < flows.length by omega); omega
  have f2 : ∀ k, k < n.pipes.length → 0 ≤ highF flows k ∧ highF flows k ≤ 1000000000 := fun k hk => by have := flow_at hfb (show k < flows.length by omega); omega
  exact Vacuum_of n A B C c cb cc flows.length zs.length n.pipes.length _ _ _ _ 0 w (vacsL_len' hok _ _ zs) (vacsL_len' hok _ _ zs) (netB_len hok).2 (fun o => both_ok n A B C c cb cc flows zs _ lo hi l2 h2 l3 h3 (hR.alloc hhi o) (by simp; omega) hc (hF.alloc hh2 o) (by simp; omega) hfl (hZ.alloc hh3 o) (by simp; omega) hzc hzl hok hk hl hfb)
end Go.Proofs.Ytepibjfmeibgcaa
/- What line.isBore and the search among bores return. -/
namespace Go.Proofs.Ytepibjfmeibgcaa
open Go.RowKit
/-- A bore that can be chosen, and its price. -/
structure Bor where
  size : Int
  price : Int
  deriving DecidableEq, Inhabited
def boreB (b : Bor) : Bool := inB 4 80 b.size && inB 0 1000 b.price
def boresB (l : List Bor) : Bool := l.all boreB
theorem boresB_snoc (xs : List Bor) (k : Nat) (hk : k < xs.length) : boresB (xs.take (k + 1)) = (boresB (xs.take k) && boreB xs[k]) := by
  unfold boresB; rw [List.take_succ_eq_append_getElem hk, List.all_append]; simp
theorem boresB_false (xs : List Bor) (k : Nat) (hk : k < xs.length) (h : boreB xs[k] = false) : boresB xs = false := by
  unfold boresB; rw [List.all_eq_false]; exact ⟨xs[k], List.getElem_mem hk, by simp [h]⟩
def encO (b : Bor) : List Value := [I b.size, I b.price]
abbrev RdO (w : World) (lo hi : Nat) (A : Option Addr) (xs : List Bor) : Prop := Rd encO 2 w lo hi A xs
theorem RdO.at_ {w : World} {lo hi : Nat} {A : Option Addr} {xs : List Bor} {k : Nat} (h : RdO w lo hi A xs) (hk : k < xs.length) : ∃ b off, A = some ⟨b, off, none⟩ ∧ lo ≤ b ∧ b < hi ∧
    w.cell? ⟨b, off + k * 2, none⟩ = some (.int .i64 xs[k].size) ∧ w.cell? ⟨b, off + k * 2 + 1, none⟩ = some (.int .i64 xs[k].price) := by
  obtain ⟨b, off, e, h1, h2, hc⟩ := Rd.at_ h hk
  exact ⟨b, off, e, h1, h2, hc 0 _ rfl, hc 1 _ rfl⟩
set_option maxHeartbeats 800000 in
set_option maxRecDepth 100000 in
theorem isBore_ (b : Bor) (w : World) : Calls Try.prog 60 #[.agg #[.int .i64 b.size, .int .i64 b.price]] w fun e w' => e = .returned (.bool (boreB b)) ∧ Below w.heap.size w w' := by
  cases h1 : inB 4 80 b.size with
  | false =>
    have hb := Lib.hid (show boreB b = false by unfold boreB; rw [h1]; rfl)
    go_enter Try.func60, Try.ntmps60
    go_wp2_with (go_at_call 61; refine (within_one _ _ b.size _ _ _ (by go_simp) (by go_simp)).mono ?_; rintro e w' ⟨rfl, o1, o2, rfl⟩; rw [h1])
    go_ret
    exact ⟨ret_bool (by rw [hb.out]), (by repeat (first | exact Below.refl _ _ | exact (Below.refl _ _) | assumption | (refine Below.setCell ?_ (by first | omega | (simp; done) | (simp; omega) | (simp [World.setCell]; done) | (simp [World.setCell]; omega)) _) | (refine Below.alloc ?_ (by first | omega | (simp; done) | (simp; omega) | (simp [World.setCell]; done) | (simp [World.setCell]; omega)) _) | (refine Below.drewN_ ?_ _) | (refine Below.drew ?_)))⟩
  | true =>
    have hb := Lib.hid (show boreB b = inB 0 1000 b.price by unfold boreB; rw [h1]; rfl)
    go_enter Try.func60, Try.ntmps60
    go_wp2_with (first
      | (go_at_call 61; (with_reducible refine (within_one 4 80 b.size _ _ _ (by go_simp) (by go_simp)).mono ?_); rintro e w' ⟨rfl, o1, o2, rfl⟩; rw [h1])
      | (go_at_call 61; (with_reducible refine (within_one 0 1000 b.price _ _ _ (by go_simp) (by go_simp)).mono ?_); rintro e w' ⟨rfl, o3, o4, rfl⟩))
    go_ret
    exact ⟨ret_bool (by rw [hb.out]), (by repeat (first | exact Below.refl _ _ | exact (Below.refl _ _) | assumption | (refine Below.setCell ?_ (by first | omega | (simp; done) | (simp; omega) | (simp [World.setCell]; done) | (simp [World.setCell]; omega)) _) | (refine Below.alloc ?_ (by first | omega | (simp; done) | (simp; omega) | (simp [World.setCell]; done) | (simp [World.setCell]; omega)) _) | (refine Below.drewN_ ?_ _) | (refine Below.drew ?_)))⟩
set_option maxHeartbeats 800000 in
set_option maxRecDepth 100000 in
theorem bore1_ (b : Bor) (w : World) : Calls Try.prog 59 #[.agg #[.int .i64 b.size, .int .i64 b.price]] w fun e w' => e = .returned (.bool (!boreB b)) ∧ Below w.heap.size w w' := by
  go_enter Try.func59, Try.ntmps59
  go_wp2_with (go_at_call 60; refine (isBore_ b _).mono ?_; rintro e w1 ⟨rfl, hb⟩; have hB1 := Below.step (B := w.heap.size) (a := w) (by repeat (first | exact Below.refl _ _ | exact (Below.refl _ _) | assumption | (refine Below.setCell ?_ (by first | omega | (simp; done) | (simp; omega) | (simp [World.setCell]; done) | (simp [World.setCell]; omega)) _) | (refine Below.alloc ?_ (by first | omega | (simp; done) | (simp; omega) | (simp [World.setCell]; done) | (simp [World.setCell]; omega)) _) | (refine Below.drewN_ ?_ _) | (refine Below.drew ?_))) hb (by first | omega | (simp; done) | (simp; omega) | (simp [World.setCell]; done) | (simp [World.setCell]; omega)))
  go_ret
  exact ⟨rfl, hB1⟩
set_option maxHeartbeats 800000 in
set_option maxRecDepth 100000 in
theorem indexB_ (A : Option Addr) (c lo hi : Nat) (xs : List Bor) (w : World) (hR : RdO w lo hi A xs) (hhi : hi ≤ w.heap.size) (hn : xs.length ≤ maxLen) :
    Calls Try.prog 92 #[.slice A xs.length c, .func (.func 59) #[] #[]] w fun e w' => (∃ n : Int, e = .returned (.int .i64 n) ∧ decide (0 ≤ n) = !boresB xs) ∧ Below w.heap.size w w' := by
  unfold maxLen at hn
  go_enter Try.func92, Try.ntmps92
  go_wp2
  go_loopw [8] (fun i wr => ∃ k : Nat, k ≤ xs.length ∧ i = .int .i64 k ∧ boresB (xs.take k) = true ∧ Below w.heap.size w wr) (fun i _ => xs.length - (intOf i).toNat)
  case atStart => exact ⟨0, Nat.zero_le _, rfl, rfl, Below.refl _ _⟩
  case round =>
    obtain ⟨k, hk, rfl, hall, hB⟩ := hrel
    have hzz := hB.size
    have HALL := Lib.hid hall
    clear hall
    by_cases hlt : k < xs.length
    · obtain ⟨bb, off, rfl, _, _, c0, c1⟩ := RdO.at_ (hR.below hB hhi) hlt
      have hs := Lib.hid (boresB_snoc xs k hlt)
      by_cases hx : boreB xs[k] = true
      · go_wp2_with (go_at_call 59; refine (bore1_ xs[k] _).mono ?_; rintro e w1 ⟨rfl, hb1⟩; have hB1 := Below.step (B := w.heap.size) (a := w) (by repeat (first | exact Below.refl _ _ | exact (Below.refl _ _) | assumption | (refine Below.setCell ?_ (by first | omega | (simp; done) | (simp; omega) | (simp [World.setCell]; done) | (simp [World.setCell]; omega)) _) | (refine Below.alloc ?_ (by first | omega | (simp; done) | (simp; omega) | (simp [World.setCell]; done) | (simp [World.setCell]; omega)) _) | (refine Below.drewN_ ?_ _) | (refine Below.drew ?_))) hb1 (by first | omega | (simp; done) | (simp; omega) | (simp [World.setCell]; done) | (simp [World.setCell]; omega)))
        exact ⟨⟨k + 1, by omega, by go_num, by rw [hs.out, HALL.out, hx]; rfl, hB1⟩, by simp [intOf]; omega⟩
      · have hx : boreB xs[k] = false := by simpa using hx
        go_wp2_with (go_at_call 59; refine (bore1_ xs[k] _).mono ?_; rintro e w1 ⟨rfl, hb1⟩; have hB1 := Below.step (B := w.heap.size) (a := w) (by repeat (first | exact Below.refl _ _ | exact (Below.refl _ _) | assumption | (refine Below.setCell ?_ (by first | omega | (simp; done) | (simp; omega) | (simp [World.setCell]; done) | (simp [World.setCell]; omega)) _) | (refine Below.alloc ?_ (by first | omega | (simp; done) | (simp; omega) | (simp [World.setCell]; done) | (simp [World.setCell]; omega)) _) | (refine Below.drewN_ ?_ _) | (refine Below.drew ?_))) hb1 (by first | omega | (simp; done) | (simp; omega) | (simp [World.setCell]; done) | (simp [World.setCell]; omega)))
        go_ret
        exact ⟨⟨_, rfl, by rw [boresB_false xs k hlt hx]; simp⟩, hB1⟩
    · obtain rfl : k = xs.length := by omega
      go_wp2
      go_ret
      have := HALL.out
      rw [List.take_length] at this
      exact ⟨⟨_, rfl, by rw [this]; rfl⟩, hB⟩
theorem containsB_ (A : Option Addr) (c lo hi : Nat) (xs : List Bor) (w : World) (hR : RdO w lo hi A xs) (hhi : hi ≤ w.heap.size) (hn : xs.length ≤ maxLen) :
    Calls Try.prog 58 #[.slice A xs.length c, .func (.func 59) #[] #[]] w fun e w' => e = .returned (.bool (!boresB xs)) ∧ Below w.heap.size w w' := by
  go_enter Try.func58, Try.ntmps58
  go_wp2_with (go_at_call 92; refine (indexB_ A c lo hi xs _ hR hhi hn).mono ?_; rintro e w' ⟨⟨n, rfl, hn'⟩, hb⟩; have HN := Lib.hid hn'; clear hn')
  go_ret
  exact ⟨ret_bool HN.out, hb⟩
end Go.Proofs.Ytepibjfmeibgcaa
