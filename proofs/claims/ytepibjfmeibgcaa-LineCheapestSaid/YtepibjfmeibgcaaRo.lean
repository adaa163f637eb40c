/- What the reference's Load and Vacuum return. -/
import Derived.Test.YtepibjfmeibgcaaRf
namespace Go.Proofs.Ytepibjfmeibgcaa
open Go.RowKit
set_option linter.unusedVariables false
set_option maxHeartbeats 2000000 in
set_option maxRecDepth 100000 in
theorem refLoad_ (n : Net) (fl zs : List Int) (f : Nat → Int) (A B C : Option Addr) (c cb cz lo hi l2 h2 l3 h3 : Nat) (hn : n.pipes.length ≤ 60) (ht : Tree n.pipes) (hf : ∀ j, j < n.pipes.length → 0 ≤ f j ∧ f j ≤ 1000000000) (hfl : fl.length = n.pipes.length) (hfv : ∀ j (h : j < fl.length), fl[j] = f j) (hzl : zs.length ≤ 1000000000) :
    ∀ (g : Nat) (node : Nat) (w : World) (hR : RdP w lo hi A n.pipes) (hhi : hi ≤ w.heap.size) (hF : RdI w l2 h2 B fl) (hh2 : h2 ≤ w.heap.size) (hZ : RdI w l3 h3 C zs) (hh3 : h3 ≤ w.heap.size) (hnode : node < n.pipes.length) (hg : n.pipes.length ≤ node + g),
    Calls Try.prog 79 #[.agg #[.int .i64 n.pump, .slice A n.pipes.length c], .slice B fl.length cb, .slice C zs.length cz, .int .i64 node] w fun e w' => e = .returned (.int .i64 (ldV n.pipes f zs node)) ∧ Below w.heap.size w w' := by
  intro g
  induction g with
  | zero => intro node w _ _ _ _ _ _ h1 h2; omega
  | succ g ih =>
    intro node w hR hhi hF hh2 hZ hh3 hnode hg
    have hfull := Lib.hid (ldTo_full n.pipes f zs hnode)
    have hstart := Lib.hid (ldTo_start n.pipes f zs node)
    have hfb := hf node hnode
    obtain ⟨b1, o1, rfl, _, hb1, c1⟩ := RdI.at_ hF (show node < fl.length by omega)
    rw [hfv node (by omega)] at c1
    have hnl : (node : Int) < (fl.length : Int) := by omega
    have HFV := Lib.hid hfv
    have HFB := Lib.hid hf
    have HT := Lib.hid ht
    have hb1' : b1 < w.heap.size := by omega
    obtain ⟨l0, l1, l2, l3, l4, l5⟩ := lt6 (show b1 < w.heap.size by omega)
    have HFL := Lib.hid hfl
    clear hfv hf ht hfl
    generalize f node = fn at *
    go_enter Try.func79, Try.ntmps79
    go_wp2_with fail
    clear l0 l1 l2 l3 l4 l5
    go_loopw [9, 10] (fun s i wr => ∃ k : Nat, node + 1 ≤ k ∧ k ≤ n.pipes.length ∧ i = .int .i64 k ∧ s = .int .i64 (ldTo n.pipes f zs node k) ∧ Blk wr w.heap.size 24 #[.int .i64 n.pump, .slice A n.pipes.length c] ∧ Below w.heap.size w wr) (fun _ i _ => n.pipes.length - (intOf i).toNat)
    case atStart => exact ⟨node + 1, Nat.le_refl _, hnode, by go_num, by rw [hstart.out], Blk.new _ _ _, (by repeat (first | exact Below.refl _ _ | exact (Below.refl _ _) | assumption | (refine Below.setCell ?_ (by first | omega | (simp; done) | (simp; omega) | (simp [World.setCell]; done) | (simp [World.setCell]; omega)) _) | (refine Below.alloc ?_ (by first | omega | (simp; done) | (simp; omega) | (simp [World.setCell]; done) | (simp [World.setCell]; omega)) _) | (refine Below.drewN_ ?_ _) | (refine Below.drew ?_)))⟩
    case round =>
      obtain ⟨k, hk1, hk, rfl, rfl, hN, hB⟩ := hrel
      have hnw := hN.lt
      have hS := Lib.hid (ldTo_succ n.pipes f zs node k)
      have hbd := ldTo_bd zs HT.out hn HFB.out hnode hk
      have hz := hB.size
      have n0 := hN.cell 0; have nf0 := hN.frozen 0; have n1 := hN.cell 1; have nf1 := hN.frozen 1; simp at n0 n1
      by_cases hlt : k < n.pipes.length
      · have hkl : (k : Int) < (n.pipes.length : Int) := by omega
        have hRr := hR.below hB hhi
        have hFr := hF.below hB hh2
        have hZr := hZ.below hB hh3
        obtain ⟨bb, off, rfl, _, hbb, c0, d1, d2, d3, d4⟩ := RdP.at_ hRr hlt
        rw [← par_nat hlt] at c0
        clear d1 d2 d3 d4
        have hvb := ldV_bd zs HT.out hn HFB.out hlt
        have hvd := Lib.hid (show ldV n.pipes f zs k = ldV n.pipes f zs k from rfl)
        have hkk : node < k := by omega
        by_cases hpe : par n.pipes k = (node : Int)
        · have hpb : (par n.pipes k == (node : Int)) = true := by simp [hpe]
          have HPE := Lib.hid hpe
          clear hpe
          cases hm : memB zs k with
          | true =>
            have HM := Lib.hid hm
            clear hm
            go_wp2_with (go_at_call 99; refine (rhas_ C cz l3 h3 zs _ _ (by first | exact hZr | exact hZr.drew) hzl).mono ?_; rintro e w1 ⟨rfl, rfl⟩; rw [HM.out])
            exact ⟨⟨k + 1, by omega, by omega, by go_num, by rw [hS.out, if_neg (fun h => by rw [HM.out] at h; exact absurd h.2.2 (by decide))]; simp, hN, (by repeat (first | exact Below.refl _ _ | exact (hB) | assumption | (refine Below.setCell ?_ (by first | omega | (simp; done) | (simp; omega) | (simp [World.setCell]; done) | (simp [World.setCell]; omega)) _) | (refine Below.alloc ?_ (by first | omega | (simp; done) | (simp; omega) | (simp [World.setCell]; done) | (simp [World.setCell]; omega)) _) | (refine Below.drewN_ ?_ _) | (refine Below.drew ?_)))⟩, by simp [intOf]; omega⟩
          | false =>
            have HM := Lib.hid hm
            clear hm
            have HS2 := Lib.hid (show ldTo n.pipes f zs node (k + 1) = ldTo n.pipes f zs node k + ldV n.pipes f zs k by rw [hS.out, if_pos ⟨hkk, HPE.out, HM.out⟩])
            generalize ldTo n.pipes f zs node k = s at *
            go_wp2_with (first
              | (go_at_call 99; refine (rhas_ C cz l3 h3 zs _ _ (by first | exact hZr | exact hZr.drew) hzl).mono ?_; rintro e w1 ⟨rfl, rfl⟩; rw [HM.out])
              | (go_at_call 79; refine (ih k _ hRr (by first | omega | (simp; done) | (simp; omega) | (simp [World.setCell]; omega)) hFr (by first | omega | (simp; done) | (simp; omega) | (simp [World.setCell]; omega)) hZr (by first | omega | (simp; done) | (simp; omega) | (simp [World.setCell]; omega)) hlt (by omega)).mono ?_; rintro e w1 ⟨rfl, hb⟩))
            exact ⟨⟨k + 1, by omega, by omega, by go_num, by rw [HS2.out], hN.below hb hnw, hB.trans (hb.mono hz)⟩, by simp [intOf]; omega⟩
        · have hpb : (par n.pipes k == (node : Int)) = false := by simp [hpe]
          have HPE := Lib.hid hpe
          clear hpe
          go_wp2_with fail
          exact ⟨⟨k + 1, by omega, by omega, by go_num, by rw [hS.out, if_neg (fun h => HPE.out h.2.1)]; simp, hN, (by repeat (first | exact Below.refl _ _ | exact (hB) | assumption | (refine Below.setCell ?_ (by first | omega | (simp; done) | (simp; omega) | (simp [World.setCell]; done) | (simp [World.setCell]; omega)) _) | (refine Below.alloc ?_ (by first | omega | (simp; done) | (simp; omega) | (simp [World.setCell]; done) | (simp [World.setCell]; omega)) _) | (refine Below.drewN_ ?_ _) | (refine Below.drew ?_)))⟩, by simp [intOf]; omega⟩
      · obtain rfl : k = n.pipes.length := by omega
        go_wp2
        go_ret
        exact ⟨ret_int (by rw [hfull.out]), hB⟩
set_option maxHeartbeats 4000000 in
set_option maxRecDepth 100000 in
theorem refVacuum_ (n : Net) (fl zs : List Int) (f : Nat → Int) (A B C : Option Addr) (c cb cz lo hi l2 h2 l3 h3 : Nat) (hn : n.pipes.length ≤ 60) (ht : Tree n.pipes) (hf : ∀ j, j < n.pipes.length → 0 ≤ f j ∧ f j ≤ 1000000000) (hfl : fl.length = n.pipes.length) (hfv : ∀ j (h : j < fl.length), fl[j] = f j) (hzl : zs.length ≤ 1000000000)
    (hpm : 0 ≤ n.pump ∧ n.pump ≤ 10000) (hpk : ∀ j, 0 < j → j < n.pipes.length → PipeOk (pAt n.pipes j)) :
    ∀ (node : Nat) (w : World) (hR : RdP w lo hi A n.pipes) (hhi : hi ≤ w.heap.size) (hF : RdI w l2 h2 B fl) (hh2 : h2 ≤ w.heap.size) (hZ : RdI w l3 h3 C zs) (hh3 : h3 ≤ w.heap.size) (hnode : node < n.pipes.length),
    Calls Try.prog 80 #[.agg #[.int .i64 n.pump, .slice A n.pipes.length c], .slice B fl.length cb, .slice C zs.length cz, .int .i64 node] w fun e w' => e = .returned (.int .i64 (vacV n.pump n.pipes f zs node)) ∧ Below w.heap.size w w' := by
  intro node
  induction node using Nat.strongRecOn with
  | _ node ih =>
    intro w hR hhi hF hh2 hZ hh3 hnode
    by_cases h0 : node = 0
    · subst h0
      have hz0 := Lib.hid (vacV_zero n.pump n.pipes f zs)
      clear ih hfv hf ht hfl hpk
      go_enter Try.func80, Try.ntmps80
      go_wp2_with fail
      go_ret
      exact ⟨ret_int (by rw [hz0.out]), (by repeat (first | exact Below.refl _ _ | exact (Below.refl _ _) | assumption | (refine Below.setCell ?_ (by first | omega | (simp; done) | (simp; omega) | (simp [World.setCell]; done) | (simp [World.setCell]; omega)) _) | (refine Below.alloc ?_ (by first | omega | (simp; done) | (simp; omega) | (simp [World.setCell]; done) | (simp [World.setCell]; omega)) _) | (refine Below.drewN_ ?_ _) | (refine Below.drew ?_)))⟩
    · have hnb : ((node : Int) == 0) = false := by simp; omega
      have hst := Lib.hid (vacV_step n.pump ht f zs (show 0 < node by omega) hnode)
      cases hm : memB zs node with
      | true =>
        have HM := Lib.hid hm
        clear ih hfv hf ht hfl hpk hm
        go_enter Try.func80, Try.ntmps80
        go_wp2_with (go_at_call 99; refine (rhas_ C cz l3 h3 zs _ _ (hZ.alloc hh3 _) hzl).mono ?_; rintro e w1 ⟨rfl, rfl⟩; rw [HM.out])
        go_ret
        exact ⟨ret_int (by rw [hst.out, HM.out]; rfl), (by repeat (first | exact Below.refl _ _ | exact (Below.refl _ _) | assumption | (refine Below.setCell ?_ (by first | omega | (simp; done) | (simp; omega) | (simp [World.setCell]; done) | (simp [World.setCell]; omega)) _) | (refine Below.alloc ?_ (by first | omega | (simp; done) | (simp; omega) | (simp [World.setCell]; done) | (simp [World.setCell]; omega)) _) | (refine Below.drewN_ ?_ _) | (refine Below.drew ?_)))⟩
      | false =>
        have HM := Lib.hid hm
        have hlb := fun j (h1 : 0 < j) (h2 : j < n.pipes.length) => lossZ_bd (hpk j h1 h2) (ldV_bd zs ht hn hf h2).1 (ldV_bd zs ht hn hf h2).2
        have htn := ht node hnode
        obtain ⟨pn, hpn⟩ : ∃ pn : Nat, par n.pipes node = (pn : Int) := ⟨(par n.pipes node).toNat, by
          have : par n.pipes node ≠ -1 := fun h => h0 (htn.2.2.1 h)
          omega⟩
        have hpl : pn < node := by omega
        have hvp := vacV_bd n.pump zs ht hpm.1 (fun j h1 h2 => (hlb j h1 h2).1) pn (by omega)
        have hld := ldV_bd zs ht hn hf hnode
        have hpo := hpk node (by omega) hnode
        have hls := hlb node (by omega) hnode
        rw [pAt_eq hnode] at hpo hls
        have HST := Lib.hid (show vacV n.pump n.pipes f zs node = max 0 (vacV n.pump n.pipes f zs pn - lossZ n.pipes[node] (ldV n.pipes f zs node)) by
          rw [hst.out, HM.out, hpn, pAt_eq hnode]; rfl)
        obtain ⟨bb, off, rfl, _, hbb, c0, c1, c2, c3, c4⟩ := RdP.at_ hR hnode
        have hpn' : n.pipes[node].parent = (pn : Int) := by rw [← par_nat hnode]; exact hpn
        rw [hpn'] at c0
        have IH := Lib.hid ih
        have HLO := fun w hR hhi hF hh2 hZ hh3 => refLoad_ n fl zs f (some ⟨bb, off, none⟩) B C c cb cz lo hi l2 h2 l3 h3 hn ht hf hfl hfv hzl n.pipes.length node w hR hhi hF hh2 hZ hh3 hnode (by omega)
        have HL := Lib.hid HLO
        clear HLO hst hm htn hlb ih hfv hf ht hfl hpk hpn hpn'
        generalize n.pipes[node] = q at *
        have hbw : bb < w.heap.size := by omega
        have hnl : (node : Int) < (n.pipes.length : Int) := by omega
        obtain ⟨lw0, lw1, lw2, lw3, lw4, lw5⟩ := lt6 (show bb < w.heap.size by omega)
        go_enter Try.func80, Try.ntmps80
        go_wp2_with (go_at_call 99; refine (rhas_ C cz l3 h3 zs _ _ (hZ.alloc hh3 _) hzl).mono ?_; rintro e w1 ⟨rfl, rfl⟩; rw [HM.out])
        have hN := (Blk.new w 24 #[.int .i64 n.pump, .slice (some ⟨bb, off, none⟩) n.pipes.length c]).alloc (.cells #[.int .i64 (pn : Int), .int .i64 q.length, .int .i64 q.bore, .int .i64 q.drop, .int .i64 q.taps] 54)
        have hP := blk_new' (w.alloc (.cells #[.int .i64 n.pump, .slice (some ⟨bb, off, none⟩) n.pipes.length c] 24)) (w.heap.size + 1) 54 #[.int .i64 (pn : Int), .int .i64 q.length, .int .i64 q.bore, .int .i64 q.drop, .int .i64 q.taps] (by simp)
        have hB : Below w.heap.size w ((w.alloc (.cells #[.int .i64 n.pump, .slice (some ⟨bb, off, none⟩) n.pipes.length c] 24)).alloc (.cells #[.int .i64 (pn : Int), .int .i64 q.length, .int .i64 q.bore, .int .i64 q.drop, .int .i64 q.taps] 54)) := (by repeat (first | exact Below.refl _ _ | exact (Below.refl _ _) | assumption | (refine Below.setCell ?_ (by first | omega | (simp; done) | (simp; omega) | (simp [World.setCell]; done) | (simp [World.setCell]; omega)) _) | (refine Below.alloc ?_ (by first | omega | (simp; done) | (simp; omega) | (simp [World.setCell]; done) | (simp [World.setCell]; omega)) _) | (refine Below.drewN_ ?_ _) | (refine Below.drew ?_)))
        have hRV := (hR.alloc hhi (.cells #[.int .i64 n.pump, .slice (some ⟨bb, off, none⟩) n.pipes.length c] 24)).alloc (by simp; omega) (.cells #[.int .i64 (pn : Int), .int .i64 q.length, .int .i64 q.bore, .int .i64 q.drop, .int .i64 q.taps] 54)
        have hFV := (hF.alloc hh2 (.cells #[.int .i64 n.pump, .slice (some ⟨bb, off, none⟩) n.pipes.length c] 24)).alloc (by simp; omega) (.cells #[.int .i64 (pn : Int), .int .i64 q.length, .int .i64 q.bore, .int .i64 q.drop, .int .i64 q.taps] 54)
        have hZV := (hZ.alloc hh3 (.cells #[.int .i64 n.pump, .slice (some ⟨bb, off, none⟩) n.pipes.length c] 24)).alloc (by simp; omega) (.cells #[.int .i64 (pn : Int), .int .i64 q.length, .int .i64 q.bore, .int .i64 q.drop, .int .i64 q.taps] 54)
        generalize (w.alloc (.cells #[.int .i64 n.pump, .slice (some ⟨bb, off, none⟩) n.pipes.length c] 24)).alloc (.cells #[.int .i64 (pn : Int), .int .i64 q.length, .int .i64 q.bore, .int .i64 q.drop, .int .i64 q.taps] 54) = V at *
        have hnl := hN.lt
        have hpl2 := hP.lt
        clear lw0 lw1 lw2 lw3 lw4 lw5 c0 c1 c2 c3 c4
        have keepC : ∀ X : World, Below V.heap.size V X → X.cell? ⟨w.heap.size, 0, none⟩ = some (.int .i64 n.pump) ∧ X.cell? ⟨w.heap.size, 1, none⟩ = some (.slice (some ⟨bb, off, none⟩) n.pipes.length c) ∧ X.cell? ⟨w.heap.size + 1, 0, none⟩ = some (.int .i64 (pn : Int)) ∧ X.cell? ⟨w.heap.size + 1, 1, none⟩ = some (.int .i64 q.length) ∧ X.cell? ⟨w.heap.size + 1, 2, none⟩ = some (.int .i64 q.bore) ∧ X.cell? ⟨w.heap.size + 1, 3, none⟩ = some (.int .i64 q.drop) ∧ X.cell? ⟨w.heap.size + 1, 4, none⟩ = some (.int .i64 q.taps) :=
          fun X hX => ⟨(hN.below hX hnl).cell 0, (hN.below hX hnl).cell 1, (hP.below hX hpl2).cell 0, (hP.below hX hpl2).cell 1, (hP.below hX hpl2).cell 2, (hP.below hX hpl2).cell 3, (hP.below hX hpl2).cell 4⟩
        have HK := Lib.hid keepC
        clear keepC
        have HX := Lib.hid (show (if 0 < IntKind.i64.wrap (vacV n.pump n.pipes f zs pn - lossZ q (ldV n.pipes f zs node)) then IntKind.i64.wrap (vacV n.pump n.pipes f zs pn - lossZ q (ldV n.pipes f zs node)) else 0) = max 0 (vacV n.pump n.pipes f zs pn - lossZ q (ldV n.pipes f zs node)) by rw [IntWalk.i64_in (vacV n.pump n.pipes f zs pn - lossZ q (ldV n.pipes f zs node)) (by omega)]; omega)
        have hlq : lossZ ⟨(pn : Int), q.length, q.bore, q.drop, q.taps⟩ (ldV n.pipes f zs node) = lossZ q (ldV n.pipes f zs node) := rfl
        have hls2 := Lib.hid (fun w : World => by have h := refLoss_ ⟨(pn : Int), q.length, q.bore, q.drop, q.taps⟩ (ldV n.pipes f zs node) w hpo hld.1 hld.2; rw [hlq] at h; exact h)
        clear hlq
        apply wp_rel (R := fun X => Below V.heap.size V X)
        · go_region_held3 (fun X => X.cell? ⟨w.heap.size, 0, none⟩ = some (.int .i64 n.pump) ∧ X.cell? ⟨w.heap.size, 1, none⟩ = some (.slice (some ⟨bb, off, none⟩) n.pipes.length c) ∧ X.cell? ⟨w.heap.size + 1, 0, none⟩ = some (.int .i64 (pn : Int)) ∧ X.cell? ⟨w.heap.size + 1, 1, none⟩ = some (.int .i64 q.length) ∧ X.cell? ⟨w.heap.size + 1, 2, none⟩ = some (.int .i64 q.bore) ∧ X.cell? ⟨w.heap.size + 1, 3, none⟩ = some (.int .i64 q.drop) ∧ X.cell? ⟨w.heap.size + 1, 4, none⟩ = some (.int .i64 q.taps)) (first | exact HK.out _ hBB | exact HK.out _ (Below.refl _ V).drew)
            (first
              | (go_at_call 80; refine (IH.out pn hpl _ (by first | exact hRV.drew | exact hRV.below hBB (by omega)) (by first | omega | (have := hBB.size; omega) | (show hi ≤ V.heap.size; omega)) (by first | exact hFV.drew | exact hFV.below hBB (by omega)) (by first | omega | (have := hBB.size; omega) | (show h2 ≤ V.heap.size; omega)) (by first | exact hZV.drew | exact hZV.below hBB (by omega)) (by first | omega | (have := hBB.size; omega) | (show h3 ≤ V.heap.size; omega)) (by omega)).mono ?_; rintro e w2 ⟨rfl, hb2⟩; have hBB : Below V.heap.size V w2 := (by first | exact (Below.trans hBB (hb2.mono hBB.size)) | exact ((Below.refl _ V).drew.trans hb2)))
              | (go_at_call 79; refine (HL.out _ (by first | exact hRV.drew | exact hRV.below hBB (by omega)) (by first | omega | (have := hBB.size; omega) | (show hi ≤ V.heap.size; omega)) (by first | exact hFV.drew | exact hFV.below hBB (by omega)) (by first | omega | (have := hBB.size; omega) | (show h2 ≤ V.heap.size; omega)) (by first | exact hZV.drew | exact hZV.below hBB (by omega)) (by first | omega | (have := hBB.size; omega) | (show h3 ≤ V.heap.size; omega))).mono ?_; rintro e w2 ⟨rfl, hb2⟩; have hBB : Below V.heap.size V w2 := (by first | exact (Below.trans hBB (hb2.mono hBB.size)) | exact ((Below.refl _ V).drew.trans hb2)))
              | (go_at_call 39; refine (hls2.out _).mono ?_; rintro e w2 ⟨rfl, hb2⟩; have hBB : Below V.heap.size V w2 := (by first | exact (Below.trans hBB (hb2.mono hBB.size)) | exact ((Below.refl _ V).drew.trans hb2)))
              | (go_simp; rw [HX.out]))
          all_goals exact ⟨rfl, rfl, hBB⟩
        · intro X hX
          go_wp2_with fail
          go_ret
          exact ⟨ret_int (by rw [HST.out]), hB.trans (hX.mono (by omega))⟩
end Go.Proofs.Ytepibjfmeibgcaa
