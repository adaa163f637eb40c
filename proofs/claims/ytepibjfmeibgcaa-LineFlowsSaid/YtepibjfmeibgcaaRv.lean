/- What the reference's Loads and Vacuums return. -/
import Derived.Test.YtepibjfmeibgcaaRe
import Derived.Test.YtepibjfmeibgcaaRg
namespace Go.Proofs.Ytepibjfmeibgcaa
open Go.RowKit
set_option linter.unusedVariables false
theorem ownsRow_below {W V : World} {base : Nat} {e : TypeId} {size n : Nat} {v : Value} {xs : List Value} (h : W.ownsRow base e size v n xs) (hb : Below W.heap.size W V) : V.ownsRow base e size v n xs :=
  h.kept (w' := V) (row := none) ⟨hb.os, hb.tape, hb.output, hb.size, fun j hj _ => hb.block j hj⟩ (by cases v.ownBlock <;> simp)
set_option maxHeartbeats 2000000 in
set_option maxRecDepth 100000 in
theorem refLoads_ (n : Net) (rs : List Rng) (zs : List Int) (A B C : Option Addr) (c cb cz lo hi l2 h2 l3 h3 : Nat) (w : World) (hR : RdP w lo hi A n.pipes) (hhi : hi ≤ w.heap.size) (hF : RdR w l2 h2 B rs) (hh2 : h2 ≤ w.heap.size) (hZ : RdI w l3 h3 C zs) (hh3 : h3 ≤ w.heap.size)
    (hn : n.pipes.length ≤ 60) (ht : Tree n.pipes) (hrl : rs.length = n.pipes.length) (hf1 : ∀ j, j < n.pipes.length → 0 ≤ lowF rs j ∧ lowF rs j ≤ 1000000000) (hf2 : ∀ j, j < n.pipes.length → 0 ≤ highF rs j ∧ highF rs j ≤ 1000000000) (hzl : zs.length ≤ 1000000000) :
    Calls Try.prog 41 #[.agg #[.int .i64 n.pump, .slice A n.pipes.length c], .slice B rs.length cb, .slice C zs.length cz] w fun e w' => (∃ D cd, e = .returned (.slice D n.pipes.length cd) ∧ RdR w' w.heap.size w'.heap.size D (pairT (ldV n.pipes (lowF rs) zs) (ldV n.pipes (highF rs) zs) n.pipes.length)) ∧ Below w.heap.size w w' := by
  obtain ⟨i0, ei0, ez0, ez1, ez2⟩ := info_parts infoRange
  have q1 : (rs.map (·.low)).length = rs.length := by simp
  have q2 : (rs.map (·.high)).length = rs.length := by simp
  have g1 : ∀ j (h : j < (rs.map (·.low)).length), (rs.map (·.low))[j] = lowF rs j := fun j h => by unfold lowF; rw [rng_getD (by omega)]; simp
  have g2 : ∀ j (h : j < (rs.map (·.high)).length), (rs.map (·.high))[j] = highF rs j := fun j h => by unfold highF; rw [rng_getD (by omega)]; simp
  have hrn : rs.length ≤ 60 := by omega
  have HRL := Lib.hid hrl
  have HT := Lib.hid ht
  have HF1 := Lib.hid hf1
  have HF2 := Lib.hid hf2
  have HG1 := Lib.hid (And.intro q1 g1)
  have HG2 := Lib.hid (And.intro q2 g2)
  clear hrl ht hf1 hf2 q1 q2 g1 g2
  go_enter Try.func41, Try.ntmps41
  go_wp2_with (go_at_call 78; refine (refEnds_ rs B cb l2 h2 _ (hF.alloc hh2 _) (by simp; omega) (by omega)).mono ?_; rintro e w1 ⟨⟨B1, c1, B2, c2, rfl, r1, r2⟩, hb⟩; have hB1 := Below.step (B := w.heap.size) (a := w) (by repeat (first | exact Below.refl _ _ | exact (Below.refl _ _) | assumption | (refine Below.setCell ?_ (by first | omega | (simp; done) | (simp; omega) | (simp [World.setCell]; done) | (simp [World.setCell]; omega)) _) | (refine Below.alloc ?_ (by first | omega | (simp; done) | (simp; omega) | (simp [World.setCell]; done) | (simp [World.setCell]; omega)) _) | (refine Below.drewN_ ?_ _) | (refine Below.drew ?_))) hb (by first | omega | (simp; done) | (simp; omega) | (simp [World.setCell]; done) | (simp [World.setCell]; omega)); have hN1 := (Blk.new w 24 #[.int .i64 n.pump, .slice A n.pipes.length c]).below hb (by simp); have hz1 := hb.size; simp only [World.size_alloc] at hz1; clear hb)
  have hhw : w.heap.size < w1.heap.size := by omega
  have ca : ∀ (k : Nat) (hk : k < n.pipes.length) (W : World) (hW : Below w1.heap.size w1 W), Calls Try.prog 79 #[.agg #[.int .i64 n.pump, .slice A n.pipes.length c], .slice B1 rs.length c1, .slice C zs.length cz, .int .i64 k] W fun e w' => e = .returned (.int .i64 (ldV n.pipes (lowF rs) zs k)) ∧ Below W.heap.size W w' := fun k hk W hW => by
    have h := refLoad_ n (rs.map (·.low)) zs (lowF rs) A B1 C c c1 cz lo hi _ _ l3 h3 hn HT.out HF1.out (HG1.out.1.trans HRL.out) HG1.out.2 hzl n.pipes.length k W ((hR.below hB1 hhi).below hW (by omega)) (by have := hW.size; omega) (r1.below hW (Nat.le_refl _)) hW.size ((hZ.below hB1 hh3).below hW (by omega)) (by have := hW.size; omega) hk (by omega)
    rw [HG1.out.1] at h
    exact h
  have cb2 : ∀ (k : Nat) (hk : k < n.pipes.length) (W : World) (hW : Below w1.heap.size w1 W), Calls Try.prog 79 #[.agg #[.int .i64 n.pump, .slice A n.pipes.length c], .slice B2 rs.length c2, .slice C zs.length cz, .int .i64 k] W fun e w' => e = .returned (.int .i64 (ldV n.pipes (highF rs) zs k)) ∧ Below W.heap.size W w' := fun k hk W hW => by
    have h := refLoad_ n (rs.map (·.high)) zs (highF rs) A B2 C c c2 cz lo hi _ _ l3 h3 hn HT.out HF2.out (HG2.out.1.trans HRL.out) HG2.out.2 hzl n.pipes.length k W ((hR.below hB1 hhi).below hW (by omega)) (by have := hW.size; omega) (r2.below hW (Nat.le_refl _)) hW.size ((hZ.below hB1 hh3).below hW (by omega)) (by have := hW.size; omega) hk (by omega)
    rw [HG2.out.1] at h
    exact h
  have HLA := Lib.hid ca
  have HLB := Lib.hid cb2
  clear ca cb2
  generalize hfa : ldV n.pipes (lowF rs) zs = fa at *
  generalize hfb : ldV n.pipes (highF rs) zs = fb at *
  have HFA := Lib.hid (And.intro hfa hfb)
  clear hfa hfb
  go_wp2_with fail
  go_loopw [9, 10] (fun v i wr => ∃ k : Nat, k ≤ n.pipes.length ∧ i = .int .i64 k ∧ wr.ownsRow w1.heap.size 52 2 v k ((pairT fa fb k).flatMap encR) ∧ Below w1.heap.size w1 wr) (fun _ i _ => n.pipes.length - (intOf i).toNat)
  case atStart => exact ⟨0, Nat.zero_le _, rfl, owns_empty' w1 w1.heap.size w1.heap.size _ 2 rfl (Nat.le_refl _), (by repeat (first | exact Below.refl _ _ | exact (Below.refl _ _) | assumption | (refine Below.setCell ?_ (by first | omega | (simp; done) | (simp; omega) | (simp [World.setCell]; done) | (simp [World.setCell]; omega)) _) | (refine Below.alloc ?_ (by first | omega | (simp; done) | (simp; omega) | (simp [World.setCell]; done) | (simp [World.setCell]; omega)) _) | (refine Below.drewN_ ?_ _) | (refine Below.drew ?_)))⟩
  case round =>
    obtain ⟨k, hk, rfl, hrow, hB⟩ := hrel
    have hz := hB.size
    have hN := hN1.below hB hhw
    have n0 := hN.cell 0; have nf0 := hN.frozen 0; have n1 := hN.cell 1; have nf1 := hN.frozen 1; simp at n0 n1
    by_cases hlt : k < n.pipes.length
    · have hkl : (k : Int) < (n.pipes.length : Int) := by omega
      have hsn := Lib.hid (pairT_succ fa fb k)
      have hnl := hN.lt
      have keepC : ∀ V : World, Below wr.heap.size wr V → V.cell? ⟨w.heap.size, 0, none⟩ = some (.int .i64 n.pump) ∧ V.cell? ⟨w.heap.size, 1, none⟩ = some (.slice A n.pipes.length c) :=
        fun V hV => ⟨(hV.cell hnl).trans n0, (hV.cell hnl).trans n1⟩
      have HK := Lib.hid keepC
      clear keepC
      go_wp2_with fail
      (refine wp_region_ht 14 (fun V => V.cell? ⟨w.heap.size, 0, none⟩ = some (.int .i64 n.pump) ∧ V.cell? ⟨w.heap.size, 1, none⟩ = some (.slice A n.pipes.length c)) (by kernel_rfl) (by kernel_rfl) (HK.out _ (Below.refl _ wr).drew) (fun hHeld => ?_); simp only [List.take_succ_cons, List.take_zero, List.drop_succ_cons, List.drop_zero, List.length_cons, List.length_nil, Nat.reduceAdd])
      (refine wpAnyH_take (i := 0) (oi := _) (v := _) rfl (by kernel_rfl) (by kernel_rfl) (by kernel_rfl) (fun _ _ _ h => h) (Or.inl ⟨by rfl, by ((intro w hSw; (try dsimp only at hSw)); first | (go_simp; done) | (go_simp; with_reducible rfl))⟩) (by assumption) ?_; (try simp only [Act.put]); (try simp only [List.setIfInBounds_toArray]); (try simp only [List.set_cons_succ]); (try simp only [List.set_cons_zero])); (refine wpAnyH_take (i := 1) (oi := _) (v := _) rfl (by kernel_rfl) (by kernel_rfl) (by kernel_rfl) (fun _ _ _ h => h) (Or.inl ⟨by rfl, by ((intro w hSw; (try dsimp only at hSw)); first | (go_simp; done) | (go_simp; with_reducible rfl))⟩) (by assumption) ?_; (try simp only [Act.put]); (try simp only [List.setIfInBounds_toArray]); (try simp only [List.set_cons_succ]); (try simp only [List.set_cons_zero])); (refine wpAnyH_take (i := 2) (oi := _) (v := _) rfl (by kernel_rfl) (by kernel_rfl) (by kernel_rfl) (fun _ _ _ h => h) (Or.inl ⟨by rfl, by ((intro w hSw; (try dsimp only at hSw)); first | (go_simp; done) | (go_simp; with_reducible rfl))⟩) (by assumption) ?_; (try simp only [Act.put]); (try simp only [List.setIfInBounds_toArray]); (try simp only [List.set_cons_succ]); (try simp only [List.set_cons_zero])); (refine wpAnyH_take (i := 3) (oi := _) (v := _) rfl (by kernel_rfl) (by kernel_rfl) (by kernel_rfl) (fun _ _ _ h => h) (Or.inl ⟨by rfl, by ((intro w hSw; (try dsimp only at hSw)); first | (go_simp; done) | (go_simp; with_reducible rfl))⟩) (by assumption) ?_; (try simp only [Act.put]); (try simp only [List.setIfInBounds_toArray]); (try simp only [List.set_cons_succ]); (try simp only [List.set_cons_zero])); (refine wpAnyH_take (i := 4) (oi := _) (v := _) rfl (by kernel_rfl) (by kernel_rfl) (by kernel_rfl) (fun _ _ _ h => h) (Or.inl ⟨by rfl, by ((intro w hSw; (try dsimp only at hSw)); first | (go_simp; done) | (go_simp; with_reducible rfl))⟩) (by assumption) ?_; (try simp only [Act.put]); (try simp only [List.setIfInBounds_toArray]); (try simp only [List.set_cons_succ]); (try simp only [List.set_cons_zero]))
      (refine wpAnyH_take (i := 6) (oi := _) (v := _) rfl (by kernel_rfl) (by kernel_rfl) (by kernel_rfl) (fun _ _ _ h => h) (Or.inl ⟨by rfl, by ((intro w hSw; (try dsimp only at hSw)); first | (go_simp; done) | (go_simp; with_reducible rfl))⟩) (by assumption) ?_; (try simp only [Act.put]); (try simp only [List.setIfInBounds_toArray]); (try simp only [List.set_cons_succ]); (try simp only [List.set_cons_zero])); (refine wpAnyH_take (i := 7) (oi := _) (v := _) rfl (by kernel_rfl) (by kernel_rfl) (by kernel_rfl) (fun _ _ _ h => h) (Or.inl ⟨by rfl, by ((intro w hSw; (try dsimp only at hSw)); first | (go_simp; done) | (go_simp; with_reducible rfl))⟩) (by assumption) ?_; (try simp only [Act.put]); (try simp only [List.setIfInBounds_toArray]); (try simp only [List.set_cons_succ]); (try simp only [List.set_cons_zero])); (refine wpAnyH_take (i := 8) (oi := _) (v := _) rfl (by kernel_rfl) (by kernel_rfl) (by kernel_rfl) (fun _ _ _ h => h) (Or.inl ⟨by rfl, by ((intro w hSw; (try dsimp only at hSw)); first | (go_simp; done) | (go_simp; with_reducible rfl))⟩) (by assumption) ?_; (try simp only [Act.put]); (try simp only [List.setIfInBounds_toArray]); (try simp only [List.set_cons_succ]); (try simp only [List.set_cons_zero])); (refine wpAnyH_take (i := 9) (oi := _) (v := _) rfl (by kernel_rfl) (by kernel_rfl) (by kernel_rfl) (fun _ _ _ h => h) (Or.inl ⟨by rfl, by ((intro w hSw; (try dsimp only at hSw)); first | (go_simp; done) | (go_simp; with_reducible rfl))⟩) (by assumption) ?_; (try simp only [Act.put]); (try simp only [List.setIfInBounds_toArray]); (try simp only [List.set_cons_succ]); (try simp only [List.set_cons_zero]))
      (refine wpAnyH_ready (rs := [5]) (by kernel_rfl) (by simp) ?_; refine AllReadyH.cons (o := _) rfl (fun K hK => ?_) AllReadyH.nil; (go_simp; refine (HLA.out k hlt _ hB.drew).mono ?_; rintro e w2 ⟨rfl, hb2⟩; have hV2 : Below wr.heap.size wr w2 := (Below.refl _ wr).drew.trans hb2); refine hK.out _ _ (HK.out _ hV2) (fun hHeld => ?_); clear hK K; (try simp only [Act.put]); (try simp only [List.setIfInBounds_toArray]); (try simp only [List.set_cons_succ]); (try simp only [List.set_cons_zero]))
      (refine wpAnyH_ready (rs := [10]) (by kernel_rfl) (by simp) ?_; refine AllReadyH.cons (o := _) rfl (fun K hK => ?_) AllReadyH.nil; (go_simp; refine (HLB.out k hlt _ (hB.trans (hV2.mono hz))).mono ?_; rintro e w3 ⟨rfl, hb3⟩; have hV3 : Below wr.heap.size wr w3 := hV2.trans (hb3.mono hV2.size)); refine hK.out _ _ (HK.out _ hV3) (fun hHeld => ?_); clear hK K; (try simp only [Act.put]); (try simp only [List.setIfInBounds_toArray]); (try simp only [List.set_cons_succ]); (try simp only [List.set_cons_zero]))
      (refine wpAnyH_take (i := 11) (oi := _) (v := _) rfl (by kernel_rfl) (by kernel_rfl) (by kernel_rfl) (fun _ _ _ h => h) (Or.inl ⟨by rfl, by ((intro w hSw; (try dsimp only at hSw)); first | (go_simp; done) | (go_simp; with_reducible rfl))⟩) (by assumption) ?_; (try simp only [Act.put]); (try simp only [List.setIfInBounds_toArray]); (try simp only [List.set_cons_succ]); (try simp only [List.set_cons_zero]))
      have hz3 := hV3.size
      have hV4 : Below wr.heap.size wr (w3.alloc (.cells #[.int .i64 (fa k), .int .i64 (fb k)] 52)) := hV3.alloc hz3 _
      (refine wpAnyH_ready (rs := [12]) (by kernel_rfl) (by simp) ?_; refine AllReadyH.cons (o := _) rfl (fun K hK => ?_) AllReadyH.nil; (go_simp); refine hK.out _ _ (HK.out _ hV4) (fun hHeld => ?_); clear hK K; (try simp only [Act.put]); (try simp only [List.setIfInBounds_toArray]); (try simp only [List.set_cons_succ]); (try simp only [List.set_cons_zero]))
      (refine wpAnyH_ready (rs := [13]) (by kernel_rfl) (by simp) ?_; refine AllReadyH.cons (o := _) rfl (fun K hK => ?_) AllReadyH.nil; (refine step_append_rd (enc := encR) rfl (.tmp 24) (.tmp 36) _ rfl w1.heap.size 52 i0 _ 2 16 Try.underlying25 ei0 ez0 ez1 ez2 rfl (by decide) u9 k _ rfl ((ownsRow_below hrow hV3).alloc _) _ 1 _ 0 _ [⟨fa k, fb k⟩] rfl rfl (rd_new (enc := encR) (size := 2) w3 ⟨fa k, fb k⟩ 52 w3.heap.size rfl) encR_len encR_one (by unfold maxLen; omega) (by omega) (by simp; omega) ?_; intro v' w4 ho hg; have hB4 : Below w1.heap.size w1 w4 := (hB.trans (hV4.mono hz)).grown hg (by simp; omega) (fun r e => (hrow.lt r e).1); have hN4 := hN1.below hB4 hhw); refine hK.out _ _ (⟨hN4.cell 0, hN4.cell 1⟩) (fun hHeld => ?_); clear hK K; (try simp only [Act.put]); (try simp only [List.setIfInBounds_toArray]); (try simp only [List.set_cons_succ]); (try simp only [List.set_cons_zero]))
      refine wpAnyH_done (by kernel_rfl) ?_ _
      show wpList _ _ _ _ _ _
      go_wp2_with fail
      exact ⟨⟨k + 1, by omega, by go_num, by rw [hsn.out, List.flatMap_append]; exact ho, hB4⟩, by simp [intOf]; omega⟩
    · obtain rfl : k = n.pipes.length := by omega
      go_wp2
      go_ret
      obtain ⟨D, cd, rfl, _, hRd⟩ := ownsRow_rd encR_len (by decide) hrow (pairT_len _ _ _).symm
      rw [pairT_len, HFA.out.1, HFA.out.2]
      exact ⟨⟨D, cd, rfl, hRd.mono (by omega) (Nat.le_refl _)⟩, hB1.trans (hB.mono (by omega))⟩
set_option maxHeartbeats 2000000 in
set_option maxRecDepth 100000 in
theorem refVacuums_ (n : Net) (rs : List Rng) (zs : List Int) (A B C : Option Addr) (c cb cz lo hi l2 h2 l3 h3 : Nat) (w : World) (hR : RdP w lo hi A n.pipes) (hhi : hi ≤ w.heap.size) (hF : RdR w l2 h2 B rs) (hh2 : h2 ≤ w.heap.size) (hZ : RdI w l3 h3 C zs) (hh3 : h3 ≤ w.heap.size)
    (hn : n.pipes.length ≤ 60) (ht : Tree n.pipes) (hrl : rs.length = n.pipes.length) (hf1 : ∀ j, j < n.pipes.length → 0 ≤ lowF rs j ∧ lowF rs j ≤ 1000000000) (hf2 : ∀ j, j < n.pipes.length → 0 ≤ highF rs j ∧ highF rs j ≤ 1000000000) (hzl : zs.length ≤ 1000000000)
    (hpm : 0 ≤ n.pump ∧ n.pump ≤ 10000) (hpk : ∀ j, 0 < j → j < n.pipes.length → PipeOk (pAt n.pipes j)) :
    Calls Try.prog 42 #[.agg #[.int .i64 n.pump, .slice A n.pipes.length c], .slice B rs.length cb, .slice C zs.length cz] w fun e w' => (∃ D cd, e = .returned (.slice D n.pipes.length cd) ∧ RdR w' w.heap.size w'.heap.size D (pairT (vacV n.pump n.pipes (highF rs) zs) (vacV n.pump n.pipes (lowF rs) zs) n.pipes.length)) ∧ Below w.heap.size w w' := by
  obtain ⟨i0, ei0, ez0, ez1, ez2⟩ := info_parts infoRange
  have q1 : (rs.map (·.low)).length = rs.length := by simp
  have q2 : (rs.map (·.high)).length = rs.length := by simp
  have g1 : ∀ j (h : j < (rs.map (·.low)).length), (rs.map (·.low))[j] = lowF rs j := fun j h => by unfold lowF; rw [rng_getD (by omega)]; simp
  have g2 : ∀ j (h : j < (rs.map (·.high)).length), (rs.map (·.high))[j] = highF rs j := fun j h => by unfold highF; rw [rng_getD (by omega)]; simp
  have hrn : rs.length ≤ 60 := by omega
  have HRL := Lib.hid hrl
  have HT := Lib.hid ht
  have HPK := Lib.hid hpk
  have HF1 := Lib.hid hf1
  have HF2 := Lib.hid hf2
  have HG1 := Lib.hid (And.intro q1 g1)
  have HG2 := Lib.hid (And.intro q2 g2)
  clear hrl ht hf1 hf2 q1 q2 g1 g2 hpk
  go_enter Try.func42, Try.ntmps42
  go_wp2_with (go_at_call 78; refine (refEnds_ rs B cb l2 h2 _ (hF.alloc hh2 _) (by simp; omega) (by omega)).mono ?_; rintro e w1 ⟨⟨B1, c1, B2, c2, rfl, r1, r2⟩, hb⟩; have hB1 := Below.step (B := w.heap.size) (a := w) (by repeat (first | exact Below.refl _ _ | exact (Below.refl _ _) | assumption | (refine Below.setCell ?_ (by first | omega | (simp; done) | (simp; omega) | (simp [World.setCell]; done) | (simp [World.setCell]; omega)) _) | (refine Below.alloc ?_ (by first | omega | (simp; done) | (simp; omega) | (simp [World.setCell]; done) | (simp [World.setCell]; omega)) _) | (refine Below.drewN_ ?_ _) | (refine Below.drew ?_))) hb (by first | omega | (simp; done) | (simp; omega) | (simp [World.setCell]; done) | (simp [World.setCell]; omega)); have hN1 := (Blk.new w 24 #[.int .i64 n.pump, .slice A n.pipes.length c]).below hb (by simp); have hz1 := hb.size; simp only [World.size_alloc] at hz1; clear hb)
  have hhw : w.heap.size < w1.heap.size := by omega
  have ca : ∀ (k : Nat) (hk : k < n.pipes.length) (W : World) (hW : Below w1.heap.size w1 W), Calls Try.prog 80 #[.agg #[.int .i64 n.pump, .slice A n.pipes.length c], .slice B2 rs.length c2, .slice C zs.length cz, .int .i64 k] W fun e w' => e = .returned (.int .i64 (vacV n.pump n.pipes (highF rs) zs k)) ∧ Below W.heap.size W w' := fun k hk W hW => by
    have h := refVacuum_ n (rs.map (·.high)) zs (highF rs) A B2 C c c2 cz lo hi _ _ l3 h3 hn HT.out HF2.out (HG2.out.1.trans HRL.out) HG2.out.2 hzl hpm HPK.out k W ((hR.below hB1 hhi).below hW (by omega)) (by have := hW.size; omega) (r2.below hW (Nat.le_refl _)) hW.size ((hZ.below hB1 hh3).below hW (by omega)) (by have := hW.size; omega) hk
    rw [HG2.out.1] at h
    exact h
  have cb2 : ∀ (k : Nat) (hk : k < n.pipes.length) (W : World) (hW : Below w1.heap.size w1 W), Calls Try.prog 80 #[.agg #[.int .i64 n.pump, .slice A n.pipes.length c], .slice B1 rs.length c1, .slice C zs.length cz, .int .i64 k] W fun e w' => e = .returned (.int .i64 (vacV n.pump n.pipes (lowF rs) zs k)) ∧ Below W.heap.size W w' := fun k hk W hW => by
    have h := refVacuum_ n (rs.map (·.low)) zs (lowF rs) A B1 C c c1 cz lo hi _ _ l3 h3 hn HT.out HF1.out (HG1.out.1.trans HRL.out) HG1.out.2 hzl hpm HPK.out k W ((hR.below hB1 hhi).below hW (by omega)) (by have := hW.size; omega) (r1.below hW (Nat.le_refl _)) hW.size ((hZ.below hB1 hh3).below hW (by omega)) (by have := hW.size; omega) hk
    rw [HG1.out.1] at h
    exact h
  have HLA := Lib.hid ca
  have HLB := Lib.hid cb2
  clear ca cb2
  generalize hfa : vacV n.pump n.pipes (highF rs) zs = fa at *
  generalize hfb : vacV n.pump n.pipes (lowF rs) zs = fb at *
  have HFA := Lib.hid (And.intro hfa hfb)
  clear hfa hfb
  go_wp2_with fail
  go_loopw [9, 10] (fun v i wr => ∃ k : Nat, k ≤ n.pipes.length ∧ i = .int .i64 k ∧ wr.ownsRow w1.heap.size 52 2 v k ((pairT fa fb k).flatMap encR) ∧ Below w1.heap.size w1 wr) (fun _ i _ => n.pipes.length - (intOf i).toNat)
  case atStart => exact ⟨0, Nat.zero_le _, rfl, owns_empty' w1 w1.heap.size w1.heap.size _ 2 rfl (Nat.le_refl _), (by repeat (first | exact Below.refl _ _ | exact (Below.refl _ _) | assumption | (refine Below.setCell ?_ (by first | omega | (simp; done) | (simp; omega) | (simp [World.setCell]; done) | (simp [World.setCell]; omega)) _) | (refine Below.alloc ?_ (by first | omega | (simp; done) | (simp; omega) | (simp [World.setCell]; done) | (simp [World.setCell]; omega)) _) | (refine Below.drewN_ ?_ _) | (refine Below.drew ?_)))⟩
  case round =>
    obtain ⟨k, hk, rfl, hrow, hB⟩ := hrel
    have hz := hB.size
    have hN := hN1.below hB hhw
    have n0 := hN.cell 0; have nf0 := hN.frozen 0; have n1 := hN.cell 1; have nf1 := hN.frozen 1; simp at n0 n1
    by_cases hlt : k < n.pipes.length
    · have hkl : (k : Int) < (n.pipes.length : Int) := by omega
      have hsn := Lib.hid (pairT_succ fa fb k)
      have hnl := hN.lt
      have keepC : ∀ V : World, Below wr.heap.size wr V → V.cell? ⟨w.heap.size, 0, none⟩ = some (.int .i64 n.pump) ∧ V.cell? ⟨w.heap.size, 1, none⟩ = some (.slice A n.pipes.length c) :=
        fun V hV => ⟨(hV.cell hnl).trans n0, (hV.cell hnl).trans n1⟩
      have HK := Lib.hid keepC
      clear keepC
      go_wp2_with fail
      (refine wp_region_ht 14 (fun V => V.cell? ⟨w.heap.size, 0, none⟩ = some (.int .i64 n.pump) ∧ V.cell? ⟨w.heap.size, 1, none⟩ = some (.slice A n.pipes.length c)) (by kernel_rfl) (by kernel_rfl) (HK.out _ (Below.refl _ wr).drew) (fun hHeld => ?_); simp only [List.take_succ_cons, List.take_zero, List.drop_succ_cons, List.drop_zero, List.length_cons, List.length_nil, Nat.reduceAdd])
      (refine wpAnyH_take (i := 0) (oi := _) (v := _) rfl (by kernel_rfl) (by kernel_rfl) (by kernel_rfl) (fun _ _ _ h => h) (Or.inl ⟨by rfl, by ((intro w hSw; (try dsimp only at hSw)); first | (go_simp; done) | (go_simp; with_reducible rfl))⟩) (by assumption) ?_; (try simp only [Act.put]); (try simp only [List.setIfInBounds_toArray]); (try simp only [List.set_cons_succ]); (try simp only [List.set_cons_zero])); (refine wpAnyH_take (i := 1) (oi := _) (v := _) rfl (by kernel_rfl) (by kernel_rfl) (by kernel_rfl) (fun _ _ _ h => h) (Or.inl ⟨by rfl, by ((intro w hSw; (try dsimp only at hSw)); first | (go_simp; done) | (go_simp; with_reducible rfl))⟩) (by assumption) ?_; (try simp only [Act.put]); (try simp only [List.setIfInBounds_toArray]); (try simp only [List.set_cons_succ]); (try simp only [List.set_cons_zero])); (refine wpAnyH_take (i := 2) (oi := _) (v := _) rfl (by kernel_rfl) (by kernel_rfl) (by kernel_rfl) (fun _ _ _ h => h) (Or.inl ⟨by rfl, by ((intro w hSw; (try dsimp only at hSw)); first | (go_simp; done) | (go_simp; with_reducible rfl))⟩) (by assumption) ?_; (try simp only [Act.put]); (try simp only [List.setIfInBounds_toArray]); (try simp only [List.set_cons_succ]); (try simp only [List.set_cons_zero])); (refine wpAnyH_take (i := 3) (oi := _) (v := _) rfl (by kernel_rfl) (by kernel_rfl) (by kernel_rfl) (fun _ _ _ h => h) (Or.inl ⟨by rfl, by ((intro w hSw; (try dsimp only at hSw)); first | (go_simp; done) | (go_simp; with_reducible rfl))⟩) (by assumption) ?_; (try simp only [Act.put]); (try simp only [List.setIfInBounds_toArray]); (try simp only [List.set_cons_succ]); (try simp only [List.set_cons_zero])); (refine wpAnyH_take (i := 4) (oi := _) (v := _) rfl (by kernel_rfl) (by kernel_rfl) (by kernel_rfl) (fun _ _ _ h => h) (Or.inl ⟨by rfl, by ((intro w hSw; (try dsimp only at hSw)); first | (go_simp; done) | (go_simp; with_reducible rfl))⟩) (by assumption) ?_; (try simp only [Act.put]); (try simp only [List.setIfInBounds_toArray]); (try simp only [List.set_cons_succ]); (try simp only [List.set_cons_zero]))
      (refine wpAnyH_take (i := 6) (oi := _) (v := _) rfl (by kernel_rfl) (by kernel_rfl) (by kernel_rfl) (fun _ _ _ h => h) (Or.inl ⟨by rfl, by ((intro w hSw; (try dsimp only at hSw)); first | (go_simp; done) | (go_simp; with_reducible rfl))⟩) (by assumption) ?_; (try simp only [Act.put]); (try simp only [List.setIfInBounds_toArray]); (try simp only [List.set_cons_succ]); (try simp only [List.set_cons_zero])); (refine wpAnyH_take (i := 7) (oi := _) (v := _) rfl (by kernel_rfl) (by kernel_rfl) (by kernel_rfl) (fun _ _ _ h => h) (Or.inl ⟨by rfl, by ((intro w hSw; (try dsimp only at hSw)); first | (go_simp; done) | (go_simp; with_reducible rfl))⟩) (by assumption) ?_; (try simp only [Act.put]); (try simp only [List.setIfInBounds_toArray]); (try simp only [List.set_cons_succ]); (try simp only [List.set_cons_zero])); (refine wpAnyH_take (i := 8) (oi := _) (v := _) rfl (by kernel_rfl) (by kernel_rfl) (by kernel_rfl) (fun _ _ _ h => h) (Or.inl ⟨by rfl, by ((intro w hSw; (try dsimp only at hSw)); first | (go_simp; done) | (go_simp; with_reducible rfl))⟩) (by assumption) ?_; (try simp only [Act.put]); (try simp only [List.setIfInBounds_toArray]); (try simp only [List.set_cons_succ]); (try simp only [List.set_cons_zero])); (refine wpAnyH_take (i := 9) (oi := _) (v := _) rfl (by kernel_rfl) (by kernel_rfl) (by kernel_rfl) (fun _ _ _ h => h) (Or.inl ⟨by rfl, by ((intro w hSw; (try dsimp only at hSw)); first | (go_simp; done) | (go_simp; with_reducible rfl))⟩) (by assumption) ?_; (try simp only [Act.put]); (try simp only [List.setIfInBounds_toArray]); (try simp only [List.set_cons_succ]); (try simp only [List.set_cons_zero]))
      (refine wpAnyH_ready (rs := [5]) (by kernel_rfl) (by simp) ?_; refine AllReadyH.cons (o := _) rfl (fun K hK => ?_) AllReadyH.nil; (go_simp; refine (HLA.out k hlt _ hB.drew).mono ?_; rintro e w2 ⟨rfl, hb2⟩; have hV2 : Below wr.heap.size wr w2 := (Below.refl _ wr).drew.trans hb2); refine hK.out _ _ (HK.out _ hV2) (fun hHeld => ?_); clear hK K; (try simp only [Act.put]); (try simp only [List.setIfInBounds_toArray]); (try simp only [List.set_cons_succ]); (try simp only [List.set_cons_zero]))
      (refine wpAnyH_ready (rs := [10]) (by kernel_rfl) (by simp) ?_; refine AllReadyH.cons (o := _) rfl (fun K hK => ?_) AllReadyH.nil; (go_simp; refine (HLB.out k hlt _ (hB.trans (hV2.mono hz))).mono ?_; rintro e w3 ⟨rfl, hb3⟩; have hV3 : Below wr.heap.size wr w3 := hV2.trans (hb3.mono hV2.size)); refine hK.out _ _ (HK.out _ hV3) (fun hHeld => ?_); clear hK K; (try simp only [Act.put]); (try simp only [List.setIfInBounds_toArray]); (try simp only [List.set_cons_succ]); (try simp only [List.set_cons_zero]))
      (refine wpAnyH_take (i := 11) (oi := _) (v := _) rfl (by kernel_rfl) (by kernel_rfl) (by kernel_rfl) (fun _ _ _ h => h) (Or.inl ⟨by rfl, by ((intro w hSw; (try dsimp only at hSw)); first | (go_simp; done) | (go_simp; with_reducible rfl))⟩) (by assumption) ?_; (try simp only [Act.put]); (try simp only [List.setIfInBounds_toArray]); (try simp only [List.set_cons_succ]); (try simp only [List.set_cons_zero]))
      have hz3 := hV3.size
      have hV4 : Below wr.heap.size wr (w3.alloc (.cells #[.int .i64 (fa k), .int .i64 (fb k)] 52)) := hV3.alloc hz3 _
      (refine wpAnyH_ready (rs := [12]) (by kernel_rfl) (by simp) ?_; refine AllReadyH.cons (o := _) rfl (fun K hK => ?_) AllReadyH.nil; (go_simp); refine hK.out _ _ (HK.out _ hV4) (fun hHeld => ?_); clear hK K; (try simp only [Act.put]); (try simp only [List.setIfInBounds_toArray]); (try simp only [List.set_cons_succ]); (try simp only [List.set_cons_zero]))
      (refine wpAnyH_ready (rs := [13]) (by kernel_rfl) (by simp) ?_; refine AllReadyH.cons (o := _) rfl (fun K hK => ?_) AllReadyH.nil; (refine step_append_rd (enc := encR) rfl (.tmp 24) (.tmp 36) _ rfl w1.heap.size 52 i0 _ 2 16 Try.underlying25 ei0 ez0 ez1 ez2 rfl (by decide) u9 k _ rfl ((ownsRow_below hrow hV3).alloc _) _ 1 _ 0 _ [⟨fa k, fb k⟩] rfl rfl (rd_new (enc := encR) (size := 2) w3 ⟨fa k, fb k⟩ 52 w3.heap.size rfl) encR_len encR_one (by unfold maxLen; omega) (by omega) (by simp; omega) ?_; intro v' w4 ho hg; have hB4 : Below w1.heap.size w1 w4 := (hB.trans (hV4.mono hz)).grown hg (by simp; omega) (fun r e => (hrow.lt r e).1); have hN4 := hN1.below hB4 hhw); refine hK.out _ _ (⟨hN4.cell 0, hN4.cell 1⟩) (fun hHeld => ?_); clear hK K; (try simp only [Act.put]); (try simp only [List.setIfInBounds_toArray]); (try simp only [List.set_cons_succ]); (try simp only [List.set_cons_zero]))
      refine wpAnyH_done (by kernel_rfl) ?_ _
      show wpList _ _ _ _ _ _
      go_wp2_with fail
      exact ⟨⟨k + 1, by omega, by go_num, by rw [hsn.out, List.flatMap_append]; exact ho, hB4⟩, by simp [intOf]; omega⟩
    · obtain rfl : k = n.pipes.length := by omega
      go_wp2
      go_ret
      obtain ⟨D, cd, rfl, _, hRd⟩ := ownsRow_rd encR_len (by decide) hrow (pairT_len _ _ _).symm
      rw [pairT_len, HFA.out.1, HFA.out.2]
      exact ⟨⟨D, cd, rfl, hRd.mono (by omega) (Nat.le_refl _)⟩, hB1.trans (hB.mono (by omega))⟩
end Go.Proofs.Ytepibjfmeibgcaa
