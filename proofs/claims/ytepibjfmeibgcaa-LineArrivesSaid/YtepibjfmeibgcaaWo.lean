/- What line.Loads and line.Vacuum return. -/
import Derived.Test.YtepibjfmeibgcaaWn
namespace Go.Proofs.Ytepibjfmeibgcaa
open Go.RowKit Go.Shelf
/-- A new list of ranges and an error. -/
def RetR (base : Nat) (e : Ending) (w' : World) (xs : List Rng) (err : Int) : Prop :=
  ∃ v, e = .returned (.tuple #[v, .int .i64 err]) ∧ w'.ownsRow base 52 2 v xs.length (xs.flatMap encR)
set_option maxHeartbeats 2000000 in
set_option maxRecDepth 100000 in
theorem Loads_of (n : Net) (A B C : Option Addr) (c cb cc lf lz m : Nat) (l1 v1 l2 v2 : List Int) (err : Int) (w : World) (h1 : l1.length = m) (h2 : l2.length = m) (hm : m ≤ 60)
    (h : ∀ o, Calls Try.prog 57 #[.agg #[.int .i64 n.pump, .slice A n.pipes.length c], .slice B lf cb, .slice C lz cc] (w.alloc o) fun e w' => BothR (w.alloc o).heap.size e w' m l1 v1 l2 v2 err ∧ Below (w.alloc o).heap.size (w.alloc o) w') :
    Calls Try.prog 23 #[.agg #[.int .i64 n.pump, .slice A n.pipes.length c], .slice B lf cb, .slice C lz cc] w fun e w' => RetR w.heap.size e w' (pairL l1 l2) err ∧ Below w.heap.size w w' := by
  have H := Lib.hid h
  have H1 := Lib.hid h1
  have H2 := Lib.hid h2
  clear h h1 h2
  go_enter Try.func23, Try.ntmps23
  go_wp2_with (first
    | (go_at_call 57; refine (H.out _).mono ?_; rintro e w1 ⟨⟨A1, A2, A3, A4, rfl, a1, a2, a3, a4⟩, hb⟩; have hB1 := Below.step (B := w.heap.size) (a := w) (by repeat (first | exact Below.refl _ _ | exact (Below.refl _ _) | assumption | (refine Below.setCell ?_ (by first | omega | (simp; done) | (simp; omega) | (simp [World.setCell]; done) | (simp [World.setCell]; omega)) _) | (refine Below.alloc ?_ (by first | omega | (simp; done) | (simp; omega) | (simp [World.setCell]; done) | (simp [World.setCell]; omega)) _) | (refine Below.drewN_ ?_ _) | (refine Below.drew ?_))) hb (by first | omega | (simp; done) | (simp; omega) | (simp [World.setCell]; done) | (simp [World.setCell]; omega)); have hz1 := hb.size; simp only [World.size_alloc] at hz1; obtain ⟨la0, la1, la2, la3, la4, la5⟩ := lt6 (show w.heap.size < w1.heap.size by omega))
    | (go_at_call 68; refine (pair_ A1 A3 m m _ _ _ _ m l1 l2 _ ((a1.alloc (Nat.le_refl _) _).alloc (by simp) _) (by simp; omega) ((a3.alloc (Nat.le_refl _) _).alloc (by simp) _) (by simp; omega) H1.out H2.out (by omega)).mono ?_; rintro e w2 ⟨⟨v, rfl, ho⟩, hb2⟩; have hB2 := Below.step (B := w.heap.size) (a := w) (by repeat (first | exact Below.refl _ _ | exact (Below.refl _ _) | assumption | (refine Below.setCell ?_ (by first | omega | (simp; done) | (simp; omega) | (simp [World.setCell]; done) | (simp [World.setCell]; omega)) _) | (refine Below.alloc ?_ (by first | omega | (simp; done) | (simp; omega) | (simp [World.setCell]; done) | (simp [World.setCell]; omega)) _) | (refine Below.drewN_ ?_ _) | (refine Below.drew ?_))) hb2 (by first | omega | (simp; done) | (simp; omega) | (simp [World.setCell]; done) | (simp [World.setCell]; omega))))
  go_ret2
  refine ⟨⟨v, rfl, ?_⟩, hB2⟩
  rw [pairL_len _ _ (by rw [H1.out, H2.out]), H1.out]
  exact ownsRow_base' ho (by simp; omega)
set_option maxHeartbeats 2000000 in
set_option maxRecDepth 100000 in
theorem Vacuum_of (n : Net) (A B C : Option Addr) (c cb cc lf lz m : Nat) (l1 v1 l2 v2 : List Int) (err : Int) (w : World) (h1 : v1.length = m) (h2 : v2.length = m) (hm : m ≤ 60)
    (h : ∀ o, Calls Try.prog 57 #[.agg #[.int .i64 n.pump, .slice A n.pipes.length c], .slice B lf cb, .slice C lz cc] (w.alloc o) fun e w' => BothR (w.alloc o).heap.size e w' m l1 v1 l2 v2 err ∧ Below (w.alloc o).heap.size (w.alloc o) w') :
    Calls Try.prog 24 #[.agg #[.int .i64 n.pump, .slice A n.pipes.length c], .slice B lf cb, .slice C lz cc] w fun e w' => RetR w.heap.size e w' (pairL v2 v1) err ∧ Below w.heap.size w w' := by
  have H := Lib.hid h
  have H1 := Lib.hid h1
  have H2 := Lib.hid h2
  clear h h1 h2
  go_enter Try.func24, Try.ntmps24
  go_wp2_with (first
    | (go_at_call 57; refine (H.out _).mono ?_; rintro e w1 ⟨⟨A1, A2, A3, A4, rfl, a1, a2, a3, a4⟩, hb⟩; have hB1 := Below.step (B := w.heap.size) (a := w) (by repeat (first | exact Below.refl _ _ | exact (Below.refl _ _) | assumption | (refine Below.setCell ?_ (by first | omega | (simp; done) | (simp; omega) | (simp [World.setCell]; done) | (simp [World.setCell]; omega)) _) | (refine Below.alloc ?_ (by first | omega | (simp; done) | (simp; omega) | (simp [World.setCell]; done) | (simp [World.setCell]; omega)) _) | (refine Below.drewN_ ?_ _) | (refine Below.drew ?_))) hb (by first | omega | (simp; done) | (simp; omega) | (simp [World.setCell]; done) | (simp [World.setCell]; omega)); have hz1 := hb.size; simp only [World.size_alloc] at hz1; obtain ⟨la0, la1, la2, la3, la4, la5⟩ := lt6 (show w.heap.size < w1.heap.size by omega))
    | (go_at_call 68; refine (pair_ A4 A2 m m _ _ _ _ m v2 v1 _ ((a4.alloc (Nat.le_refl _) _).alloc (by simp) _) (by simp; omega) ((a2.alloc (Nat.le_refl _) _).alloc (by simp) _) (by simp; omega) H2.out H1.out (by omega)).mono ?_; rintro e w2 ⟨⟨v, rfl, ho⟩, hb2⟩; have hB2 := Below.step (B := w.heap.size) (a := w) (by repeat (first | exact Below.refl _ _ | exact (Below.refl _ _) | assumption | (refine Below.setCell ?_ (by first | omega | (simp; done) | (simp; omega) | (simp [World.setCell]; done) | (simp [World.setCell]; omega)) _) | (refine Below.alloc ?_ (by first | omega | (simp; done) | (simp; omega) | (simp [World.setCell]; done) | (simp [World.setCell]; omega)) _) | (refine Below.drewN_ ?_ _) | (refine Below.drew ?_))) hb2 (by first | omega | (simp; done) | (simp; omega) | (simp [World.setCell]; done) | (simp [World.setCell]; omega))))
  go_ret2
  refine ⟨⟨v, rfl, ?_⟩, hB2⟩
  rw [pairL_len _ _ (by rw [H1.out, H2.out]), H2.out]
  exact ownsRow_base' ho (by simp; omega)

theorem loadsL_len' {n : Net} (hok : netB n = true) (f : Nat → Int) (zs : List Int) (hf : ∀ k, k < n.pipes.length → 0 ≤ f k ∧ f k ≤ 1000000000) : (loadsL n.pipes f zs).length = n.pipes.length :=
  (loadsL_inv (z := zs) (netB_tree hok) (netB_len hok).2 hf).1
theorem vacsL_len' {n : Net} (hok : netB n = true) (pump : Int) (f : Nat → Int) (zs : List Int) : (vacsL pump n.pipes f zs).length = n.pipes.length := by
  have := netB_len hok
  unfold vacsL; rw [vacF_len]; simp; omega
theorem Loads_arg (n : Net) (A B C : Option Addr) (c cb cc lf : Nat) (zs : List Int) (w : World) (lo hi : Nat) (hR : RdP w lo hi A n.pipes) (hhi : hi ≤ w.heap.size) (hc : n.pipes.length ≤ c) (hn : n.pipes.length ≤ maxLen) (hbad : netB n = false) :
    Calls Try.prog 23 #[.agg #[.int .i64 n.pump, .slice A n.pipes.length c], .slice B lf cb, .slice C zs.length cc] w fun e w' => RetR w.heap.size e w' [] 2 ∧ Below w.heap.size w w' :=
  Loads_of n A B C c cb cc lf zs.length 0 [] [] [] [] 2 w rfl rfl (by omega) (fun o => both_arg n A B C c cb cc lf zs _ lo hi (hR.alloc hhi o) (by simp; omega) hc hn hbad)
theorem Loads_chk (n : Net) (A B C : Option Addr) (c cb cc : Nat) (flows : List Rng) (zs : List Int) (w : World) (lo hi l2 h2 l3 h3 : Nat) (hR : RdP w lo hi A n.pipes) (hhi : hi ≤ w.heap.size) (hc : n.pipes.length ≤ c) (hF : RdR w l2 h2 B flows) (hh2 : h2 ≤ w.heap.size) (hfl : flows.length ≤ maxLen)
    (hZ : RdI w l3 h3 C zs) (hh3 : h3 ≤ w.heap.size) (hzc : zs.length ≤ cc) (hzl : zs.length ≤ maxLen) (hok : netB n = true) (hk : chkF n.pipes.length flows zs ≠ 0) :
    Calls Try.prog 23 #[.agg #[.int .i64 n.pump, .slice A n.pipes.length c], .slice B flows.length cb, .slice C zs.length cc] w fun e w' => RetR w.heap.size e w' [] (chkF n.pipes.length flows zs) ∧ Below w.heap.size w w' :=
  Loads_of n A B C c cb cc flows.length zs.length 0 [] [] [] [] _ w rfl rfl (by omega) (fun o => both_chk n A B C c cb cc flows zs _ lo hi l2 h2 l3 h3 (hR.alloc hhi o) (by simp; omega) hc (hF.alloc hh2 o) (by simp; omega) hfl (hZ.alloc hh3 o) (by simp; omega) hzc hzl hok hk)
theorem Loads_ok (n : Net) (A B C : Option Addr) (c cb cc : Nat) (flows : List Rng) (zs : List Int) (w : World) (lo hi l2 h2 l3 h3 : Nat) (hR : RdP w lo hi A n.pipes) (hhi : hi ≤ w.heap.size) (hc : n.pipes.length ≤ c) (hF : RdR w l2 h2 B flows) (hh2 : h2 ≤ w.heap.size) (hfl : flows.length ≤ maxLen)
    (hZ : RdI w l3 h3 C zs) (hh3 : h3 ≤ w.heap.size) (hzc : zs.length ≤ cc) (hzl : zs.length ≤ maxLen) (hok : netB n = true) (hk : chkF n.pipes.length flows zs = 0) (hl : flows.length = n.pipes.length) (hfb : flowsB flows = true) :
    Calls Try.prog 23 #[.agg #[.int .i64 n.pump, .slice A n.pipes.length c], .slice B flows.length cb, .slice C zs.length cc] w fun e w' => RetR w.heap.size e w' (pairL (loadsL n.pipes (lowF flows) zs) (loadsL n.pipes (highF flows) zs)) 0 ∧ Below w.heap.size w w' := by
  have f1 : ∀ k, k < n.pipes.length → 0 ≤ lowF flows k ∧ lowF flows k ≤ 1000000000 := fun k hk => by have := flow_at hfb (show k < flows.length by omega); omega
  have f2 : ∀ k, k < n.pipes.length → 0 ≤ highF flows k ∧ highF flows k ≤ 1000000000 := fun k hk => by have := flow_at hfb (show k < flows.length by omega); omega
  exact Loads_of n A B C c cb cc flows.length zs.length n.pipes.length _ _ _ _ 0 w (loadsL_len' hok _ zs f1) (loadsL_len' hok _ zs f2) (netB_len hok).2 (fun o => both_ok n A B C c cb cc flows zs _ lo hi l2 h2 l3 h3 (hR.alloc hhi o) (by simp; omega) hc (hF.alloc hh2 o) (by simp; omega) hfl (hZ.alloc hh3 o) (by simp; omega) hzc hzl hok hk hl hfb)
theorem Vacuum_arg (n : Net) (A B C : Option Addr) (c cb cc lf : Nat) (zs : List Int) (w : World) (lo hi : Nat) (hR : RdP w lo hi A n.pipes) (hhi : hi ≤ w.heap.size) (hc : n.pipes.length ≤ c) (hn : n.pipes.length ≤ maxLen) (hbad : netB n = false) :
    Calls Try.prog 24 #[.agg #[.int .i64 n.pump, .slice A n.pipes.length c], .slice B lf cb, .slice C zs.length cc] w fun e w' => RetR w.heap.size e w' [] 2 ∧ Below w.heap.size w w' :=
  Vacuum_of n A B C c cb cc lf zs.length 0 [] [] [] [] 2 w rfl rfl (by omega) (fun o => both_arg n A B C c cb cc lf zs _ lo hi (hR.alloc hhi o) (by simp; omega) hc hn hbad)
theorem Vacuum_chk (n : Net) (A B C : Option Addr) (c cb cc : Nat) (flows : List Rng) (zs : List Int) (w : World) (lo hi l2 h2 l3 h3 : Nat) (hR : RdP w lo hi A n.pipes) (hhi : hi ≤ w.heap.size) (hc : n.pipes.length ≤ c) (hF : RdR w l2 h2 B flows) (hh2 : h2 ≤ w.heap.size) (hfl : flows.length ≤ maxLen)
    (hZ : RdI w l3 h3 C zs) (hh3 : h3 ≤ w.heap.size) (hzc : zs.length ≤ cc) (hzl : zs.length ≤ maxLen) (hok : netB n = true) (hk : chkF n.pipes.length flows zs ≠ 0) :
    Calls Try.prog 24 #[.agg #[.int .i64 n.pump, .slice A n.pipes.length c], .slice B flows.length cb, .slice C zs.length cc] w fun e w' => RetR w.heap.size e w' [] (chkF n.pipes.length flows zs) ∧ Below w.heap.size w w' :=
  Vacuum_of n A B C c cb cc flows.length zs.length 0 [] [] [] [] _ w rfl rfl (by omega) (fun o => both_chk n A B C c cb cc flows zs _ lo hi l2 h2 l3 h3 (hR.alloc hhi o) (by simp; omega) hc (hF.alloc hh2 o) (by simp; omega) hfl (hZ.alloc hh3 o) (by simp; omega) hzc hzl hok hk)
theorem Vacuum_ok (n : Net) (A B C : Option Addr) (c cb cc : Nat) (flows : List Rng) (zs : List Int) (w : World) (lo hi l2 h2 l3 h3 : Nat) (hR : RdP w lo hi A n.pipes) (hhi : hi ≤ w.heap.size) (hc : n.pipes.length ≤ c) (hF : RdR w l2 h2 B flows) (hh2 : h2 ≤ w.heap.size) (hfl : flows.length ≤ maxLen)
    (hZ : RdI w l3 h3 C zs) (hh3 : h3 ≤ w.heap.size) (hzc : zs.length ≤ cc) (hzl : zs.length ≤ maxLen) (hok : netB n = true) (hk : chkF n.pipes.length flows zs = 0) (hl : flows.length = n.pipes.length) (hfb : flowsB flows = true) :
    Calls Try.prog 24 #[.agg #[.int .i64 n.pump, .slice A n.pipes.length c], .slice B flows.length cb, .slice C zs.length cc] w fun e w' => RetR w.heap.size e w' (pairL (vacsL n.pump n.pipes (highF flows) zs) (vacsL n.pump n.pipes (lowF flows) zs)) 0 ∧ Below w.heap.size w w' := by
  have f1 : ∀ k, k < n.pipes.length → 0 ≤ lowF flows k ∧ lowF flows k ≤ 1000000000 := fun k hk => by have := flow_at hfb (show k < flows.length by omega); omega
  have f2 : ∀ k, k < n.pipes.length → 0 ≤ highF flows k ∧ highF flows k ≤ 1000000000 := fun k hk => by have := flow_at hfb (show k < flows.length by omega); omega
  exact Vacuum_of n A B C c cb cc flows.length zs.length n.pipes.length _ _ _ _ 0 w (vacsL_len' hok _ _ zs) (vacsL_len' hok _ _ zs) (netB_len hok).2 (fun o => both_ok n A B C c cb cc flows zs _ lo hi l2 h2 l3 h3 (hR.alloc hhi o) (by simp; omega) hc (hF.alloc hh2 o) (by simp; omega) hfl (hZ.alloc hh3 o) (by simp; omega) hzc hzl hok hk hl hfb)
end Go.Proofs.Ytepibjfmeibgcaa
