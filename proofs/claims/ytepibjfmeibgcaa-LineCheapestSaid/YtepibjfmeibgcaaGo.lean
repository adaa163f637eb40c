/- The example tubing of the law's own helper. -/
import Derived.Test.YtepibjfmeibgcaaHa
namespace Go.Proofs.Ytepibjfmeibgcaa
open Go.RowKit
def bushP : List Pipe := [pump0, ⟨0, 1000, 20, 500, 0⟩, ⟨1, 400, 8, -30, 5⟩, ⟨1, 300, 8, 100, 4⟩, ⟨3, 200, 8, 50, 2⟩]
def bushF : List Rng := [⟨0, 0⟩, ⟨0, 0⟩, ⟨5000, 6000⟩, ⟨4000, 4000⟩, ⟨2000, 2000⟩]
def BushR (base : Nat) (e : Ending) (w' : World) : Prop :=
  ∃ A B, e = .returned (.tuple #[.agg #[.int .i64 8000, .slice A 5 5], .slice B 5 5]) ∧ RdP w' base w'.heap.size A bushP ∧ RdR w' base w'.heap.size B bushF
theorem results_ct {P : Program} {fn : Func} {p u : Tmp} {ty : TypeId} (h : fn.results = #[.cell p ty, .tmp u]) (tmps : Array Value) (w : World) (g : Nat) (t : TypeId) (cs : Array Value) (fr : Nat × Nat) (d : TypeDesc)
    (hp : tmps.getD p undef = .pointer (some ⟨g, 0, none⟩)) (hg : w.heap[g]? = some (.cells cs t fr))
    (hu : P.underlying ty = some d) (hd : (match d with | .struct _ | .array _ _ => true | _ => false) = true) (hi : (P.info? ty).map (·.size) = some cs.size) :
    (results fn tmps).run P w = .ok (.tuple #[.agg cs, tmps.getD u undef]) w := by
  have hp' : tmps[p]?.getD undef = .pointer (some ⟨g, 0, none⟩) := by simpa using hp
  simp [results, h, hp', asAddr, run_loadVar_row w g t ty cs fr d hg hu hd hi]
theorem Rd.of_blk {α : Type} {enc : α → List Value} {size : Nat} {w : World} {g : Nat} {T : TypeId} {cs : Array Value} (h : Blk w g T cs) (xs : List α) (lo : Nat) (hlo : lo ≤ g)
    (hc : ∀ i x, xs[i]? = some x → ∀ j u, (enc x)[j]? = some u → cs[i * size + j]? = some u) : Rd enc size w lo w.heap.size (some ⟨g, 0, none⟩) xs := fun _ =>
  ⟨g, 0, rfl, hlo, h.lt, fun i x hx j u hu => by rw [h.cell]; simpa using hc i x hx j u hu⟩
set_option maxHeartbeats 800000 in
set_option maxRecDepth 100000 in
theorem bush_ (w : World) : Calls Try.prog 56 #[] w fun e w' => BushR w.heap.size e w' ∧ Below w.heap.size w w' := by
  go_enter Try.func56, Try.ntmps56
  go_wp2
  have b1 := (Blk.new w 24 #[.int .i64 8000, .slice (some ⟨w.heap.size + 1, 0, none⟩) 5 5]).alloc (.cells (bushP.flatMap encP).toArray 54) |>.alloc (.cells #[.int .i64 8000, .slice (some ⟨w.heap.size + 1, 0, none⟩) 5 5] 24) |>.alloc (.cells (bushF.flatMap encR).toArray 52)
  have b2 := (Blk.new (w.alloc (.cells #[.int .i64 8000, .slice (some ⟨w.heap.size + 1, 0, none⟩) 5 5] 24)) 54 (bushP.flatMap encP).toArray).alloc (.cells #[.int .i64 8000, .slice (some ⟨w.heap.size + 1, 0, none⟩) 5 5] 24) |>.alloc (.cells (bushF.flatMap encR).toArray 52)
  have b3 := Blk.new (((w.alloc (.cells #[.int .i64 8000, .slice (some ⟨w.heap.size + 1, 0, none⟩) 5 5] 24)).alloc (.cells (bushP.flatMap encP).toArray 54)).alloc (.cells #[.int .i64 8000, .slice (some ⟨w.heap.size + 1, 0, none⟩) 5 5] 24)) 52 (bushF.flatMap encR).toArray
  refine bodyPost_ret (results_ct rfl _ _ _ _ _ _ _ rfl b1 Try.underlying24 rfl (by kernel_rfl)) rfl ?_
  simp only [World.size_alloc] at b2 b3
  refine ⟨⟨_, _, rfl, Rd.of_blk b2 bushP _ (by omega) ?_, Rd.of_blk b3 bushF _ (by omega) ?_⟩, (by repeat (first | exact Below.refl _ _ | exact (Below.refl _ _) | assumption | (refine Below.setCell ?_ (by first | omega | (simp; done) | (simp; omega) | (simp [World.setCell]; done) | (simp [World.setCell]; omega)) _) | (refine Below.alloc ?_ (by first | omega | (simp; done) | (simp; omega) | (simp [World.setCell]; done) | (simp [World.setCell]; omega)) _) | (refine Below.drewN_ ?_ _) | (refine Below.drew ?_)))⟩
  all_goals
    intro i x hx j u hu
    match i, hx with
    | 0, hx | 1, hx | 2, hx | 3, hx | 4, hx => 
      obtain rfl := Option.some.inj hx
      match j, hu with
      | 0, hu | 1, hu | 2, hu | 3, hu | 4, hu => first | exact hu | cases hu
end Go.Proofs.Ytepibjfmeibgcaa
/- Whether tubing is good, by the law's own helper. -/
namespace Go.Proofs.Ytepibjfmeibgcaa
open Go.RowKit
set_option linter.unusedVariables false
def goodB (n : Net) (most : Int) : Bool := decide (1 ≤ n.pipes.length ∧ (n.pipes.length : Int) ≤ most) && netB n
set_option maxHeartbeats 800000 in
set_option maxRecDepth 100000 in
theorem good_len (n : Net) (A : Option Addr) (c : Nat) (most : Int) (w : World) (hn : n.pipes.length ≤ maxLen) (h : ¬ (1 ≤ n.pipes.length ∧ (n.pipes.length : Int) ≤ most)) :
    Calls Try.prog 21 #[.agg #[.int .i64 n.pump, .slice A n.pipes.length c], .int .i64 most] w fun e w' => e = .returned (.bool (goodB n most)) ∧ Below w.heap.size w w' := by
  unfold maxLen at hn
  have hb := Lib.hid (show goodB n most = false by unfold goodB; rw [decide_eq_false h]; rfl)
  by_cases h1 : (n.pipes.length : Int) < 1
  · clear h
    go_enter Try.func21, Try.ntmps21
    go_wp2
    go_ret
    exact ⟨ret_bool (by rw [hb.out]), (by repeat (first | exact Below.refl _ _ | exact (Below.refl _ _) | assumption | (refine Below.setCell ?_ (by first | omega | (simp; done) | (simp; omega) | (simp [World.setCell]; done) | (simp [World.setCell]; omega)) _) | (refine Below.alloc ?_ (by first | omega | (simp; done) | (simp; omega) | (simp [World.setCell]; done) | (simp [World.setCell]; omega)) _) | (refine Below.drewN_ ?_ _) | (refine Below.drew ?_)))⟩
  · have h2 : most < (n.pipes.length : Int) := by omega
    clear h
    go_enter Try.func21, Try.ntmps21
    go_wp2
    go_ret
    exact ⟨ret_bool (by rw [hb.out]), (by repeat (first | exact Below.refl _ _ | exact (Below.refl _ _) | assumption | (refine Below.setCell ?_ (by first | omega | (simp; done) | (simp; omega) | (simp [World.setCell]; done) | (simp [World.setCell]; omega)) _) | (refine Below.alloc ?_ (by first | omega | (simp; done) | (simp; omega) | (simp [World.setCell]; done) | (simp [World.setCell]; omega)) _) | (refine Below.drewN_ ?_ _) | (refine Below.drew ?_)))⟩
set_option maxHeartbeats 2000000 in
set_option maxRecDepth 100000 in
theorem good_bad (n : Net) (A : Option Addr) (c lo hi : Nat) (most : Int) (w : World) (hR : RdP w lo hi A n.pipes) (hhi : hi ≤ w.heap.size) (hn : n.pipes.length ≤ 1000000) (h : 1 ≤ n.pipes.length ∧ (n.pipes.length : Int) ≤ most) (hbad : netB n = false) :
    Calls Try.prog 21 #[.agg #[.int .i64 n.pump, .slice A n.pipes.length c], .int .i64 most] w fun e w' => e = .returned (.bool (goodB n most)) ∧ Below w.heap.size w w' := by
  have hb := Lib.hid (show goodB n most = false by unfold goodB; rw [hbad]; simp)
  have hck := Lib.hid (chk_bad hbad)
  have h1 : (1 : Int) ≤ n.pipes.length := by omega
  have h2 := h.2
  clear h
  go_enter Try.func21, Try.ntmps21
  go_wp2_with (first
    | (go_at_call 17; refine (own_ n.pump A c lo hi n.pipes _ (hR.alloc hhi _) (by simp; omega) hn).mono ?_; rintro e w1 ⟨B, c', rfl, hown, hb1⟩; have hB1 := Below.step (B := w.heap.size) (a := w) (by repeat (first | exact Below.refl _ _ | exact (Below.refl _ _) | assumption | (refine Below.setCell ?_ (by first | omega | (simp; done) | (simp; omega) | (simp [World.setCell]; done) | (simp [World.setCell]; omega)) _) | (refine Below.alloc ?_ (by first | omega | (simp; done) | (simp; omega) | (simp [World.setCell]; done) | (simp [World.setCell]; omega)) _) | (refine Below.drewN_ ?_ _) | (refine Below.drew ?_))) hb1 (by first | omega | (simp; done) | (simp; omega) | (simp [World.setCell]; done) | (simp [World.setCell]; omega)); have hz1 := hB1.size; obtain ⟨A', c2, ev, hcc, hRB⟩ := ownsRow_rd encP_len (by decide) hown rfl; obtain ⟨rfl, rfl⟩ : B = A' ∧ c' = c2 := by (simp at ev; exact ev))
    | (go_at_call 43; go_loud (refine (check_ n _ _ _ _ _ hRB (Nat.le_refl _) hcc (by unfold maxLen; omega)).mono ?_; rintro e w2 ⟨rfl, hb2⟩; rw [hck.out]; have hB2 := Below.step (B := w.heap.size) (a := w) (by repeat (first | exact Below.refl _ _ | exact (Below.refl _ _) | assumption | (refine Below.setCell ?_ (by first | omega | (simp; done) | (simp; omega) | (simp [World.setCell]; done) | (simp [World.setCell]; omega)) _) | (refine Below.alloc ?_ (by first | omega | (simp; done) | (simp; omega) | (simp [World.setCell]; done) | (simp [World.setCell]; omega)) _) | (refine Below.drewN_ ?_ _) | (refine Below.drew ?_))) hb2 (by first | omega | (simp; done) | (simp; omega) | (simp [World.setCell]; done) | (simp [World.setCell]; omega)))))
  go_ret
  exact ⟨ret_bool (by rw [hb.out]), hB2⟩
set_option maxHeartbeats 2000000 in
set_option maxRecDepth 100000 in
theorem good_ok (n : Net) (A : Option Addr) (c lo hi : Nat) (most : Int) (w : World) (hR : RdP w lo hi A n.pipes) (hhi : hi ≤ w.heap.size) (hn : n.pipes.length ≤ 1000000) (h : 1 ≤ n.pipes.length ∧ (n.pipes.length : Int) ≤ most) (hok : netB n = true) (hc : n.pipes.length ≤ c) :
    Calls Try.prog 21 #[.agg #[.int .i64 n.pump, .slice A n.pipes.length c], .int .i64 most] w fun e w' => e = .returned (.bool (goodB n most)) ∧ Below w.heap.size w w' := by
  have hb := Lib.hid (show goodB n most = true by unfold goodB; rw [hok, decide_eq_true h]; rfl)
  have ho := Lib.hid (netB_ord hok)
  have hck := Lib.hid (chk_ok hok)
  have h1 : (1 : Int) ≤ n.pipes.length := by omega
  have h2 := h.2
  clear h
  go_enter Try.func21, Try.ntmps21
  go_wp2_with (first
    | (go_at_call 17; refine (own_ n.pump A c lo hi n.pipes _ (hR.alloc hhi _) (by simp; omega) hn).mono ?_; rintro e w1 ⟨B, c', rfl, hown, hb1⟩; have hB1 := Below.step (B := w.heap.size) (a := w) (by repeat (first | exact Below.refl _ _ | exact (Below.refl _ _) | assumption | (refine Below.setCell ?_ (by first | omega | (simp; done) | (simp; omega) | (simp [World.setCell]; done) | (simp [World.setCell]; omega)) _) | (refine Below.alloc ?_ (by first | omega | (simp; done) | (simp; omega) | (simp [World.setCell]; done) | (simp [World.setCell]; omega)) _) | (refine Below.drewN_ ?_ _) | (refine Below.drew ?_))) hb1 (by first | omega | (simp; done) | (simp; omega) | (simp [World.setCell]; done) | (simp [World.setCell]; omega)); have hz1 := hB1.size; obtain ⟨A', c2, ev, hcc, hRB⟩ := ownsRow_rd encP_len (by decide) hown rfl; obtain ⟨rfl, rfl⟩ : B = A' ∧ c' = c2 := by (simp at ev; exact ev))
    | (go_at_call 43; go_loud (refine (check_ n _ _ _ _ _ hRB (Nat.le_refl _) hcc (by unfold maxLen; omega)).mono ?_; rintro e w2 ⟨rfl, hb2⟩; rw [hck.out]; have hB2 := Below.step (B := w.heap.size) (a := w) (by repeat (first | exact Below.refl _ _ | exact (Below.refl _ _) | assumption | (refine Below.setCell ?_ (by first | omega | (simp; done) | (simp; omega) | (simp [World.setCell]; done) | (simp [World.setCell]; omega)) _) | (refine Below.alloc ?_ (by first | omega | (simp; done) | (simp; omega) | (simp [World.setCell]; done) | (simp [World.setCell]; omega)) _) | (refine Below.drewN_ ?_ _) | (refine Below.drew ?_))) hb2 (by first | omega | (simp; done) | (simp; omega) | (simp [World.setCell]; done) | (simp [World.setCell]; omega)))))
  have hN := (Blk.new w 24 #[.int .i64 n.pump, .slice A n.pipes.length c]).below (hb1.trans (hb2.mono hb1.size)) (by simp)
  go_loopw [5] (fun i wr => ∃ k : Nat, 1 ≤ k ∧ k ≤ n.pipes.length ∧ i = .int .i64 k ∧ Blk wr w.heap.size 24 #[.int .i64 n.pump, .slice A n.pipes.length c] ∧ Below w.heap.size w wr) (fun i _ => n.pipes.length - (intOf i).toNat)
  case atStart => exact ⟨1, Nat.le_refl _, by omega, rfl, hN, hB2⟩
  case round =>
    obtain ⟨k, hk0, hk, rfl, hN, hBw⟩ := hrel
    have n1 := hN.cell 1
    simp at n1
    by_cases hlt : k < n.pipes.length
    · obtain ⟨j, rfl⟩ : ∃ j, k = j + 1 := ⟨k - 1, by omega⟩
      obtain ⟨p0, p1, p2, p3⟩ := ho.out j _ (List.getElem?_eq_getElem hlt)
      obtain ⟨b, off, rfl, hb5, hb6, c0, c1, c2, c3, c4⟩ := RdP.at_ (hR.below hBw hhi) hlt
      have hk5 : ((j + 1 : Nat) : Int) < n.pipes.length := by omega
      have hp5 : n.pipes[j + 1].parent < ((j + 1 : Nat) : Int) := by omega
      go_wp2
      exact ⟨⟨j + 1 + 1, by omega, by omega, by go_num, hN, hBw⟩, by simp [intOf]; omega⟩
    · obtain rfl : k = n.pipes.length := by omega
      go_wp2
      go_ret
      exact ⟨ret_bool (by rw [hb.out]), hBw⟩
end Go.Proofs.Ytepibjfmeibgcaa
