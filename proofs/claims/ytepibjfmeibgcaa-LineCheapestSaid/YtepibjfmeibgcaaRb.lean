/- What the reference's Way, Height and Climb return. -/
import Derived.Test.YtepibjfmeibgcaaRa
import Derived.Test.YtepibjfmeibgcaaRp
import Derived.Test.YtepibjfmeibgcaaSo
import Derived.Deep.RegionHeld3
namespace Go.Proofs.Ytepibjfmeibgcaa
open Go.RowKit
set_option linter.unusedVariables false
theorem wp_rel {P : Program} {C : Code} {Q : Exit → Act → World → Prop} {R : World → Prop} {a A : Act} {w : World} (h1 : C.wp P (fun ex a' w' => ex = .normal ∧ a' = A ∧ R w') a w) (h2 : ∀ W, R W → Q .normal A W) : C.wp P Q a w :=
  Code.wp_mono (fun _ _ _ h => by obtain ⟨rfl, rfl, h⟩ := h; exact h2 _ h) h1
/-- A list of ints that is new. -/
def RetL (base : Nat) (e : Ending) (w' : World) (xs : List Int) : Prop :=
  ∃ B cap, e = .returned (.slice B xs.length cap) ∧ xs.length ≤ cap ∧ RdI w' base w'.heap.size B xs
theorem RetL.mono {base b' : Nat} {e : Ending} {w' : World} {xs : List Int} (h : RetL base e w' xs) (hb : b' ≤ base) : RetL b' e w' xs := by
  obtain ⟨B, cap, rfl, h1, h2⟩ := h; exact ⟨B, cap, rfl, h1, h2.mono hb (Nat.le_refl _)⟩
theorem owns_empty1 (w : World) (base : Nat) (g : Nat) (e : TypeId) (hb : base ≤ w.heap.size) (hg : g = w.heap.size) : (w.alloc (.cells #[] e)).ownsRow base e 1 (.slice (some ⟨g, 0, none⟩) 0 0) 0 [] := by
  subst hg
  exact ⟨rfl, .inr ⟨w.heap.size, 0, #[], rfl, hb, heap_alloc_new w _, Nat.le_refl _, by unfold maxLen; omega, by simp, by simp⟩⟩
set_option maxHeartbeats 1000000 in
set_option maxRecDepth 100000 in
theorem refWay_ (n : Net) (node : Int) (A : Option Addr) (c : Nat) (w : World) (lo hi : Nat) (hR : RdP w lo hi A n.pipes) (hhi : hi ≤ w.heap.size) (hn : n.pipes.length ≤ 60) (ht : Tree n.pipes) (h0 : 0 ≤ node) (h1 : node < n.pipes.length) :
    Calls Try.prog 46 #[.agg #[.int .i64 n.pump, .slice A n.pipes.length c], .int .i64 node] w fun e w' => RetL w.heap.size e w' (wayL n.pipes node) ∧ Below w.heap.size w w' := by
  obtain ⟨i0, ei0, ez0, ez1, ez2⟩ := info_parts infoInt
  have hwl := wayL_len n.pipes node
  go_enter Try.func46, Try.ntmps46
  go_wp2_with fail
  go_loopw [1, 5] (fun cur v wr => ∃ (q : Int) (acc : List Int), cur = .int .i64 q ∧ -1 ≤ q ∧ q < n.pipes.length ∧ Hid (acc ++ wayL n.pipes q = wayL n.pipes node) ∧ wr.ownsRow (w.heap.size + 1) 3 1 v acc.length (acc.map I) ∧ Blk wr w.heap.size 24 #[.int .i64 n.pump, .slice A n.pipes.length c] ∧ Below w.heap.size w wr ∧ w.heap.size + 1 ≤ wr.heap.size) (fun cur _ _ => (intOf cur + 1).toNat)
  case atStart => exact ⟨node, [], rfl, by omega, h1, Lib.hid rfl, owns_empty1 _ _ _ _ (by simp) (by simp), (Blk.new _ _ _).alloc _, (by repeat (first | exact Below.refl _ _ | exact (Below.refl _ _) | assumption | (refine Below.setCell ?_ (by first | omega | (simp; done) | (simp; omega) | (simp [World.setCell]; done) | (simp [World.setCell]; omega)) _) | (refine Below.alloc ?_ (by first | omega | (simp; done) | (simp; omega) | (simp [World.setCell]; done) | (simp [World.setCell]; omega)) _) | (refine Below.drewN_ ?_ _) | (refine Below.drew ?_))), by simp⟩
  case round =>
    obtain ⟨q, acc, rfl, hq0, hq1, hacc, hrow, hN, hB, hz⟩ := hrel
    by_cases hq : 0 ≤ q
    · have htq := ht q.toNat (by omega)
      rw [show ((q.toNat : Nat) : Int) = q by omega] at htq
      have hst := wayL_step ht hq hq1
      have hal : acc.length ≤ 60 := by
        have := congrArg List.length hacc.out
        rw [List.length_append] at this; omega
      obtain ⟨b, off, rfl, _, hbb, c0, _, _, _, _⟩ := RdP.at_ (hR.below hB hhi) (show q.toNat < n.pipes.length by omega)
      have hpar : n.pipes[q.toNat].parent = par n.pipes q := by unfold par; rw [List.getD_eq_getElem?_getD, List.getElem?_eq_getElem (by omega)]; rfl
      rw [hpar] at c0
      clear hpar
      have n0 := hN.cell 0; have nf0 := hN.frozen 0; have n1 := hN.cell 1; have nf1 := hN.frozen 1; simp at n0 n1
      have hnl := hN.lt
      have hcb : b < wr.heap.size := by have := hB.size; omega
      obtain ⟨la0, la1, la2, la3, la4, la5⟩ := lt6 (show w.heap.size < wr.heap.size by omega)
      obtain ⟨lb0, lb1, lb2, lb3, lb4, lb5⟩ := lt6 (show b < wr.heap.size by omega)
      have HST := Lib.hid hst
      generalize par n.pipes q = pq at *
      obtain ⟨ht1, ht2, _⟩ := htq
      clear hst
      go_wp2_with (at_builtin; (refine wpList_append_own _ rfl _ _ 31 rfl (w.heap.size + 1) 3 i0 (.int .i64 0) 1 8 Try.underlying31 ei0 ez0 ez1 ez2 rfl (by decide) _ _ _ rfl (hrow.alloc _) ⟨wr.heap.size, 0, none⟩ 1 1 [.int .i64 q] rfl rfl (cell_one_new _ _ _) (by simp [Value.oneCell']) (by unfold maxLen; omega) (by omega) (by simp; omega) ?_); intro v' w3 hown' hgrow _; have hbw : Below (w.heap.size + 1) wr w3 := ((Below.refl _ wr).alloc hz _).grown hgrow (by simp; omega) (fun r e => (hrow.lt r e).1); have hN3 := hN.below hbw (by omega); have m0 := hN3.cell 0; have m1 := hN3.cell 1; simp at m0 m1; have k0 : w3.cell? ⟨b, off + q.toNat * 5, none⟩ = some (.int .i64 pq) := (hbw.cell (by simp only; omega)).trans c0)
      refine ⟨⟨pq, acc ++ [q], rfl, by omega, by omega, Lib.hid (by rw [List.append_assoc, ← hacc.out, HST.out]; rfl), by simpa using hown', hN3, hB.trans (hbw.mono (by omega)), by have := hbw.size; omega⟩, by simp [intOf]; omega⟩
    · go_wp2
      go_ret
      have h2 := hacc.out
      rw [wayL_neg _ (by omega), List.append_nil] at h2
      obtain ⟨A', c', rfl, h3, h4⟩ := ownsRow_rdI hrow
      rw [← h2]
      exact ⟨⟨A', c', rfl, h3, h4.mono (by omega) (Nat.le_refl _)⟩, hB⟩
theorem sum_abs {B : Int} (hB : 0 ≤ B) : ∀ (xs : List Int), (∀ x ∈ xs, -B ≤ x ∧ x ≤ B) → -(B * xs.length) ≤ xs.sum ∧ xs.sum ≤ B * xs.length := by
  intro xs
  induction xs with
  | nil => intro _; simp
  | cons x xs ih =>
    intro h
    have h1 := h x (by simp)
    have h2 := ih (fun y hy => h y (by simp [hy]))
    have e : B * ((x :: xs).length : Int) = B * xs.length + B := by rw [List.length_cons, Int.natCast_add, Int.mul_add]; simp
    rw [e, List.sum_cons]
    omega
theorem wayF_mem (ps : List Pipe) : ∀ (f : Nat) (i x : Int), x ∈ wayF ps f i → 0 ≤ x := by
  intro f
  induction f with
  | zero => intro i x h; simp [wayF] at h
  | succ f ih =>
    intro i x h
    unfold wayF at h
    split at h
    · cases h
    · rcases List.mem_cons.1 h with rfl | h
      · omega
      · exact ih _ x h
theorem wayF_lt {ps : List Pipe} (ht : Tree ps) : ∀ (f : Nat) (i x : Int), i < ps.length → x ∈ wayF ps f i → x < ps.length := by
  intro f
  induction f with
  | zero => intro i x _ h; simp [wayF] at h
  | succ f ih =>
    intro i x hi h
    unfold wayF at h
    split at h
    · cases h
    · rename_i h0
      rcases List.mem_cons.1 h with rfl | h
      · exact hi
      · have := ht i.toNat (by omega)
        rw [show ((i.toNat : Nat) : Int) = i by omega] at this
        exact ih _ x (by omega) h
theorem way_rng {ps : List Pipe} (ht : Tree ps) {i x : Int} (hi : i < ps.length) (h : x ∈ wayL ps i) : 0 ≤ x ∧ x < ps.length := ⟨wayF_mem ps _ _ _ h, wayF_lt ht _ _ _ hi h⟩
def DropOk (ps : List Pipe) : Prop := ∀ i, -10000 ≤ (pAt ps i).drop ∧ (pAt ps i).drop ≤ 10000
theorem netB_drop {n : Net} (h : netB n = true) : DropOk n.pipes ∧ (pAt n.pipes 0).drop = 0 := by
  have h0 : (pAt n.pipes 0) = pump0 := by
    have hl := netB_len h
    have hd : n.pipes.head? = some pump0 := by
      unfold netB at h; simp only [Bool.and_eq_true, decide_eq_true_eq] at h; exact h.1.2
    rw [pAt_eq (by omega)]
    rw [List.head?_eq_getElem?, List.getElem?_eq_getElem (by omega)] at hd
    exact Option.some.inj hd
  refine ⟨fun i => ?_, by rw [h0]; rfl⟩
  by_cases hi : i < n.pipes.length
  · rcases Nat.eq_zero_or_pos i with rfl | hp
    · rw [h0]; decide
    · have := pipeB_ok (netB_pipe h hi hp)
      rw [pAt_eq hi]; exact ⟨this.2.2.2.2.1, this.2.2.2.2.2⟩
  · unfold pAt; rw [List.getD_eq_getElem?_getD, List.getElem?_eq_none (by omega)]; decide
theorem hgtL_bd {ps : List Pipe} (hd : DropOk ps) (hn : ps.length ≤ 60) {i : Int} (hi : i < ps.length) : -600000 ≤ hgtL ps i ∧ hgtL ps i ≤ 600000 := by
  have := sum_abs (B := 10000) (by omega) ((wayL ps i).map (drp ps)) (fun x hx => by obtain ⟨y, _, rfl⟩ := List.mem_map.1 hx; exact hd _)
  have hl := wayL_len ps i
  rw [List.length_map] at this
  unfold hgtL
  omega
set_option maxHeartbeats 1000000 in
set_option maxRecDepth 100000 in
theorem refHeight_ (n : Net) (node : Int) (A : Option Addr) (c : Nat) (w : World) (lo hi : Nat) (hR : RdP w lo hi A n.pipes) (hhi : hi ≤ w.heap.size) (hn : n.pipes.length ≤ 60) (ht : Tree n.pipes) (hd : DropOk n.pipes) (h0 : 0 ≤ node) (h1 : node < n.pipes.length) :
    Calls Try.prog 33 #[.agg #[.int .i64 n.pump, .slice A n.pipes.length c], .int .i64 node] w fun e w' => e = .returned (.int .i64 (hgtL n.pipes node)) ∧ Below w.heap.size w w' := by
  have hwl := wayL_len n.pipes node
  have hwr := fun x (h : x ∈ wayL n.pipes node) => way_rng ht h1 h
  have hg := Lib.hid (show hgtL n.pipes node = ((wayL n.pipes node).map (drp n.pipes)).sum from rfl)
  go_enter Try.func33, Try.ntmps33
  go_wp2_with fail
  refine (refWay_ n node A c _ lo hi (hR.alloc hhi _) (by simp; omega) hn ht h0 h1).mono ?_
  rintro e w1 ⟨⟨B, cap, rfl, hcap, hW⟩, hb⟩
  have hN1 := (Blk.new w 24 #[.int .i64 n.pump, .slice A n.pipes.length c]).below hb (by simp)
  have hB1 := Below.step (B := w.heap.size) (a := w) (by repeat (first | exact Below.refl _ _ | exact (Below.refl _ _) | assumption | (refine Below.setCell ?_ (by first | omega | (simp; done) | (simp; omega) | (simp [World.setCell]; done) | (simp [World.setCell]; omega)) _) | (refine Below.alloc ?_ (by first | omega | (simp; done) | (simp; omega) | (simp [World.setCell]; done) | (simp [World.setCell]; omega)) _) | (refine Below.drewN_ ?_ _) | (refine Below.drew ?_))) hb (by first | omega | (simp; done) | (simp; omega) | (simp [World.setCell]; done) | (simp [World.setCell]; omega))
  have hz1 := hb.size
  simp only [World.size_alloc] at hz1
  generalize wayL n.pipes node = way at *
  have HWR := Lib.hid hwr
  clear hwr
  go_wp2_with fail
  go_loopw [5, 7] (fun s i wr => ∃ k : Nat, k ≤ way.length ∧ i = .int .i64 k ∧ s = .int .i64 (((way.take k).map (drp n.pipes)).sum) ∧ Below w1.heap.size w1 wr) (fun _ i _ => way.length - (intOf i).toNat)
  case atStart => exact ⟨0, by omega, rfl, rfl, Below.refl _ _⟩
  case round =>
    obtain ⟨k, hk, rfl, rfl, hB⟩ := hrel
    have hzz := hB.size
    have hN := hN1.below hB hN1.lt
    have n0 := hN.cell 0; have nf0 := hN.frozen 0; have n1 := hN.cell 1; have nf1 := hN.frozen 1; simp at n0 n1
    have hsb := sum_abs (B := 10000) (by omega) ((way.take k).map (drp n.pipes)) (fun x hx => by obtain ⟨y, _, rfl⟩ := List.mem_map.1 hx; exact hd _)
    rw [List.length_map, List.length_take] at hsb
    by_cases hlt : k < way.length
    · have hx := HWR.out way[k] (List.getElem_mem hlt)
      obtain ⟨b1, o1, rfl, _, _, cw⟩ := RdI.at_ (hW.below hB (Nat.le_refl _)) hlt
      obtain ⟨b, off, rfl, _, hbb, c0, c1, c2, c3, c4⟩ := RdP.at_ ((hR.below hB1 hhi).below hB (by omega)) (show way[k].toNat < n.pipes.length by omega)
      have hdr : n.pipes[way[k].toNat].drop = drp n.pipes way[k] := by unfold drp; rw [pAt_eq (by omega)]
      rw [hdr] at c3
      clear hdr c0 c1 c2 c4
      have hsn : ((way.take (k + 1)).map (drp n.pipes)).sum = ((way.take k).map (drp n.pipes)).sum + drp n.pipes way[k] := by
        rw [List.take_succ_eq_append_getElem hlt, List.map_append, List.sum_append]; simp
      have hdk := hd way[k].toNat
      rw [show (pAt n.pipes way[k].toNat).drop = drp n.pipes way[k] from rfl] at hdk
      have HSN := Lib.hid hsn
      clear hsn
      generalize ((way.take k).map (drp n.pipes)).sum = s at *
      generalize drp n.pipes way[k] = dk at *
      generalize way[k] = x at *
      obtain ⟨x0, x1⟩ := hx
      have hkl : (k : Int) < (way.length : Int) := by omega
      go_wp2_with fail
      go_quiet (fail)
      go_wp2_with fail
      exact ⟨⟨k + 1, by omega, by go_num, by rw [HSN.out], Below.drewN_ hB _⟩, by simp [intOf]; omega⟩
    · obtain rfl : k = way.length := by omega
      rw [List.take_length]
      go_wp2
      go_ret
      exact ⟨ret_int (by rw [hg.out]), hB1.trans (hB.mono (by omega))⟩
theorem innF_bd (g : Int → Int) (x : Int) : ∀ (ys : List Int) (m : Int), -600000 ≤ g x ∧ g x ≤ 600000 → (∀ y ∈ ys, -600000 ≤ g y ∧ g y ≤ 600000) → 0 ≤ m ∧ m ≤ 1200000 → 0 ≤ innF g x ys m ∧ innF g x ys m ≤ 1200000 := by
  intro ys
  induction ys with
  | nil => intro m _ _ h; exact h
  | cons y ys ih =>
    intro m hx hy hm
    have := hy y (by simp)
    exact ih _ hx (fun z hz => hy z (by simp [hz])) (by omega)
theorem innF_drop (g : Int → Int) (x : Int) (ys : List Int) (k : Nat) (hk : k < ys.length) (m : Int) : innF g x (ys.drop k) m = innF g x (ys.drop (k + 1)) (max m (g x - g ys[k])) := by
  rw [List.drop_eq_getElem_cons hk]; rfl
theorem outF_drop (g : Int → Int) (xs : List Int) (k : Nat) (hk : k < xs.length) (m : Int) : outF g (xs.take k) (xs.drop k) m = outF g (xs.take (k + 1)) (xs.drop (k + 1)) (innF g xs[k] (xs.take k) m) := by
  rw [List.drop_eq_getElem_cons hk, List.take_succ_eq_append_getElem hk]; rfl
set_option maxHeartbeats 2000000 in
set_option maxRecDepth 100000 in
theorem refClimb_ (n : Net) (node : Int) (A : Option Addr) (c : Nat) (w : World) (lo hi : Nat) (hR : RdP w lo hi A n.pipes) (hhi : hi ≤ w.heap.size) (hn : n.pipes.length ≤ 60) (ht : Tree n.pipes) (hd : DropOk n.pipes) (h0 : 0 ≤ node) (h1 : node < n.pipes.length) :
    Calls Try.prog 34 #[.agg #[.int .i64 n.pump, .slice A n.pipes.length c], .int .i64 node] w fun e w' => e = .returned (.int .i64 (climbL n.pipes node)) ∧ Below w.heap.size w w' := by
  have hwl := wayL_len n.pipes node
  have hwr := fun x (h : x ∈ wayL n.pipes node) => way_rng ht h1 h
  have hg := Lib.hid (show climbL n.pipes node = outF (hgtL n.pipes) [] (wayL n.pipes node) 0 from rfl)
  have hbd := Lib.hid (fun x (h : x ∈ wayL n.pipes node) => hgtL_bd hd hn (way_rng ht h1 h).2)
  go_enter Try.func34, Try.ntmps34
  go_wp2_with fail
  refine (refWay_ n node A c _ lo hi (hR.alloc hhi _) (by simp; omega) hn ht h0 h1).mono ?_
  rintro e w1 ⟨⟨B, cap, rfl, hcap, hW⟩, hb⟩
  have hN1 := (Blk.new w 24 #[.int .i64 n.pump, .slice A n.pipes.length c]).below hb (by simp)
  have hB1 := Below.step (B := w.heap.size) (a := w) (by repeat (first | exact Below.refl _ _ | exact (Below.refl _ _) | assumption | (refine Below.setCell ?_ (by first | omega | (simp; done) | (simp; omega) | (simp [World.setCell]; done) | (simp [World.setCell]; omega)) _) | (refine Below.alloc ?_ (by first | omega | (simp; done) | (simp; omega) | (simp [World.setCell]; done) | (simp [World.setCell]; omega)) _) | (refine Below.drewN_ ?_ _) | (refine Below.drew ?_))) hb (by first | omega | (simp; done) | (simp; omega) | (simp [World.setCell]; done) | (simp [World.setCell]; omega))
  have hz1 := hb.size
  simp only [World.size_alloc] at hz1
  generalize wayL n.pipes node = way at *
  have HWR := Lib.hid hwr
  clear hwr
  go_wp2_with fail
  go_loopw [5, 7] (fun s i wr => ∃ (k : Nat) (m : Int), k ≤ way.length ∧ i = .int .i64 k ∧ s = .int .i64 m ∧ 0 ≤ m ∧ m ≤ 1200000 ∧ Hid (outF (hgtL n.pipes) [] way 0 = outF (hgtL n.pipes) (way.take k) (way.drop k) m) ∧ Below w1.heap.size w1 wr) (fun _ i _ => way.length - (intOf i).toNat)
  case atStart => exact ⟨0, 0, by omega, rfl, rfl, by omega, by omega, Lib.hid rfl, Below.refl _ _⟩
  case round =>
    obtain ⟨k, m, hk, rfl, rfl, hm0, hm1, hout, hB⟩ := hrel
    obtain ⟨wo, rfl⟩ : ∃ wo : World, wo = wr := ⟨_, rfl⟩
    by_cases hlt : k < way.length
    · have hstep := Lib.hid (outF_drop (hgtL n.pipes) way k hlt m)
      have hinb := Lib.hid (innF_bd (hgtL n.pipes) way[k] (way.take k) m (hbd.out _ (List.getElem_mem hlt)) (fun y hy => hbd.out _ (List.mem_of_mem_take hy)) ⟨hm0, hm1⟩)
      go_wp2_with fail
      go_loopw [5, 8] (fun s i wr => ∃ (j : Nat) (z : Int), j ≤ k ∧ i = .int .i64 j ∧ s = .int .i64 z ∧ 0 ≤ z ∧ z ≤ 1200000 ∧ Hid (innF (hgtL n.pipes) way[k] (way.take k) m = innF (hgtL n.pipes) way[k] ((way.take k).drop j) z) ∧ Below w1.heap.size w1 wr) (fun _ i _ => k - (intOf i).toNat)
      case atStart => exact ⟨0, m, by omega, rfl, rfl, hm0, hm1, Lib.hid rfl, hB⟩
      case round =>
        obtain ⟨j, z, hj, rfl, rfl, hz0, hz2, hinn, hBr⟩ := hrel
        have hN := hN1.below hBr hN1.lt
        have hzr := hBr.size
        have n0 := hN.cell 0; have nf0 := hN.frozen 0; have n1 := hN.cell 1; have nf1 := hN.frozen 1; simp at n0 n1
        by_cases hjk : j < k
        · have hjl : j < way.length := by omega
          have hxk := HWR.out way[k] (List.getElem_mem hlt)
          have hxj := HWR.out way[j] (List.getElem_mem hjl)
          have hgk := hbd.out way[k] (List.getElem_mem hlt)
          have hgj := hbd.out way[j] (List.getElem_mem hjl)
          obtain ⟨b1, o1, rfl, _, hb1, ck⟩ := RdI.at_ (hW.below hBr (Nat.le_refl _)) hlt
          obtain ⟨b2, o2, he2, _, _, cj⟩ := RdI.at_ (hW.below hBr (Nat.le_refl _)) hjl
          cases he2
          have hRr := (hR.below hB1 hhi).below hBr (by omega)
          have hst2 := innF_drop (hgtL n.pipes) way[k] (way.take k) j (by simp; omega) z
          rw [List.getElem_take] at hst2
          have HST2 := Lib.hid hst2
          clear hst2
          have hkl : (k : Int) < (way.length : Int) := by omega
          have hjl2 : (j : Int) < (way.length : Int) := by omega
          have hwz : w.heap.size < wr.heap.size := by omega
          have hbz : b1 < wr.heap.size := by omega
          have keepC : ∀ V : World, Below wr.heap.size wr V → V.cell? ⟨w.heap.size, 0, none⟩ = some (.int .i64 n.pump) ∧ V.cell? ⟨w.heap.size, 1, none⟩ = some (.slice A n.pipes.length c) ∧ V.cell? ⟨b1, o1 + k, none⟩ = some (.int .i64 way[k]) ∧ V.cell? ⟨b1, o1 + j, none⟩ = some (.int .i64 way[j]) :=
            fun V hV => ⟨(hV.cell hwz).trans n0, (hV.cell hwz).trans n1, (hV.cell hbz).trans ck, (hV.cell hbz).trans cj⟩
          have HK := Lib.hid keepC
          clear keepC
          go_wp2_with fail
          apply wp_rel (R := fun V => Below wr.heap.size wr V)
          · go_region_held3 (fun V => V.cell? ⟨w.heap.size, 0, none⟩ = some (.int .i64 n.pump) ∧ V.cell? ⟨w.heap.size, 1, none⟩ = some (.slice A n.pipes.length c) ∧ V.cell? ⟨b1, o1 + k, none⟩ = some (.int .i64 way[k]) ∧ V.cell? ⟨b1, o1 + j, none⟩ = some (.int .i64 way[j])) (first | exact HK.out _ hBB | exact HK.out _ (Below.refl _ wr).drew)
              (first | (go_at_call 33; refine (refHeight_ n _ A c _ lo hi (by first | exact hRr.drew | exact hRr.below hBB (by omega)) (by first | omega | (have := hBB.size; omega) | (show hi ≤ wr.heap.size; omega)) hn ht hd (by omega) (by omega)).mono ?_; rintro e w2 ⟨rfl, hb2⟩; have hBB : Below wr.heap.size wr w2 := (by first | exact (Below.trans hBB (hb2.mono hBB.size)) | exact ((Below.refl _ wr).drew.trans hb2))))
            all_goals exact ⟨rfl, rfl, hBB⟩
          · intro V hV
            go_wp2_with fail
            exact ⟨⟨j + 1, max z (hgtL n.pipes way[k] - hgtL n.pipes way[j]), by omega, by go_num, by rw [IntWalk.i64_in (hgtL n.pipes way[k] - hgtL n.pipes way[j]) (by omega)]; congr 1; omega, by omega, by omega, Lib.hid (by rw [hinn.out, HST2.out]), hBr.trans (hV.mono hzr)⟩, by simp [intOf]; omega⟩
        · obtain rfl : j = k := by omega
          go_wp2_with fail
          have h2 := hinn.out
          rw [List.drop_of_length_le (by simp; omega)] at h2
          exact ⟨⟨j + 1, z, by omega, by go_num, rfl, hz0, hz2, Lib.hid (by rw [hout.out, hstep.out, h2]; rfl), hBr⟩, by simp [intOf]; omega⟩
    · obtain rfl : k = way.length := by omega
      go_wp2
      go_ret
      have h2 := hout.out
      rw [List.drop_length] at h2
      exact ⟨ret_int (by rw [hg.out, h2]; rfl), hB1.trans (hB.mono (by omega))⟩
end Go.Proofs.Ytepibjfmeibgcaa
