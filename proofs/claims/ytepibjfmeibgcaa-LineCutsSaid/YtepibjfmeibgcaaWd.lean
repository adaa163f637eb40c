/- What line.Heights returns, for any tubing that can be read. -/
import Derived.Test.YtepibjfmeibgcaaWc
namespace Go.Proofs.Ytepibjfmeibgcaa
open Go.RowKit
/-- The pair of a new list of ints and an error. -/
def RetI (base : Nat) (e : Ending) (w' : World) (xs : List Int) (err : Int) : Prop :=
  ∃ B cap, e = .returned (.tuple #[.slice B xs.length cap, .int .i64 err]) ∧ xs.length ≤ cap ∧ RdI w' base w'.heap.size B xs

theorem RetI.mk {base : Nat} {e : Ending} {w' : World} {xs : List Int} {err : Int} {B : Option Addr} {l cap : Nat} (he : e = .returned (.tuple #[.slice B l cap, .int .i64 err])) (hl : xs.length = l) (hc : l ≤ cap) (hr : RdI w' base w'.heap.size B xs) : RetI base e w' xs err :=
  ⟨B, cap, by rw [hl]; exact he, by omega, hr⟩

/-- What the row of heights holds after k rounds. -/
def hRow (ps : List Pipe) (k : Nat) : List Int := hts ((ps.drop 1).take k) [0] ++ List.replicate (ps.length - 1 - k) 0
theorem hRow_len (ps : List Pipe) (k : Nat) (hk : k ≤ ps.length - 1) (h1 : 1 ≤ ps.length) : (hRow ps k).length = ps.length := by
  simp only [hRow, List.length_append, hts_length, List.length_take, List.length_drop, List.length_replicate, List.length_cons, List.length_nil]; omega
theorem hrep (n : Nat) (h1 : 1 ≤ n) : (0 : Int) :: List.replicate (n - 1) 0 = List.replicate n 0 := by
  obtain ⟨m, rfl⟩ : ∃ m, n = m + 1 := ⟨n - 1, by omega⟩
  rfl
theorem set_app {l m : List Int} {x y : Int} {k : Nat} (h : k = l.length) : (l ++ x :: m).set k y = (l ++ [y]) ++ m := by
  subst h; simp
theorem getD_app {l m : List Int} {k : Nat} (h : k < l.length) : (l ++ m).getD k 0 = l.getD k 0 := by
  simp [List.getElem?_append_left h]
theorem hRow_set (ps : List Pipe) (k : Nat) (p : Pipe) (hk : k < ps.length - 1) (hp : ps[k + 1]? = some p) (hpar : p.parent.toNat ≤ k) :
    (hRow ps k).set (k + 1) ((hRow ps k).getD p.parent.toNat 0 + p.drop) = hRow ps (k + 1) := by
  have hl : (hts ((ps.drop 1).take k) [0]).length = k + 1 := by simp only [hts_length, List.length_take, List.length_drop, List.length_cons, List.length_nil]; omega
  have hd : k < (ps.drop 1).length := by rw [List.length_drop]; omega
  have hg : (ps.drop 1)[k] = p := by
    have : (ps.drop 1)[k]? = some p := by rw [List.getElem?_drop, Nat.add_comm]; exact hp
    rw [List.getElem?_eq_getElem hd] at this; exact Option.some.inj this
  have hr : List.replicate (ps.length - 1 - k) (0 : Int) = 0 :: List.replicate (ps.length - 1 - (k + 1)) 0 := by
    obtain ⟨m, hm⟩ : ∃ m, ps.length - 1 - k = m + 1 := ⟨ps.length - 1 - k - 1, by omega⟩
    have : ps.length - 1 - (k + 1) = m := by omega
    rw [hm, this]; rfl
  unfold hRow
  rw [getD_app (by omega), hr, set_app (by omega), List.take_succ_eq_append_getElem hd, hts_snoc, hg]
theorem hRow_bd (ps : List Pipe) (k : Nat) (hv : Ord ps) (hn : ps.length ≤ 60) (h1 : 1 ≤ ps.length) (i : Nat) : -600000 ≤ (hRow ps k).getD i 0 ∧ (hRow ps k).getD i 0 ≤ 600000 := by
  have hb := hts_bound ((ps.drop 1).take k) 10000 (by omega) [0] 0 (by omega) (by simp) (fun p hp => by
    obtain ⟨j, hj⟩ := List.mem_iff_getElem?.1 (List.mem_of_mem_take hp)
    rw [List.getElem?_drop, Nat.add_comm] at hj
    have := hv j p hj
    omega)
  have hl : ((ps.drop 1).take k).length ≤ 59 := by simp only [List.length_take, List.length_drop]; omega
  rw [List.getD_eq_getElem?_getD]
  cases hg : (hRow ps k)[i]? with
  | none => simp
  | some x =>
    have hm : x ∈ hRow ps k := List.mem_of_getElem? hg
    unfold hRow at hm
    rw [List.mem_append] at hm
    rcases hm with hm | hm
    · have := hb x hm; simp only [Option.getD_some]; omega
    · have := List.eq_of_mem_replicate hm; simp [this]

set_option maxHeartbeats 400000 in
set_option maxRecDepth 100000 in
theorem heights_ (pump : Int) (A : Option Addr) (c : Nat) (ps : List Pipe) (w : World) (lo hi : Nat) (hR : RdP w lo hi A ps) (hhi : hi ≤ w.heap.size) (hn : ps.length ≤ 60) (h1 : 1 ≤ ps.length) (hc : ps.length ≤ c) (hv : Ord ps) :
    Calls Try.prog 72 #[.agg #[.int .i64 pump, .slice A ps.length c]] w fun e w' => e = .returned (.slice (some ⟨w.heap.size + 1, 0, none⟩) ps.length ps.length) ∧ Blk w' (w.heap.size + 1) 3 ((heightsL ps).map I).toArray ∧ Below w.heap.size w w' := by
  obtain ⟨i0, hi0, hz0, hz1, hz2⟩ := info_parts infoInt
  obtain ⟨i5, hi5, hy0, hy1, hy2⟩ := info_parts infoPipe
  obtain ⟨A1, hA1, hsl⟩ := run_from1 (P := Try.prog) Try.underlying22 hi5 A ps.length c h1
  rw [hy1] at hA1
  have hR1 := hR.from1 hc hA1
  have hmk := run_make_ints (P := Try.prog) Try.underlying31 hi0 hz0 hz1 hz2 ps.length (by omega)
  clear hA1 hy0 hy1 hy2 hi5 hi0 hz0 hz1 hz2
  go_enter Try.func72, Try.ntmps72
  go_wp2_with fail
  go_loopw [16] (fun i wr => ∃ k : Nat, k ≤ ps.length - 1 ∧ i = .int .i64 k ∧ Blk wr (w.heap.size + 1) 3 ((hRow ps k).map I).toArray ∧ Below w.heap.size w wr ∧ w.heap.size + 1 < wr.heap.size) (fun i _ => ps.length - 1 - (intOf i).toNat)
  case atStart => exact ⟨0, by omega, rfl, by simpa [hRow, hts, hrep ps.length h1] using Blk.new (w.alloc _) 3 _, ((Below.refl _ _).alloc (Nat.le_refl _) _).alloc (by simp) _, by simp⟩
  case round =>
    obtain ⟨k, hk, rfl, hblk, hB, hz⟩ := hrel
    by_cases hlt : k < ps.length - 1
    · have hk1 : k < (ps.drop 1).length := by rw [List.length_drop]; omega
      obtain ⟨b, off, rfl, hb1, hb2, c0, c1, c2, c3, c4⟩ := RdP.at_ (hR1.below hB hhi) hk1
      generalize hx : (ps.drop 1)[k] = x at *
      have hxi : ps[k + 1]? = some x := by
        have h := List.getElem?_eq_getElem hk1
        rw [hx, List.getElem?_drop, Nat.add_comm] at h
        exact h
      clear hx
      obtain ⟨p0, p1, p2, p3⟩ := hv k x hxi
      have hset := Lib.hid (hRow_set ps k x hlt hxi (by omega))
      have hlen := hRow_len ps k hk h1
      have p4 : x.parent < (ps.length : Int) := by omega
      have p5 : (k : Int) + 1 < ps.length := by omega
      have g0 : wr.cell? ⟨w.heap.size + 1, x.parent.toNat, none⟩ = some (.int .i64 ((hRow ps k).getD x.parent.toNat 0)) := by
        rw [hblk.cell]; simp [List.getElem?_eq_getElem (show x.parent.toNat < (hRow ps k).length by omega)]
      have g1 : wr.cell? ⟨w.heap.size + 1, k + 1, none⟩ = some (.int .i64 ((hRow ps k).getD (k + 1) 0)) := by
        rw [hblk.cell]; simp [List.getElem?_eq_getElem (show k + 1 < (hRow ps k).length by omega)]
      have g2 := hblk.frozen (k + 1)
      obtain ⟨q1, q2⟩ := hRow_bd ps k hv hn h1 x.parent.toNat
      generalize (hRow ps k).getD x.parent.toNat 0 = hp at *
      generalize (hRow ps k).getD (k + 1) 0 = h' at *
      clear hxi hlen
      go_wp2_with fail
      go_region
      go_wp2_with fail
      refine ⟨⟨k + 1, by omega, by go_num, ?_, ?_, ?_⟩, by simp [intOf]; omega⟩
      · rw [← hset.out, List.map_set, ← List.setIfInBounds_toArray]
        exact ((hblk.set_ (k + 1) _).alloc _).drew
      · exact ((hB.setCell (by simp) _).alloc (by simp [World.setCell]; omega) _).drew
      · simp [World.setCell]; omega
    · obtain rfl : k = ps.length - 1 := by omega
      go_wp2_with fail
      go_ret
      refine ⟨rfl, ?_, hB⟩
      simpa [hRow, heightsL, List.take_of_length_le] using hblk

theorem netB_ord {n : Net} (h : netB n = true) : Ord n.pipes := by
  unfold netB at h; simp only [Bool.and_eq_true] at h
  intro i p hp
  have hi : i < (n.pipes.drop 1).length := by
    rw [List.length_drop]; have := (List.getElem?_eq_some_iff.1 hp).1; omega
  have hg : (n.pipes.drop 1)[i] = p := by
    have : (n.pipes.drop 1)[i]? = some p := by rw [List.getElem?_drop, Nat.add_comm]; exact hp
    rw [List.getElem?_eq_getElem hi] at this; exact Option.some.inj this
  have hb : pipeB p i = true := by
    cases hb : pipeB p i with
    | true => rfl
    | false => rw [← hg] at hb; have := pipesB_false _ i hi hb; rw [this] at h; simp at h
  unfold pipeB at hb; simp only [Bool.and_eq_true] at hb
  have := inB_true hb.1.1.1.1; have := inB_true hb.1.2; omega
theorem heightsL_len (ps : List Pipe) (h : 1 ≤ ps.length) : (heightsL ps).length = ps.length := by
  unfold heightsL; rw [hts_length, List.length_drop]; simp; omega

set_option maxHeartbeats 800000 in
set_option maxRecDepth 100000 in
theorem Heights_bad (n : Net) (A : Option Addr) (c : Nat) (w : World) (lo hi : Nat) (hR : RdP w lo hi A n.pipes) (hhi : hi ≤ w.heap.size) (hc : n.pipes.length ≤ c) (hn : n.pipes.length ≤ maxLen) (hbad : netB n = false) :
    Calls Try.prog 30 #[.agg #[.int .i64 n.pump, .slice A n.pipes.length c]] w fun e w' => RetI w.heap.size e w' [] 2 ∧ Below w.heap.size w w' := by
  go_enter Try.func30, Try.ntmps30
  go_wp2_with (go_at_call 69; refine (open_arg n A none c 0 [] _ lo hi (hR.alloc hhi _) (by simp; omega) hc hn hbad).mono ?_; rintro e w1 ⟨rfl, hb⟩; obtain ⟨hc1, hf1, hz1⟩ := bcell hb; have hB1 := Below.step (B := w.heap.size) (a := w) (by repeat (first | exact Below.refl _ _ | exact (Below.refl _ _) | assumption | (refine Below.setCell ?_ (by first | omega | (simp; done) | (simp; omega) | (simp [World.setCell]; done) | (simp [World.setCell]; omega)) _) | (refine Below.alloc ?_ (by first | omega | (simp; done) | (simp; omega) | (simp [World.setCell]; done) | (simp [World.setCell]; omega)) _) | (refine Below.drewN_ ?_ _) | (refine Below.drew ?_))) hb (by first | omega | (simp; done) | (simp; omega) | (simp [World.setCell]; done) | (simp [World.setCell]; omega)); simp only [World.size_alloc] at hc1 hf1 hz1)
  go_ret2
  exact ⟨RetI.mk rfl rfl (Nat.le_refl _) Rd.nil, (by repeat (first | exact Below.refl _ _ | exact (Below.refl _ _) | assumption | (refine Below.setCell ?_ (by first | omega | (simp; done) | (simp; omega) | (simp [World.setCell]; done) | (simp [World.setCell]; omega)) _) | (refine Below.alloc ?_ (by first | omega | (simp; done) | (simp; omega) | (simp [World.setCell]; done) | (simp [World.setCell]; omega)) _) | (refine Below.drewN_ ?_ _) | (refine Below.drew ?_)))⟩
set_option maxHeartbeats 800000 in
set_option maxRecDepth 100000 in
theorem Heights_ok (n : Net) (A : Option Addr) (c : Nat) (w : World) (lo hi : Nat) (hR : RdP w lo hi A n.pipes) (hhi : hi ≤ w.heap.size) (hc : n.pipes.length ≤ c) (hok : netB n = true) :
    Calls Try.prog 30 #[.agg #[.int .i64 n.pump, .slice A n.pipes.length c]] w fun e w' => RetI w.heap.size e w' (heightsL n.pipes) 0 ∧ Below w.heap.size w w' := by
  have hln := netB_len hok
  have ho := netB_ord hok
  have hl := Lib.hid (heightsL_len n.pipes hln.1)
  go_enter Try.func30, Try.ntmps30
  go_wp2_with (first
    | (go_at_call 69; refine (open_ok n A none c 0 0 0 [] _ lo hi (hR.alloc hhi _) (by simp; omega) hc Rd.nil (Nat.zero_le _) (by simp) hok rfl).mono ?_; rintro e w1 ⟨rfl, hb⟩; obtain ⟨hc1, hf1, hz1⟩ := bcell hb; have hB1 := Below.step (B := w.heap.size) (a := w) (by repeat (first | exact Below.refl _ _ | exact (Below.refl _ _) | assumption | (refine Below.setCell ?_ (by first | omega | (simp; done) | (simp; omega) | (simp [World.setCell]; done) | (simp [World.setCell]; omega)) _) | (refine Below.alloc ?_ (by first | omega | (simp; done) | (simp; omega) | (simp [World.setCell]; done) | (simp [World.setCell]; omega)) _) | (refine Below.drewN_ ?_ _) | (refine Below.drew ?_))) hb (by first | omega | (simp; done) | (simp; omega) | (simp [World.setCell]; done) | (simp [World.setCell]; omega)); simp only [World.size_alloc] at hc1 hf1 hz1; have hR1 := (hR.alloc hhi _).below hb (by simp; omega))
    | (go_at_call 72; refine (heights_ n.pump A c n.pipes _ lo hi (hR1.alloc (by omega) _) (by simp; omega) hln.2 hln.1 hc ho).mono ?_; rintro e w2 ⟨rfl, hblk, hb2⟩; have hB2 := Below.step (B := w.heap.size) (a := w) (by repeat (first | exact Below.refl _ _ | exact (Below.refl _ _) | assumption | (refine Below.setCell ?_ (by first | omega | (simp; done) | (simp; omega) | (simp [World.setCell]; done) | (simp [World.setCell]; omega)) _) | (refine Below.alloc ?_ (by first | omega | (simp; done) | (simp; omega) | (simp [World.setCell]; done) | (simp [World.setCell]; omega)) _) | (refine Below.drewN_ ?_ _) | (refine Below.drew ?_))) hb2 (by first | omega | (simp; done) | (simp; omega) | (simp [World.setCell]; done) | (simp [World.setCell]; omega)); simp only [World.size_alloc] at hblk))
  go_ret2
  exact ⟨RetI.mk (base := w.heap.size) rfl hl.out (Nat.le_refl _) (hblk.rdI (by omega) hblk.lt), hB2⟩
end Go.Proofs.Ytepibjfmeibgcaa
