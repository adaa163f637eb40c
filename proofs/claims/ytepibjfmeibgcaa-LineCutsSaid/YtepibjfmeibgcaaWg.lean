/- What line.Behind returns, for any tubing that can be read. -/
import Derived.Test.YtepibjfmeibgcaaWf
namespace Go.Proofs.Ytepibjfmeibgcaa
open Go.RowKit Go.Shelf
theorem infoBool : (Try.prog.info? 4).map (fun i => (i.zero, i.size, i.bytes)) = some (some (.bool false), 1, 1) := by kernel_rfl
/-- make([]T, n), for T of one cell. -/
theorem run_make_one {P : Program} {t e : TypeId} {i : TypeInfo} {z : Value} (ht : P.underlying t = some (.slice e)) (hi : P.info? e = some i) (hz : i.zero = some z) (hc : z.cells = #[z]) (hs : i.size = 1) (hb : i.bytes ≤ 16) (n : Nat) (hn : n ≤ 1000000) :
    ∀ W : World, (Instr.makeSlice t (.int .i64 (n : Int)) (.int .i64 (n : Int))).run P W = .ok (.slice (some ⟨W.heap.size, 0, none⟩) n n) (W.alloc (.cells (List.replicate n z).toArray e)) := fun W => by
  have hr := run_make (P := P) W t e i z ht hi hz .i64 .i64 n n (by omega) (by omega) (by have : (i.bytes : Int) * n ≤ 16 * 1000000 := Int.mul_le_mul (by omega) (by omega) (by omega) (by omega); omega) (by omega)
  rw [hr]
  simp [hs, madeCells, hc]
  congr 2
  apply Array.ext
  · simp
  · intro j h1 h2; simp [Nat.mod_one]
def encB (b : Bool) : List Value := [.bool b]
abbrev RdB (w : World) (lo hi : Nat) (A : Option Addr) (xs : List Bool) : Prop := Rd encB 1 w lo hi A xs
theorem Rd.one_at {α : Type} {f : α → Value} {w : World} {lo hi : Nat} {A : Option Addr} {xs : List α} {k : Nat} (h : Rd (fun x => [f x]) 1 w lo hi A xs) (hk : k < xs.length) : ∃ b off, A = some ⟨b, off, none⟩ ∧ lo ≤ b ∧ b < hi ∧ w.cell? ⟨b, off + k, none⟩ = some (f xs[k]) := by
  obtain ⟨b, off, e, h1, h2, hc⟩ := Rd.at_ h hk
  have := hc 0 (f xs[k]) rfl
  simp only [Nat.mul_one, Nat.add_zero] at this
  exact ⟨b, off, e, h1, h2, this⟩
theorem Blk.rdOne {α : Type} {f : α → Value} {w : World} {g : Nat} {t : TypeId} {xs : List α} (h : Blk w g t (xs.map f).toArray) {lo hi : Nat} (h1 : lo ≤ g) (h2 : g < hi) : Rd (fun x => [f x]) 1 w lo hi (some ⟨g, 0, none⟩) xs := fun _ => by
  refine ⟨g, 0, rfl, h1, h2, fun i x hx j u hu => ?_⟩
  rw [h.cell]
  match j, hu with
  | 0, hu => simp at hu; subst hu; simp [hx]
theorem Blk.at_ {α : Type} {f : α → Value} {w : World} {g : Nat} {t : TypeId} {xs : List α} {i : Nat} {x : α} (h : Blk w g t (xs.map f).toArray) (hx : xs[i]? = some x) : w.cell? ⟨g, i, none⟩ = some (f x) := by
  rw [h.cell]; simp [hx]

set_option maxHeartbeats 2000000 in
set_option maxRecDepth 100000 in
theorem behind_ (pump node : Int) (A : Option Addr) (c : Nat) (ps : List Pipe) (w : World) (lo hi : Nat) (hR : RdP w lo hi A ps) (hhi : hi ≤ w.heap.size) (hn : ps.length ≤ 60) (h1 : 1 ≤ ps.length) (ht : Tree ps) (hnd : 0 ≤ node) :
    Calls Try.prog 81 #[.agg #[.int .i64 pump, .slice A ps.length c], .int .i64 node] w fun e w' => e = .returned (.slice (some ⟨w.heap.size + 1, 0, none⟩) ps.length ps.length) ∧ Blk w' (w.heap.size + 1) 4 ((behL ps node).map Value.bool).toArray ∧ Below w.heap.size w w' := by
  obtain ⟨i0, hi0, hz0, hz1, hz2⟩ := info_parts infoBool
  have hmk := run_make_one (P := Try.prog) Try.underlying139 hi0 hz0 rfl hz1 (by omega) ps.length (by omega)
  clear hi0 hz0 hz1 hz2
  go_enter Try.func81, Try.ntmps81
  go_wp2_with fail
  go_loopw [17] (fun i wr => ∃ k : Nat, k ≤ ps.length ∧ i = .int .i64 k ∧ Blk wr (w.heap.size + 1) 4 ((row ps.length false (behF node (ps.take k) [])).map Value.bool).toArray ∧ Below w.heap.size w wr ∧ w.heap.size + 1 < wr.heap.size) (fun i _ => ps.length - (intOf i).toNat)
  case atStart => exact ⟨0, by omega, rfl, by simpa [behF, row_nil] using Blk.new (w.alloc _) 4 _, ((Below.refl _ _).alloc (Nat.le_refl _) _).alloc (by simp) _, by simp⟩
  case round =>
    obtain ⟨k, hk, rfl, hblk, hB, hz⟩ := hrel
    by_cases hlt : k < ps.length
    · obtain ⟨b, off, rfl, hb1, hb2, c0, c1, c2, c3, c4⟩ := RdP.at_ (hR.below hB hhi) hlt
      have hl : (behF node (ps.take k) []).length = k := by rw [behF_len]; simp; omega
      have hsn := behF_snoc node (ps.take k) ps[k] []
      rw [← take_snoc ps k hlt, hl] at hsn
      have htr := ht k hlt
      have hpar : par ps k = ps[k].parent := by unfold par; rw [Int.toNat_natCast, List.getD_eq_getElem?_getD, List.getElem?_eq_getElem hlt]; rfl
      rw [hpar] at htr
      generalize behF node (ps.take k) [] = l at *
      generalize ps[k] = p at *
      have hset := row_set (n := ps.length) (d := false) (x := behStep node k p l) (l := l) (by omega)
      rw [hl, ← hsn] at hset
      have HSET := Lib.hid hset
      have g1 := hblk.at_ (row_next (d := false) (l := l) (n := ps.length) (by omega))
      rw [hl] at g1
      have g2 := hblk.frozen k
      have p5 : (k : Int) < ps.length := by omega
      have fin : ∀ v : Bool, behStep node k p l = v → ∀ o, ∀ W, W = (wr.setCell ⟨w.heap.size + 1, k, none⟩ (.bool v)).alloc o → (∃ k_1 : Nat, k_1 ≤ ps.length ∧ Value.int .i64 ((k : Int) + 1) = .int .i64 k_1 ∧ Blk W (w.heap.size + 1) 4 ((row ps.length false (behF node (ps.take k_1) [])).map Value.bool).toArray ∧ Below w.heap.size w W ∧ w.heap.size + 1 < W.heap.size) := by
        intro v hv o W hW
        subst hW
        refine ⟨k + 1, by omega, by go_num, ?_, (hB.setCell (by simp) _).alloc (by simp [World.setCell]; omega) _, by simp [World.setCell]; omega⟩
        have e := HSET.out
        rw [hv] at e
        rw [← e, List.map_set, ← List.setIfInBounds_toArray]
        exact (hblk.set_ k _).alloc _
      have FIN := Lib.hid fin
      clear fin hset hsn
      by_cases he : (k : Int) = node
      · have he1 : ((k : Int) == node) = true := by simpa using he
        have hv := Lib.hid (show behStep node k p l = true by simp [behStep, he])
        clear he
        go_wp2
        exact ⟨FIN.out _ hv.out _ _ rfl, by simp [intOf]; omega⟩
      · have he1 : ((k : Int) == node) = false := by simpa using he
        by_cases hg : node < (k : Int)
        · have hp0 : 0 ≤ p.parent := by omega
          have hp1 : p.parent < (ps.length : Int) := by omega
          have em : max p.parent 0 = p.parent := Int.max_eq_left hp0
          have g3 := hblk.at_ (i := p.parent.toNat) (x := l.getD p.parent.toNat false) (by
            rw [row_get (by omega), List.getD_eq_getElem?_getD, List.getElem?_eq_getElem (show p.parent.toNat < l.length by omega)]; rfl)
          have hv := Lib.hid (show behStep node k p l = l.getD p.parent.toNat false by simp [behStep, he, hg, em])
          generalize l.getD p.parent.toNat false = v at *
          clear he em
          go_wp2
          exact ⟨FIN.out _ hv.out _ _ rfl, by simp [intOf]; omega⟩
        · have hv := Lib.hid (show behStep node k p l = false by simp [behStep, he, hg])
          clear he
          have hg' : decide (node < (k : Int)) = false := by simpa using hg
          go_wp2
          exact ⟨FIN.out _ hv.out _ _ rfl, by simp [intOf]; omega⟩
    · obtain rfl : k = ps.length := by omega
      go_wp2_with fail
      go_ret
      refine ⟨rfl, ?_, hB⟩
      rw [List.take_length] at hblk
      rw [row_full (by rw [behF_len]; simp)] at hblk
      exact hblk

theorem behL_len (ps : List Pipe) (node : Int) : (behL ps node).length = ps.length := by unfold behL; rw [behF_len]; simp

set_option maxHeartbeats 800000 in
set_option maxRecDepth 100000 in
theorem Behind_arg (n : Net) (node : Int) (A : Option Addr) (c : Nat) (w : World) (lo hi : Nat) (hR : RdP w lo hi A n.pipes) (hhi : hi ≤ w.heap.size) (hc : n.pipes.length ≤ c) (hn : n.pipes.length ≤ maxLen) (hbad : netB n = false) :
    Calls Try.prog 44 #[.agg #[.int .i64 n.pump, .slice A n.pipes.length c], .int .i64 node] w fun e w' => RetI w.heap.size e w' [] 2 ∧ Below w.heap.size w w' := by
  go_enter Try.func44, Try.ntmps44
  go_wp2_with (go_at_call 69; refine (open_arg n A _ c _ [node] _ lo hi ((hR.alloc hhi _).alloc (by simp; omega) _) (by simp; omega) hc hn hbad).mono ?_; rintro e w1 ⟨rfl, hb⟩; obtain ⟨hc1, hf1, hz1⟩ := bcell hb; have hB1 := Below.step (B := w.heap.size) (a := w) (by repeat (first | exact Below.refl _ _ | exact (Below.refl _ _) | assumption | (refine Below.setCell ?_ (by first | omega | (simp; done) | (simp; omega) | (simp [World.setCell]; done) | (simp [World.setCell]; omega)) _) | (refine Below.alloc ?_ (by first | omega | (simp; done) | (simp; omega) | (simp [World.setCell]; done) | (simp [World.setCell]; omega)) _) | (refine Below.drewN_ ?_ _) | (refine Below.drew ?_))) hb (by first | omega | (simp; done) | (simp; omega) | (simp [World.setCell]; done) | (simp [World.setCell]; omega)); simp only [World.size_alloc] at hc1 hf1 hz1)
  go_ret2
  exact ⟨RetI.mk rfl rfl (Nat.le_refl _) Rd.nil, (by repeat (first | exact Below.refl _ _ | exact (Below.refl _ _) | assumption | (refine Below.setCell ?_ (by first | omega | (simp; done) | (simp; omega) | (simp [World.setCell]; done) | (simp [World.setCell]; omega)) _) | (refine Below.alloc ?_ (by first | omega | (simp; done) | (simp; omega) | (simp [World.setCell]; done) | (simp [World.setCell]; omega)) _) | (refine Below.drewN_ ?_ _) | (refine Below.drew ?_)))⟩
set_option maxHeartbeats 800000 in
set_option maxRecDepth 100000 in
theorem Behind_none (n : Net) (node : Int) (A : Option Addr) (c : Nat) (w : World) (lo hi : Nat) (hR : RdP w lo hi A n.pipes) (hhi : hi ≤ w.heap.size) (hc : n.pipes.length ≤ c) (hok : netB n = true) (hin : inB 0 (n.pipes.length - 1) node = false) :
    Calls Try.prog 44 #[.agg #[.int .i64 n.pump, .slice A n.pipes.length c], .int .i64 node] w fun e w' => RetI w.heap.size e w' [] 7 ∧ Below w.heap.size w w' := by
  have hin' : inAll 0 (n.pipes.length - 1) [node] = false := by rw [inAll_one]; exact hin
  go_enter Try.func44, Try.ntmps44
  go_wp2_with (go_at_call 69; refine (open_none n A _ c _ 0 _ [node] _ lo hi ((hR.alloc hhi _).alloc (by simp; omega) _) (by simp; omega) hc (rd_one (by go_simp) (by simp)) (Nat.le_refl _) (by unfold maxLen; simp) hok hin').mono ?_; rintro e w1 ⟨rfl, hb⟩; obtain ⟨hc1, hf1, hz1⟩ := bcell hb; have hB1 := Below.step (B := w.heap.size) (a := w) (by repeat (first | exact Below.refl _ _ | exact (Below.refl _ _) | assumption | (refine Below.setCell ?_ (by first | omega | (simp; done) | (simp; omega) | (simp [World.setCell]; done) | (simp [World.setCell]; omega)) _) | (refine Below.alloc ?_ (by first | omega | (simp; done) | (simp; omega) | (simp [World.setCell]; done) | (simp [World.setCell]; omega)) _) | (refine Below.drewN_ ?_ _) | (refine Below.drew ?_))) hb (by first | omega | (simp; done) | (simp; omega) | (simp [World.setCell]; done) | (simp [World.setCell]; omega)); simp only [World.size_alloc] at hc1 hf1 hz1)
  go_ret2
  exact ⟨RetI.mk rfl rfl (Nat.le_refl _) Rd.nil, (by repeat (first | exact Below.refl _ _ | exact (Below.refl _ _) | assumption | (refine Below.setCell ?_ (by first | omega | (simp; done) | (simp; omega) | (simp [World.setCell]; done) | (simp [World.setCell]; omega)) _) | (refine Below.alloc ?_ (by first | omega | (simp; done) | (simp; omega) | (simp [World.setCell]; done) | (simp [World.setCell]; omega)) _) | (refine Below.drewN_ ?_ _) | (refine Below.drew ?_)))⟩
set_option maxHeartbeats 2000000 in
set_option maxRecDepth 100000 in
theorem Behind_ok (n : Net) (node : Int) (A : Option Addr) (c : Nat) (w : World) (lo hi : Nat) (hR : RdP w lo hi A n.pipes) (hhi : hi ≤ w.heap.size) (hc : n.pipes.length ≤ c) (hok : netB n = true) (hin : inB 0 (n.pipes.length - 1) node = true) :
    Calls Try.prog 44 #[.agg #[.int .i64 n.pump, .slice A n.pipes.length c], .int .i64 node] w fun e w' => RetI w.heap.size e w' (trues (behL n.pipes node) 0) 0 ∧ Below w.heap.size w w' := by
  have hin' : inAll 0 (n.pipes.length - 1) [node] = true := by rw [inAll_one]; exact hin
  have hnd := inB_true hin
  have hln := netB_len hok
  have htr := netB_tree hok
  obtain ⟨i0, ei0, ez0, ez1, ez2⟩ := info_parts infoInt
  go_enter Try.func44, Try.ntmps44
  go_wp2_with (first
    | (go_at_call 69; refine (open_ok n A _ c _ 0 _ [node] _ lo hi ((hR.alloc hhi _).alloc (by simp; omega) _) (by simp; omega) hc (rd_one (by go_simp) (by simp)) (Nat.le_refl _) (by unfold maxLen; simp) hok hin').mono ?_; rintro e w1 ⟨rfl, hb⟩; obtain ⟨hc1, hf1, hz1⟩ := bcell hb; have hB1 := Below.step (B := w.heap.size) (a := w) (by repeat (first | exact Below.refl _ _ | exact (Below.refl _ _) | assumption | (refine Below.setCell ?_ (by first | omega | (simp; done) | (simp; omega) | (simp [World.setCell]; done) | (simp [World.setCell]; omega)) _) | (refine Below.alloc ?_ (by first | omega | (simp; done) | (simp; omega) | (simp [World.setCell]; done) | (simp [World.setCell]; omega)) _) | (refine Below.drewN_ ?_ _) | (refine Below.drew ?_))) hb (by first | omega | (simp; done) | (simp; omega) | (simp [World.setCell]; done) | (simp [World.setCell]; omega)); have hR1 := ((hR.alloc hhi _).alloc (by simp; omega) _).below hb (by simp; omega); simp only [World.size_alloc] at hc1 hf1 hz1)
    | (go_at_call 81; refine (behind_ n.pump node A c n.pipes _ lo hi (hR1.alloc (by omega) _) (by simp; omega) hln.2 hln.1 htr (by omega)).mono ?_; rintro e w2 ⟨rfl, hblk, hb2⟩; have hB2 := Below.step (B := w.heap.size) (a := w) (by repeat (first | exact Below.refl _ _ | exact (Below.refl _ _) | assumption | (refine Below.setCell ?_ (by first | omega | (simp; done) | (simp; omega) | (simp [World.setCell]; done) | (simp [World.setCell]; omega)) _) | (refine Below.alloc ?_ (by first | omega | (simp; done) | (simp; omega) | (simp [World.setCell]; done) | (simp [World.setCell]; omega)) _) | (refine Below.drewN_ ?_ _) | (refine Below.drew ?_))) hb2 (by first | omega | (simp; done) | (simp; omega) | (simp [World.setCell]; done) | (simp [World.setCell]; omega)); simp only [World.size_alloc] at hblk))
  have hbl := behL_len n.pipes node
  have hrd := hblk.rdOne (f := Value.bool) (lo := w1.heap.size + 1 + 1) (hi := w2.heap.size) (Nat.le_refl _) hblk.lt
  have hz2' := hb2.size
  simp only [World.size_alloc] at hz2'
  generalize hbs : behL n.pipes node = bs at *
  have HBS := Lib.hid hbs
  clear hbs
  have HBL := Lib.hid hbl
  clear hbl
  go_loopw [4, 23] (fun v i wr => ∃ k : Nat, k ≤ bs.length ∧ i = .int .i64 k ∧ wr.ownsRow w2.heap.size 3 1 v (trues (bs.take k) 0).length ((trues (bs.take k) 0).map I) ∧ Below w2.heap.size w2 wr) (fun _ i _ => bs.length - (intOf i).toNat)
  case atStart => exact ⟨0, by omega, rfl, ⟨by simp [trues], .inl ⟨rfl, rfl⟩⟩, Below.refl _ _⟩
  case round =>
    obtain ⟨k, hk, rfl, hrow, hB⟩ := hrel
    by_cases hlt : k < bs.length
    · have hlt' : (k : Int) < n.pipes.length := by have := HBL.out; omega
      have hkc : wr.cell? ⟨w1.heap.size + 1 + 1, k, none⟩ = some (.bool bs[k]) := by
        rw [hB.cell (by simp only; exact hblk.lt)]; exact hblk.at_ (List.getElem?_eq_getElem hlt)
      have hsn := trues_snoc (bs.take k) bs[k] 0
      rw [← take_snoc bs k hlt] at hsn
      have hkl : (bs.take k).length = k := by simp; omega
      rw [hkl, Nat.zero_add] at hsn
      have htl := trues_len (bs.take k) 0
      rw [hkl] at htl
      have hbl60 : bs.length ≤ 60 := by have := HBL.out; omega
      generalize trues (bs.take k) 0 = L at *
      have HSN := Lib.hid hsn
      clear hsn hkl
      cases hb3 : bs[k] with
      | false =>
        rw [hb3] at hkc
        have hb3' := Lib.hid hb3
        clear hb3
        go_wp2
        refine ⟨⟨k + 1, by omega, by go_num, ?_, hB⟩, by simp [intOf]; omega⟩
        rw [HSN.out, hb3'.out]; simpa using hrow
      | true =>
        rw [hb3] at hkc
        have hb3' := Lib.hid hb3
        clear hb3
        have hsz := hB.size
        go_wp2_with (at_builtin; (refine wpList_append_own _ rfl _ _ 31 rfl w2.heap.size 3 i0 (.int .i64 0) 1 8 Try.underlying31 ei0 ez0 ez1 ez2 rfl (by decide) _ _ _ rfl (hrow.alloc _) ⟨wr.heap.size, 0, none⟩ 1 1 [.int .i64 k] rfl rfl (cell_one_new _ _ _) (by simp [Value.oneCell']) (by unfold maxLen; omega) (by omega) (by simp; omega) ?_); intro v' w3 hown' hgrow _)
        refine ⟨⟨k + 1, by omega, by go_num, ?_, (hB.alloc hsz _).grown hgrow (by simp; omega) (fun r e => (hrow.lt r e).1)⟩, by simp [intOf]; omega⟩
        rw [HSN.out, hb3'.out]
        simpa using hown'
    · obtain rfl : k = bs.length := by omega
      rw [List.take_length] at hrow
      obtain ⟨A', c', rfl, h2, h3⟩ := ownsRow_rdI hrow
      have hge : (n.pipes.length : Int) ≤ bs.length := by have := HBL.out; omega
      go_wp2
      go_ret2
      exact ⟨by rw [HBS.out]; exact RetI.mk (base := w.heap.size) rfl rfl h2 (h3.mono (by omega) (Nat.le_refl _)), hB2.trans (hB.mono (by omega))⟩
end Go.Proofs.Ytepibjfmeibgcaa
