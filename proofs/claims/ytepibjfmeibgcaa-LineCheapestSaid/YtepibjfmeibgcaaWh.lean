/- What line.Climbs returns, for any tubing that can be read. -/
import Derived.Test.YtepibjfmeibgcaaCl
import Derived.Deep.RegionHeld3
import Derived.Deep.RegionWith
import Derived.Deep.DeepCutAuto
namespace Go.Proofs.Ytepibjfmeibgcaa
open Go.RowKit
set_option maxHeartbeats 400000 in
set_option maxRecDepth 100000 in
theorem cloneI_ (b off c lo hi : Nat) (xs : List Int) (w : World) (hR : RdI w lo hi (some ⟨b, off, none⟩) xs) (hh : hi ≤ w.heap.size) (hn : xs.length ≤ 1000000) :
    Calls Try.prog 73 #[.slice (some ⟨b, off, none⟩) xs.length c] w fun e w' => ∃ v, e = .returned v ∧ w'.ownsRow w.heap.size 3 1 v xs.length (xs.flatMap encI) ∧ Below w.heap.size w w' := by
  obtain ⟨i0, ei0, ez0, ez1, ez2⟩ := info_parts infoInt
  have heq := fun (W : World) => Lib.run_eql_slice_nil (P := Try.prog) W 31 3 (some ⟨b, off, none⟩) xs.length c 0 0 Try.underlying31
  go_enter Try.func73, Try.ntmps73
  go_wp2_with (at_builtin; refine wpList_append_rd _ rfl _ _ 31 rfl w.heap.size 3 i0 (.int .i64 0) 1 8 Try.underlying31 ei0 ez0 ez1 ez2 rfl (by decide) _ _ _ rfl (owns_empty _ _ _ _ (Nat.le_refl _)) _ c lo hi xs rfl (hR.alloc hh _) encI_len encI_one (by unfold maxLen; omega) (by omega) (by simp) ?_; intro v' w1 hown' hgrow)
  go_ret
  exact ⟨_, rfl, by simpa using hown', ((Below.refl _ _).alloc (Nat.le_refl _) _).grown hgrow (by simp) (fun k e => by simp [Act.eval, Value.ownBlock] at e; omega)⟩

theorem ownsRow_blk {W : World} {base : Nat} {v : Value} {xs : List Int} (h : W.ownsRow base 3 1 v xs.length (xs.flatMap encI)) (hne : 0 < xs.length) :
    ∃ g cap cur, v = .slice (some ⟨g, 0, none⟩) xs.length cap ∧ base ≤ g ∧ Blk W g 3 cur ∧ cur.toList.take xs.length = xs.map I := by
  rcases h.2 with ⟨_, h0⟩ | ⟨g, cap, cur, rfl, hb, hg, hc, _, hsz, ht⟩
  · omega
  · exact ⟨g, cap, cur, rfl, hb, hg, by rw [Nat.mul_one, flatMap_encI] at ht; exact ht⟩
/-- A block whose first cells are ints. -/
def BlkI (w : World) (g : Nat) (xs : List Int) : Prop := ∃ cur : Array Value, Blk w g 3 cur ∧ cur.toList.take xs.length = xs.map I
section
variable {w w' : World} {g : Nat} {xs : List Int}
theorem BlkI.lt (h : BlkI w g xs) : g < w.heap.size := by obtain ⟨_, h, _⟩ := h; exact h.lt
theorem BlkI.at_ (h : BlkI w g xs) {i : Nat} {x : Int} (hx : xs[i]? = some x) : w.cell? ⟨g, i, none⟩ = some (.int .i64 x) := by
  obtain ⟨cur, h, ht⟩ := h
  have hi : i < xs.length := (List.getElem?_eq_some_iff.1 hx).1
  rw [h.cell]
  have h2 : (cur.toList.take xs.length)[i]? = some (I x) := by rw [ht]; simp [hx]
  rw [List.getElem?_take_of_lt hi] at h2
  simpa using h2
theorem BlkI.frozen (h : BlkI w g xs) (i : Nat) : w.frozen? ⟨g, i, none⟩ = false := by obtain ⟨_, h, _⟩ := h; exact h.frozen i
theorem BlkI.set_ (h : BlkI w g xs) (i : Nat) (x : Int) : BlkI (w.setCell ⟨g, i, none⟩ (.int .i64 x)) g (xs.set i x) := by
  obtain ⟨cur, h, ht⟩ := h
  refine ⟨_, h.set_ i _, ?_⟩
  rw [List.length_set, Array.toList_setIfInBounds, List.take_set, ht, List.map_set]
theorem BlkI.far (h : BlkI w g xs) {p : Addr} (hp : g ≠ p.block) (u : Value) : BlkI (w.setCell p u) g xs := by obtain ⟨cur, h, ht⟩ := h; exact ⟨cur, h.far hp u, ht⟩
theorem BlkI.alloc (h : BlkI w g xs) (o : Obj) : BlkI (w.alloc o) g xs := by obtain ⟨cur, h, ht⟩ := h; exact ⟨cur, h.alloc o, ht⟩
theorem BlkI.drew (h : BlkI w g xs) : BlkI w.drew g xs := h
theorem BlkI.drewN (h : BlkI w g xs) (n : Nat) : BlkI (w.drewN n) g xs := h
theorem BlkI.below {B : Nat} (h : BlkI w g xs) (hb : Below B w w') (hg : g < B) : BlkI w' g xs := by obtain ⟨cur, h, ht⟩ := h; exact ⟨cur, h.below hb hg, ht⟩
theorem BlkI.of (h : Blk w g 3 (xs.map I).toArray) : BlkI w g xs := ⟨_, h, by simp [List.take_of_length_le]⟩
theorem BlkI.rdI (h : BlkI w g xs) {lo hi : Nat} (h1 : lo ≤ g) (h2 : g < hi) : RdI w lo hi (some ⟨g, 0, none⟩) xs := fun _ => by
  refine ⟨g, 0, rfl, h1, h2, fun i x hx j u hu => ?_⟩
  match j, hu with
  | 0, hu => simp [encI] at hu; subst hu; simpa using h.at_ hx
end

theorem cloneB_ (b c m : Nat) (xs : List Int) (w : World) (hB : BlkI w b xs) (hm : xs.length = m) (hn : xs.length ≤ 1000000) (h0 : 0 < xs.length) :
    Calls Try.prog 73 #[.slice (some ⟨b, 0, none⟩) m c] w fun e w' => (∃ g cap, e = .returned (.slice (some ⟨g, 0, none⟩) m cap) ∧ w.heap.size ≤ g ∧ BlkI w' g xs) ∧ Below w.heap.size w w' := by
  subst hm
  refine (cloneI_ b 0 c 0 w.heap.size xs w (hB.rdI (Nat.zero_le _) hB.lt) (Nat.le_refl _) hn).mono ?_
  rintro e w' ⟨v, rfl, ho, hb⟩
  obtain ⟨g, cap, cur, rfl, hg, hk, ht⟩ := ownsRow_blk ho h0
  exact ⟨⟨g, cap, rfl, hg, cur, hk, ht⟩, hb⟩
set_option maxHeartbeats 800000 in
set_option maxRecDepth 100000 in
theorem Climbs_bad (n : Net) (A : Option Addr) (c : Nat) (w : World) (lo hi : Nat) (hR : RdP w lo hi A n.pipes) (hhi : hi ≤ w.heap.size) (hc : n.pipes.length ≤ c) (hn : n.pipes.length ≤ maxLen) (hbad : netB n = false) :
    Calls Try.prog 31 #[.agg #[.int .i64 n.pump, .slice A n.pipes.length c]] w fun e w' => RetI w.heap.size e w' [] 2 ∧ Below w.heap.size w w' := by
  go_enter Try.func31, Try.ntmps31
  go_wp2_with (go_at_call 69; refine (open_arg n A none c 0 [] _ lo hi (hR.alloc hhi _) (by simp; omega) hc hn hbad).mono ?_; rintro e w1 ⟨rfl, hb⟩; obtain ⟨hc1, hf1, hz1⟩ := bcell hb; have hB1 := Below.step (B := w.heap.size) (a := w) (by repeat (first | exact Below.refl _ _ | exact (Below.refl _ _) | assumption | (refine Below.setCell ?_ (by first | omega | (simp; done) | (simp; omega) | (simp [World.setCell]; done) | (simp [World.setCell]; omega)) _) | (refine Below.alloc ?_ (by first | omega | (simp; done) | (simp; omega) | (simp [World.setCell]; done) | (simp [World.setCell]; omega)) _) | (refine Below.drewN_ ?_ _) | (refine Below.drew ?_))) hb (by first | omega | (simp; done) | (simp; omega) | (simp [World.setCell]; done) | (simp [World.setCell]; omega)); simp only [World.size_alloc] at hc1 hf1 hz1)
  go_ret2
  exact ⟨RetI.mk rfl rfl (Nat.le_refl _) Rd.nil, (by repeat (first | exact Below.refl _ _ | exact (Below.refl _ _) | assumption | (refine Below.setCell ?_ (by first | omega | (simp; done) | (simp; omega) | (simp [World.setCell]; done) | (simp [World.setCell]; omega)) _) | (refine Below.alloc ?_ (by first | omega | (simp; done) | (simp; omega) | (simp [World.setCell]; done) | (simp [World.setCell]; omega)) _) | (refine Below.drewN_ ?_ _) | (refine Below.drew ?_)))⟩
theorem row_one {n : Nat} (h : 1 ≤ n) (d : Int) : row n d [d] = List.replicate n d := by
  obtain ⟨m, rfl⟩ : ∃ m, n = m + 1 := ⟨n - 1, by omega⟩
  simp [row, List.replicate_succ]
theorem drop_one {hs : List Int} (h : 1 ≤ hs.length) : [hs.getD 0 0] ++ hs.drop 1 = hs := by
  cases hs with
  | nil => simp at h
  | cons x xs => rfl
theorem set_mid {l hs : List Int} {k : Nat} (hl : l.length = k) (hk : k < hs.length) (x : Int) : (l ++ hs.drop k).set k x = (l ++ [x]) ++ hs.drop (k + 1) := by
  subst hl
  rw [List.drop_eq_getElem_cons hk]
  generalize hs[l.length] = y
  generalize hs.drop (l.length + 1) = z
  simp
theorem getD_of {l : List Int} {i : Nat} {x : Int} (h : l[i]? = some x) : l.getD i 0 = x := by rw [List.getD_eq_getElem?_getD, h]; rfl
theorem some_getD {l : List Int} {i : Nat} (h : i < l.length) : l[i]? = some (l.getD i 0) := by rw [List.getD_eq_getElem?_getD, List.getElem?_eq_getElem h]; rfl
theorem heights_bd {n : Net} (hok : netB n = true) : ∀ x ∈ heightsL n.pipes, -600000 ≤ x ∧ x ≤ 600000 := by
  have hln := netB_len hok
  intro x hx
  obtain ⟨i, hi⟩ := List.mem_iff_getElem?.1 hx
  have h := hRow_bd n.pipes (n.pipes.length - 1) (netB_ord hok) hln.2 hln.1 i
  have e : hRow n.pipes (n.pipes.length - 1) = heightsL n.pipes := by unfold hRow heightsL; rw [List.take_of_length_le (by simp)]; simp
  rw [e, getD_of hi] at h
  exact h
set_option maxHeartbeats 4000000 in
set_option maxRecDepth 100000 in
theorem Climbs_ok (n : Net) (A : Option Addr) (c : Nat) (w : World) (lo hi : Nat) (hR : RdP w lo hi A n.pipes) (hhi : hi ≤ w.heap.size) (hc : n.pipes.length ≤ c) (hok : netB n = true) :
    Calls Try.prog 31 #[.agg #[.int .i64 n.pump, .slice A n.pipes.length c]] w fun e w' => RetI w.heap.size e w' (climbsL n.pipes) 0 ∧ Below w.heap.size w w' := by
  have hln := netB_len hok
  have ho := netB_ord hok
  have hl := Lib.hid (heightsL_len n.pipes hln.1)
  obtain ⟨i0, ei0, ez0, ez1, ez2⟩ := info_parts infoInt
  have hmk := run_make_ints (P := Try.prog) Try.underlying31 ei0 ez0 ez1 ez2 n.pipes.length (by omega)
  clear ei0 ez0 ez1 ez2
  obtain ⟨i5, hi5, hy0, hy1, hy2⟩ := info_parts infoPipe
  obtain ⟨A1, hA1, hsl⟩ := run_from1 (P := Try.prog) Try.underlying22 hi5 A n.pipes.length c hln.1
  rw [hy1] at hA1
  have hRt := hR.from1 hc hA1
  clear hA1 hy0 hy1 hy2 hi5
  go_enter Try.func31, Try.ntmps31
  go_upto_region 5 with (first
    | (go_at_call 69; refine (open_ok n A none c 0 0 0 [] _ lo hi (hR.alloc hhi _) (by simp; omega) hc Rd.nil (Nat.zero_le _) (by simp) hok rfl).mono ?_; rintro e w1 ⟨rfl, hb⟩; obtain ⟨hc1, hf1, hz1⟩ := bcell hb; have hB1 := Below.step (B := w.heap.size) (a := w) (by repeat (first | exact Below.refl _ _ | exact (Below.refl _ _) | assumption | (refine Below.setCell ?_ (by first | omega | (simp; done) | (simp; omega) | (simp [World.setCell]; done) | (simp [World.setCell]; omega)) _) | (refine Below.alloc ?_ (by first | omega | (simp; done) | (simp; omega) | (simp [World.setCell]; done) | (simp [World.setCell]; omega)) _) | (refine Below.drewN_ ?_ _) | (refine Below.drew ?_))) hb (by first | omega | (simp; done) | (simp; omega) | (simp [World.setCell]; done) | (simp [World.setCell]; omega)); simp only [World.size_alloc] at hc1 hf1 hz1; have hR1 := (hR.alloc hhi _).below hb (by simp; omega))
    | (go_at_call 72; refine (heights_ n.pump A c n.pipes _ lo hi (hR1.alloc (by omega) _) (by simp; omega) hln.2 hln.1 hc ho).mono ?_; rintro e w2 ⟨rfl, hblk, hb2⟩; have hB2 := Below.step (B := w.heap.size) (a := w) (by repeat (first | exact Below.refl _ _ | exact (Below.refl _ _) | assumption | (refine Below.setCell ?_ (by first | omega | (simp; done) | (simp; omega) | (simp [World.setCell]; done) | (simp [World.setCell]; omega)) _) | (refine Below.alloc ?_ (by first | omega | (simp; done) | (simp; omega) | (simp [World.setCell]; done) | (simp [World.setCell]; omega)) _) | (refine Below.drewN_ ?_ _) | (refine Below.drew ?_))) hb2 (by first | omega | (simp; done) | (simp; omega) | (simp [World.setCell]; done) | (simp [World.setCell]; omega)); simp only [World.size_alloc] at hblk hb2))
  go_cut [7, 8] (fun v7 v8 wx => ∃ gc gx cap : Nat, v7 = .slice (some ⟨gc, 0, none⟩) n.pipes.length n.pipes.length ∧ v8 = .slice (some ⟨gx, 0, none⟩) n.pipes.length cap ∧ gc ≠ gx ∧ w2.heap.size ≤ gc ∧ w2.heap.size ≤ gx ∧ BlkI wx gc (List.replicate n.pipes.length 0) ∧ BlkI wx gx (heightsL n.pipes) ∧ Below w2.heap.size w2 wx)
  case first =>
    have hbI := BlkI.of hblk
    have hlt2 := hblk.lt
    have hlen := heightsL_len n.pipes hln.1
    go_region_with (go_at_call 73; refine (cloneB_ _ _ _ (heightsL n.pipes) _ ?_ hl.out (by omega) (by omega)).mono ?_; (first | exact hbI | exact (hbI.alloc _) | exact (hbI.alloc _).drew | exact hbI.drew); rintro e w3 ⟨⟨g, cap, rfl, hg, hbg⟩, hb3⟩)
    all_goals (go_wp2_with fail; go_meet)
    · have hg : (w2.alloc (.cells (Array.replicate n.pipes.length (I 0)) 3)).heap.size ≤ g := hg
      rw [World.size_alloc] at hg
      exact ⟨w2.heap.size, g, cap, rfl, rfl, by omega, Nat.le_refl _, by omega, BlkI.below (w := (w2.alloc _).drew) ⟨_, Blk.new w2 _ _, by simp⟩ hb3 (by simp), hbg, (((Below.refl _ _).alloc (Nat.le_refl _) _).drew).trans (hb3.mono (by simp))⟩
    · have hg' : w2.heap.size ≤ g := hg
      have := hbg.lt
      exact ⟨w3.heap.size, g, cap, rfl, rfl, by omega, hb3.size, hg', ⟨_, Blk.new w3 _ _, by simp⟩, hbg.alloc _, ((Below.refl _ _).drew.trans (hb3.mono (Nat.le_refl _))).alloc hb3.size _⟩
  case rest =>
    obtain ⟨gc, gx, cap, rfl, rfl, hne, hgc, hgx, hbc, hbx, hB3⟩ := hcut
    have hlen := heightsL_len n.pipes hln.1
    have hbd := heights_bd hok
    have hbI := BlkI.of hblk
    have hlt2 := hblk.lt
    have hcl := Lib.hid (show climbsL n.pipes = (clF (heightsL n.pipes) (n.pipes.drop 1) [0] [(heightsL n.pipes).getD 0 0]).1 from rfl)
    generalize heightsL n.pipes = hs at *
    generalize hN : n.pipes.length = N at *
    have hz4 := hB3.size
    clear hblk
    have hT : Blk wc w1.heap.size 111 #[.int .i64 n.pump, .slice A N c] := ((Blk.new w1 _ _).below hb2 (by simp)).below hB3 (by omega)
    have t0 : wc.cell? ⟨w1.heap.size, 0, none⟩ = some (.int .i64 n.pump) := by rw [hT.cell]; rfl
    have t1 : wc.cell? ⟨w1.heap.size, 1, none⟩ = some (.slice A N c) := by rw [hT.cell]; rfl
    go_wp2_with fail
    go_loopw [32] (fun i wr => ∃ k : Nat, k ≤ N - 1 ∧ i = .int .i64 k ∧ BlkI wr gc (row N 0 (clF hs ((n.pipes.drop 1).take k) [0] [hs.getD 0 0]).1) ∧ BlkI wr gx ((clF hs ((n.pipes.drop 1).take k) [0] [hs.getD 0 0]).2 ++ hs.drop (k + 1)) ∧ Below w2.heap.size w2 wr) (fun i _ => N - 1 - (intOf i).toNat)
    case atStart => exact ⟨0, by omega, rfl, by simpa [clF, row_one hln.1] using hbc, by show BlkI wc gx ([hs.getD 0 0] ++ hs.drop 1); rw [drop_one (show 1 ≤ hs.length by omega)]; exact hbx, hB3⟩
    case round =>
      obtain ⟨k, hk, rfl, hc0, hx0, hBw⟩ := hrel
      have hln' : (clF hs ((n.pipes.drop 1).take k) [0] [hs.getD 0 0]).1.length = k + 1 ∧ (clF hs ((n.pipes.drop 1).take k) [0] [hs.getD 0 0]).2.length = k + 1 := by
        have := clF_len hs ((n.pipes.drop 1).take k) [0] [hs.getD 0 0]
        simp only [List.length_take, List.length_drop, List.length_cons, List.length_nil] at this; omega
      have hbb := clF_bound hs 600000 (by omega) hbd ((n.pipes.drop 1).take k) [0] [hs.getD 0 0] (by simp) (by simp only [List.mem_singleton]; rintro x rfl; exact getD_bound (by omega) hbd 0)
      by_cases hlt : k < N - 1
      · have hk1 : k < (n.pipes.drop 1).length := by rw [List.length_drop]; omega
        have hzr : w2.heap.size ≤ wr.heap.size := hBw.size
        have hsn := clF_snoc hs ((n.pipes.drop 1).take k) (n.pipes.drop 1)[k] [0] [hs.getD 0 0]
        rw [← take_snoc _ k hk1, hln'.1] at hsn
        obtain ⟨b, off, rfl, hb1, hb2', c0, c1, c2, c3, c4⟩ := RdP.at_ ((hRt.below hB2 hhi).below hBw (by omega)) hk1
        have hxi : n.pipes[k + 1]? = some (n.pipes.drop 1)[k] := by
          have h := List.getElem?_eq_getElem hk1
          rw [List.getElem?_drop, Nat.add_comm] at h
          exact h
        obtain ⟨p0, p1, p2, p3⟩ := ho k _ hxi
        clear hxi
        generalize (n.pipes.drop 1)[k] = x at *
        generalize (clF hs ((n.pipes.drop 1).take k) [0] [hs.getD 0 0]).1 = cl at *
        generalize (clF hs ((n.pipes.drop 1).take k) [0] [hs.getD 0 0]).2 = hg at *
        have p4 : x.parent < (N : Int) := by omega
        have p5 : (k : Int) + 1 < N := by omega
        have p6 : (k : Int) + 1 < N := by omega
        have hlc := hln'.1
        have hlh := hln'.2
        have g0 := hc0.at_ (i := x.parent.toNat) (x := cl.getD x.parent.toNat 0) (by rw [row_get (by omega)]; exact some_getD (by omega))
        have g1 := hc0.at_ (row_next (n := N) (d := 0) (l := cl) (by omega))
        rw [hlc] at g1
        have g2 := hc0.frozen (k + 1)
        have g3 := hx0.at_ (i := x.parent.toNat) (x := hg.getD x.parent.toNat 0) (by rw [List.getElem?_append_left (by omega)]; exact some_getD (by omega))
        have g4 := hx0.at_ (i := k + 1) (x := hs.getD (k + 1) 0) (by rw [List.getElem?_append_right (by omega), hlh, Nat.sub_self, List.getElem?_drop]; exact some_getD (by omega))
        have g5 := hx0.frozen (k + 1)
        have g6 := (hbI.below hBw (by omega)).at_ (i := k + 1) (x := hs.getD (k + 1) 0) (some_getD (by omega))
        have hsetc := row_set (n := N) (d := (0 : Int)) (x := max (cl.getD x.parent.toNat 0) (hg.getD x.parent.toNat 0 - hs.getD (k + 1) 0)) (l := cl) (by omega)
        have hsetx := set_mid (hs := hs) hlh (show k + 1 < hs.length by omega) (max (hg.getD x.parent.toNat 0) (hs.getD (k + 1) 0))
        rw [hlc] at hsetc
        have b0 : 0 ≤ cl.getD x.parent.toNat 0 ∧ cl.getD x.parent.toNat 0 ≤ 1200000 := hbb.1 _ (List.mem_of_getElem? (some_getD (by omega)))
        have b1 := getD_bound (by omega) hbb.2 x.parent.toNat
        have b2 := getD_bound (by omega) hbd (k + 1)
        obtain ⟨b00, b01⟩ := b0; obtain ⟨b10, b11⟩ := b1; obtain ⟨b20, b21⟩ := b2
        generalize cl.getD x.parent.toNat 0 = cp at *
        generalize hg.getD x.parent.toNat 0 = hp at *
        generalize hs.getD (k + 1) 0 = hv at *
        have gcl : gc < wr.heap.size := hc0.lt
        have gxl : gx < wr.heap.size := hx0.lt
        have ghl : w1.heap.size + 1 + 1 < wr.heap.size := by omega
        obtain ⟨l0, l1, l2, l3, l4, l5⟩ := lt6 (show gc < wr.heap.size by omega)
        obtain ⟨m0, m1, m2, m3, m4, m5⟩ := lt6 (show gx < wr.heap.size by omega)
        have hne1 : ¬ gx = gc := fun h => hne h.symm
        have hne2 : ¬ w1.heap.size + 1 + 1 = gc := by omega
        have hne3 : ¬ w1.heap.size + 1 + 1 = gx := by omega
        have hne4 : ¬ gc = w1.heap.size + 1 + 1 := by omega
        have hne5 : ¬ gc = gx := hne
        have fin : ∀ a c : Int, a = max cp (hp - hv) → c = max hp hv → ∀ o W, W = (((wr.setCell ⟨gc, k + 1, none⟩ (.int .i64 a)).setCell ⟨gx, k + 1, none⟩ (.int .i64 c)).alloc o) →
            BlkI W gc (row N 0 (clF hs ((n.pipes.drop 1).take (k + 1)) [0] [hs.getD 0 0]).1) ∧ BlkI W gx ((clF hs ((n.pipes.drop 1).take (k + 1)) [0] [hs.getD 0 0]).2 ++ hs.drop (k + 1 + 1)) ∧ Below w2.heap.size w2 W := by
          intro a c ha hc' o W hW
          subst hW
          rw [hsn]
          simp only
          rw [← ha] at hsetc ⊢
          rw [← hc'] at hsetx ⊢
          rw [← hsetc, ← hsetx]
          exact ⟨((hc0.set_ (k + 1) a).far hne _).alloc _, ((hx0.far (p := ⟨gc, k + 1, none⟩) hne1 _).set_ (k + 1) c).alloc _, ((hBw.setCell (by simp only; omega) _).setCell (by simp only; omega) _).alloc (by simp [World.setCell]; omega) _⟩
        have FIN := Lib.hid fin
        clear fin hsetc hsetx hsn hne hcl
        rcases Int.lt_or_le cp (hp - hv) with q1 | q1 <;> rcases Int.lt_or_le hp hv with q2 | q2
        · exfalso; omega
        all_goals
          go_wp2_with fail
          go_region
          go_wp2_with fail
          go_region
          go_wp2_with fail
        all_goals
          refine ⟨⟨k + 1, by omega, by go_num, BlkI.drew (BlkI.drew (FIN.out _ _ ?_ ?_ _ _ rfl).1), BlkI.drew (BlkI.drew (FIN.out _ _ ?_ ?_ _ _ rfl).2.1), Below.drew (Below.drew (FIN.out _ _ ?_ ?_ _ _ rfl).2.2)⟩, by simp [intOf]; omega⟩ <;> omega
      · obtain rfl : k = N - 1 := by omega
        rw [List.take_of_length_le (by rw [List.length_drop]; omega)] at hc0 hln'
        go_wp2_with fail
        go_ret2
        rw [row_full (by omega)] at hc0
        exact ⟨by rw [hcl.out]; exact RetI.mk (base := w.heap.size) rfl (by omega) (Nat.le_refl _) (hc0.rdI (by omega) hc0.lt), hB2.trans (hBw.mono (by omega))⟩
end Go.Proofs.Ytepibjfmeibgcaa
