/- An abstract walk: stores, new blocks, lists that are made and grow. No program is in sight here. -/
import Derived.Test.YtepibjfmeibgcaaA5
import Derived.BigFrame
namespace Go.Proofs.Ytepibjfmeibgcaa
open Go.RowKit
set_option linter.unusedVariables false
theorem look_one {α : Type} {i k : Nat} {x y : α} (h : look k [(i, x)] = some y) : k = i ∧ y = x := by
  unfold look at h
  split at h
  · rename_i hb; cases h; exact ⟨(Nat.eq_of_beq_eq_true hb).symm, rfl⟩
  · cases h
theorem look_two {α : Type} {i j k : Nat} {x y : α} {z : α} (h : look k [(i, x), (j, y)] = some z) : (k = i ∧ z = x) ∨ (k = j ∧ z = y ∧ k ≠ i) := by
  unfold look at h
  split at h
  · rename_i hb; cases h; exact .inl ⟨(Nat.eq_of_beq_eq_true hb).symm, rfl⟩
  · rename_i hb
    obtain ⟨h1, h2⟩ := look_one h
    refine .inr ⟨h1, h2, fun e => ?_⟩
    subst e
    simp at hb
section
variable {P : Program} {o : Oper} {a : Act} {ν : Nat → Value} {sup : Nat → Nat → Prop} {w w' : World} {cn : Nat → Option Cn}
/-- Something new, in new memory, or in memory that is read already. -/
theorem Chg.new1 (m : MW cn ν sup w) {i : Nat} {c : Cn} {u : Value} {s : Nat → Prop} (hi : cn i = none) (hu : u.oneCell' = true) (hf : Fr (fun _ => False) w w') (hc : c.holds (upd ν i u) w' s u)
    (hs : ∀ b, s b → b < w.heap.size ∧ ∃ id0 c0, cn id0 = some c0 ∧ sup id0 b) (ho : c.owned = true → ∀ b, blkOf u = some b → w.heap.size ≤ b) :
    Chg cn [(i, some c)] ν sup w (upd ν i u) (upd sup i s) w' where
  one := fun id => by
    unfold upd; split
    · exact hu
    · exact m.one id
  rest := fun id hm => by
    have : id ≠ i := fun e => hm (by simp [e])
    exact ⟨upd_ne _ _ this, upd_ne _ _ this⟩
  same := fun id hm c hc => by
    have : id = i := by simpa using hm
    rw [this, hi] at hc; cases hc
  fr := hf.mono fun _ _ h => h.elim
  cont := fun id c' hl => by
    obtain ⟨rfl, e⟩ := look_one hl
    cases e
    rw [upd_self, upd_self]; exact hc
  sup := fun id c' hl b hb => by
    obtain ⟨rfl, e⟩ := look_one hl
    cases e
    rw [upd_self] at hb
    obtain ⟨h1, h2⟩ := hs b hb
    refine ⟨Nat.lt_of_lt_of_le h1 hf.size, .inr (.inl h2), fun id2 c2 hl2 ho2 hb2 => ?_⟩
    obtain ⟨rfl, e⟩ := look_one hl2
    cases e
    rw [upd_self] at hb2
    have := ho ho2 b hb2
    omega
  own := fun id c' hl ho' b hb => by
    obtain ⟨rfl, e⟩ := look_one hl
    cases e
    rw [upd_self] at hb
    exact .inl (ho ho' b hb)
  apart := fun id c' hl ho' id2 c2 hl2 ho2 hne => by
    obtain ⟨e1, e⟩ := look_one hl
    obtain ⟨e2, e⟩ := look_one hl2
    exact absurd (e1.trans e2.symm) hne
/-- Something of one's own turns. -/
theorem Chg.mod1 (m : MW cn ν sup w) {i : Nat} {c c' : Cn} (hi : cn i = some c) (ho : c.owned = true) (hf : Fr (fun k => blkOf (ν i) = some k) w w') (hc : c'.holds ν w' (sup i) (ν i)) : Chg cn [(i, some c')] ν sup w ν sup w' where
  one := m.one
  rest := fun id hm => ⟨rfl, rfl⟩
  same := fun id hm c hc => rfl
  fr := hf.mono fun k _ h => ⟨i, c, by simp, hi, ho, h⟩
  cont := fun id c2 hl => by
    obtain ⟨rfl, e⟩ := look_one hl
    cases e; exact hc
  sup := fun id c2 hl b hb => by
    obtain ⟨rfl, e⟩ := look_one hl
    refine ⟨Nat.lt_of_lt_of_le (m.supLt id c hi b hb) hf.size, .inr (.inl ⟨id, c, hi, hb⟩), fun id2 c3 hl2 ho2 hb2 => ?_⟩
    obtain ⟨rfl, e⟩ := look_one hl2
    exact m.ownSup id2 c hi ho id2 c hi b hb2 hb
  own := fun id c2 hl ho2 b hb => by
    obtain ⟨rfl, e⟩ := look_one hl
    exact .inr ⟨id, c, by simp, hi, ho, hb⟩
  apart := fun id c2 hl ho' id2 c3 hl2 ho2 hne => by
    obtain ⟨e1, e⟩ := look_one hl
    obtain ⟨e2, e⟩ := look_one hl2
    exact absurd (e1.trans e2.symm) hne
/-- Something of one's own goes over into something new. -/
theorem Chg.app (m : MW cn ν sup w) {id i : Nat} {c0 c : Cn} {u : Value} {s : Nat → Prop} (hid : cn id = some c0) (ho0 : c0.owned = true) (hi : cn i = none) (hu : u.oneCell' = true) (hf : Fr (fun k => blkOf (ν id) = some k) w w') (hc : c.holds (upd ν i u) w' s u)
    (hs : ∀ b, s b → b < w.heap.size ∧ ∃ id0 c0, cn id0 = some c0 ∧ sup id0 b) (ho : c.owned = true → ∀ b, blkOf u = some b → w.heap.size ≤ b ∨ blkOf (ν id) = some b) :
    Chg cn [(id, none), (i, some c)] ν sup w (upd ν i u) (upd sup i s) w' := by
  have hne : id ≠ i := fun e => by rw [e, hi] at hid; cases hid
  exact
    { one := fun id => by
        unfold upd; split
        · exact hu
        · exact m.one id
      rest := fun x hm => by
        have : x ≠ i := fun e => hm (by simp [e])
        exact ⟨upd_ne _ _ this, upd_ne _ _ this⟩
      same := fun x hm c hc => by
        have : x ≠ i := fun e => by rw [e, hi] at hc; cases hc
        exact upd_ne _ _ this
      fr := hf.mono fun k _ h => ⟨id, c0, by simp, hid, ho0, h⟩
      cont := fun x c' hl => by
        rcases look_two hl with ⟨rfl, e⟩ | ⟨rfl, e, _⟩
        · cases e
        · cases e
          rw [upd_self, upd_self]; exact hc
      sup := fun x c' hl b hb => by
        rcases look_two hl with ⟨rfl, e⟩ | ⟨rfl, e, _⟩
        · cases e
        · cases e
          rw [upd_self] at hb
          obtain ⟨h1, h2⟩ := hs b hb
          refine ⟨Nat.lt_of_lt_of_le h1 hf.size, .inr (.inl h2), fun id2 c2 hl2 ho2 hb2 => ?_⟩
          rcases look_two hl2 with ⟨rfl, e⟩ | ⟨rfl, e, _⟩
          · cases e
          · cases e
            rw [upd_self] at hb2
            rcases ho ho2 b hb2 with h3 | h3
            · omega
            · obtain ⟨id0, c1, h4, h5⟩ := h2
              exact m.ownSup id c0 hid ho0 id0 c1 h4 b h3 h5
      own := fun x c' hl ho' b hb => by
        rcases look_two hl with ⟨rfl, e⟩ | ⟨rfl, e, _⟩
        · cases e
        · cases e
          rw [upd_self] at hb
          rcases ho ho' b hb with h3 | h3
          · exact .inl h3
          · exact .inr ⟨id, c0, by simp, hid, ho0, h3⟩
      apart := fun x c' hl ho' id2 c2 hl2 ho2 hne => by
        rcases look_two hl with ⟨e1, e⟩ | ⟨e1, e, _⟩
        · cases e
        · rcases look_two hl2 with ⟨e2, e⟩ | ⟨e2, e, _⟩
          · cases e
          · exact absurd (e1.trans e2.symm) hne }
theorem map2 {x y : Operand} {u v : SV} {ν : Nat → Value} {a : Act} (h : [x, y].map a.eval = [u, v].map (SV.val ν)) : a.eval x = u.val ν ∧ a.eval y = v.val ν := by simpa using h
theorem PV.cells_val {y : PV} {ν : Nat → Value} : (y.val ν).cells = (y.cells.map (LV.val ν)).toArray ∨ ∃ l, y = .one l := by
  cases y with
  | one l => exact .inr ⟨l, rfl⟩
  | agg ls => exact .inl rfl
theorem one_cells {v : Value} (h : v.oneCell' = true) : v.cells = #[v] := by cases v <;> first | rfl | cases h
theorem PV.cells_ok {y : PV} {ν : Nat → Value} (h1 : ∀ id, (ν id).oneCell' = true) (h : y.cells.all lvOk = true) : (y.val ν).cells = (y.cells.map (LV.val ν)).toArray := by
  cases y with
  | one l =>
    have : lvOk l = true := by simpa [PV.cells] using h
    simp only [PV.val, PV.cells, List.map_cons, List.map_nil]
    rw [one_cells (LV.one_of h1 this)]
  | agg ls => rfl
theorem dvs_spec : ∀ {ls : List LV} {ds : List DV}, dvs ls = some ds → ∃ vs : List Value, ls = vs.map LV.v ∧ ds = vs.map DV.v ∧ ∀ v ∈ vs, v.oneCell' = true := by
  intro ls
  induction ls with
  | nil => intro ds h; cases h; exact ⟨[], rfl, rfl, fun v h => (by cases h)⟩
  | cons l ls ih =>
    intro ds h
    cases l with
    | v x =>
      unfold dvs at h
      split at h
      · rename_i ds' h1 h2
        cases h
        obtain ⟨vs, rfl, rfl, hv⟩ := ih h2
        refine ⟨x :: vs, rfl, rfl, fun v hm => ?_⟩
        rcases List.mem_cons.1 hm with rfl | hm
        · exact h1
        · exact hv v hm
      · cases h
    | ref id off => cases h
    | el id k size j => cases h
    | ls id => cases h
    | fnc f caps => cases h
theorem Fr.setRow (w : World) (g : Nat) (cur : Array Value) : Fr (fun k => some g = some k) w (w.setRow g cur) :=
  ⟨rfl, rfl, rfl, by simp, fun k hk hn => setRow_other w g k _ (fun e => hn (by rw [e]))⟩
theorem does_store {t : TypeId} {x y : Operand} (ho : o.op = .store t x y) {r : Orc} {xs : List SV} {cs : List (Option Cn)} {ε : Eff} (h : effStore P t r xs cs = some ε) (hx : [x, y].map a.eval = xs.map (SV.val ν))
    (m : MW (cnOf (need0 o.op r xs) cs) ν sup w) (hvc : AllP ε.vc) : Does P o a ν sup w (cnOf (need0 o.op r xs) cs) ε := by
  unfold effStore at h
  rw [ho] at m ⊢
  split at h
  · rename_i id off y' ty ls
    have hcn : cnOf (need0 (.store t x y) r [.p (.one (.ref id off)), .p y']) [some (.blk ty ls)] id = some (.blk ty ls) := cnOf_one
    have hc := m.cont id _ hcn
    obtain ⟨hx1, hx2⟩ := map2 hx
    split at h
    · rename_i mm hs
      split at h
      · rename_i hb hj hok
        cases h
        have hlen := Nat.eq_of_beq_eq_true hb
        have hle := Nat.le_of_ble_eq_true hj
        obtain ⟨b, e, hg⟩ := hc
        have hcells : (a.eval y).cells = (y'.cells.map (LV.val ν)).toArray := by rw [hx2]; exact PV.cells_ok m.one hok
        have hx' : a.eval x = .pointer (some ⟨b, off, none⟩) := by rw [hx1]; simp only [SV.val, PV.val, LV.val, e, Nat.zero_add]
        have h1 : ∀ v ∈ y'.cells.map (LV.val ν), v.oneCell' = true := fun v hv => by
          obtain ⟨l, hl, rfl⟩ := List.mem_map.1 hv
          exact LV.one_of m.one (List.all_eq_true.1 hok l hl)
        have hrun := run_storeCells_at P b off ty (y'.cells.map (LV.val ν)) 0 _ w hg (by simp; omega) h1
        refine ⟨ν, sup, w.setRow b ((ls.take off ++ (y'.cells ++ ls.drop (off + mm))).map (LV.val ν)).toArray, Chg.mod1 m hcn rfl ((Fr.setRow w b _).mono fun k _ hk => ?_) ?_, .inr ⟨?_, rfl⟩⟩
        · rw [e]; exact hk
        · exact ⟨b, e, setRow_heap w b _ _ ty _ hg⟩
        · unfold execOp
          rw [ho]
          simp only [hx', Instr.storeAt, Instr.sureAddr, storeVar, Sem.run_bind, Sem.run_pure, Result.andThen_ok, hcells, sizeT_run hs]
          simp only [List.size_toArray, List.length_map, hlen, ne_eq, not_true_eq_false, if_false, hrun, Result.andThen_ok, Sem.run_pure]
          congr 2
          simp only [Nat.add_zero, List.map_append, List.map_take, List.map_drop, List.length_map, hlen, List.append_assoc]
      · cases h
    · cases h
  · rename_i id k size j y' ty size' n el
    have hcn : cnOf (need0 (.store t x y) r [.p (.one (.el id k size j)), .p y']) [some (.vec ty size' n el)] id = some (.vec ty size' n el) := cnOf_one
    have hc := m.cont id _ hcn
    obtain ⟨hx1, hx2⟩ := map2 hx
    split at h
    · rename_i mm ds i0 n0 el' hs hds
      split at h
      · rename_i hb hb2 hj
        cases h
        obtain ⟨hk, hst⟩ : k < n ∧ StoreOk size n el k j ds el' := hvc
        obtain rfl := Nat.eq_of_beq_eq_true hb2
        have hlen := Nat.eq_of_beq_eq_true hb
        have hle := Nat.le_of_ble_eq_true hj
        obtain ⟨vs, hvs, rfl, hv1⟩ := dvs_spec hds
        rw [List.length_map] at hlen
        have hcells : (a.eval y).cells = vs.toArray := by
          rw [hx2]
          have hok : y'.cells.all lvOk = true := by
            rw [hvs, List.all_map, List.all_eq_true]
            exact fun v hv => hv1 v hv
          have := PV.cells_ok (y := y') m.one hok
          simp only [SV.val]
          rw [this, hvs, List.map_map]
          congr 1
          exact (List.map_congr_left (g := _root_.id) (fun v _ => rfl)).trans (List.map_id _)
        obtain ⟨flat, h0, hrow, hcell⟩ := hc
        rcases hrow.2 with ⟨_, rfl⟩ | ⟨g, cap, cur, e, hbb, hg, hnc, hcm, hcs, htake⟩
        · omega
        · have hx' : a.eval x = .pointer (some ⟨g, k * size + j, none⟩) := by rw [hx1]; simp only [SV.val, PV.val, LV.val, e, Nat.zero_add]
          have hkn : (k + 1) * size ≤ n * size := Nat.mul_le_mul_right _ hk
          have hnc' : n * size ≤ cap * size := Nat.mul_le_mul_right _ hnc
          rw [Nat.succ_mul] at hkn
          have hrun := run_storeCells_at P g (k * size + j) ty vs 0 cur w hg (by omega) hv1
          have hl1 : flat.length = n * size := hrow.1
          refine ⟨ν, sup, w.setRow g (cur.toList.take (k * size + j + 0) ++ vs ++ cur.toList.drop (k * size + j + 0 + vs.length)).toArray, Chg.mod1 m hcn rfl ((Fr.setRow w g _).mono fun k _ hk => ?_) ?_, .inr ⟨?_, rfl⟩⟩
          · rw [e]; exact hk
          · refine ⟨flat.take (k * size + j) ++ (vs ++ flat.drop (k * size + j + vs.length)), h0, ⟨by simp; omega, .inr ⟨g, cap, _, e, Nat.zero_le _, setRow_heap w g cur _ ty _ hg, hnc, hcm, by simp; omega, ?_⟩⟩, fun i hi q hq => ?_⟩
            · apply List.ext_getElem?
              intro z
              rw [← htake]
              simp only [Nat.add_zero, List.getElem?_take, List.getElem?_append, List.getElem?_drop, List.length_append, List.length_take, Array.length_toList]
              by_cases hz : z < n * size
              · rw [if_pos hz]
                by_cases h2 : z < k * size + j
                · rw [if_pos (by omega), if_pos (by omega), if_pos (by omega), if_pos (by omega)]
                  split <;> first | rfl | omega
                · by_cases h3 : z < k * size + j + vs.length
                  · rw [if_pos (by omega), if_neg (by omega), if_neg (by omega), if_pos (by omega)]
                    congr 1; omega
                  · rw [if_neg (by omega), if_neg (by omega), if_neg (by omega), if_pos (by omega)]
                    congr 1; omega
              · rw [if_neg hz, if_neg (by omega), if_neg (by omega), if_neg (by omega)]
            · have hqi : (i + 1) * size ≤ n * size := Nat.mul_le_mul_right _ hi
              rw [Nat.succ_mul] at hqi
              rw [hst i hi q hq]
              by_cases hik : i = k ∧ j ≤ q ∧ q < j + (vs.map DV.v).length
              · rw [if_pos hik]
                obtain ⟨rfl, h2, h3⟩ := hik
                rw [List.length_map] at h3
                refine ⟨vs[q - j]'(by omega), ?_, ?_⟩
                · rw [List.getElem?_append_right (by simp; omega), List.getElem?_append_left (by simp; omega), List.length_take, hl1, List.getElem?_eq_getElem (by omega)]
                  congr 2; omega
                · rw [List.getD_eq_getElem?_getD, List.getElem?_map, List.getElem?_eq_getElem (by omega)]
                  exact ⟨rfl, hv1 _ (List.getElem_mem _)⟩
              · rw [if_neg hik]
                obtain ⟨u, hu, hr⟩ := hcell i hi q hq
                refine ⟨u, ?_, DV.rep_keep (fun b hb => setRow_other w g b _ (fun eb => m.ownSup id _ hcn rfl id _ hcn g (by rw [e]; rfl) (eb ▸ hb))) (fun _ h => h) hr⟩
                rw [List.length_map] at hik
                rw [← hu]
                have hcase : i * size + q < k * size + j ∨ k * size + j + vs.length ≤ i * size + q := by
                  rcases Nat.lt_trichotomy i k with hlt | rfl | hgt
                  · have : (i + 1) * size ≤ k * size := Nat.mul_le_mul_right _ hlt
                    rw [Nat.succ_mul] at this
                    omega
                  · omega
                  · have : (k + 1) * size ≤ i * size := Nat.mul_le_mul_right _ hgt
                    rw [Nat.succ_mul] at this
                    omega
                rcases hcase with hlt | hge
                · rw [List.getElem?_append_left (by simp; omega), List.getElem?_take, if_pos hlt]
                · rw [List.getElem?_append_right (by simp; omega), List.getElem?_append_right (by simp; omega), List.getElem?_drop]
                  congr 1; simp; omega
          · unfold execOp
            rw [ho]
            simp only [hx', Instr.storeAt, Instr.sureAddr, storeVar, Sem.run_bind, Sem.run_pure, Result.andThen_ok, hcells, sizeT_run hs]
            simp only [List.size_toArray, hlen, ne_eq, not_true_eq_false, if_false, hrun, Result.andThen_ok, Sem.run_pure]
      · cases h
    · cases h
  · cases h
end
end Go.Proofs.Ytepibjfmeibgcaa
/- An abstract walk: new blocks, lists that are made and grow. No program is in sight here. -/
namespace Go.Proofs.Ytepibjfmeibgcaa
open Go.RowKit
set_option linter.unusedVariables false
section
variable {P : Program} {o : Oper} {a : Act} {ν : Nat → Value} {sup : Nat → Nat → Prop} {w w' : World} {cn : Nat → Option Cn}
theorem map_upd {ls : List LV} {i : Nat} {u : Value} (h : ls.all (LV.noId i) = true) : ls.map (LV.val (upd ν i u)) = ls.map (LV.val ν) :=
  List.map_congr_left fun l hl => LV.val_congr fun id hid => upd_ne _ _ fun e => by
    subst e
    rw [List.all_eq_true.1 h l hl] at hid
    cases hid
theorem PV.cells_noId {y : PV} {i : Nat} (h : y.noId i = true) : y.cells.all (LV.noId i) = true := by
  cases y with
  | one l => simp only [PV.cells, List.all_cons, List.all_nil, Bool.and_true]; exact h
  | agg ls => exact h
/-- A new block. -/
theorem Chg.newBlk (m : MW cn ν sup w) {i : Nat} (hi : cn i = none) {t : TypeId} {ls : List LV} (hn : ls.all (LV.noId i) = true) : Chg cn [(i, some (.blk t ls))] ν sup w (upd ν i (.pointer (some ⟨w.heap.size, 0, none⟩))) (upd sup i fun _ => False) (w.alloc (.cells (ls.map (LV.val ν)).toArray t)) :=
  Chg.new1 m hi rfl (Fr.alloc w _ _) ⟨w.heap.size, rfl, by rw [map_upd hn]; exact heap_alloc_new w _⟩ (fun b h => h.elim) (fun _ b hb => by cases hb; exact Nat.le_refl _)
theorem does_box {t : TypeId} {x : Operand} (ho : o.op = .box t x) {r : Orc} {xs : List SV} {ε : Eff} (h : effBox t r xs = some ε) (hx : [x].map a.eval = xs.map (SV.val ν))
    (m : MW cn ν sup w) (hn : ∀ i, i ∈ ε.wr.map (·.1) → cn i = none ∧ ∀ y, y ∈ xs → y.noId i = true) : Does P o a ν sup w cn ε := by
  unfold effBox at h
  split at h
  · rename_i y i
    split at h
    · rename_i hok
      cases h
      obtain ⟨h1, h2⟩ := hn i (by simp)
      have hcells : (a.eval x).cells = (y.cells.map (LV.val ν)).toArray := by rw [map1 hx]; exact PV.cells_ok m.one hok
      refine ⟨_, _, _, Chg.newBlk m h1 (PV.cells_noId (h2 (.p y) (by simp))), .inl ?_⟩
      unfold execOp
      rw [ho]
      simp [Instr.box, newVar, newRow, hcells, SV.val, PV.val, LV.val, upd_self]
    · cases h
  · cases h
theorem does_alloc {t : TypeId} (ho : o.op = .alloc t) {r : Orc} {ε : Eff} (h : effAlloc P t r = some ε) (m : MW cn ν sup w) (hn : ∀ i, i ∈ ε.wr.map (·.1) → cn i = none) : Does P o a ν sup w cn ε := by
  unfold effAlloc at h
  split at h
  · rename_i f i hf
    split at h
    · rename_i z hz
      cases h
      have h2 : (z.cells.toList.map LV.v).map (LV.val ν) = z.cells.toList := by
        rw [List.map_map]
        exact (List.map_congr_left (g := _root_.id) (fun v _ => rfl)).trans (List.map_id _)
      have hc := Chg.newBlk (t := t) (ls := z.cells.toList.map LV.v) m (hn i (by simp)) (by simp [LV.noId])
      rw [h2] at hc
      refine ⟨_, _, _, hc, .inl ?_⟩
      unfold execOp
      rw [ho]
      simp [Instr.alloc, zeroValue, typeInfo, hf, hz, newVar, newRow, SV.val, PV.val, LV.val, upd_self]
    · cases h
  · cases h
/-- Filling cells. -/
theorem fill_go (off : Nat) : ∀ (vs : List Value) (k : Nat) (cells : Array Value), off + k + vs.length ≤ cells.size →
    (vs.zipIdx k).foldl (fun cs (p : Value × Nat) => cs.setIfInBounds (off + p.2) p.1) cells = (cells.toList.take (off + k) ++ (vs ++ cells.toList.drop (off + k + vs.length))).toArray := by
  intro vs
  induction vs with
  | nil => intro k cells _; simp
  | cons v vs ih =>
    intro k cells h
    simp only [List.length_cons] at h
    rw [List.zipIdx_cons, List.foldl_cons, ih (k + 1) _ (by simp; omega)]
    congr 1
    simp only [Array.toList_setIfInBounds, List.length_cons]
    apply List.ext_getElem?
    intro z
    have hm : min (off + k) cells.size = off + k := by omega
    have hm2 : min (off + (k + 1)) cells.size = off + (k + 1) := by omega
    simp only [List.getElem?_append, List.getElem?_take, List.getElem?_drop, List.length_take, List.length_set, List.getElem?_set, Array.length_toList, List.length_cons, hm, hm2]
    by_cases h1 : z < off + k
    · simp only [show z < off + (k + 1) by omega, show ¬ off + k = z by omega, h1, if_true, if_false]
    · by_cases h2 : z = off + k
      · subst h2
        simp only [show off + k < off + (k + 1) by omega, show off + k < cells.size by omega, Nat.lt_irrefl, if_true, if_false, Nat.sub_self, show 0 < vs.length + 1 by omega, List.getElem?_cons_zero]
      · by_cases h3 : z < off + k + (vs.length + 1)
        · obtain ⟨q, hq⟩ : ∃ q, z - (off + k) = q + 1 := ⟨z - (off + k) - 1, by omega⟩
          simp only [show ¬ z < off + (k + 1) by omega, h1, if_false, hq, show q + 1 < vs.length + 1 by omega, show z - (off + (k + 1)) < vs.length by omega, if_true, List.getElem?_cons_succ]
          congr 1; omega
        · simp only [show ¬ z < off + (k + 1) by omega, h1, if_false, show ¬ z - (off + k) < vs.length + 1 by omega, show ¬ z - (off + (k + 1)) < vs.length by omega, show ¬ off + k = off + (k + 1) + vs.length + (z - (off + (k + 1)) - vs.length) by omega]
          congr 1; omega
theorem fillL_sound {place : Nat → Option (Nat × Nat)} {ν : Nat → Value} (h1 : ∀ id, (ν id).oneCell' = true) : ∀ {parts : List (Nat × PV)} {cells ls : List LV}, (∀ p ∈ parts, p.2.cells.all lvOk = true) → fillL place cells parts = some ls →
    Instr.fill place (cells.map (LV.val ν)).toArray (parts.map fun p => (p.1, p.2.val ν)) = some (ls.map (LV.val ν)).toArray := by
  intro parts
  induction parts with
  | nil => intro cells ls _ h; cases h; rfl
  | cons p parts ih =>
    intro cells ls hok h
    obtain ⟨i, y⟩ := p
    unfold fillL at h
    split at h
    · rename_i off size hp
      split at h
      · rename_i hb hl
        have hs := Nat.eq_of_beq_eq_true hb
        have hle := Nat.le_of_ble_eq_true hl
        have hy := PV.cells_ok (y := y) h1 (hok _ (List.mem_cons_self))
        have := ih (fun p hm => hok p (List.mem_cons_of_mem _ hm)) h
        simp only [List.map_cons, Instr.fill, hp, hy]
        rw [if_neg (by simp; omega)]
        rw [← this]
        congr 1
        have hz := fill_go off (y.cells.map (LV.val ν)) 0 (cells.map (LV.val ν)).toArray (by simp; omega)
        rw [← Array.foldl_toList, Array.toList_zipIdx]
        simp only [Nat.add_zero, List.length_map, hs] at hz ⊢
        rw [hz]
        simp
      · cases h
    · cases h
theorem pvs_sound {ν : Nat → Value} : ∀ {xs : List SV} {ys : List PV}, pvs xs = some ys → xs.map (SV.val ν) = ys.map (PV.val ν) ∧ ∀ y ∈ ys, y.cells.all lvOk = true := by
  intro xs
  induction xs with
  | nil => intro ys h; cases h; exact ⟨rfl, fun y h => (by cases h)⟩
  | cons x xs ih =>
    intro ys h
    cases x with
    | p x =>
      unfold pvs at h
      split at h
      · rename_i ys' h1 h2
        cases h
        obtain ⟨h3, h4⟩ := ih h2
        refine ⟨by rw [List.map_cons, List.map_cons, h3]; rfl, fun y hm => ?_⟩
        rcases List.mem_cons.1 hm with rfl | hm
        · exact h1
        · exact h4 y hm
      · cases h
    | tup l => cases h
end
end Go.Proofs.Ytepibjfmeibgcaa
/- An abstract walk: builds, lists that grow, parts of lists. No program is in sight here. -/
namespace Go.Proofs.Ytepibjfmeibgcaa
open Go.RowKit
set_option linter.unusedVariables false
section
variable {P : Program} {o : Oper} {a : Act} {ν : Nat → Value} {sup : Nat → Nat → Prop} {w w' : World} {cn : Nat → Option Cn}
theorem placesOf_eq : ∀ {fs : List Field} {ps : List (Nat × Nat)}, placesOf P fs = some ps → fs.mapM (fun f => (P.info? f.type).map fun i => (f.offset, i.size)) = some ps := by
  intro fs
  induction fs with
  | nil => intro ps h; cases h; rfl
  | cons f fs ih =>
    intro ps h
    unfold placesOf at h
    split at h
    · rename_i m ps' h1 h2
      cases h
      unfold sizeT at h1
      split at h1
      · rename_i i hi
        cases h1
        simp [List.mapM_cons, hi, ih h2]
      · cases h1
    · cases h
theorem zip_parts {parts : List (Nat × Operand)} {ys : List PV} (h : parts.map (fun p => a.eval p.2) = ys.map (PV.val ν)) : parts.map (fun p => (p.1, a.eval p.2)) = ((parts.map (·.1)).zip ys).map fun p => (p.1, p.2.val ν) := by
  induction parts generalizing ys with
  | nil => cases ys with
    | nil => rfl
    | cons y ys => simp at h
  | cons p parts ih =>
    cases ys with
    | nil => simp at h
    | cons y ys =>
      simp only [List.map_cons, List.cons.injEq] at h
      simp only [List.map_cons, List.zip_cons_cons, List.cons.injEq, ih h.2, h.1, and_self]
theorem cells_map (z : Value) : (z.cells.toList.map LV.v).map (LV.val ν) = z.cells.toList := by
  rw [List.map_map]
  exact (List.map_congr_left (g := _root_.id) (fun v _ => rfl)).trans (List.map_id _)
theorem does_build {t : TypeId} {ps : Array (Nat × Operand)} (ho : o.op = .build t ps) {xs : List SV} {ε : Eff} (h : effBuild P t ps xs = some ε) (hx : ps.toList.map (fun p => a.eval p.2) = xs.map (SV.val ν)) (h1 : ∀ id, (ν id).oneCell' = true) : Does P o a ν sup w cn ε := by
  unfold effBuild at h
  split at h
  · rename_i inf ys hinf hys
    obtain ⟨h2, h3⟩ := pvs_sound (ν := ν) hys
    rw [h2] at hx
    have hzip := zip_parts hx
    have hlist : (ps.map fun (i, x) => (i, a.eval x)).toList = ((ps.toList.map (·.1)).zip ys).map fun p => (p.1, p.2.val ν) := by rw [← hzip]; simp
    have hok : ∀ p ∈ (ps.toList.map (·.1)).zip ys, p.2.cells.all lvOk = true := fun p hp => h3 _ (List.of_mem_zip hp).2
    split at h
    · rename_i z hz
      have hzero : (zeroValue t).run P w = .ok z w := by simp [zeroValue, typeInfo, hinf, hz]
      split at h
      · rename_i fs hu
        split at h
        · rename_i pl hpl
          split at h
          · rename_i ls hf
            cases h
            refine Does.plain h1 ?_
            have hfill := fillL_sound h1 hok hf
            rw [cells_map, Array.toArray_toList] at hfill
            unfold OpVal execOp
            rw [ho]
            have hpp := run_places (P := P) w fs.toList pl (placesOf_eq hpl)
            simp only [Instr.build, Sem.run_bind, hzero, Result.andThen_ok, run_underlying hu, Array.mapM_eq_mapM_toList, Sem.run_pure]
            have hpp' : (fs.toList.mapM fun f => (do pure (f.offset, ← sizeOf f.type) : Sem (Nat × Nat))).run P w = .ok pl w := by
              have e : (fun f : Field => (do pure (f.offset, ← sizeOf f.type) : Sem (Nat × Nat))) = fun f => Prod.mk f.offset <$> sizeOf f.type := by
                funext f; simp
              rw [e]; exact hpp
            simp only [map_eq_pure_bind, Sem.run_bind, hpp', Result.andThen_ok, Sem.run_pure]
            rw [hlist]
            have e2 : (fun (i : Nat) => pl.toArray[i]?) = fun (i : Nat) => pl[i]? := by funext i; simp
            rw [e2, hfill]
            rfl
          · cases h
        · cases h
      · rename_i len e hu
        split at h
        · rename_i mm hs
          split at h
          · rename_i ls hf
            cases h
            refine Does.plain h1 ?_
            have hfill := fillL_sound h1 hok hf
            rw [cells_map, Array.toArray_toList] at hfill
            unfold OpVal execOp
            rw [ho]
            simp only [Instr.build, Sem.run_bind, hzero, Result.andThen_ok, run_underlying hu, Sem.run_pure, sizeT_run hs]
            rw [hlist, hfill]
            rfl
          · cases h
        · cases h
      · cases h
    · cases h
  · cases h
theorem rep_len {α : Type} (l : List α) : ∀ n, (rep n l).length = n * l.length := by
  intro n
  induction n with
  | zero => simp [rep]
  | succ n ih => unfold rep; rw [List.length_append, ih, Nat.succ_mul, Nat.add_comm]
theorem rep_get {α : Type} (l : List α) (hl : 0 < l.length) : ∀ (n i : Nat), i < n * l.length → (rep n l)[i]? = l[i % l.length]? := by
  intro n
  induction n with
  | zero => intro i h; omega
  | succ n ih =>
    intro i h
    unfold rep
    rw [Nat.succ_mul] at h
    by_cases hi : i < l.length
    · rw [List.getElem?_append_left hi, Nat.mod_eq_of_lt hi]
    · rw [List.getElem?_append_right (by omega), ih _ (by omega)]
      congr 1
      exact (Nat.mod_eq_sub_mod (by omega)).symm
theorem zeros_eq (z : Array Value) (n : Nat) (hz : 0 < z.size) : (Array.range (n * z.size)).map (fun i => z[i % z.size]!) = ((rep n (z.toList.map LV.v)).map (LV.val ν)).toArray := by
  apply Array.ext'
  simp only [Array.toList_map, Array.toList_range]
  apply List.ext_getElem?
  intro i
  have hlen := rep_len (z.toList.map LV.v) n
  have hzl : z.toList.length = z.size := Array.length_toList
  rw [List.length_map, hzl] at hlen
  by_cases hi : i < n * z.size
  · rw [List.getElem?_map, List.getElem?_range hi, List.getElem?_map, rep_get _ (by simpa using hz) n i (by simpa using hi)]
    have hm : i % z.size < z.size := Nat.mod_lt _ hz
    simp [hm, getElem!_pos]
    rfl
  · rw [List.getElem?_eq_none (by simp; omega), List.getElem?_eq_none (by rw [List.length_map, hlen]; omega)]
/-- A new list of plain cells. -/
theorem holds_newVec {e : TypeId} {m n : Nat} {vs : List Value} {el : Nat → Nat → DV} {ν2 : Nat → Value} {s : Nat → Prop} (hv : ∀ v ∈ vs, v.oneCell' = true) (hl : vs.length = n * (m + 1)) (hn : n ≤ maxLen) (hel : ∀ i, i < n → ∀ j, j < m + 1 → el i j = (vs.map DV.v).getD (i * (m + 1) + j) default) :
    (Cn.vec e (m + 1) n el).holds ν2 (w.alloc (.cells vs.toArray e)) s (.slice (some ⟨w.heap.size, 0, none⟩) n n) := by
  refine ⟨vs, by omega, ⟨hl, .inr ⟨w.heap.size, n, vs.toArray, rfl, Nat.zero_le _, heap_alloc_new w _, Nat.le_refl _, hn, by simpa using hl, ?_⟩⟩, fun i hi j hj => ?_⟩
  · rw [← hl]; simp
  · have : (i + 1) * (m + 1) ≤ n * (m + 1) := Nat.mul_le_mul_right _ hi
    rw [Nat.succ_mul] at this
    have hlt : i * (m + 1) + j < vs.length := by omega
    refine ⟨vs[i * (m + 1) + j], List.getElem?_eq_getElem hlt, ?_⟩
    rw [hel i hi j hj, List.getD_eq_getElem?_getD, List.getElem?_map, List.getElem?_eq_getElem hlt]
    exact ⟨rfl, hv _ (List.getElem_mem _)⟩
theorem does_buildSlice {t : TypeId} {len : Nat} {ps : Array (Nat × Operand)} (ho : o.op = .buildSlice t len ps) {r : Orc} {xs : List SV} {ε : Eff} (h : effBuildSlice P t len ps r xs = some ε) (hx : ps.toList.map (fun p => a.eval p.2) = xs.map (SV.val ν))
    (m : MW cn ν sup w) (hn : ∀ i, i ∈ ε.wr.map (·.1) → cn i = none) : Does P o a ν sup w cn ε := by
  unfold effBuildSlice at h
  split at h
  · rename_i e ys i hu hys
    obtain ⟨h2, h3⟩ := pvs_sound (ν := ν) hys
    rw [h2] at hx
    have hzip := zip_parts hx
    have hlist : (ps.map fun (i, x) => (i, a.eval x)).toList = ((ps.toList.map (·.1)).zip ys).map fun p => (p.1, p.2.val ν) := by rw [← hzip]; simp
    have hok : ∀ p ∈ (ps.toList.map (·.1)).zip ys, p.2.cells.all lvOk = true := fun p hp => h3 _ (List.of_mem_zip hp).2
    split at h
    · rename_i inf hinf
      split at h
      · rename_i z mm hz hsz
        split at h
        · rename_i ls hb hle hf
          split at h
          · rename_i ds hds
            cases h
            have hzs := Nat.eq_of_beq_eq_true hb
            have hsmall := Nat.le_of_ble_eq_true hle
            obtain ⟨vs, rfl, rfl, hv1⟩ := dvs_spec hds
            have hfill := fillL_sound m.one hok hf
            have hz0 := zeros_eq (ν := ν) z.cells len (by omega)
            rw [hzs] at hz0
            rw [← hz0, ← hlist] at hfill
            have hvs : (vs.map LV.v).map (LV.val ν) = vs := by
              rw [List.map_map]
              exact (List.map_congr_left (g := _root_.id) (fun v _ => rfl)).trans (List.map_id _)
            rw [hvs] at hfill
            have hlen : vs.length = len * (mm + 1) := by
              have : ∀ (parts : List (Nat × PV)) (cells ls : List LV), fillL (fun i => some (i * (mm + 1), mm + 1)) cells parts = some ls → ls.length = cells.length := by
                intro parts
                induction parts with
                | nil => intro cells ls h; cases h; rfl
                | cons p parts ih =>
                  intro cells ls h
                  obtain ⟨i, y⟩ := p
                  unfold fillL at h
                  simp only [] at h
                  split at h
                  · rename_i h4 h5
                    have h4 := Nat.eq_of_beq_eq_true h4
                    have h5 := Nat.le_of_ble_eq_true h5
                    rw [ih _ _ h]; simp; omega
                  · cases h
              have h6 := this _ _ _ hf
              have hzl : z.cells.toList.length = z.cells.size := Array.length_toList
              rw [List.length_map, rep_len, List.length_map, hzl, hzs] at h6
              exact h6
            have hnl : len ≤ 10000 := by
              have : len * 1 ≤ len * (mm + 1) := Nat.mul_le_mul_left _ (by omega)
              omega
            refine ⟨_, _, _, Chg.new1 (w' := w.alloc (.cells vs.toArray e)) (u := .slice (some ⟨w.heap.size, 0, none⟩) len len) (s := fun _ => False) m (hn i (by simp)) rfl (Fr.alloc w _ _) (holds_newVec hv1 hlen (by unfold maxLen; omega) (fun i _ j _ => rfl)) (fun b h => h.elim) (fun _ b hb => by cases hb; exact Nat.le_refl _), .inl ?_⟩
            unfold execOp
            rw [ho]
            have hsize : (sizeOf e).run P w = .ok (mm + 1) w := by simp [sizeOf, typeInfo, hinf, hsz]
            have hzero : (zeroValue e).run P w = .ok z w := by simp [zeroValue, typeInfo, hinf, hz]
            simp only [Instr.buildSlice, Sem.run_bind, run_underlying hu, Result.andThen_ok, hsize]
            rw [if_neg (show ¬ len * (mm + 1) > 2 ^ 24 by have : (2 : Nat) ^ 24 = 16777216 := rfl; omega)]
            by_cases h0 : len * (mm + 1) = 0
            · rw [if_pos h0]
              have hl0 : vs = [] := List.eq_nil_of_length_eq_zero (by omega)
              subst hl0
              have hA : (Array.range (len * (mm + 1))).map (fun i => (#[] : Array Value)[i % (#[] : Array Value).size]!) = (Array.range (len * (mm + 1))).map (fun i => z.cells[i % (mm + 1)]!) := by rw [h0]; simp
              simp only [Sem.run_pure, Result.andThen_ok, Sem.run_bind]
              rw [hA, hfill]
              simp [SV.val, PV.val, LV.val, upd_self, newRow, newObj]
              rfl
            · rw [if_neg h0]
              simp only [Sem.run_bind, hzero, Sem.run_pure, Result.andThen_ok, hzs]
              rw [hfill]
              simp [SV.val, PV.val, LV.val, upd_self, newRow, newObj]
              rfl
          · cases h
        · cases h
      · cases h
    · cases h
  · cases h
end
end Go.Proofs.Ytepibjfmeibgcaa
/- An abstract walk: lists that are made, grow, and are cut. No program is in sight here. -/
namespace Go.Proofs.Ytepibjfmeibgcaa
open Go.RowKit
set_option linter.unusedVariables false
section
variable {P : Program} {o : Oper} {a : Act} {ν : Nat → Value} {sup : Nat → Nat → Prop} {w w' : World} {cn : Nat → Option Cn}
theorem does_makeSlice {t : TypeId} {x y : Operand} (ho : o.op = .makeSlice t x y) {r : Orc} {xs : List SV} {ε : Eff} (h : effMakeSlice P t r xs = some ε) (hx : [x, y].map a.eval = xs.map (SV.val ν))
    (m : MW cn ν sup w) (hn : ∀ i, i ∈ ε.wr.map (·.1) → cn i = none) (hvc : AllP ε.vc) : Does P o a ν sup w cn ε := by
  unfold effMakeSlice at h
  split at h
  · rename_i e l c i n el hu
    split at h
    · rename_i inf hinf
      split at h
      · rename_i z mm hz hsz
        split at h
        · rename_i ds hb hds
          cases h
          obtain ⟨hl, hc, hbytes, hbig, hel⟩ : l = (n : Int) ∧ c = (n : Int) ∧ n * inf.bytes ≤ 100000000 ∧ n ≤ 100000000 ∧ ∀ i, i < n → ∀ j, j < mm + 1 → el i j = ds.getD j default := hvc
          subst hl hc
          obtain ⟨hx1, hx2⟩ := map2 hx
          have hzs := Nat.eq_of_beq_eq_true hb
          obtain ⟨vs, hvs, rfl, hv1⟩ := dvs_spec hds
          have hzv : z.cells.toList = vs := by
            have := congrArg (List.map (LV.val ν)) hvs
            rw [cells_map, List.map_map] at this
            rw [this]
            exact (List.map_congr_left (g := _root_.id) (fun v _ => rfl)).trans (List.map_id _)
          have hzl : z.cells.toList.length = z.cells.size := Array.length_toList
          have hlen : vs.length = mm + 1 := by rw [← hzv, hzl, hzs]
          have hbI : (inf.bytes : Int) * (n : Int) ≤ 281474976710656 := by
            have h : ((n * inf.bytes : Nat) : Int) ≤ 281474976710656 := by omega
            rwa [Int.natCast_mul, Int.mul_comm] at h
          have hrun := run_make (P := P) w t e inf z hu hinf hz .i64 .i64 n n (by omega) (by omega) hbI (by omega)
          have hmade : madeCells z.cells ((n : Int).toNat * inf.size) = (rep n vs).toArray := by
            have := zeros_eq (ν := ν) z.cells n (by omega)
            rw [hzs] at this
            rw [hsz, Int.toNat_natCast]
            unfold madeCells
            rw [hzs, this, hzv]
            congr 1
            have hid : ∀ k (l : List Value), (rep k (l.map LV.v)).map (LV.val ν) = rep k l := by
              intro k l
              induction k with
              | zero => rfl
              | succ k ih =>
                unfold rep
                rw [List.map_append, ih, List.map_map]
                congr 1
                exact (List.map_congr_left (g := _root_.id) (fun v _ => rfl)).trans (List.map_id _)
            exact hid n vs
          rw [hmade] at hrun
          have hrl : (rep n vs).length = n * (mm + 1) := by rw [rep_len, hlen]
          have hmem : ∀ k v, v ∈ rep k vs → v ∈ vs := by
            intro k
            induction k with
            | zero => intro v hv; cases hv
            | succ k ih =>
              intro v hv
              unfold rep at hv
              rcases List.mem_append.1 hv with h | h
              · exact h
              · exact ih v h
          refine ⟨_, _, _, Chg.new1 (w' := w.alloc (.cells (rep n vs).toArray e)) (u := .slice (some ⟨w.heap.size, 0, none⟩) n n) (s := fun _ => False) m (hn i (by simp)) rfl (Fr.alloc w _ _) (holds_newVec (fun v hv => hv1 v (hmem n v hv)) hrl (by unfold maxLen; omega) (fun i hi j hj => ?_)) (fun b h => h.elim) (fun _ b hb => by cases hb; exact Nat.le_refl _), .inl ?_⟩
          · rw [hel i hi j hj]
            have h9 : (i + 1) * (mm + 1) ≤ n * (mm + 1) := Nat.mul_le_mul_right _ hi
            rw [Nat.succ_mul] at h9
            rw [List.getD_eq_getElem?_getD, List.getD_eq_getElem?_getD, List.getElem?_map, List.getElem?_map, rep_get vs (by omega) n _ (by rw [hlen]; omega), hlen, Nat.mul_comm i, Nat.mul_add_mod, Nat.mod_eq_of_lt hj]
          · unfold execOp
            rw [ho]
            have e1 : a.eval x = .int .i64 (n : Int) := hx1
            have e2 : a.eval y = .int .i64 (n : Int) := hx2
            simp only [e1, e2, Sem.run_bind, hrun, Result.andThen_ok, Sem.run_pure, SV.val, PV.val, LV.val, upd_self, Int.toNat_natCast]
        · cases h
      · cases h
    · cases h
  · cases h
theorem row_slice {w : World} {b0 size n : Nat} {e : TypeId} {v : Value} {xs : List Value} (h : w.ownsRow b0 e size v n xs) : (v = .slice none 0 0 ∧ n = 0 ∧ xs = []) ∨ ∃ g cap, v = .slice (some ⟨g, 0, none⟩) n cap := by
  rcases h.2 with ⟨h1, h2⟩ | ⟨g, cap, cur, h1, _⟩
  · exact .inl ⟨h1, h2, List.eq_nil_of_length_eq_zero (by rw [h.1, h2, Nat.zero_mul])⟩
  · exact .inr ⟨g, cap, h1⟩
/-- append onto an own list; what is new lies where the list lay, or in a new block. -/
theorem append_own2 (w : World) (t ty e : TypeId) (i : TypeInfo) (z : Value) (size bytes : Nat) (ht : P.underlying t = some (.slice e)) (hi : P.info? e = some i) (hz : i.zero = some z)
    (hsize : i.size = size) (hby : i.bytes = bytes) (hzs : z.cells.size = size) (hsz : 0 < size) (v : Value) (n : Nat) (xs : List Value) (hown : w.ownsRow 0 e size v n xs)
    (A : Option Addr) (m c : Nat) (news : List Value) (hl : news.length = m * size) (hA : A = none → m = 0) (hnews : ∀ ad, A = some ad → ∀ j u, news[j]? = some u → w.cell? (ad.add j) = some u) (h1 : ∀ u ∈ news, u.oneCell' = true)
    (h63 : n + m ≤ maxLen) (hbytes : (n + m) * bytes ≤ 140737488355328) :
    ∃ v' w', (Builtin.append_ #[t, t] ty #[v, .slice A m c]).run P w = .ok v' w' ∧ w'.ownsRow 0 e size v' (n + m) (xs ++ news) ∧ w.grownBy w' v.ownBlock ∧ ∀ b, blkOf v' = some b → w.heap.size ≤ b ∨ blkOf v = some b := by
  cases A with
  | none =>
    have h0 := hA rfl
    subst h0
    have hn : news = [] := List.eq_nil_of_length_eq_zero (by rw [hl, Nat.zero_mul])
    subst hn
    refine ⟨v, w, ?_, by simpa using hown, World.grownBy.refl w _, fun b hb => .inr hb⟩
    rcases hown.2 with ⟨rfl, rfl⟩ | ⟨g, cap, cur, rfl, _, _, hnc, _⟩
    · simp [Builtin.append_, run_underlying ht, sizeOf, typeInfo, hi, Builtin.lenOf, Builtin.firstCells]
    · simp [Builtin.append_, run_underlying ht, sizeOf, typeInfo, hi, Builtin.lenOf, Builtin.firstCells, hnc, storeCells]
  | some ad =>
    have hnews' := hnews ad rfl
    obtain ⟨v', w', hrun, ho2, hg2, hiff⟩ := run_append_own (P := P) w 0 t ty e i z size bytes ht hi hz hsize hby hzs hsz v n xs hown ad m c news hl hnews' h1 h63 hbytes (Nat.zero_le _)
    refine ⟨v', w', hrun, ho2, hg2, ?_⟩
    subst hsize hby
    have hsmall : n + m ≤ 9223372036854775807 := by unfold maxLen at h63; omega
    rcases hown.2 with ⟨rfl, rfl⟩ | ⟨g, cap, cur, rfl, hbg, hg, hnc, hcm, hcs, htake⟩
    · by_cases hm : m = 0
      · have := hiff.2 ⟨rfl, hm⟩
        subst this
        intro b hb; cases hb
      · have hr := run_append_nil (P := P) w t ty e i z ht hi hz ad m c news hl hnews' (by omega) (by omega) (by simp only [Nat.zero_add] at hbytes; omega)
        rw [hrun] at hr
        cases hr
        intro b hb
        cases hb
        exact .inl (Nat.le_refl _)
    · by_cases hroom : n + m ≤ cap
      · have hfit : n * i.size + news.length ≤ cur.size := by rw [hl, hcs, ← Nat.add_mul]; exact Nat.mul_le_mul_right _ hroom
        have hr := run_append_room (P := P) w t ty e i ht hi g n cap cur hg ad m c news hl hnews' h1 hroom hfit
        rw [hrun] at hr
        cases hr
        intro b hb
        exact .inr hb
      · have holds : ∀ j u, xs[j]? = some u → w.cell? ((⟨g, 0, none⟩ : Addr).add j) = some u := hown.cells (g := g) rfl
        have hr := run_append_grow (P := P) w t ty e i z ht hi hz ⟨g, 0, none⟩ n cap xs hown.1 holds ad m c news hl hnews' (by omega) (by omega) (growslice_fits (by omega) hbytes)
        rw [hrun] at hr
        cases hr
        intro b hb
        cases hb
        exact .inl (Nat.le_refl _)
/-- The cells of a list, one behind the other. -/
theorem lst_flat {sup0 : Nat → Prop} {c : Cn} {u : Value} {size m : Nat} {el : Nat → Nat → DV} (h : c.holds ν w sup0 u) (hl : c.lst = some (size, m, el)) (hs : 0 < size) : ∃ (A : Option Addr) (cap : Nat) (news : List Value), u = .slice A m cap ∧ (A = none → m = 0) ∧ news.length = m * size ∧ (∀ ad, A = some ad → ∀ j x, news[j]? = some x → w.cell? (ad.add j) = some x) ∧ (∀ x ∈ news, x.oneCell' = true) ∧ ∀ i, i < m → ∀ j, j < size → ∃ x, news[i * size + j]? = some x ∧ (el i j).rep w sup0 x := by
  obtain ⟨A, cap, e, hmc, hc⟩ := Cn.lst_cells h hl
  by_cases hm : m = 0
  · subst hm
    exact ⟨A, cap, [], e, fun _ => rfl, by simp, fun _ _ j x hx => by simp at hx, fun x hx => by simp at hx, fun i hi => by omega⟩
  · obtain ⟨b, off, rfl, hcell⟩ := hc (by omega)
    have hdm : ∀ z, z < m * size → z / size < m ∧ z % size < size ∧ z / size * size + z % size = z := fun z hz =>
      ⟨Nat.div_lt_of_lt_mul (by rw [Nat.mul_comm]; exact hz), Nat.mod_lt _ hs, Nat.div_add_mod' z size⟩
    have hex : ∀ z, ∃ x, z < m * size → w.cell? ⟨b, off + z, none⟩ = some x ∧ (el (z / size) (z % size)).rep w sup0 x := fun z => by
      by_cases hz : z < m * size
      · obtain ⟨h1, h2, h3⟩ := hdm z hz
        obtain ⟨x, hx, hr⟩ := hcell _ h1 _ h2
        exact ⟨x, fun _ => ⟨by rw [← h3, ← Nat.add_assoc]; exact hx, hr⟩⟩
      · exact ⟨undef, fun h => absurd h hz⟩
    obtain ⟨f, hf⟩ := Classical.axiomOfChoice hex
    have hget : ∀ z x, ((List.range (m * size)).map f)[z]? = some x → z < m * size ∧ x = f z := fun z x hx => by
      rw [List.getElem?_map] at hx
      by_cases hz : z < m * size
      · rw [List.getElem?_range hz] at hx
        cases hx
        exact ⟨hz, rfl⟩
      · rw [List.getElem?_eq_none (by simpa using hz)] at hx; cases hx
    refine ⟨_, cap, (List.range (m * size)).map f, e, (fun h => by cases h), (by simp), fun ad had j x hx => ?_, fun x hx => ?_, fun i hi j hj => ?_⟩
    · cases had
      obtain ⟨hz, rfl⟩ := hget j x hx
      rw [addr_add]
      exact (hf j hz).1
    · obtain ⟨z, hz, rfl⟩ := List.mem_map.1 hx
      exact DV.rep_one (hf z (List.mem_range.1 hz)).2
    · have h9 : (i + 1) * size ≤ m * size := Nat.mul_le_mul_right _ hi
      rw [Nat.succ_mul] at h9
      have hz : i * size + j < m * size := by omega
      refine ⟨f (i * size + j), by rw [List.getElem?_map, List.getElem?_range hz]; rfl, ?_⟩
      have := (hf _ hz).2
      rw [show (i * size + j) / size = i by rw [Nat.mul_comm, Nat.mul_add_div hs, Nat.div_eq_of_lt hj, Nat.add_zero], show (i * size + j) % size = j by rw [Nat.mul_comm, Nat.mul_add_mod, Nat.mod_eq_of_lt hj]] at this
      exact this
theorem grown_rep {row : Option Nat} {sup0 s : Nat → Prop} (hg : w.grownBy w' row) (hlt : ∀ b, sup0 b → b < w.heap.size) (hne : ∀ b, sup0 b → row ≠ some b) (hs : ∀ b, sup0 b → s b) {d : DV} {x : Value} (h : d.rep w sup0 x) : d.rep w' s x :=
  DV.rep_keep (fun b hb => hg.block b (hlt b hb) fun e => hne b hb e.symm) hs h
/-- Cells behind cells. -/
theorem holds_app {u' : Value} {e : TypeId} {size n m n' : Nat} {el el2 el' : Nat → Nat → DV} {xs news : List Value} {s : Nat → Prop} {ν2 : Nat → Value} (h0 : 0 < size) (ho : w'.ownsRow 0 e size u' (n + m) (xs ++ news)) (hxl : xs.length = n * size) (hok : AppOk size n m el el2 n' el')
    (h1 : ∀ i, i < n → ∀ j, j < size → ∃ x, xs[i * size + j]? = some x ∧ (el i j).rep w' s x) (h2 : ∀ i, i < m → ∀ j, j < size → ∃ x, news[i * size + j]? = some x ∧ (el2 i j).rep w' s x) : (Cn.vec e size n' el').holds ν2 w' s u' := by
  obtain ⟨rfl, h3, h4⟩ := hok
  refine ⟨xs ++ news, h0, ho, fun i hi j hj => ?_⟩
  by_cases hin : i < n
  · obtain ⟨x, hx, hr⟩ := h1 i hin j hj
    have h9 : (i + 1) * size ≤ n * size := Nat.mul_le_mul_right _ hin
    rw [Nat.succ_mul] at h9
    exact ⟨x, by rw [List.getElem?_append_left (by omega)]; exact hx, by rw [h3 i hin j hj]; exact hr⟩
  · obtain ⟨q, rfl⟩ : ∃ q, i = n + q := ⟨i - n, by omega⟩
    obtain ⟨x, hx, hr⟩ := h2 q (by omega) j hj
    refine ⟨x, ?_, by rw [h4 q (by omega) j hj]; exact hr⟩
    rw [List.getElem?_append_right (by rw [hxl, Nat.add_mul]; omega), hxl, Nat.add_mul, show n * size + q * size + j - n * size = q * size + j by omega]
    exact hx
theorem exec_builtin {c : Call} {b : Builtin} (ho : o.op = .call c) (hc : c.callee = .builtin b) (ρ : Operand → Value) : execOp ρ o = builtin b c.argTypes o.type (c.args.map fun | .const _ => true | _ => false) (c.args.map ρ) := by
  obtain ⟨dst, op, type, pos, after, guard⟩ := o
  obtain ⟨callee, args, ats⟩ := c
  simp only at ho hc
  subst ho hc
  exact BigFrame.execOp_builtin ρ dst b args ats type pos after guard
theorem append_exec {t ty : TypeId} {x y : Operand} {c : Call} (ho : o.op = .call c) (hc : c.callee = .builtin .append) (hargs : c.args = #[x, y]) (hat : c.argTypes = #[t, t]) (hty : o.type = ty) {v u v' : Value} (hx : a.eval x = v) (hy : a.eval y = u) (hrun : (Builtin.append_ #[t, t] ty #[v, u]).run P w = .ok v' w') : (execOp a.eval o).run P w = .ok (.value v') w' := by
  rw [exec_builtin ho hc, BigFrame.builtin_append, hargs, hat, hty]
  simp [hx, hy, hrun]
end
end Go.Proofs.Ytepibjfmeibgcaa
/- An abstract walk: append, parts of lists, addresses, numbers. No program is in sight here. -/
namespace Go.Proofs.Ytepibjfmeibgcaa
open Go.RowKit
set_option linter.unusedVariables false
section
variable {P : Program} {o : Oper} {a : Act} {ν : Nat → Value} {sup : Nat → Nat → Prop} {w w' : World} {cn : Nat → Option Cn}
theorem blkOf_own {v : Value} (h : (∃ A n c, v = .slice A n c)) : blkOf v = v.ownBlock := by
  obtain ⟨A, n, c, rfl⟩ := h
  cases A <;> rfl
theorem cnOf_fst {id id2 : Nat} {c c2 : Option Cn} : cnOf [id, id2] [c, c2] id = c := by unfold cnOf; simp [look]
theorem cnOf_snd {id id2 : Nat} {c c2 : Option Cn} (h : Nat.beq id id2 = false) : cnOf [id, id2] [c, c2] id2 = c2 := by
  unfold cnOf
  simp only [List.zip_cons_cons, look, h]
  simp
theorem Cn.lst_own {c : Cn} {u : Value} {sup0 : Nat → Prop} {size n : Nat} {el : Nat → Nat → DV} (h : c.holds ν w sup0 u) (hl : c.lst = some (size, n, el)) : ∃ A cap, u = .slice A n cap := by
  obtain ⟨A, cap, e, _⟩ := Cn.lst_cells h hl; exact ⟨A, cap, e⟩
theorem does_append {c : Call} {x y : Operand} (ho : o.op = .call c) (hc : c.callee = .builtin .append) (hargs : c.args = #[x, y]) {r : Orc} {xs : List SV} {cs : List (Option Cn)} {ε : Eff} (h : effAppend P c.argTypes r xs cs = some ε) (hx : [x, y].map a.eval = xs.map (SV.val ν))
    (m : MW (cnOf (need0 o.op r xs) cs) ν sup w) (hn : ∀ i, i ∈ r.news → i ∉ need0 o.op r xs) (hvc : AllP ε.vc) : Does P o a ν sup w (cnOf (need0 o.op r xs) cs) ε := by
  unfold effAppend at h
  split at h
  · rename_i t t' hats
    split at h
    · rename_i e hb hu
      obtain rfl := Nat.eq_of_beq_eq_true hb
      have hat : c.argTypes = #[t, t] := by rw [← Array.toArray_toList (xs := c.argTypes), hats]
      split at h
      · rename_i inf hinf
        split at h
        · rename_i z hz
          split at h
          · rename_i id id2 e' size n el c2 i n' el'
            split at h
            · rename_i size2 mm el2 hl2
              split at h
              · rename_i g1 g2 g3 g4 g5
                cases h
                obtain rfl := Nat.eq_of_beq_eq_true g1
                obtain rfl := Nat.eq_of_beq_eq_true g3
                have g4 := Nat.eq_of_beq_eq_true g4
                have g5 := Nat.eq_of_beq_eq_true g5
                have hneed : need0 o.op (.lst i n' el') [.p (.one (.ls id)), .p (.one (.ls id2))] = [id, id2] := by rw [ho]; simp only [need0, hc]
                rw [hneed] at m hn ⊢
                obtain ⟨v1, v2, v3⟩ : n + mm ≤ 1000000000000 ∧ (n + mm) * inf.bytes ≤ 140737488355328 ∧ AppOk size n mm el el2 n' el' := hvc
                have hc1 := m.cont id _ cnOf_fst
                have hc2 := m.cont id2 _ (cnOf_snd g2)
                obtain ⟨hx1, hx2⟩ := map2 hx
                obtain ⟨flat, h0, hrow, hcell⟩ := hc1
                obtain ⟨A, cap, news, e2, f1, f2, f3, f4, f5⟩ := lst_flat hc2 hl2 h0
                obtain ⟨v', w', hrun, ho2, hg2, hb2⟩ := append_own2 (P := P) w t o.type e inf z size inf.bytes hu hinf hz g4.symm rfl g5 h0 (ν id) n flat hrow A mm cap news f2 f1 f3 f4 (by unfold maxLen; omega) v2
                have hval : (execOp a.eval o).run P w = .ok (.value v') w' := append_exec ho hc hargs hat rfl hx1 (hx2.trans e2) hrun
                have hsl : ∃ A n c, ν id = .slice A n c := by
                  rcases row_slice hrow with ⟨h, _⟩ | ⟨g, cap, h⟩
                  · exact ⟨_, _, _, h⟩
                  · exact ⟨_, _, _, h⟩
                have hsl' : v'.oneCell' = true := by
                  rcases row_slice ho2 with ⟨h, _⟩ | ⟨g, cap, h⟩ <;> rw [h] <;> rfl
                have howner : ∀ b, blkOf (ν id) = some b → ¬ sup id b ∧ ¬ sup id2 b := fun b hb => ⟨m.ownSup id _ cnOf_fst rfl id _ cnOf_fst b hb, m.ownSup id _ cnOf_fst rfl id2 _ (cnOf_snd g2) b hb⟩
                refine ⟨_, _, w', Chg.app (s := fun b => sup id b ∨ sup id2 b) m cnOf_fst rfl (cnOf_none (hn i (by simp [Orc.news]))) hsl' ((Fr.grown hg2).mono fun k _ hk => ?_) ?_ (fun b hb => ?_) (fun _ b hb => hb2 b hb), .inl ?_⟩
                · rw [blkOf_own hsl]; exact hk
                · refine holds_app h0 ho2 hrow.1 v3 (fun i hi j hj => ?_) (fun i hi j hj => ?_)
                  · obtain ⟨u, hu, hr⟩ := hcell i hi j hj
                    exact ⟨u, hu, grown_rep hg2 (fun b hb => m.supLt id _ cnOf_fst b hb) (fun b hb e => (howner b (by rw [blkOf_own hsl]; exact e)).1 hb) (fun b hb => .inl hb) hr⟩
                  · obtain ⟨u, hu, hr⟩ := f5 i hi j hj
                    exact ⟨u, hu, grown_rep hg2 (fun b hb => m.supLt id2 _ (cnOf_snd g2) b hb) (fun b hb e => (howner b (by rw [blkOf_own hsl]; exact e)).2 hb) (fun b hb => .inr hb) hr⟩
                · rcases hb with hb | hb
                  · exact ⟨m.supLt id _ cnOf_fst b hb, id, _, cnOf_fst, hb⟩
                  · exact ⟨m.supLt id2 _ (cnOf_snd g2) b hb, id2, _, cnOf_snd g2, hb⟩
                · rw [hval]; simp only [SV.val, PV.val, LV.val, upd_self]
              · cases h
            · cases h
          · rename_i id2 c2 i n' el'
            split at h
            · rename_i size2 mm el2 ss hl2 hsz
              split at h
              · rename_i g3 g5
                cases h
                obtain rfl := Nat.eq_of_beq_eq_true g3
                have g5 := Nat.eq_of_beq_eq_true g5
                have hneed : need0 o.op (.lst i n' el') [.p (.one (.v (.slice none 0 0))), .p (.one (.ls id2))] = [id2] := by rw [ho]; simp only [need0, hc]
                rw [hneed] at m hn ⊢
                obtain ⟨v1, v2, v3⟩ : mm ≤ 1000000000000 ∧ mm * inf.bytes ≤ 140737488355328 ∧ AppOk (ss + 1) 0 mm (fun _ _ => default) el2 n' el' := hvc
                have hc2 := m.cont id2 _ cnOf_one
                obtain ⟨hx1, hx2⟩ := map2 hx
                obtain ⟨A, cap, news, e2, f1, f2, f3, f4, f5⟩ := lst_flat hc2 hl2 (by omega)
                obtain ⟨v', w', hrun, ho2, hg2, hb2⟩ := append_own2 (P := P) w t o.type e inf z (ss + 1) inf.bytes hu hinf hz hsz rfl g5 (by omega) (.slice none 0 0) 0 [] (World.ownsRow_nil w 0 e (ss + 1)) A mm cap news f2 f1 f3 f4 (by unfold maxLen; omega) (by rw [Nat.zero_add]; exact v2)
                have hval : (execOp a.eval o).run P w = .ok (.value v') w' := append_exec ho hc hargs hat rfl hx1 (hx2.trans e2) hrun
                have hsl' : v'.oneCell' = true := by
                  rcases row_slice ho2 with ⟨h, _⟩ | ⟨g, cap, h⟩ <;> rw [h] <;> rfl
                refine ⟨_, _, w', Chg.new1 (s := fun b => sup id2 b) m (cnOf_none (hn i (by simp [Orc.news]))) hsl' ((Fr.grown hg2).mono fun k _ hk => by cases hk) ?_ (fun b hb => ⟨m.supLt id2 _ cnOf_one b hb, id2, _, cnOf_one, hb⟩) (fun _ b hb => ?_), .inl ?_⟩
                · refine holds_app (by omega) ho2 (by simp) v3 (fun i hi j hj => by omega) (fun i hi j hj => ?_)
                  obtain ⟨u, hu, hr⟩ := f5 i hi j hj
                  exact ⟨u, hu, grown_rep hg2 (fun b hb => m.supLt id2 _ cnOf_one b hb) (fun b hb e => by cases e) (fun b hb => hb) hr⟩
                · rcases hb2 b hb with h | h
                  · exact h
                  · cases h
                · rw [hval]; simp only [SV.val, PV.val, LV.val, upd_self]
              · cases h
            · cases h
          · cases h
        · cases h
      · cases h
    · cases h
  · cases h
end
end Go.Proofs.Ytepibjfmeibgcaa
