/- An abstract walk: own lists that go into lists of lists; rows of zeros, cut to nothing. No program is in sight here. -/
import Derived.Test.YtbpblhmigijkaaaA28
import Derived.Lib.AppendZeros
namespace Go.Proofs.Ytbpblhmigijkaaa
open Go.RowKit
set_option linter.unusedVariables false
theorem fill1 {base : Array Value} {u1 : Value} (hb : base.size = 1) (c1 : u1.cells = #[u1]) : Instr.fill (fun i => some (i * 1, 1)) base [(0, u1)] = some #[u1] := by
  obtain ⟨l⟩ := base
  simp only [List.size_toArray] at hb
  match l, hb with
  | [p], _ => simp [Instr.fill, c1]
section
variable {P : Program} {t e : TypeId} {x y : Operand} {ty : TypeId}
theorem act_oneV {α : Type} [Inhabited α] {enc : α → List DV} {l1 : List α} {n1 s i1 i : Nat} {e1 : TypeId} {z : Value} (hu : P.underlying t = some (.slice e)) (hs : sizeT P e = some 1) (hz : ∀ w, (zeroValue e).run P w = .ok z w) (hzc : z.cells.size = 1) (h1 : n1 = l1.length) (hi : Nat.beq i i1 = false) :
    ActOK P (.buildSlice t 1 #[(0, x)]) ty [.ls i1] [i1] [some (.vec e1 s n1 (Lst enc l1))] (.ls i) [(i1, none), (i, some (.vec e 1 1 (LstL s enc [l1])))] := fun o a ν sup w ho hty hm hx K Q hK => by
  subst h1
  have hne : i ≠ i1 := fun h => by subst h; simp at hi
  have c1 : cnOf [i1] [some (Cn.vec e1 s l1.length (Lst enc l1))] i1 = some (.vec e1 s l1.length (Lst enc l1)) := cnOf_one
  have hx' : a.eval x = ν i1 := by
    have h3 : [a.eval x] = [ν i1] := hx
    simp only [List.cons.injEq, and_true] at h3
    exact h3
  have r1 := hm.cont i1 _ c1
  obtain ⟨A, cap, e2, hcap, hcell⟩ := Cn.lst_cells r1 rfl
  have o1 := hm.one i1
  have hcc : (ν i1).cells = #[ν i1] := by rw [e2]; rfl
  have hrun : (execOp a.eval o).run P w = .ok (.value (.slice (some ⟨w.heap.size, 0, none⟩) 1 1)) (w.alloc (.cells #[ν i1] e)) := by
    unfold execOp
    rw [ho]
    refine exec_v ?_
    simp only [Instr.buildSlice, Sem.run_bind, run_underlying hu, Result.andThen_ok, sizeT_run hs]
    rw [if_neg (by decide), if_neg (by decide)]
    simp only [Sem.run_bind, hz, Sem.run_pure, Result.andThen_ok, hzc]
    simp only [List.map_toArray, List.map_cons, List.map_nil, hx']
    rw [fill1 (by simp) hcc]
    simp [newRow, newObj]
    rfl
  have keep : ∀ b, b < w.heap.size → (w.alloc (.cells #[ν i1] e)).heap[b]? = w.heap[b]? := fun b hb => Below.heap_alloc _ _ _ hb
  have hblk : ∀ b, blkOf (ν i1) = some b → b < w.heap.size := fun b hb => by
    obtain ⟨flat, h0, hrow, _⟩ := r1
    exact (hrow.lt b (by rw [← blkOf_own ⟨A, _, cap, e2⟩]; exact hb)).2
  have look1 : ∀ id c, look id [(i1, (none : Option Cn)), (i, some (Cn.vec e 1 1 (LstL s enc [l1])))] = some (some c) → id = i ∧ c = .vec e 1 1 (LstL s enc [l1]) := fun id c h => by
    rcases look_two h with ⟨rfl, e⟩ | ⟨rfl, e, _⟩
    · cases e
    · cases e; exact ⟨rfl, rfl⟩
  refine wp_of_value hrun ?_
  have h := hK (upd ν i (.slice (some ⟨w.heap.size, 0, none⟩) 1 1)) (upd sup i fun b => sup i1 b ∨ blkOf (ν i1) = some b) (w.alloc (.cells #[ν i1] e))
    { one := fun id => by
        unfold upd; split
        · rfl
        · exact hm.one id
      rest := fun id hmm => by
        have : id ≠ i := fun e => hmm (by simp [e])
        exact ⟨upd_ne _ _ this, upd_ne _ _ this⟩
      same := fun id hmm c hc => by
        have : id ≠ i := fun e => by rw [e, cnOf_none (by simp [hne])] at hc; cases hc
        exact upd_ne _ _ this
      fr := (Fr.alloc w _ (fun _ => False)).mono fun _ _ h => h.elim
      cont := fun id c hl => by
        obtain ⟨rfl, rfl⟩ := look1 id c hl
        rw [upd_self, upd_self]
        refine ⟨[ν i1], by decide, ⟨rfl, .inr ⟨w.heap.size, 1, #[ν i1], rfl, Nat.zero_le _, heap_alloc_new w _, Nat.le_refl _, by unfold maxLen; omega, rfl, rfl⟩⟩, fun k hk j hj => ?_⟩
        obtain rfl : k = 0 := by omega
        obtain rfl : j = 0 := by omega
        refine ⟨_, rfl, A, cap, e2, hcap, fun hp => ?_⟩
        obtain ⟨b, off, rfl, hc⟩ := hcell hp
        refine ⟨b, off, rfl, .inr (by rw [e2]; rfl), fun k hk j hj => ?_⟩
        obtain ⟨u', g1, g2⟩ := hc k hk j hj
        have hb : b < w.heap.size := hblk b (by rw [e2]; rfl)
        exact ⟨u', (World.cell?_of_block (w := w) (a := ⟨b, off + k * s + j, none⟩) (keep b hb)).trans g1, DV.rep_keep (fun b hb => keep b (hm.supLt i1 _ c1 b hb)) (fun b hb => .inl hb) g2⟩
      sup := fun id c hl b hb => by
        obtain ⟨rfl, rfl⟩ := look1 id c hl
        rw [upd_self] at hb
        have hlt : b < w.heap.size := hb.elim (fun h => hm.supLt i1 _ c1 b h) (hblk b)
        refine ⟨Nat.lt_of_lt_of_le hlt (Fr.alloc w _ (fun _ => False)).size, .inr (hb.elim (fun h => .inl ⟨i1, _, c1, h⟩) fun h => .inr ⟨i1, _, by simp, c1, rfl, h⟩), fun id2 c2 hl2 ho2 hb2 => ?_⟩
        obtain ⟨rfl, rfl⟩ := look1 id2 c2 hl2
        rw [upd_self] at hb2
        cases hb2
        exact Nat.lt_irrefl _ hlt
      own := fun id c hl ho' b hb => by
        obtain ⟨rfl, rfl⟩ := look1 id c hl
        rw [upd_self] at hb
        cases hb
        exact .inl (Nat.le_refl _)
      apart := fun id c hl ho' id2 c2 hl2 ho2 hne' => by
        obtain ⟨q1, _⟩ := look1 id c hl
        obtain ⟨q2, _⟩ := look1 id2 c2 hl2
        exact absurd (q1.trans q2.symm) hne' }
  simpa [SV.val, PV.val, LV.val, upd_self] using h
theorem ix_app1 {α : Type} [Inhabited α] {xs ys : List α} {i : Nat} (h : i < xs.length) : ix (xs ++ ys) i = ix xs i := by
  unfold ix
  rw [List.getD_eq_getElem?_getD, List.getD_eq_getElem?_getD, List.getElem?_append_left h]
theorem ix_app3 {α : Type} [Inhabited α] {xs ys : List α} {i : Nat} : ix (xs ++ ys) (xs.length + i) = ix ys i := by
  unfold ix
  rw [List.getD_eq_getElem?_getD, List.getD_eq_getElem?_getD, List.getElem?_append_right (by omega)]
  congr 2
  omega
theorem app_listL {α : Type} [Inhabited α] {enc : α → List DV} {xs ys : List (List α)} {s n m n' : Nat} (hn : n = xs.length) (hn' : n' = n + m) : AppOk 1 n m (LstL s enc xs) (LstL s enc ys) n' (LstL s enc (xs ++ ys)) := by
  subst hn
  exact ⟨hn', fun i hi j hj => by unfold LstL; rw [ix_app1 hi], fun i hi j hj => by unfold LstL; rw [ix_app3]⟩
theorem app_nilL {α : Type} [Inhabited α] {enc : α → List DV} {ys : List (List α)} {s n' m : Nat} {el : Nat → Nat → DV} (hn' : n' = m) : AppOk 1 0 m el (LstL s enc ys) n' (LstL s enc ys) :=
  ⟨by omega, fun i hi => by omega, fun i hi j hj => by rw [Nat.zero_add]⟩
-- rows of zeros
theorem act_capnil {t : TypeId} (hu : P.underlying t = some (.slice e)) : ActOK P (.call ⟨.builtin .cap, #[x], #[t]⟩) ty [.v (.slice none 0 0)] [] [] (.i 0) [] := fun o a ν sup w ho hty hm hx K Q hK => by
  have hx' : a.eval x = .slice none 0 0 := by
    have h3 : [a.eval x] = [.slice none 0 0] := hx
    simp only [List.cons.injEq, and_true] at h3
    exact h3
  refine wp_of_value (v := .int .i64 0) (w' := w) ?_ (hK ν sup w (Chg.nil hm.one))
  unfold execOp
  rw [ho]
  simp [resolve, invoke, builtin, Builtin.cap_, hx', run_underlying hu, Result.andThen]
  rfl
theorem act_slnil {t : TypeId} (hu : P.underlying t = some (.slice e)) {sz : Nat} (hs : sizeT P e = some sz) : ActOK P (.slice t x none (some y) none) ty [.v (.slice none 0 0), .i 0] [] [] (.v (.slice none 0 0)) [] := fun o a ν sup w ho hty hm hx K Q hK => by
  have hx' : a.eval x = .slice none 0 0 ∧ a.eval y = .int .i64 0 := by
    have h3 : [a.eval x, a.eval y] = [.slice none 0 0, .int .i64 0] := hx
    simp only [List.cons.injEq, and_true] at h3
    exact h3
  have hrun := sliceAt_run (P := P) (A := none) (n := 0) (cap := 0) (lo := 0) (hi := 0) hu hs (l := none) (h := some (.int .i64 0)) (.inl ⟨rfl, rfl⟩) (.inr ⟨_, _, rfl, rfl⟩) (Nat.le_refl 0) (Nat.le_refl 0) (Nat.le_refl 0) w
  refine wp_of_value (v := .slice none 0 0) (w' := w) ?_ (hK ν sup w (Chg.nil hm.one))
  unfold execOp
  rw [ho]
  refine exec_v ?_
  simp only [Option.map_none, Option.map_some, hx'.1, hx'.2]
  exact hrun
theorem act_zeros {t tn : TypeId} {inf : TypeInfo} {z : Value} {kn : IntKind} {k size i : Nat} (hu : P.underlying t = some (.slice e)) (htn : P.underlying tn = some (.int kn)) (hi : P.info? e = some inf) (hz : inf.zero = some z) (hsz : inf.size = size) (hzc : z.cells = (List.replicate size (.int .i64 0)).toArray) (h0 : 0 < size) (hk : 0 < k) (hb : k * inf.bytes ≤ 281474976710656) (hm63 : k ≤ maxLen) :
    ActOK P (.call ⟨.builtin .append, #[x, y], #[t, tn]⟩) ty [.v (.slice none 0 0), .i (k : Int)] [] [] (.ls i) [(i, some (.vec e size k fun _ _ => .v (.int .i64 0)))] := fun o a ν sup w ho hty hm hx K Q hK => by
  have hx' : a.eval x = .slice none 0 0 ∧ a.eval y = .int .i64 (k : Int) := by
    have h3 : [a.eval x, a.eval y] = [.slice none 0 0, .int .i64 (k : Int)] := hx
    simp only [List.cons.injEq, and_true] at h3
    exact h3
  subst hsz
  have hzs : z.cells.size = inf.size := by rw [hzc]; simp
  have hrun := Lib.run_append_nil_zeros (P := P) w t tn o.type e inf z .i64 kn hu htn hi hz k hk h0 (by unfold maxLen at hm63; omega) hb
  refine Lib.wp_append_run w x y t tn ho _ _ hx'.1 hx'.2 _ _ hrun ?_
  have hge := grownCap_ge w k 0 e
  have hcm := grownCap_le_maxLen w k 0 e hm63
  have hzl : ∀ m, (Builtin.zeroCells z.cells m).size = m * inf.size := fun m => by simp [Builtin.zeroCells, hzs]
  have hza : ∀ m j, j < m * inf.size → (Builtin.zeroCells z.cells m)[j]? = some (.int .i64 0) := fun m j hj => by
    have hmod : j % inf.size < inf.size := Nat.mod_lt _ h0
    simp [Builtin.zeroCells, hj, hzc, hmod]
  have h := hK (upd ν i (.slice (some ⟨w.heap.size, 0, none⟩) k (grownCap w k 0 e))) (upd sup i fun _ => False) _ (Chg.new1 (w' := w.drew.alloc (.cells (Builtin.zeroCells z.cells k ++ Builtin.zeroCells z.cells (grownCap w k 0 e - k)) e)) (i := i) (c := .vec e inf.size k fun _ _ => .v (.int .i64 0)) (u := .slice (some ⟨w.heap.size, 0, none⟩) k (grownCap w k 0 e)) (s := fun _ => False) hm rfl rfl ⟨rfl, rfl, rfl, (Fr.alloc w.drew _ (fun _ => False)).size, (Fr.alloc w.drew _ (fun _ => False)).block⟩ ?_ (fun b hb => hb.elim) (fun _ b hb => by cases hb; exact Nat.le_refl _))
  · simpa [SV.val, PV.val, LV.val, upd_self] using h
  · refine ⟨(Builtin.zeroCells z.cells k).toList, h0, ⟨by rw [Array.length_toList, hzl], .inr ⟨w.heap.size, grownCap w k 0 e, _, rfl, Nat.zero_le _, heap_alloc_new w.drew _, hge, hcm, ?_, ?_⟩⟩, fun a ha j hj => ?_⟩
    · rw [Array.size_append, hzl, hzl, ← Nat.add_mul]
      congr 1
      omega
    · rw [Array.toList_append, List.take_left' (by rw [Array.length_toList, hzl])]
    · refine ⟨.int .i64 0, ?_, rfl, rfl⟩
      rw [Array.getElem?_toList]
      refine hza k _ ?_
      have : (a + 1) * inf.size ≤ k * inf.size := Nat.mul_le_mul_right _ ha
      rw [Nat.succ_mul] at this
      omega
def zerosB : List Value → Bool
  | [] => true
  | .int .i64 z :: r => (z == 0) && zerosB r
  | _ => false
theorem zerosB_eq : ∀ {l : List Value}, zerosB l = true → l = List.replicate l.length (.int .i64 0) := by
  intro l
  induction l with
  | nil => intro _; rfl
  | cons v l ih =>
    intro h
    unfold zerosB at h
    split at h
    · rename_i h0; cases h0
    · rename_i z r h0
      cases h0
      rw [Bool.and_eq_true, beq_iff_eq] at h
      obtain ⟨rfl, h2⟩ := h
      rw [List.length_cons, List.replicate_succ, ← ih h2]
    · cases h
def zeroRow (P : Program) (e : TypeId) (size bytes : Nat) : Bool := match P.info? e with
  | some inf => match inf.zero with
    | some z => (Nat.beq inf.size size && Nat.beq inf.bytes bytes) && (Nat.beq z.cells.toList.length size && zerosB z.cells.toList)
    | none => false
  | none => false
theorem act_zeros2 {t tn : TypeId} {kn : IntKind} {k size bytes i : Nat} (hu : P.underlying t = some (.slice e)) (htn : P.underlying tn = some (.int kn)) (hI : zeroRow P e size bytes = true) (h0 : 0 < size) (hk : 0 < k) (hb : k * bytes ≤ 281474976710656) (hm63 : k ≤ maxLen) :
    ActOK P (.call ⟨.builtin .append, #[x, y], #[t, tn]⟩) ty [.v (.slice none 0 0), .i (k : Int)] [] [] (.ls i) [(i, some (.vec e size k fun _ _ => .v (.int .i64 0)))] := by
  unfold zeroRow at hI
  split at hI
  · rename_i inf hi
    split at hI
    · rename_i z hz
      simp only [Bool.and_eq_true] at hI
      obtain ⟨⟨h1, h2⟩, h3, h4⟩ := hI
      have h1 := Nat.eq_of_beq_eq_true h1
      have h2 := Nat.eq_of_beq_eq_true h2
      have h3 := Nat.eq_of_beq_eq_true h3
      have h5 := zerosB_eq h4
      rw [h3] at h5
      exact act_zeros hu htn hi hz h1 (by rw [← h5]) h0 hk (by rw [h2]; exact hb) hm63
    · cases hI
  · cases hI
theorem act_cut0 {t e1 : TypeId} {s n id i : Nat} {el el' : Nat → Nat → DV} {sz : Nat} (hu : P.underlying t = some (.slice e)) (hs : sizeT P e = some sz) (hi : Nat.beq i id = false) : ActOK P (.slice t x none (some y) none) ty [.ls id, .i 0] [id] [some (.vec e1 s n el)] (.ls i) [(id, none), (i, some (.vec e1 s 0 el'))] := fun o a ν sup w ho hty hm hx K Q hK => by
  have hne : i ≠ id := fun h => by subst h; simp at hi
  have hx' : a.eval x = ν id ∧ a.eval y = .int .i64 0 := by
    have h3 : [a.eval x, a.eval y] = [ν id, .int .i64 0] := hx
    simp only [List.cons.injEq, and_true] at h3
    exact h3
  have c1 : cnOf [id] [some (Cn.vec e1 s n el)] id = some (.vec e1 s n el) := cnOf_one
  obtain ⟨flat, h0, hrow, hcell⟩ := hm.cont id _ c1
  have hsl : ∃ A c, ν id = .slice A n c ∧ n ≤ c ∧ ∃ u, u = Value.slice A 0 c ∧ w.ownsRow 0 e1 s u 0 [] ∧ blkOf u = blkOf (ν id) ∧ (if c = 0 then A else A.map (·.add (0 * sz))) = A := by
    obtain ⟨hl, h⟩ := hrow
    rcases h with ⟨h1, h2⟩ | ⟨g, cap, cur, h1, h2, h3, h4, h5, h6, h7⟩
    · subst h2
      exact ⟨none, 0, h1, Nat.le_refl 0, _, rfl, World.ownsRow_nil w 0 e1 s, by rw [h1], rfl⟩
    · refine ⟨_, cap, h1, h4, _, rfl, ⟨by simp, .inr ⟨g, cap, cur, rfl, h2, h3, Nat.zero_le _, h5, h6, by simp⟩⟩, by rw [h1]; rfl, ?_⟩
      split
      · rfl
      · simp [Addr.add]
  obtain ⟨A, c, e2, hnc, u, rfl, how, hbl, hA⟩ := hsl
  have hrun := sliceAt_run (P := P) (A := A) (n := n) (cap := c) (lo := 0) (hi := 0) hu hs (l := none) (h := some (.int .i64 0)) (.inl ⟨rfl, rfl⟩) (.inr ⟨_, _, rfl, rfl⟩) (Nat.le_refl 0) (Nat.zero_le n) hnc w
  rw [hA] at hrun
  refine wp_of_value (v := .slice A 0 c) (w' := w) ?_ ?_
  · unfold execOp
    rw [ho]
    refine exec_v ?_
    simp only [Option.map_none, Option.map_some, hx'.1, hx'.2, e2]
    exact hrun
  · have h := hK (upd ν i (.slice A 0 c)) (upd sup i fun _ => False) w (Chg.app (c := .vec e1 s 0 el') (u := .slice A 0 c) (s := fun _ => False) hm c1 rfl (cnOf_none (by simp [hne])) rfl (Fr.refl _ _) ⟨[], h0, how, fun k hk => absurd hk (by omega)⟩ (fun b hb => hb.elim) (fun _ b hb => .inr (by rw [← hbl]; exact hb)))
    simpa [SV.val, PV.val, LV.val, upd_self] using h
end
theorem Ent.dupCell {S : St} (i id j bt : Nat) (cs : List LV) (k s n : Nat) (el : Nat → Nat → DV) (hc : S.cn i = some (.blk bt cs)) (h : cs[k]? = some (.ls j)) (hj : S.cn j = some (.ro s n el)) (hf : S.fresh id = true) (hne : Nat.beq i id = false) : Ent S (S.mem [(id, some (.ro s n el)), (i, some (.blk bt (cs.set k (.ls id))))]) := fun E a w ⟨ν, sup, g⟩ => by
  have hsem := St.fresh_sem hf
  have hne' : i ≠ id := fun e => by subst e; simp at hne
  let ν' := upd ν id (ν j)
  let sup' := upd sup id (sup j)
  refine ⟨ν', sup', ?_⟩
  have hlook : ∀ {x c}, look x [(id, some (Cn.ro s n el)), (i, some (Cn.blk bt (cs.set k (.ls id))))] = some (some c) → (x = id ∧ c = .ro s n el) ∨ (x = i ∧ c = .blk bt (cs.set k (.ls id)) ∧ x ≠ id) := fun hl => by
    rcases look_two hl with ⟨h1, h2⟩ | ⟨h1, h2, h3⟩
    · cases h2; exact .inl ⟨h1, rfl⟩
    · cases h2; exact .inr ⟨h1, rfl, h3⟩
  have hmap : (cs.set k (.ls id)).map (LV.val ν') = cs.map (LV.val ν) := by
    have hco : cs.map (LV.val ν') = cs.map (LV.val ν) := LV.map_congr fun j hj => upd_ne _ _ fun e => by
      have := hsem.cn i _ hc
      subst e
      simp only [Cn.noId] at this
      rw [this] at hj; cases hj
    rw [List.map_set, hco]
    have hv : LV.val ν' (.ls id) = ν j := upd_self _ _ _
    rw [hv]
    apply List.ext_getElem?
    intro z
    rw [List.getElem?_set]
    by_cases hz : k = z
    · subst hz
      have hlt : k < cs.length := (List.getElem?_eq_some_iff.1 h).1
      rw [if_pos rfl, if_pos (by simpa using hlt), List.getElem?_map, h]
      rfl
    · rw [if_neg hz]
  refine GW.mem g (fun q => ?_) (fun q hq => ?_) (fun q hq => ?_) (Fr.refl _ _) (fun q c hl => ?_) (fun q c hl b hb => ?_) (fun q c hl ho b hb => ?_) (fun q c hl ho q' c' hl' ho' hne2 b hb hb' => ?_)
  · simp only [ν', upd]
    split
    · exact g.one j
    · exact g.one q
  · have h1 : q ≠ id := fun e => hq (by simp [e])
    exact ⟨upd_ne _ _ h1, upd_ne _ _ h1⟩
  · by_cases he : q = id
    · exact .inr (he ▸ hsem)
    · exact .inl (upd_ne _ _ he)
  · rcases hlook hl with ⟨rfl, rfl⟩ | ⟨rfl, rfl, h3⟩
    · simp only [ν', sup', upd_self]
      exact g.cont j _ hj
    · obtain ⟨b, e1, e2⟩ := g.cont q _ hc
      refine ⟨b, by rw [← e1]; exact upd_ne _ _ h3, ?_⟩
      rw [hmap]; exact e2
  · have hown : ∀ j2 c2, look j2 [(id, some (Cn.ro s n el)), (i, some (Cn.blk bt (cs.set k (.ls id))))] = some (some c2) → c2.owned = true → j2 = i ∧ j2 ≠ id := fun j2 c2 hl2 ho2 => by
      rcases hlook hl2 with ⟨rfl, rfl⟩ | ⟨rfl, rfl, h4⟩
      · cases ho2
      · exact ⟨rfl, h4⟩
    rcases hlook hl with ⟨rfl, rfl⟩ | ⟨rfl, rfl, h3⟩
    · have hb2 : sup j b := by simp only [sup', upd_self] at hb; exact hb
      refine ⟨g.supLt j _ hj b hb2, .inr (.inl ⟨j, _, hj, hb2⟩), fun j2 c2 hl2 ho2 hb3 => ?_⟩
      obtain ⟨rfl, h4⟩ := hown j2 c2 hl2 ho2
      simp only [ν', upd_ne _ _ h4] at hb3
      exact g.ownSup _ _ hc rfl _ _ hj b hb3 hb2
    · have hb2 : sup q b := by simp only [sup', upd_ne _ _ h3] at hb; exact hb
      refine ⟨g.supLt q _ hc b hb2, .inr (.inl ⟨q, _, hc, hb2⟩), fun j2 c2 hl2 ho2 hb3 => ?_⟩
      obtain ⟨rfl, h4⟩ := hown j2 c2 hl2 ho2
      simp only [ν', upd_ne _ _ h4] at hb3
      exact g.ownSup _ _ hc rfl _ _ hc b hb3 hb2
  · rcases hlook hl with ⟨rfl, rfl⟩ | ⟨rfl, rfl, h3⟩
    · cases ho
    · simp only [ν', upd_ne _ _ h3] at hb
      exact .inr ⟨q, _, by simp, hc, rfl, hb⟩
  · rcases hlook hl with ⟨rfl, rfl⟩ | ⟨rfl, rfl, h3⟩
    · cases ho
    · rcases hlook hl' with ⟨rfl, rfl⟩ | ⟨rfl, rfl, h4⟩
      · cases ho'
      · exact absurd rfl hne2
theorem lstL_eq {α : Type} [Inhabited α] {enc : α → List DV} {xs ys : List (List α)} {s n z : Nat} (h : xs = ys) : ∀ i, i < n → ∀ j, j < z → LstL s enc xs i j = LstL s enc ys i j := by
  subst h
  exact fun _ _ _ _ => rfl
theorem aw_seqJ {P : Program} {E : Env} {Q : Exit → St → Prop} {S : St} {x y : Code} (T : St) (h1 : AW P E x (thenS (fun S' => Ent S' T) Q) S) (h2 : AW P E y Q T) : AW P E (.seq x y) Q S :=
  aw_seq (aw_mono h1 fun e S' h => by
    cases e with
    | normal => exact aw_ent h h2
    | exit id => exact h
    | goto l => exact h
    | ret => exact h
    | panic ch => exact h
    | outgrown => exact h)
end Go.Proofs.Ytbpblhmigijkaaa
