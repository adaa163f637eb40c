/- An abstract walk: own lists that go into lists of lists; rows of zeros, cut to nothing. No program is in sight here. -/
import Derived.Test.YtbpblhmigijkaaaA28
import Derived.Lib.AppendZeros
namespace Go.Proofs.Ytbpblhmigijkaaa
open Go.RowKit
set_option linter.unusedVariables false
theorem fill1 {base : Array Value} {u1 : Value} (hb : base.size = 1) (c1 : u1.cells = #[u1]) : Instr.fill (fun i => some (i * 1, 1)) base [(0, u1)] = some #[u1] := by
 obtain ⟨l⟩ := base
 simp only [List.size_toArray] at hb
 match l, hb with
 | [p], _ => simp [Instr.fill, c1]
section
variable {P : Program} {t e : TypeId} {x y : Operand} {ty : TypeId}
theorem act_oneV {α : Type} [Inhabited α] {enc : α → List DV} {l1 : List α} {n1 s i1 i : Nat} {e1 : TypeId} {z : Value} (hu : P.underlying t = some (.slice e)) (hs : sizeT P e = some 1) (hz : ∀ w, (zeroValue e).run P w = .ok z w) (hzc : z.cells.size = 1) (h1 : n1 = l1.length) (hi : Nat.beq i i1 = false) :
  ActOK P (.buildSlice t 1 #[(0, x)]) ty [.ls i1] [i1] [some (.vec e1 s n1 (Lst enc l1))] (.ls i) [(i1, none), (i, some (.vec e 1 1 (LstL s enc [l1])))] := fun o a ν sup w ho hty hm hx K Q hK => by
 subst h1
 have hne : i ≠ i1 := fun h => by subst h; simp at hi
 have c1 : cnOf [i1] [some (Cn.vec e1 s l1.length (Lst enc l1))] i1 = some (.vec e1 s l1.length (Lst enc l1)) := cnOf_one
 have hx' : a.eval x = ν i1 := by
  have h3 : [a.eval x] = [ν i1] := hx
  simp only [List.cons.injEq, and_true] at h3
  exact h3
 have r1 := hm.cont i1 _ c1
 obtain ⟨A, cap, e2, hcap, hcell⟩ := Cn.lst_cells r1 rfl
 have o1 := hm.one i1
 have hcc : (ν i1).cells = #[ν i1] := by rw [e2]; rfl
 have hrun : (execOp a.eval o).run P w = .ok (.value (.slice (some ⟨w.heap.size, 0, none⟩) 1 1)) (w.alloc (.cells #[ν i1] e)) := by
  unfold execOp
  rw [ho]
  refine exec_v ?_
  simp only [Instr.buildSlice, Sem.run_bind, run_underlying hu, Result.andThen_ok, sizeT_run hs]
  rw [if_neg (by decide), if_neg (by decide)]
  simp only [Sem.run_bind, hz, Sem.run_pure, Result.andThen_ok, hzc]
  simp only [List.map_toArray, List.map_cons, List.map_nil, hx']
  rw [fill1 (by simp) hcc]
  simp [newRow, newObj]
  rfl
 have keep : ∀ b, b < w.heap.size → (w.alloc (.cells #[ν i1] e)).heap[b]? = w.heap[b]? := fun b hb => Below.heap_alloc _ _ _ hb
 have hblk : ∀ b, blkOf (ν i1) = some b → b < w.heap.size := fun b hb => by
  obtain ⟨flat, h0, hrow, _⟩ := r1
  exact (hrow.lt b (by rw [← blkOf_own ⟨A, _, cap, e2⟩]; exact hb)).2
 have look1 : ∀ id c, look id [(i1, (none : Option Cn)), (i, some (Cn.vec e 1 1 (LstL s enc [l1])))] = some (some c) → id = i ∧ c = .vec e 1 1 (LstL s enc [l1]) := fun id c h => by
  rcases look_two h with ⟨rfl, e⟩ | ⟨rfl, e, _⟩
  ·cases e
  ·cases e; exact ⟨rfl, rfl⟩
 refine wp_of_value hrun ?_
 have h := hK (upd ν i (.slice (some ⟨w.heap.size, 0, none⟩) 1 1)) (upd sup i fun b => sup i1 b ∨ blkOf (ν i1) = some b) (w.alloc (.cells #[ν i1] e))
  {one := fun id => by
    unfold upd; split
    ·rfl
    ·exact hm.one id
   rest := fun id hmm => by
    have : id ≠ i := fun e => hmm (by simp [e])
    exact ⟨upd_ne _ _ this, upd_ne _ _ this⟩
   same := fun id hmm c hc => by
    have : id ≠ i := fun e => by rw [e, cnOf_none (by simp [hne])] at hc; cases hc
    exact upd_ne _ _ this
   fr := (Fr.alloc w _ (fun _ => False)).mono fun _ _ h => h.elim
   cont := fun id c hl => by
    obtain ⟨rfl, rfl⟩ := look1 id c hl
    rw [upd_self, upd_self]
    refine ⟨[ν i1], by decide, ⟨rfl, .inr ⟨w.heap.size, 1, #[ν i1], rfl, Nat.zero_le _, heap_alloc_new w _, Nat.le_refl _, by unfold maxLen; omega, rfl, rfl⟩⟩, fun k hk j hj => ?_⟩
    obtain rfl : k = 0 := by omega
    obtain rfl : j = 0 := by omega
    refine ⟨_, rfl, A, cap, e2, hcap, fun hp => ?_⟩
    obtain ⟨b, off, rfl, hc⟩ := hcell hp
    refine ⟨b, off, rfl, .inr (by rw [e2]; rfl), fun k hk j hj => ?_⟩
    obtain ⟨u', g1, g2⟩ := hc k hk j hj
    have hb : b < w.heap.size := hblk b (by rw [e2]; rfl)
    exact ⟨u', (World.cell?_of_block (w := w) (a := ⟨b, off + k * s + j, none⟩) (keep b hb)).trans g1, DV.rep_keep (fun b hb => keep b (hm.supLt i1 _ c1 b hb)) (fun b hb => .inl hb) g2⟩
   sup := fun id c hl b hb => by
    obtain ⟨rfl, rfl⟩ := look1 id c hl
    rw [upd_self] at hb
    have hlt : b < w.heap.size := hb.elim (fun h => hm.supLt i1 _ c1 b h) (hblk b)
    refine ⟨Nat.lt_of_lt_of_le hlt (Fr.alloc w _ (fun _ => False)).size, .inr (hb.elim (fun h => .inl ⟨i1, _, c1, h⟩) fun h => .inr ⟨i1, _, by simp, c1, rfl, h⟩), fun id2 c2 hl2 ho2 hb2 => ?_⟩
    obtain ⟨rfl, rfl⟩ := look1 id2 c2 hl2
    rw [upd_self] at hb2
    cases hb2
    exact Nat.lt_irrefl _ hlt
   own := fun id c hl ho' b hb => by
    obtain ⟨rfl, rfl⟩ := look1 id c hl
    rw [upd_self] at hb
    cases hb
    exact .inl (Nat.le_refl _)
   apart := fun id c hl ho' id2 c2 hl2 ho2 hne' => by
    obtain ⟨q1, _⟩ := look1 id c hl
    obtain ⟨q2, _⟩ := look1 id2 c2 hl2
    exact absurd (q1.trans q2.symm) hne' }
 simpa [SV.val, PV.val, LV.val, upd_self] using h
theorem ix_app1 {α : Type} [Inhabited α] {xs ys : List α} {i : Nat} (h : i < xs.length) : ix (xs ++ ys) i = ix xs i := by
 unfold ix
 rw [List.getD_eq_getElem?_getD, List.getD_eq_getElem?_getD, List.getElem?_append_left h]
theorem ix_app3 {α : Type} [Inhabited α] {xs ys : List α} {i : Nat} : ix (xs ++ ys) (xs.length + i) = ix ys i := by
 unfold ix
 rw [List.getD_eq_getElem?_getD, List.getD_eq_getElem?_getD, List.getElem?_append_right (by omega)]
 congr 2
 omega
theorem app_listL {α : Type} [Inhabited α] {enc : α → List DV} {xs ys : List (List α)} {s n m n' : Nat} (hn : n = xs.length) (hn' : n' = n + m) : AppOk 1 n m (LstL s enc xs) (LstL s enc ys) n' (LstL s enc (xs ++ ys)) := by
 subst hn
 exact ⟨hn', fun i hi j hj => by unfold LstL; rw [ix_app1 hi], fun i hi j hj => by unfold LstL; rw [ix_app3]⟩
end
theorem Ent.dupCell {S : St} (i id j bt : Nat) (cs : List LV) (k s n : Nat) (el : Nat → Nat → DV) (hc : S.cn i = some (.blk bt cs)) (h : cs[k]? = some (.ls j)) (hj : S.cn j = some (.ro s n el)) (hf : S.fresh id = true) (hne : Nat.beq i id = false) : Ent S (S.mem [(id, some (.ro s n el)), (i, some (.blk bt (cs.set k (.ls id))))]) := fun E a w ⟨ν, sup, g⟩ => by
 have hsem := St.fresh_sem hf
 have hne' : i ≠ id := fun e => by subst e; simp at hne
 let ν' := upd ν id (ν j)
 let sup' := upd sup id (sup j)
 refine ⟨ν', sup', ?_⟩
 have hlook : ∀ {x c}, look x [(id, some (Cn.ro s n el)), (i, some (Cn.blk bt (cs.set k (.ls id))))] = some (some c) → (x = id ∧ c = .ro s n el) ∨ (x = i ∧ c = .blk bt (cs.set k (.ls id)) ∧ x ≠ id) := fun hl => by
  rcases look_two hl with ⟨h1, h2⟩ | ⟨h1, h2, h3⟩
  ·cases h2; exact .inl ⟨h1, rfl⟩
  ·cases h2; exact .inr ⟨h1, rfl, h3⟩
 have hmap : (cs.set k (.ls id)).map (LV.val ν') = cs.map (LV.val ν) := by
  have hco : cs.map (LV.val ν') = cs.map (LV.val ν) := LV.map_congr fun j hj => upd_ne _ _ fun e => by
   have := hsem.cn i _ hc
   subst e
   simp only [Cn.noId] at this
   rw [this] at hj; cases hj
  rw [List.map_set, hco]
  have hv : LV.val ν' (.ls id) = ν j := upd_self _ _ _
  rw [hv]
  apply List.ext_getElem?
  intro z
  rw [List.getElem?_set]
  by_cases hz : k = z
  ·subst hz
   have hlt : k < cs.length := (List.getElem?_eq_some_iff.1 h).1
   rw [if_pos rfl, if_pos (by simpa using hlt), List.getElem?_map, h]
   rfl
  ·rw [if_neg hz]
 refine GW.mem g (fun q => ?_) (fun q hq => ?_) (fun q hq => ?_) (Fr.refl _ _) (fun q c hl => ?_) (fun q c hl b hb => ?_) (fun q c hl ho b hb => ?_) (fun q c hl ho q' c' hl' ho' hne2 b hb hb' => ?_)
 ·simp only [ν', upd]
  split
  ·exact g.one j
  ·exact g.one q
 ·have h1 : q ≠ id := fun e => hq (by simp [e])
  exact ⟨upd_ne _ _ h1, upd_ne _ _ h1⟩
 ·by_cases he : q = id
  ·exact .inr (he ▸ hsem)
  ·exact .inl (upd_ne _ _ he)
 ·rcases hlook hl with ⟨rfl, rfl⟩ | ⟨rfl, rfl, h3⟩
  ·simp only [ν', sup', upd_self]
   exact g.cont j _ hj
  ·obtain ⟨b, e1, e2⟩ := g.cont q _ hc
   refine ⟨b, by rw [← e1]; exact upd_ne _ _ h3, ?_⟩
   rw [hmap]; exact e2
 ·have hown : ∀ j2 c2, look j2 [(id, some (Cn.ro s n el)), (i, some (Cn.blk bt (cs.set k (.ls id))))] = some (some c2) → c2.owned = true → j2 = i ∧ j2 ≠ id := fun j2 c2 hl2 ho2 => by
   rcases hlook hl2 with ⟨rfl, rfl⟩ | ⟨rfl, rfl, h4⟩
   ·cases ho2
   ·exact ⟨rfl, h4⟩
  rcases hlook hl with ⟨rfl, rfl⟩ | ⟨rfl, rfl, h3⟩
  ·have hb2 : sup j b := by simp only [sup', upd_self] at hb; exact hb
   refine ⟨g.supLt j _ hj b hb2, .inr (.inl ⟨j, _, hj, hb2⟩), fun j2 c2 hl2 ho2 hb3 => ?_⟩
   obtain ⟨rfl, h4⟩ := hown j2 c2 hl2 ho2
   simp only [ν', upd_ne _ _ h4] at hb3
   exact g.ownSup _ _ hc rfl _ _ hj b hb3 hb2
  ·have hb2 : sup q b := by simp only [sup', upd_ne _ _ h3] at hb; exact hb
   refine ⟨g.supLt q _ hc b hb2, .inr (.inl ⟨q, _, hc, hb2⟩), fun j2 c2 hl2 ho2 hb3 => ?_⟩
   obtain ⟨rfl, h4⟩ := hown j2 c2 hl2 ho2
   simp only [ν', upd_ne _ _ h4] at hb3
   exact g.ownSup _ _ hc rfl _ _ hc b hb3 hb2
 ·rcases hlook hl with ⟨rfl, rfl⟩ | ⟨rfl, rfl, h3⟩
  ·cases ho
  ·simp only [ν', upd_ne _ _ h3] at hb
   exact .inr ⟨q, _, by simp, hc, rfl, hb⟩
 ·rcases hlook hl with ⟨rfl, rfl⟩ | ⟨rfl, rfl, h3⟩
  ·cases ho
  ·rcases hlook hl' with ⟨rfl, rfl⟩ | ⟨rfl, rfl, h4⟩
   ·cases ho'
   ·exact absurd rfl hne2
theorem lstL_eq {α : Type} [Inhabited α] {enc : α → List DV} {xs ys : List (List α)} {s n z : Nat} (h : xs = ys) : ∀ i, i < n → ∀ j, j < z → LstL s enc xs i j = LstL s enc ys i j := by
 subst h
 exact fun _ _ _ _ => rfl
theorem aw_seqJ {P : Program} {E : Env} {Q : Exit → St → Prop} {S : St} {x y : Code} (T : St) (h1 : AW P E x (thenS (fun S' => Ent S' T) Q) S) (h2 : AW P E y Q T) : AW P E (.seq x y) Q S :=
 aw_seq (aw_mono h1 fun e S' h => by
  cases e with
  | normal => exact aw_ent h h2
  | exit id => exact h
  | goto l => exact h
  | ret => exact h
  | panic ch => exact h
  | outgrown => exact h)
theorem aw_seqP {P : Program} {E : Env} {Q : Exit → St → Prop} {S : St} {x y : Code} (T : St) (p : Prop) (h1 : AW P E x (thenS (fun S' => p ∧ Ent S' T) Q) S) (h2 : p → AW P E y Q T) : AW P E (.seq x y) Q S :=
 aw_seq (aw_mono h1 fun e S' h => by
  cases e with
  | normal => exact aw_ent h.2 (h2 h.1)
  | exit id => exact h
  | goto l => exact h
  | ret => exact h
  | panic ch => exact h
  | outgrown => exact h)
end Go.Proofs.Ytbpblhmigijkaaa
