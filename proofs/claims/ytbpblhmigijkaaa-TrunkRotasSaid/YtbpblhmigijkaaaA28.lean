/- An abstract walk: lists of lists. No program is in sight here. -/
import Derived.Test.YtbpblhmigijkaaaA27
import Derived.Laws.Cover3
namespace Go.Proofs.Ytbpblhmigijkaaa
open Go.RowKit
set_option linter.unusedVariables false
def LstL {α : Type} [Inhabited α] (s : Nat) (enc : α → List DV) (xss : List (List α)) : Nat → Nat → DV := fun i _ => .ls s (ix xss i).length (Lst enc (ix xss i))
theorem fill2 {base : Array Value} {u1 u2 : Value} (hb : base.size = 2) (c1 : u1.cells = #[u1]) (c2 : u2.cells = #[u2]) : Instr.fill (fun i => some (i * 1, 1)) base [(0, u1), (1, u2)] = some #[u1, u2] := by
 obtain ⟨l⟩ := base
 simp only [List.size_toArray] at hb
 match l, hb with
 | [p, q], _ => simp [Instr.fill, c1, c2]
section
variable {P : Program} {t e : TypeId} {x y : Operand} {ty : TypeId}
theorem act_pair {α : Type} [Inhabited α] {enc : α → List DV} {l1 l2 : List α} {n1 n2 s i1 i2 i : Nat} {z : Value} (hu : P.underlying t = some (.slice e)) (hs : sizeT P e = some 1) (hz : ∀ w, (zeroValue e).run P w = .ok z w) (hzc : z.cells.size = 1) (h1 : n1 = l1.length) (h2 : n2 = l2.length) (hi : (!(Nat.beq i i1) && (!(Nat.beq i i2) && !(Nat.beq i1 i2))) = true) :
  ActOK P (.buildSlice t 2 #[(0, x), (1, y)]) ty [.ls i1, .ls i2] [i1, i2] [some (.ro s n1 (Lst enc l1)), some (.ro s n2 (Lst enc l2))] (.ls i) [(i, some (.vec e 1 2 (LstL s enc [l1, l2])))] := fun o a ν sup w ho hty hm hx K Q hK => by
 subst h1 h2
 simp only [Bool.and_eq_true, Bool.not_eq_true'] at hi
 have e1 : i ≠ i1 := fun h => by subst h; simp at hi
 have e2 : i ≠ i2 := fun h => by subst h; simp at hi
 have e3 : i1 ≠ i2 := fun h => by subst h; simp at hi
 have c1 : cnOf [i1, i2] [some (Cn.ro s l1.length (Lst enc l1)), some (Cn.ro s l2.length (Lst enc l2))] i1 = some (.ro s l1.length (Lst enc l1)) := by
  unfold cnOf; simp [look]
 have c2 : cnOf [i1, i2] [some (Cn.ro s l1.length (Lst enc l1)), some (Cn.ro s l2.length (Lst enc l2))] i2 = some (.ro s l2.length (Lst enc l2)) := by
  unfold cnOf
  have : Nat.beq i1 i2 = false := by rw [Bool.eq_false_iff]; intro h; exact e3 (Nat.eq_of_beq_eq_true h)
  simp [look, this]
 have hx' : a.eval x = ν i1 ∧ a.eval y = ν i2 := by
  have h3 : [a.eval x, a.eval y] = [ν i1, ν i2] := hx
  simp only [List.cons.injEq, and_true] at h3
  exact h3
 have r1 := hm.cont i1 _ c1
 have r2 := hm.cont i2 _ c2
 have o1 := DV.rep_one r1
 have o2 := DV.rep_one r2
 have hcell : ∀ u : Value, u.oneCell' = true → u.cells = #[u] := fun u hu => by cases u <;> first | rfl | cases hu
 have hrun : (execOp a.eval o).run P w = .ok (.value (.slice (some ⟨w.heap.size, 0, none⟩) 2 2)) (w.alloc (.cells #[ν i1, ν i2] e)) := by
  unfold execOp
  rw [ho]
  refine exec_v ?_
  simp only [Instr.buildSlice, Sem.run_bind, run_underlying hu, Result.andThen_ok, sizeT_run hs]
  rw [if_neg (by decide), if_neg (by decide)]
  simp only [Sem.run_bind, hz, Sem.run_pure, Result.andThen_ok, hzc]
  simp only [List.map_toArray, List.map_cons, List.map_nil, hx'.1, hx'.2]
  rw [fill2 (by simp) (hcell _ o1) (hcell _ o2)]
  simp [newRow, newObj]
  rfl
 refine wp_of_value hrun ?_
 have h := hK _ _ _ (Chg.new1 (w' := w.alloc (.cells #[ν i1, ν i2] e)) (i := i) (c := .vec e 1 2 (LstL s enc [l1, l2])) (u := .slice (some ⟨w.heap.size, 0, none⟩) 2 2) (s := fun b => sup i1 b ∨ sup i2 b) hm (cnOf_none (by simp [e1, e2])) rfl (Fr.alloc w _ _) ?_ ?_ ?_)
 ·simpa [SV.val, PV.val, LV.val, upd_self] using h
 ·refine ⟨[ν i1, ν i2], by decide, ⟨rfl, .inr ⟨w.heap.size, 2, #[ν i1, ν i2], rfl, Nat.zero_le _, heap_alloc_new w _, Nat.le_refl _, by unfold maxLen; omega, rfl, rfl⟩⟩, fun k hk j hj => ?_⟩
  have hj0 : j = 0 := by omega
  subst hj0
  have keep : ∀ b, b < w.heap.size → (w.alloc (.cells #[ν i1, ν i2] e)).heap[b]? = w.heap[b]? := fun b hb => Below.heap_alloc _ _ _ hb
  match k, hk with
  | 0, _ => exact ⟨_, rfl, DV.rep_keep (fun b hb => keep b (hm.supLt i1 _ c1 b hb)) (fun b hb => .inl hb) r1⟩
  | 1, _ => exact ⟨_, rfl, DV.rep_keep (fun b hb => keep b (hm.supLt i2 _ c2 b hb)) (fun b hb => .inr hb) r2⟩
 ·intro b hb
  rcases hb with hb | hb
  ·exact ⟨hm.supLt i1 _ c1 b hb, i1, _, c1, hb⟩
  ·exact ⟨hm.supLt i2 _ c2 b hb, i2, _, c2, hb⟩
 ·intro _ b hb
  cases hb
  exact Nat.le_refl _
theorem act_quo {t' : TypeId} {a b c : Int} (hb : b ≠ 0) (hc : a.tdiv b = c) (hr : IntOk .i64 c) : ActOK P (.binOp .quo t x y t') ty [.i a, .i b] [] [] (.i c) [] := fun o ac ν sup w ho hty hm hx K Q hK => by
 have hx' : ac.eval x = .int .i64 a ∧ ac.eval y = .int .i64 b := by
  have h3 : [ac.eval x, ac.eval y] = [.int .i64 a, .int .i64 b] := hx
  simp only [List.cons.injEq, and_true] at h3
  exact h3
 refine wp_of_value (v := .int .i64 c) (w' := w) (exec_bin ho ?_) (hK ν sup w (Chg.nil hm.one))
 rw [hx'.1, hx'.2, Sem.run_bind, eqGuard_int, Result.andThen_ok, bin_int rfl ⟨by decide, by decide⟩]
 simp [Op.intDiv, hb, hc, hr.wrap]
end
theorem aw_eqnil {P : Program} {E : Env} {Q : Exit → St → Prop} (hE : E.rnd = none) {id : Nat} {l : List Oper} {T : St} (k : Nat) (orcs : List (Nat × Orc)) (T1 : St) (vc : List Prop) {o : Oper} {t t' u : TypeId} {x : Operand} {i s n : Nat} {el : Nat → Nat → DV}
  (h1 : runC P l k orcs T (T1.fr.map (·.1)) (T1.hp.map (·.1)) = some (T1, vc)) (hvc : AllP vc) (hk : l[k]? = some o) (ho : o.op = .binOp .eql t x (.const (.slice none 0 0)) t') (hu : P.underlying t = some (.slice u)) (hg : o.guard = none) (hx : evO T1.sl x = some (.ls i)) (hc : T1.cn i = some (.ro s n el)) (hB : (noDefer l.toArray && dstOk T1 o) = true)
  (h : ∀ b, (b = true → n = 0) → Cont P l k Q (T1.put o.dst (.b b))) : AW P E (.region id l.toArray false) Q T := fun a w g0 nn => by
 simp only [Bool.and_eq_true] at hB
 obtain ⟨hnd, hds⟩ := hB
 obtain ⟨S1, h1, hT1⟩ : ∃ S1, runI P l.toArray orcs 0 (l.take k) T = some (S1, vc) ∧ Ent S1 T1 := by
  generalize T1.fr.map (·.1) = ks at h1
  generalize T1.hp.map (·.1) = is at h1
  unfold runC at h1
  split at h1
  ·rename_i S1 vc1 h
   cases h1
   exact ⟨S1, h, S1.cut_ent ks is⟩
  ·cases h1
 have hkl : k < l.length := (List.getElem?_eq_some_iff.1 hk).1
 have hdst : ∀ t, o.dst = some t → t < T1.nt := fun t ht => by
  unfold dstOk at hds
  rw [ht] at hds
  exact Nat.le_of_ble_eq_true hds
 have hfe : E.fence = FenceOf none := by unfold Env.fence Env.at_; rw [hE]
 rw [hfe]
 refine wpIn_mono (Q := onlyN fun e a' w' => ∃ S', Q e S' ∧ G E S' a' w') ?_ onlyN_mono
 refine wpIn_region ?_
 have hrange : List.range l.toArray.size = List.range' 0 (l.take k).length ++ (k :: (List.range' (k + 1) (l.drop (k + 1)).length ++ [])) := by
  rw [List.size_toArray, List.range_eq_range', List.append_nil, List.length_take, List.length_drop, Nat.min_eq_left (by omega)]
  have h2 : k :: List.range' (k + 1) (l.length - (k + 1)) = List.range' k (l.length - k) := by
   rw [show l.length - k = (l.length - (k + 1)) + 1 by omega, List.range'_succ]
  rw [h2]
  have := List.range'_append (s := 0) (m := k) (n := l.length - k) (step := 1)
  rw [Nat.one_mul, Nat.zero_add] at this
  rw [this]
  congr 1
  omega
 rw [hrange]
 refine opsIn_run hnd onlyN_out (fun j hj => ?_) h1 hvc g0 fun a1 w1 g1 => ?_
 ·rw [List.length_take, Nat.min_eq_left (by omega)] at hj
  simp [hj]
 obtain ⟨ν, sup, g⟩ := hT1 E a1 w1 g1
 have hok : l.toArray[k]? = some o := by simpa using hk
 simp only [wpOpsIn, hok]
 rw [if_pos (by unfold Region.wanted; rw [hg])]
 obtain ⟨A, c, e1, hcap, hcell⟩ := g.cont i _ hc
 have hev : a1.eval x = .slice A n c := (evO_sound g hx).trans e1
 have hcont : ∀ b, (b = true → n = 0) → wpOpsIn (FenceOf none) nn P l.toArray (onlyN fun e a' w' => ∃ S', Q e S' ∧ G E S' a' w') (List.range' (k + 1) (l.drop (k + 1)).length ++ []) (a1.put o.dst (.bool b)) w1 := fun b hb => by
  obtain ⟨orcs2, ks, ids, T', vc2, hrun, hvc2, hQ⟩ := h b hb
  have g6 := GW.put (d := o.dst) (x := .b b) g hdst
  unfold runT2 at hrun
  split at hrun
  ·rename_i S' vc3 hrun2
   cases hrun
   refine opsIn_run hnd onlyN_out (fun j hj => ?_) hrun2 hvc2 ⟨_, _, g6⟩ fun a' w' g' => ?_
   ·simp
   ·exact ⟨rfl, _, hQ, S'.cut_ent ks ids E a' w' g'⟩
  ·cases hrun
 refine opIn_of (fun c hc => by rw [ho] at hc; cases hc) onlyN_out ?_
 refine wp_of_value (v := .bool A.isNone) (w' := w1) ?_ (hcont _ fun hA => ?_)
 ·have hq : a1.eval (.const (.slice none 0 0)) = .slice none 0 0 := rfl
  unfold execOp
  rw [ho]
  cases A <;> simp [hev, hq, Go.binOp, eqGuard, run_equal_slice_nil w1 t u _ _ _ hu, Sem.run_bind, Result.andThen]
 ·by_cases hn : n = 0
  ·exact hn
  ·obtain ⟨b, off, rfl, _⟩ := hcell (by omega)
   cases hA
end Go.Proofs.Ytbpblhmigijkaaa
