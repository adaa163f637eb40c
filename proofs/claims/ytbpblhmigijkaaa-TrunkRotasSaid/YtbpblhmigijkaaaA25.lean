/- An abstract walk: regions that draw their order. No program is in sight here. -/
import Derived.Test.YtbpblhmigijkaaaA20
import Derived.Orders
import Derived.KernelRfl
namespace Go.Proofs.Ytbpblhmigijkaaa
open Go.RowKit
set_option linter.unusedVariables false
structure Tr where
 d : Option Nat
 x : SV
 wr : List (Nat × Option Cn)
 rs : List Nat
 ns : List Nat
def Tr.app (t : Tr) (S : St) : St := (S.mem t.wr).put t.d t.x
def Tr.noId (i : Nat) (t : Tr) : Bool := (match t.d with | some _ => t.x.noId i | none => true) && t.wr.all fun p => match p.2 with | some c => c.noId i | none => true
def tmpsL : List Operand → List Nat
 | [] => []
 | .tmp t :: r => t :: tmpsL r
 | _ :: r => tmpsL r
def guardS (ops : Array Oper) (o : Oper) : List Nat :=
 match o.guard with
 | some (j, _) => match ops[j]? with
  | some oj => match oj.dst with | some t => [t] | none => []
  | none => []
 | none => []
def stepT (P : Program) (ops : Array Oper) (S : St) (o : Oper) (r : Orc) : Option (Tr × List Prop) :=
 match guardOk ops S o, dstOk S o with
 | some true, true =>
  match evAll S.sl o.op.operands.toList with
  | some xs => match eff P o r xs ((need o.op r xs).map S.cn) with
   | some ε => match okB S r xs (need o.op r xs) ε.wr with
    | true => some (⟨o.dst, ε.val, ε.wr, tmpsL o.op.operands.toList ++ guardS ops o, need o.op r xs⟩, ε.vc)
    | false => none
   | none => none
  | none => none
 | some false, true => some (⟨o.dst, .v undef, [], guardS ops o, []⟩, [])
 | _, _ => none
def runT (P : Program) (ops : Array Oper) (orcs : List (Nat × Orc)) : Nat → List Oper → St → Option (List Tr × List Prop)
 | _, [], S => some ([], [])
 | i, o :: rest, S => match stepT P ops S o (orcAt i orcs) with
  | some (t, v1) => match runT P ops orcs (i + 1) rest (t.app S) with
   | some (ts, v2) => some (t :: ts, v1 ++ v2)
   | none => none
  | none => none
def appAll : List Tr → St → St
 | [], S => S
 | t :: r, S => appAll r (t.app S)
def appX (X : Nat → Bool) : Nat → List Tr → St → St
 | _, [], S => S
 | k, t :: r, S => appX X (k + 1) r (match X k with | true => t.app S | false => S)
section
variable {P : Program} {ops : Array Oper} {S S2 : St}
theorem evAll_congr {sl sl2 : Nat → Option SV} : ∀ {l : List Operand}, (∀ t, t ∈ tmpsL l → sl2 t = sl t) → evAll sl2 l = evAll sl l := by
 intro l
 induction l with
 | nil => intro _; rfl
 | cons x r ih =>
  intro h
  have hx : evO sl2 x = evO sl x := by
   cases x with
   | tmp t => exact h t (by simp [tmpsL])
   | const v => cases v <;> rfl
   | global g => rfl
   | func f => rfl
  have hr : evAll sl2 r = evAll sl r := ih fun t ht => h t (by cases x <;> simp [tmpsL, ht])
  unfold evAll
  rw [hx, hr]
theorem guardOk_congr {o : Oper} (h : ∀ t, t ∈ guardS ops o → S2.sl t = S.sl t) : guardOk ops S2 o = guardOk ops S o := by
 unfold guardOk
 unfold guardS at h
 cases hg : o.guard with
 | none => rfl
 | some p =>
  obtain ⟨j, want⟩ := p
  rw [hg] at h
  simp only at h ⊢
  cases hj : ops[j]? with
  | none => rfl
  | some oj =>
   rw [hj] at h
   simp only at h ⊢
   cases hd : oj.dst with
   | none => rfl
   | some t =>
    rw [hd] at h
    simp only at h ⊢
    rw [h t (by simp)]
theorem stepT_d {o : Oper} {r : Orc} {t : Tr} {vc : List Prop} (h : stepT P ops S o r = some (t, vc)) : t.d = o.dst := by
 unfold stepT at h
 split at h
 ·split at h
  ·split at h
   ·split at h
    ·cases h; rfl
    ·cases h
   ·cases h
  ·cases h
 ·cases h; rfl
 ·cases h
theorem stepT_fresh {o : Oper} {r : Orc} {t : Tr} {vc : List Prop} (h : stepT P ops S o r = some (t, vc)) : ∀ i, i ∈ t.wr.map (·.1) → i ∉ t.ns → S.fresh i = true := by
 unfold stepT at h
 split at h
 ·split at h
  ·split at h
   ·split at h
    ·rename_i hok
     cases h
     intro i hi hn
     unfold okB at hok
     rw [Bool.and_eq_true, Bool.and_eq_true] at hok
     obtain ⟨p, hp, rfl⟩ := List.mem_map.1 hi
     have := List.all_eq_true.1 hok.2.2 p hp
     rw [Bool.or_eq_true, Bool.and_eq_true, Bool.and_eq_true, Bool.and_eq_true] at this
     rcases this with h1 | ⟨h1, h2, h3⟩
     ·exact absurd (memB'_iff.1 h1.1) hn
     ·exact h2
    ·cases h
   ·cases h
  ·cases h
 ·cases h; intro i hi; cases hi
 ·cases h
theorem stepT_move {o : Oper} {r : Orc} {t : Tr} {vc : List Prop} (h : stepT P ops S o r = some (t, vc)) (hn : S2.nt = S.nt) (hs : ∀ q, q ∈ t.rs → S2.sl q = S.sl q) (hc : ∀ id, id ∈ t.ns → S2.cn id = S.cn id) (hf : ∀ i, i ∈ t.wr.map (·.1) → i ∉ t.ns → SemFresh S2 i) : StepS P ops S2 o r t.x t.wr vc := by
 have hdst : dstOk S2 o = dstOk S o := by unfold dstOk; rw [hn]
 unfold stepT at h
 split at h
 ·rename_i hgd hd
  split at h
  ·rename_i xs hxs
   split at h
   ·rename_i ε hε
    split at h
    ·rename_i hok
     cases h
     simp only at hs hc hf ⊢
     have hg : guardOk ops S2 o = some true := (guardOk_congr fun q hq => hs q (List.mem_append_right _ hq)).trans hgd
     have he : evAll S2.sl o.op.operands.toList = some xs := (evAll_congr fun q hq => hs q (List.mem_append_left _ hq)).trans hxs
     have hm : (need o.op r xs).map S2.cn = (need o.op r xs).map S.cn := List.map_congr_left fun id hid => hc id hid
     unfold okB at hok
     rw [Bool.and_eq_true, Bool.and_eq_true] at hok
     obtain ⟨ok1, ok2, ok3⟩ := hok
     have hnews : ∀ i, i ∈ r.news → i ∉ need o.op r xs := fun i hi hm => by
      have := List.all_eq_true.1 ok2 i hi
      rw [memB'_iff.2 hm] at this
      cases this
     refine ⟨hdst.trans hd, .inl ⟨hg, xs, he, by rw [hm]; exact hε, nodupB'_nodup ok1, hnews, fun i hi => ?_⟩⟩
     obtain ⟨p, hp, rfl⟩ := List.mem_map.1 hi
     have := List.all_eq_true.1 ok3 p hp
     rw [Bool.or_eq_true, Bool.and_eq_true, Bool.and_eq_true, Bool.and_eq_true] at this
     rcases this with h1 | ⟨h1, h2, h3⟩
     ·refine .inl ⟨memB'_iff.1 h1.1, ?_⟩
      rw [hc _ (memB'_iff.1 h1.1)]
      exact Option.isSome_iff_exists.1 h1.2
     ·have hnn := hnews _ (memB'_iff.1 h1)
      exact .inr ⟨hnn, memB'_iff.1 h1, hf _ hi hnn, fun y hy => List.all_eq_true.1 h3 y hy⟩
    ·cases h
   ·cases h
  ·cases h
 ·rename_i hgd hd
  cases h
  simp only at hs
  exact ⟨hdst.trans hd, .inr ⟨(guardOk_congr fun q hq => hs q hq).trans hgd, rfl, rfl, rfl⟩⟩
 ·cases h
theorem app_sl {t : Tr} {q : Nat} : (t.app S).sl q = if t.d = some q then some t.x else S.sl q := by
 unfold Tr.app
 cases hd : t.d with
 | none => simp [St.put, St.mem, St.sl]
 | some d =>
  rw [St.sl_put]
  by_cases h : d = q
  ·subst h; simp
  ·rw [if_neg h, if_neg (fun e => h (Option.some.inj e))]; rfl
theorem app_cn {t : Tr} {id : Nat} : (t.app S).cn id = match look id t.wr with | some c => c | none => S.cn id := by
 have h1 : (t.app S).cn id = (S.mem t.wr).cn id := by
  unfold Tr.app
  cases t.d <;> rfl
 rw [h1, St.cn_mem]
 cases look id t.wr <;> rfl
theorem app_nt {t : Tr} : (t.app S).nt = S.nt := by unfold Tr.app; cases t.d <;> rfl
theorem app_keep {t : Tr} : (t.app S).keep = S.keep := by unfold Tr.app; cases t.d <;> rfl
theorem app_fresh {t : Tr} {i : Nat} : (t.app S).fresh i = true ↔ S.fresh i = true ∧ t.noId i = true := by
 unfold Tr.app St.fresh Tr.noId
 cases hd : t.d with
 | none =>
  simp only [St.put, St.mem, List.all_append, Bool.and_eq_true, Bool.true_and]
  exact ⟨fun ⟨h1, ⟨h2, h3⟩, h4⟩ => ⟨⟨h1, h3, h4⟩, h2⟩, fun ⟨⟨h1, h3, h4⟩, h2⟩ => ⟨h1, ⟨h2, h3⟩, h4⟩⟩
 | some d =>
  simp only [St.put, St.mem, List.all_append, List.all_cons, Bool.and_eq_true]
  exact ⟨fun ⟨⟨h0, h1⟩, ⟨h2, h3⟩, h4⟩ => ⟨⟨h1, h3, h4⟩, h0, h2⟩, fun ⟨⟨h1, h3, h4⟩, h0, h2⟩ => ⟨⟨h0, h1⟩, ⟨h2, h3⟩, h4⟩⟩
theorem appX_nt {X : Nat → Bool} : ∀ {ts : List Tr} {k : Nat} {S : St}, (appX X k ts S).nt = S.nt ∧ (appX X k ts S).keep = S.keep := by
 intro ts
 induction ts with
 | nil => intro k S; exact ⟨rfl, rfl⟩
 | cons t ts ih =>
  intro k S
  unfold appX
  cases X k with
  | true => exact ⟨ih.1.trans app_nt, ih.2.trans app_keep⟩
  | false => exact ih
theorem appX_sl {X Y : Nat → Bool} {q : Nat} : ∀ {ts : List Tr} {k : Nat} {S S2 : St}, (∀ m t, ts[m]? = some t → t.d = some q → X (k + m) = Y (k + m)) → S.sl q = S2.sl q → (appX X k ts S).sl q = (appX Y k ts S2).sl q := by
 intro ts
 induction ts with
 | nil => intro k S S2 _ h; exact h
 | cons t ts ih =>
  intro k S S2 hw h
  unfold appX
  refine ih (fun m u hu hd => by have := hw (m + 1) u (by simpa using hu) hd; rwa [show k + (m + 1) = k + 1 + m by omega] at this) ?_
  have h0 := hw 0 t (by simp)
  rw [Nat.add_zero] at h0
  by_cases hd : t.d = some q
  ·rw [h0 hd]
   cases Y k with
   | true => rw [app_sl, app_sl, if_pos hd, if_pos hd]
   | false => exact h
  ·have e1 : ∀ (b : Bool) (S : St), (match b with | true => t.app S | false => S).sl q = S.sl q := fun b S => by
    cases b with
    | true => exact app_sl.trans (if_neg hd)
    | false => rfl
   rw [e1, e1]; exact h
theorem appX_cn {X Y : Nat → Bool} {id : Nat} : ∀ {ts : List Tr} {k : Nat} {S S2 : St}, (∀ m t, ts[m]? = some t → id ∈ t.wr.map (·.1) → X (k + m) = Y (k + m)) → S.cn id = S2.cn id → (appX X k ts S).cn id = (appX Y k ts S2).cn id := by
 intro ts
 induction ts with
 | nil => intro k S S2 _ h; exact h
 | cons t ts ih =>
  intro k S S2 hw h
  unfold appX
  refine ih (fun m u hu hd => by have := hw (m + 1) u (by simpa using hu) hd; rwa [show k + (m + 1) = k + 1 + m by omega] at this) ?_
  have h0 := hw 0 t (by simp)
  rw [Nat.add_zero] at h0
  by_cases hd : id ∈ t.wr.map (·.1)
  ·rw [h0 hd]
   obtain ⟨c, hc⟩ := mem_look hd
   cases Y k with
   | true => rw [app_cn, app_cn, hc]
   | false => exact h
  ·have hl := look_none.2 hd
   have e1 : ∀ (b : Bool) (S : St), (match b with | true => t.app S | false => S).cn id = S.cn id := fun b S => by
    cases b with
    | true => show (t.app S).cn id = _; rw [app_cn, hl]
    | false => rfl
   rw [e1, e1]; exact h
theorem appX_fresh {X : Nat → Bool} {i : Nat} : ∀ {ts : List Tr} {k : Nat} {S : St}, S.fresh i = true → (∀ m t, ts[m]? = some t → X (k + m) = true → t.noId i = true) → (appX X k ts S).fresh i = true := by
 intro ts
 induction ts with
 | nil => intro k S h _; exact h
 | cons t ts ih =>
  intro k S h hn
  unfold appX
  refine ih ?_ (fun m u hu hx => hn (m + 1) u (by simpa using hu) (by rwa [show k + (m + 1) = k + 1 + m by omega]))
  have h0 := hn 0 t (by simp)
  rw [Nat.add_zero] at h0
  cases hx : X k with
  | true => exact app_fresh.2 ⟨h, h0 hx⟩
  | false => exact h
theorem appX_none : ∀ {ts : List Tr} {k : Nat} {S : St} {X : Nat → Bool}, (∀ m, k ≤ m → X m = false) → appX X k ts S = S := by
 intro ts
 induction ts with
 | nil => intro k S X _; rfl
 | cons t ts ih =>
  intro k S X h
  unfold appX
  rw [h k (Nat.le_refl _)]
  exact ih fun m hm => h m (by omega)
theorem appX_pre : ∀ {ts : List Tr} {k i : Nat} {S : St}, appX (fun m => decide (m < k + i)) k ts S = appAll (ts.take i) S := by
 intro ts
 induction ts with
 | nil => intro k i S; simp [appX, appAll]
 | cons t ts ih =>
  intro k i S
  cases i with
  | zero =>
   rw [List.take_zero]
   exact appX_none fun m hm => decide_eq_false (by omega)
  | succ i =>
   unfold appX
   rw [List.take_succ_cons]
   have : decide (k < k + (i + 1)) = true := decide_eq_true (by omega)
   rw [this]
   have := ih (k := k + 1) (i := i) (S := t.app S)
   rw [show k + 1 + i = k + (i + 1) by omega] at this
   exact this
theorem appAll_fresh {i : Nat} : ∀ {ts : List Tr} {S : St}, (appAll ts S).fresh i = true → S.fresh i = true ∧ ∀ t, t ∈ ts → t.noId i = true := by
 intro ts
 induction ts with
 | nil => intro S h; exact ⟨h, fun t ht => by cases ht⟩
 | cons t ts ih =>
  intro S h
  obtain ⟨h1, h2⟩ := ih h
  obtain ⟨h3, h4⟩ := app_fresh.1 h1
  exact ⟨h3, fun u hu => by
   rcases List.mem_cons.1 hu with e | hu
   ·rw [e]; exact h4
   ·exact h2 u hu⟩
theorem runT_at {orcs : List (Nat × Orc)} : ∀ {l : List Oper} {k : Nat} {S : St} {ts : List Tr} {vc : List Prop}, runT P ops orcs k l S = some (ts, vc) → AllP vc → ts.length = l.length ∧ ∀ i o, l[i]? = some o → ∃ t v, ts[i]? = some t ∧ AllP v ∧ stepT P ops (appAll (ts.take i) S) o (orcAt (k + i) orcs) = some (t, v) := by
 intro l
 induction l with
 | nil =>
  intro k S ts vc h _
  cases h
  exact ⟨rfl, fun i o h => by simp at h⟩
 | cons o l ih =>
  intro k S ts vc h hvc
  unfold runT at h
  split at h
  ·rename_i t v1 h1
   split at h
   ·rename_i ts' v2 h2
    cases h
    obtain ⟨hv1, hv2⟩ := AllP_append.1 hvc
    obtain ⟨h3, h4⟩ := ih h2 hv2
    refine ⟨by simp [h3], fun i o' hi => ?_⟩
    cases i with
    | zero =>
     simp only [List.getElem?_cons_zero, Option.some.injEq] at hi
     subst hi
     exact ⟨t, v1, by simp, hv1, by simpa [appAll] using h1⟩
    | succ i =>
     obtain ⟨t', v, h5, h6, h7⟩ := h4 i o' (by simpa using hi)
     refine ⟨t', v, by simpa using h5, h6, ?_⟩
     rw [List.take_succ_cons, show k + (i + 1) = k + 1 + i by omega]
     exact h7
   ·cases h
  ·cases h
end
end Go.Proofs.Ytbpblhmigijkaaa
namespace Go.Proofs.Ytbpblhmigijkaaa
open Go.RowKit
set_option linter.unusedVariables false
inductive Chain (ops : Array Oper) : Nat → Nat → Prop
 | one {j : Nat} {o : Oper} {e : Edge} : ops[j]? = some o → e ∈ o.after → Region.binds .any e = true → Chain ops j e.on
 | more {j i : Nat} {o : Oper} {e : Edge} : ops[j]? = some o → e ∈ o.after → Region.binds .any e = true → Chain ops e.on i → Chain ops j i
def maskO (acc : List Nat) : List Edge → Nat
 | [] => 0
 | e :: r => match Region.binds .any e with
  | true => 2 ^ e.on ||| (acc.getD e.on 0 ||| maskO acc r)
  | false => maskO acc r
def befL : List Oper → List Nat → List Nat
 | [], acc => acc
 | o :: r, acc => befL r (acc ++ [maskO acc o.after.toList])
theorem maskO_spec {acc : List Nat} {i : Nat} : ∀ {l : List Edge}, (maskO acc l).testBit i = true → ∃ e, e ∈ l ∧ Region.binds .any e = true ∧ (e.on = i ∨ (acc.getD e.on 0).testBit i = true) := by
 intro l
 induction l with
 | nil => intro h; simp [maskO] at h
 | cons e r ih =>
  intro h
  unfold maskO at h
  split at h
  ·rename_i hb
   rw [Nat.testBit_or, Nat.testBit_or, Bool.or_eq_true, Bool.or_eq_true] at h
   rcases h with h | h | h
   ·rw [Nat.testBit_two_pow] at h
    exact ⟨e, List.mem_cons_self, hb, .inl (of_decide_eq_true h)⟩
   ·exact ⟨e, List.mem_cons_self, hb, .inr h⟩
   ·obtain ⟨e', h1, h2⟩ := ih h
    exact ⟨e', List.mem_cons_of_mem _ h1, h2⟩
  ·obtain ⟨e', h1, h2⟩ := ih h
   exact ⟨e', List.mem_cons_of_mem _ h1, h2⟩
theorem befL_spec {ops : Array Oper} : ∀ {l : List Oper} {acc : List Nat}, (∀ m, l[m]? = ops[acc.length + m]?) → (∀ j, ∀ i, (acc.getD j 0).testBit i = true → Chain ops j i) → ∀ j i, ((befL l acc).getD j 0).testBit i = true → Chain ops j i := by
 intro l
 induction l with
 | nil => intro acc _ h; exact h
 | cons o r ih =>
  intro acc hl h
  unfold befL
  refine ih (fun m => ?_) fun j i hb => ?_
  ·have := hl (m + 1)
   rw [List.getElem?_cons_succ] at this
   rw [this, List.length_append]
   congr 1
   simp; omega
  ·by_cases hj : j < acc.length
   ·rw [List.getD_eq_getElem?_getD, List.getElem?_append_left hj, ← List.getD_eq_getElem?_getD] at hb
    exact h j i hb
   ·by_cases he : j = acc.length
    ·subst he
     have h0 := hl 0
     simp only [List.getElem?_cons_zero, Nat.add_zero] at h0
     rw [List.getD_eq_getElem?_getD, List.getElem?_append_right (Nat.le_refl _), Nat.sub_self] at hb
     obtain ⟨e, h1, h2, h3⟩ := maskO_spec (by simpa using hb)
     have h1' : e ∈ o.after := by simpa using h1
     rcases h3 with rfl | h3
     ·exact .one h0.symm h1' h2
     ·exact .more h0.symm h1' h2 (h _ _ h3)
    ·rw [List.getD_eq_getElem?_getD, List.getElem?_eq_none (by simp; omega)] at hb
     simp at hb
def interB (l m : List Nat) : Bool := l.any fun i => memB' i m
def confB (t u : Tr) : Bool :=
 (match t.d with | some d => memB' d u.rs || (match u.d with | some d2 => Nat.beq d d2 | none => false) | none => false) ||
 ((match u.d with | some d => memB' d t.rs | none => false) ||
 (interB (t.wr.map (·.1)) (u.ns ++ u.wr.map (·.1)) || (interB (u.wr.map (·.1)) t.ns || t.wr.any fun p => !(u.noId p.1))))
def orderB (ts : List Tr) (masks : List Nat) : Bool :=
 (List.range ts.length).all fun j => (List.range j).all fun i => match ts[i]?, ts[j]? with
  | some t, some u => !(confB t u) || (masks.getD j 0).testBit i
  | _, _ => false
def edgesB : Nat → List Oper → Bool
 | _, [] => true
 | k, o :: r => (o.after.toList.all fun e => !(Region.binds .any e) || Nat.blt e.on k) && edgesB (k + 1) r
theorem edgesB_spec : ∀ {l : List Oper} {k : Nat}, edgesB k l = true → ∀ i o, l[i]? = some o → ∀ e, e ∈ o.after → Region.binds .any e = true → e.on < k + i := by
 intro l
 induction l with
 | nil => intro k _ i o h; simp at h
 | cons o r ih =>
  intro k h i o' hi e he hb
  unfold edgesB at h
  rw [Bool.and_eq_true] at h
  cases i with
  | zero =>
   simp only [List.getElem?_cons_zero, Option.some.injEq] at hi
   subst hi
   have := List.all_eq_true.1 h.1 e (by simpa using he)
   rw [hb] at this
   exact Nat.le_of_ble_eq_true this
  | succ i =>
   have := ih h.2 i o' (by simpa using hi) e he hb
   omega
theorem orderB_spec {ts : List Tr} {masks : List Nat} (h : orderB ts masks = true) {i j : Nat} {t u : Tr} (hij : i < j) (ht : ts[i]? = some t) (hu : ts[j]? = some u) (hc : confB t u = true) : (masks.getD j 0).testBit i = true := by
 have hj : j < ts.length := (List.getElem?_eq_some_iff.1 hu).1
 have := List.all_eq_true.1 (List.all_eq_true.1 h j (List.mem_range.2 hj)) i (List.mem_range.2 hij)
 rw [ht, hu] at this
 simp only [hc, Bool.not_true, Bool.false_or] at this
 exact this
theorem interB_mem {l m : List Nat} {i : Nat} (h1 : i ∈ l) (h2 : i ∈ m) : interB l m = true := List.any_eq_true.2 ⟨i, h1, memB'_iff.2 h2⟩
section
variable {P : Program} {E : Env} {S : St} {l : List Oper} {ts : List Tr} {orcs : List (Nat × Orc)}
structure Drawn (P : Program) (l : List Oper) (orcs : List (Nat × Orc)) (S : St) (ts : List Tr) : Prop where
 len : ts.length = l.length
 step : ∀ i o, l[i]? = some o → ∃ t v, ts[i]? = some t ∧ AllP v ∧ stepT P l.toArray (appAll (ts.take i) S) o (orcAt i orcs) = some (t, v)
 order : ∀ i j t u, i < j → ts[i]? = some t → ts[j]? = some u → confB t u = true → Chain l.toArray j i
 edges : ∀ i o, l[i]? = some o → ∀ e, e ∈ o.after → Region.binds .any e = true → e.on < i
theorem chain_closed {ops : Array Oper} {X : Nat → Bool} (hX : ∀ j o, X j = true → ops[j]? = some o → ∀ e, e ∈ o.after → Region.binds .any e = true → X e.on = true) {j i : Nat} (h : Chain ops j i) (hj : X j = true) : X i = true := by
 induction h with
 | one h1 h2 h3 => exact hX _ _ hj h1 _ h2 h3
 | more h1 h2 h3 _ ih => exact ih (hX _ _ hj h1 _ h2 h3)
theorem chain_ready {ops : Array Oper} {X : Nat → Bool} (hX : ∀ j o, X j = true → ops[j]? = some o → ∀ e, e ∈ o.after → Region.binds .any e = true → X e.on = true) {j i : Nat} (h : Chain ops j i) {o : Oper} (ho : ops[j]? = some o) (hr : ∀ e, e ∈ o.after → Region.binds .any e = true → X e.on = true) : X i = true := by
 cases h with
 | one h1 h2 h3 => rw [ho] at h1; cases h1; exact hr _ h2 h3
 | more h1 h2 h3 h4 => rw [ho] at h1; cases h1; exact chain_closed hX h4 (hr _ h2 h3)
theorem confB_dr {t u : Tr} {d : Nat} (h : t.d = some d) (hu : d ∈ u.rs) : confB t u = true := by
 unfold confB
 rw [h]
 simp [memB'_iff.2 hu]
theorem confB_rd {t u : Tr} {d : Nat} (h : u.d = some d) (ht : d ∈ t.rs) : confB t u = true := by
 unfold confB
 rw [h]
 simp [memB'_iff.2 ht]
theorem confB_dd {t u : Tr} {d : Nat} (h : t.d = some d) (hu : u.d = some d) : confB t u = true := by
 unfold confB
 rw [h, hu]
 simp
theorem confB_wn {t u : Tr} {i : Nat} (h : i ∈ t.wr.map (·.1)) (hu : i ∈ u.ns ++ u.wr.map (·.1)) : confB t u = true := by
 unfold confB
 rw [interB_mem h hu]
 simp
theorem confB_nw {t u : Tr} {i : Nat} (h : i ∈ u.wr.map (·.1)) (ht : i ∈ t.ns) : confB t u = true := by
 unfold confB
 rw [interB_mem h ht]
 simp
theorem confB_fr {t u : Tr} {i : Nat} (h : i ∈ t.wr.map (·.1)) (hu : u.noId i = false) : confB t u = true := by
 unfold confB
 obtain ⟨p, hp, rfl⟩ := List.mem_map.1 h
 have : (t.wr.any fun p => !(u.noId p.1)) = true := List.any_eq_true.2 ⟨p, hp, by rw [hu]; rfl⟩
 rw [this]
 simp
theorem Drawn.next (D : Drawn P l orcs S ts) {X : Nat → Bool} (hX : ∀ j o, X j = true → l.toArray[j]? = some o → ∀ e, e ∈ o.after → Region.binds .any e = true → X e.on = true) {i : Nat} {o : Oper} (ho : l[i]? = some o) (hi : X i = false) (hr : ∀ e, e ∈ o.after → Region.binds .any e = true → X e.on = true) :
  ∃ t v, ts[i]? = some t ∧ AllP v ∧ t.d = o.dst ∧ StepS P l.toArray (appX X 0 ts S) o (orcAt i orcs) t.x t.wr v ∧ Ent (t.app (appX X 0 ts S)) (appX (fun m => X m || decide (m = i)) 0 ts S) := by
 obtain ⟨t, v, ht, hv, hst⟩ := D.step i o ho
 have hoA : l.toArray[i]? = some o := by simpa using ho
 have hbefore : ∀ m u, m < i → ts[m]? = some u → confB u t = true → X m = true := fun m u hm hu hc => chain_ready hX (D.order m i u t hm hu ht hc) hoA hr
 have hafter : ∀ m u, i < m → ts[m]? = some u → confB t u = true → X m = false := fun m u hm hu hc => by
  cases hx : X m with
  | false => rfl
  | true =>
   have := chain_closed hX (D.order i m t u hm ht hu hc) hx
   rw [hi] at this; cases this
 have hpre : appX (fun m => decide (m < i)) 0 ts S = appAll (ts.take i) S := by
  have := appX_pre (ts := ts) (k := 0) (i := i) (S := S)
  rw [Nat.zero_add] at this
  exact this
 have hsl : ∀ q, (∀ m u, m < i → ts[m]? = some u → u.d = some q → confB u t = true) → (∀ m u, i < m → ts[m]? = some u → u.d = some q → confB t u = true) → (appX X 0 ts S).sl q = (appAll (ts.take i) S).sl q := fun q h1 h2 => by
  rw [← hpre]
  refine appX_sl (fun m u hu hd => ?_) rfl
  rw [Nat.zero_add]
  rcases Nat.lt_trichotomy m i with hlt | rfl | hgt
  ·rw [hbefore m u hlt hu (h1 m u hlt hu hd), decide_eq_true hlt]
  ·rw [hi, decide_eq_false (by omega)]
  ·rw [hafter m u hgt hu (h2 m u hgt hu hd), decide_eq_false (by omega)]
 have hcn : ∀ id, (∀ m u, m < i → ts[m]? = some u → id ∈ u.wr.map (·.1) → confB u t = true) → (∀ m u, i < m → ts[m]? = some u → id ∈ u.wr.map (·.1) → confB t u = true) → (appX X 0 ts S).cn id = (appAll (ts.take i) S).cn id := fun q h1 h2 => by
  rw [← hpre]
  refine appX_cn (fun m u hu hd => ?_) rfl
  rw [Nat.zero_add]
  rcases Nat.lt_trichotomy m i with hlt | rfl | hgt
  ·rw [hbefore m u hlt hu (h1 m u hlt hu hd), decide_eq_true hlt]
  ·rw [hi, decide_eq_false (by omega)]
  ·rw [hafter m u hgt hu (h2 m u hgt hu hd), decide_eq_false (by omega)]
 have hnt : (appX X 0 ts S).nt = (appAll (ts.take i) S).nt := by rw [← hpre, appX_nt.1, appX_nt.1]
 refine ⟨t, v, ht, hv, stepT_d hst, stepT_move hst hnt (fun q hq => hsl q (fun m u _ _ hd => confB_dr hd hq) (fun m u _ _ hd => confB_rd hd hq)) (fun id hid => hcn id (fun m u _ _ hw => confB_wn hw (List.mem_append_left _ hid)) (fun m u _ _ hw => confB_nw hw hid)) (fun n hn hns => ?_), ?_⟩
 ·have hfr := stepT_fresh hst n hn hns
  obtain ⟨h1, h2⟩ := appAll_fresh hfr
  refine St.fresh_sem (appX_fresh h1 fun m u hu hx => ?_)
  rw [Nat.zero_add] at hx
  rcases Nat.lt_trichotomy m i with hlt | rfl | hgt
  ·exact h2 u (List.mem_of_getElem? (i := m) (by rw [List.getElem?_take_of_lt hlt]; exact hu))
  ·rw [hi] at hx; cases hx
  ·cases hq : u.noId n with
   | true => rfl
   | false => rw [hafter m u hgt hu (confB_fr hn hq)] at hx; cases hx
 ·refine Ent.of_le ?_ ?_ (fun q x hq => ?_) (fun id c hq => ?_)
  ·rw [appX_nt.1, app_nt, appX_nt.1]
  ·rw [appX_nt.2, app_keep, appX_nt.2]
  ·rw [app_sl]
   by_cases hd : t.d = some q
   ·rw [if_pos hd, ← hq]
    have e1 : (appX (fun m => X m || decide (m = i)) 0 ts S).sl q = (appX (fun m => decide (m < i + 1)) 0 ts S).sl q := by
     refine appX_sl (fun m u hu hd2 => ?_) rfl
     rw [Nat.zero_add]
     rcases Nat.lt_trichotomy m i with hlt | rfl | hgt
     ·rw [hbefore m u hlt hu (confB_dd hd2 hd), decide_eq_true (show m < i + 1 by omega)]; rfl
     ·rw [decide_eq_true (show m < m + 1 by omega), hi]; simp
     ·rw [hafter m u hgt hu (confB_dd hd hd2), decide_eq_false (show ¬ m < i + 1 by omega), decide_eq_false (show ¬ m = i by omega)]; rfl
    have e2 : appX (fun m => decide (m < i + 1)) 0 ts S = appAll (ts.take (i + 1)) S := by
     have := appX_pre (ts := ts) (k := 0) (i := i + 1) (S := S)
     rw [Nat.zero_add] at this
     exact this
    have e3 : appAll (ts.take (i + 1)) S = t.app (appAll (ts.take i) S) := by
     have hgo : ∀ (l : List Tr) (S : St), appAll (l ++ [t]) S = t.app (appAll l S) := by
      intro l
      induction l with
      | nil => intro S; rfl
      | cons u l ih => intro S; exact ih _
     rw [List.take_add_one, ht]
     exact hgo _ _
    rw [e1, e2, e3, app_sl, if_pos hd]
   ·rw [if_neg hd, ← hq]
    refine appX_sl (fun m u hu hd2 => ?_) rfl
    rw [Nat.zero_add]
    by_cases hm : m = i
    ·subst hm
     rw [ht] at hu
     cases hu
     exact absurd hd2 hd
    ·rw [decide_eq_false hm]; simp
  ·rw [app_cn]
   by_cases hw : id ∈ t.wr.map (·.1)
   ·rw [← hq]
    have e1 : (appX (fun m => X m || decide (m = i)) 0 ts S).cn id = (appX (fun m => decide (m < i + 1)) 0 ts S).cn id := by
     refine appX_cn (fun m u hu hd2 => ?_) rfl
     rw [Nat.zero_add]
     rcases Nat.lt_trichotomy m i with hlt | rfl | hgt
     ·rw [hbefore m u hlt hu (confB_wn hd2 (List.mem_append_right _ hw)), decide_eq_true (show m < i + 1 by omega)]; rfl
     ·rw [decide_eq_true (show m < m + 1 by omega), hi]; simp
     ·rw [hafter m u hgt hu (confB_wn hw (List.mem_append_right _ hd2)), decide_eq_false (show ¬ m < i + 1 by omega), decide_eq_false (show ¬ m = i by omega)]; rfl
    have e2 : appX (fun m => decide (m < i + 1)) 0 ts S = appAll (ts.take (i + 1)) S := by
     have := appX_pre (ts := ts) (k := 0) (i := i + 1) (S := S)
     rw [Nat.zero_add] at this
     exact this
    have e3 : appAll (ts.take (i + 1)) S = t.app (appAll (ts.take i) S) := by
     have hgo : ∀ (l : List Tr) (S : St), appAll (l ++ [t]) S = t.app (appAll l S) := by
      intro l
      induction l with
      | nil => intro S; rfl
      | cons u l ih => intro S; exact ih _
     rw [List.take_add_one, ht]
     exact hgo _ _
    rw [e1, e2, e3, app_cn]
    obtain ⟨c2, hc2⟩ := mem_look hw
    rw [hc2]
   ·rw [look_none.2 hw, ← hq]
    refine appX_cn (fun m u hu hd2 => ?_) rfl
    rw [Nat.zero_add]
    by_cases hm : m = i
    ·subst hm
     rw [ht] at hu
     cases hu
     exact absurd hd2 hw
    ·rw [decide_eq_false hm]; simp
end
end Go.Proofs.Ytbpblhmigijkaaa
namespace Go.Proofs.Ytbpblhmigijkaaa
open Go.RowKit
set_option linter.unusedVariables false
section
variable {P : Program} {E : Env} {S : St} {l : List Oper} {ts : List Tr} {orcs : List (Nat × Orc)}
def cntF (l : List Bool) : Nat := (l.filter fun b => !b).length
theorem cnt_set {l : List Bool} {i : Nat} (h : l[i]? = some false) : cntF (l.set i true) + 1 = cntF l := by
 induction l generalizing i with
 | nil => simp at h
 | cons b l ih =>
  cases i with
  | zero =>
   simp only [List.getElem?_cons_zero, Option.some.injEq] at h
   subst h
   simp [cntF]
  | succ i =>
   have := ih (by simpa using h)
   unfold cntF at this ⊢
   cases b
   ·simp at this ⊢; omega
   ·simpa using this
theorem Drawn.any (D : Drawn P l orcs S ts) {Q : Exit → Act → World → Prop} (hQ : ∀ a w, G E (appAll ts S) a w → Q .normal a w) : ∀ (fuel : Nat) (listed : Array Bool) (a : Act) (w : World), listed.size = l.length →
  (∀ j o, listed.getD j false = true → l.toArray[j]? = some o → ∀ e, e ∈ o.after → Region.binds .any e = true → listed.getD e.on false = true) → cntF listed.toList ≤ fuel → G E (appX (fun m => listed.getD m false) 0 ts S) a w → wpAny P .any l.toArray Q fuel listed a w := by
 have hdone : ∀ (listed : Array Bool), listed.size = l.length → Region.ready .any l.toArray listed = [] → ∀ m, m < l.length → listed.getD m false = true := by
  intro listed hs hr m
  induction m using Nat.strongRecOn with
  | _ m ih =>
   intro hm
   cases hb : listed.getD m false with
   | true => rfl
   | false =>
    have hin : m ∈ Region.ready .any l.toArray listed := by
     rw [mem_ready]
     have hlt : m < listed.size := by omega
     refine ⟨by simp [hlt] at hb ⊢; exact hb, l[m], by simp [hm], fun e he hbn => ?_⟩
     have hlm : l[m]? = some l[m] := List.getElem?_eq_getElem hm
     have := D.edges m l[m] hlm e he hbn
     exact ih e.on this (by omega)
    rw [hr] at hin
    cases hin
 have hend : ∀ (listed : Array Bool) (a : Act) (w : World), listed.size = l.length → Region.ready .any l.toArray listed = [] → G E (appX (fun m => listed.getD m false) 0 ts S) a w → Q .normal a w := fun listed a w hs hr hg => by
  have hall := hdone listed hs hr
  refine hQ a w ?_
  have e1 : appAll ts S = appX (fun m => decide (m < ts.length)) 0 ts S := by
   have := appX_pre (ts := ts) (k := 0) (i := ts.length) (S := S)
   rw [Nat.zero_add, List.take_length] at this
   exact this.symm
  rw [e1]
  have hag : ∀ m t, ts[m]? = some t → decide (m < ts.length) = listed.getD m false := fun m t ht => by
   have hlt := (List.getElem?_eq_some_iff.1 ht).1
   rw [decide_eq_true hlt, hall m (by rw [← D.len]; exact hlt)]
  refine Ent.of_le ?_ ?_ (fun q x hq => ?_) (fun id c hq => ?_) E a w hg
  ·rw [appX_nt.1, appX_nt.1]
  ·rw [appX_nt.2, appX_nt.2]
  ·rw [← hq]
   exact appX_sl (fun m t ht _ => by rw [Nat.zero_add]; exact (hag m t ht).symm) rfl
  ·rw [← hq]
   exact appX_cn (fun m t ht _ => by rw [Nat.zero_add]; exact (hag m t ht).symm) rfl
 intro fuel
 induction fuel with
 | zero =>
  intro listed a w hs hX hc hg
  have hr : Region.ready .any l.toArray listed = [] := by
   cases hr : Region.ready .any l.toArray listed with
   | nil => rfl
   | cons i rs =>
    have hi : i ∈ Region.ready .any l.toArray listed := by rw [hr]; exact List.mem_cons_self
    rw [mem_ready] at hi
    obtain ⟨h1, o, h2, _⟩ := hi
    have hlt : i < listed.size := by
     rw [hs]
     have := (Array.getElem?_eq_some_iff.1 h2).1
     simpa using this
    have hf : listed.toList[i]? = some false := by simp [hlt] at h1 ⊢; exact h1
    have := cnt_set hf
    omega
  exact ⟨hr, hend listed a w hs hr hg⟩
 | succ fuel ih =>
  intro listed a w hs hX hc hg
  refine ⟨fun hr => hend listed a w hs hr hg, fun i hi => ?_⟩
  rw [mem_ready] at hi
  obtain ⟨h1, o, h2, h3⟩ := hi
  have hlt : i < listed.size := by
   rw [hs]
   have := (Array.getElem?_eq_some_iff.1 h2).1
   simpa using this
  have hf : listed.getD i false = false := by simp [hlt] at h1 ⊢; exact h1
  have hf2 : listed.toList[i]? = some false := by simp [hlt] at h1 ⊢; exact h1
  have ho : l[i]? = some o := by simpa using h2
  obtain ⟨t, v, ht, hv, hd, hstep, hent⟩ := D.next (X := fun m => listed.getD m false) hX ho hf h3
  have hset : ∀ m, (listed.setIfInBounds i true).getD m false = (listed.getD m false || decide (m = i)) := fun m => by
   by_cases hm : m = i
   ·subst hm
    rw [decide_eq_true rfl, Bool.or_true]
    simp [hlt]
   ·rw [decide_eq_false hm, Bool.or_false, getD_set_ne false (fun e => hm e.symm)]
  show wpOp P l.toArray Q i _ a w
  unfold wpOp
  simp only [h2]
  refine hstep.sound hv hg fun a' w' g' => ?_
  refine ih _ a' w' (by simp [hs]) (fun j oj hj hoj e he hb => ?_) ?_ ?_
  ·rw [hset] at hj ⊢
   rw [Bool.or_eq_true] at hj ⊢
   rcases hj with hj | hj
   ·exact .inl (hX j oj hj hoj e he hb)
   ·obtain rfl := of_decide_eq_true hj
    rw [h2] at hoj
    cases hoj
    exact .inl (h3 e he hb)
  ·have := cnt_set hf2
   rw [Array.toList_setIfInBounds]
   omega
  ·have e2 : (fun m => (listed.setIfInBounds i true).getD m false) = fun m => listed.getD m false || decide (m = i) := funext hset
   rw [e2]
   refine hent E a' w' ?_
   have : t.app (appX (fun m => listed.getD m false) 0 ts S) = ((appX (fun m => listed.getD m false) 0 ts S).mem t.wr).put o.dst t.x := by
    unfold Tr.app; rw [hd]
   rw [this]
   exact g'
def runD (P : Program) (l : List Oper) (orcs : List (Nat × Orc)) (S : St) (ks ids : List Nat) : Option (St × List Prop) :=
 match runT P l.toArray orcs 0 l S, noDefer l.toArray with
 | some (ts, vc), true => match edgesB 0 l, orderB ts (befL l []) with
  | true, true => some ((appAll ts S).cut ks ids, vc)
  | _, _ => none
 | _, _ => none
theorem aw_drawn {Q : Exit → St → Prop} {id : Nat} (orcs : List (Nat × Orc)) (ks ids : List Nat) (T : St) (vc : List Prop) (hm : P.follows .mixedOrders = true) (h : runD P l orcs S ks ids = some (T, vc)) (hvc : AllP vc) (hQ : Q .normal T) : AW P E (.region id l.toArray true) Q S := fun a w g n => by
 unfold runD at h
 split at h
 ·rename_i ts vc' hrun hd
  split at h
  ·rename_i hedge horder
   cases h
   obtain ⟨h1, h2⟩ := runT_at hrun hvc
   have D : Drawn P l orcs S ts :=
    {len := h1
     step := fun i o ho => by
      obtain ⟨t, v, h3, h4, h5⟩ := h2 i o ho
      rw [Nat.zero_add] at h5
      exact ⟨t, v, h3, h4, h5⟩
     order := fun i j t u hij ht hu hc => befL_spec (ops := l.toArray) (l := l) (acc := []) (fun m => by simp) (fun j i hb => by simp at hb) j i (orderB_spec horder hij ht hu hc)
     edges := fun i o ho e he hb => by
      have := edgesB_spec hedge i o ho e he hb
      omega }
   refine wpIn_mono (wpIn_drawn (Q := onlyN _) hm hd onlyN_out ?_) onlyN_mono
   have g2 : G E S a { w with drawn := w.drawn + 1 } := by
    obtain ⟨ν, sup, g'⟩ := g
    exact ⟨ν, sup, GW.drew g' rfl rfl rfl rfl⟩
   have hX0 : ∀ m, (Array.replicate l.toArray.size false).getD m false = false := fun m => by
    by_cases hm : m < l.length <;> simp [hm]
   refine D.any (fun a' w' g' => ⟨rfl, _, hQ, St.cut_ent _ ks ids E a' w' g'⟩) _ _ a _ (by simp) (fun j o hj => ?_) ?_ ?_
   ·rw [hX0] at hj; cases hj
   ·unfold cntF
    simp
   ·rw [appX_none (fun m _ => hX0 m)]
    exact g2
  ·cases h
 ·cases h
end
end Go.Proofs.Ytbpblhmigijkaaa
namespace Go.Proofs.Ytbpblhmigijkaaa
open Go.RowKit
set_option linter.unusedVariables false
def ix {α : Type} [Inhabited α] (xs : List α) (i : Nat) : α := xs.getD i default
def Lst {α : Type} [Inhabited α] (enc : α → List DV) (xs : List α) : Nat → Nat → DV := fun i j => (enc (ix xs i)).getD j default
abbrev DV.i (n : Int) : DV := .v (.int .i64 n)
def eI (n : Int) : List DV := [.i n]
section
variable {α : Type} [Inhabited α] {enc : α → List DV} {xs : List α}
theorem ix_app {ys : List α} {i : Nat} (h : i < xs.length) : ix (xs ++ ys) i = ix xs i := by
 unfold ix; rw [List.getD_eq_getElem?_getD, List.getD_eq_getElem?_getD, List.getElem?_append_left h]
theorem ix_app2 {ys : List α} {i : Nat} : ix (xs ++ ys) (xs.length + i) = ix ys i := by
 unfold ix; rw [List.getD_eq_getElem?_getD, List.getD_eq_getElem?_getD, List.getElem?_append_right (by omega), Nat.add_sub_cancel_left]
theorem ix_set {i k : Nat} {x : α} (h : i < xs.length) : ix (xs.set k x) i = if i = k then x else ix xs i := by
 unfold ix; rw [List.getD_eq_getElem?_getD, List.getD_eq_getElem?_getD, List.getElem?_set]
 by_cases hk : k = i
 ·subst hk; rw [if_pos rfl, if_pos h, if_pos rfl]; rfl
 ·rw [if_neg hk, if_neg (fun e => hk e.symm)]
theorem app_one {size n n' : Nat} {el2 : Nat → Nat → DV} {x : α} (hn : n = xs.length) (hn' : n' = n + 1) (h2 : ∀ j, j < size → el2 0 j = (enc x).getD j default) : AppOk size n 1 (Lst enc xs) el2 n' (Lst enc (xs ++ [x])) := by
 subst hn
 refine ⟨hn', fun i hi j hj => ?_, fun i hi j hj => ?_⟩
 ·unfold Lst; rw [ix_app hi]
 ·obtain rfl : i = 0 := by omega
  unfold Lst
  have := ix_app2 (xs := xs) (ys := [x]) (i := 0)
  rw [this, h2 j hj]; rfl
theorem app_nil {ys : List α} {size n' : Nat} {el : Nat → Nat → DV} {m : Nat} (hn' : n' = m) : AppOk size 0 m el (Lst enc ys) n' (Lst enc ys) :=
 ⟨by omega, fun i hi => by omega, fun i hi j hj => by rw [Nat.zero_add]⟩
theorem store_at {size n k j : Nat} {ds : List DV} {y : α} (hn : n ≤ xs.length) (h : ∀ q, q < size → (enc y).getD q default = if j ≤ q ∧ q < j + ds.length then ds.getD (q - j) default else (enc (ix xs k)).getD q default) : StoreOk size n (Lst enc xs) k j ds (Lst enc (xs.set k y)) := by
 intro i hi q hq
 unfold Lst
 rw [ix_set (by omega)]
 by_cases hk : i = k
 ·subst hk
  rw [if_pos rfl, h q hq]
  by_cases hc : j ≤ q ∧ q < j + ds.length
  ·rw [if_pos hc, if_pos ⟨rfl, hc⟩]
  ·rw [if_neg hc, if_neg (fun e => hc e.2)]
 ·rw [if_neg hk, if_neg (fun e => hk e.1)]
theorem plain_Lst {t size n : Nat} (h : ∀ x : α, ∀ j, j < size → ∃ v, (enc x).getD j default = .v v) : PlainC (.vec t size n (Lst enc xs)) := fun i _ j hj => h _ j hj
theorem plain_eI (x : Int) (j : Nat) (hj : j < 1) : ∃ v, (eI x).getD j default = .v v := by
 obtain rfl : j = 0 := by omega
 exact ⟨_, rfl⟩
end
end Go.Proofs.Ytbpblhmigijkaaa
namespace Go.Proofs.Ytbpblhmigijkaaa
open Go.RowKit
set_option linter.unusedVariables false
section
variable {Q : Exit → St → Prop} {N : St → Prop} {S : St} {id id' : Nat}
theorem exit_then (h : Q (.exit id) S) : thenS N Q (.exit id) S := h
theorem ret_then (h : Q .ret S) : thenS N Q .ret S := h
theorem exit_in (h : Q .normal S) : inBlockS id Q (.exit id) S := by simp only [inBlockS, if_true]; exact h
theorem exit_out (hne : Nat.beq id id' = false) (h : Q (.exit id) S) : inBlockS id' Q (.exit id) S := by
 have : ¬ id = id' := fun e => by subst e; simp at hne
 simp only [inBlockS, if_neg this]; exact h
theorem ret_block (h : Q .ret S) : inBlockS id Q .ret S := h
end
section
variable {ρ : List (Nat × Nat)} {S : St}
theorem conts_cons {i : Nat} {c d : Cn} {r : List (Nat × Option Cn)} (h : S.cn (renId ρ i) = some c) (k : CnLe ρ c d) (l : ContsLe ρ S r) : ContsLe ρ S ((i, some d) :: r) := by
 unfold ContsLe; rw [h]; exact ⟨k, l⟩
theorem dem_nil {F : Nat → Option Cn} {wr : List (Nat × Option Cn)} : DemF ρ F wr [] [] := trivial
theorem dem_cons {F : Nat → Option Cn} {wr : List (Nat × Option Cn)} {i : Nat} {c d : Cn} {is : List Nat} {cs : List (Option Cn)} (h : F (renId ρ i) = some c) (k : CnLe ρ c d) (l : DemF ρ F wr is cs) : DemF ρ F wr (i :: is) (some d :: cs) := by
 unfold DemF; rw [h]; exact ⟨k, l⟩
theorem le_vec {t s n n2 : Nat} {el el2 : Nat → Nat → DV} (hn : n = n2) (he : ∀ i, i < n → ∀ j, j < s → el i j = el2 i j) : CnLe ρ (.vec t s n el) (.vec t s n2 el2) := ⟨rfl, rfl, hn, he⟩
theorem le_vec_ro {t s n n2 : Nat} {el el2 : Nat → Nat → DV} (hn : n = n2) (he : ∀ i, i < n → ∀ j, j < s → el i j = el2 i j) : CnLe ρ (.vec t s n el) (.ro s n2 el2) := ⟨rfl, hn, he⟩
theorem le_ro {s n n2 : Nat} {el el2 : Nat → Nat → DV} (hn : n = n2) (he : ∀ i, i < n → ∀ j, j < s → el i j = el2 i j) : CnLe ρ (.ro s n el) (.ro s n2 el2) := ⟨rfl, hn, he⟩
theorem le_blk {t : Nat} {cs cs2 : List LV} (h : cs = cs2.map (LV.ren ρ)) : CnLe ρ (.blk t cs) (.blk t cs2) := ⟨rfl, h⟩
theorem le_blk_r {t : Nat} {cs cs2 : List LV} (h : cs = cs2.map (LV.ren ρ)) : CnLe ρ (.blk t cs) (.rblk cs2) := h
theorem le_rblk {cs cs2 : List LV} (h : cs = cs2.map (LV.ren ρ)) : CnLe ρ (.rblk cs) (.rblk cs2) := h
theorem el_rfl {n s : Nat} {el : Nat → Nat → DV} : ∀ i, i < n → ∀ j, j < s → el i j = el i j := fun _ _ _ _ => rfl
theorem lst_eq {α : Type} [Inhabited α] {enc : α → List DV} {xs ys : List α} {n s : Nat} (h : xs = ys) : ∀ i, i < n → ∀ j, j < s → Lst enc xs i j = Lst enc ys i j := fun i _ j _ => by rw [h]
theorem slot_i {t : Nat} {a b : Int} (h : S.sl t = some (.i a)) (e : a = b) : S.sl t = some (SV.ren ρ (.i b)) := by subst e; exact h
theorem slot_b {t : Nat} {a b : Bool} (h : S.sl t = some (.b a)) (e : a = b) : S.sl t = some (SV.ren ρ (.b b)) := by subst e; exact h
theorem wr_nil : WrOk S [] := trivial
theorem wr_cons {i : Nat} {c : Cn} {r : List (Nat × Option Cn)} (h : S.cn i = some c) (p : PlainC c) (k : WrOk S r) : WrOk S ((i, some c) :: r) := ⟨⟨h, p⟩, k⟩
theorem wr_none {i : Nat} {r : List (Nat × Option Cn)} (k : WrOk S r) : WrOk S ((i, none) :: r) := k
theorem plain_blk {t : Nat} {cs : List LV} : PlainC (.blk t cs) := trivial
theorem end_ok {P : Program} {fn : Func} {ids : List Nat} {res : SV} {wr : List (Nat × Option Cn)} (T : St) (h1 : Ent S T) (h2 : T.keep = ids) (h3 : resS P fn T = some res) (h4 : WrOk T wr) (h5 : endB res wr ids = true) : EndOk P fn ids res wr S := ⟨T, h1, h2, h3, h4, h5⟩
end
theorem Ent.nilSlot {S : St} (t id ty size : Nat) (el : Nat → Nat → DV) (h : S.sl t = some (.v (.slice none 0 0))) (hs : 0 < size) (hf : S.fresh id = true) : Ent S ((S.mem [(id, some (.vec ty size 0 el))]).put (some t) (.ls id)) := fun E a w ⟨ν, sup, g⟩ => by
 have hsem := St.fresh_sem hf
 let ν' := upd ν id (.slice none 0 0)
 let sup' := upd sup id (fun _ => False)
 have g1 : GW E (S.mem [(id, some (.vec ty size 0 el))]) ν' sup' a w := by
  refine GW.mem g (fun i => ?_) (fun i hi => ?_) (fun i hi => ?_) (Fr.refl _ _) (fun i c hl => ?_) (fun i c hl b hb => ?_) (fun i c hl ho b hb => ?_) (fun i c hl ho i' c' hl' ho' hne => ?_)
  ·simp only [ν', upd]
   split
   ·rfl
   ·exact g.one i
  ·have : i ≠ id := by simpa using hi
   exact ⟨upd_ne _ _ this, upd_ne _ _ this⟩
  ·have : i = id := by simpa using hi
   exact .inr (this ▸ hsem)
  ·obtain ⟨rfl, e⟩ := look_one hl
   cases e
   simp only [ν', sup', upd_self]
   exact ⟨[], hs, World.ownsRow_nil w 0 ty size, fun i hi => by omega⟩
  ·obtain ⟨rfl, e⟩ := look_one hl
   simp only [sup', upd_self] at hb
  ·obtain ⟨rfl, e⟩ := look_one hl
   simp only [ν', upd_self] at hb
   cases hb
  ·obtain ⟨e1, _⟩ := look_one hl
   obtain ⟨e2, _⟩ := look_one hl'
   exact absurd (e1.trans e2.symm) hne
 have ht := g.slot t _ h
 refine ⟨ν', sup', ?_⟩
 exact
  {mks := g1.mks, mkOwn := g1.mkOwn, mkSup := g1.mkSup, size := g1.size, one := g1.one
   slot := fun q x hq => by
    rw [St.sl_put] at hq
    by_cases he : t = q
    ·subst he
     rw [if_pos rfl] at hq
     cases hq
     rw [ht]
     simp only [SV.val, PV.val, LV.val, ν', upd_self]
    ·rw [if_neg he] at hq
     exact g1.slot q x hq
   cont := g1.cont, supLt := g1.supLt, ownSup := g1.ownSup, ownOwn := g1.ownOwn, ownMd := g1.ownMd, supMd := g1.supMd, keep := g1.keep, frame := g1.frame }
theorem Ent.nilCell {S : St} (i id ty size bt : Nat) (cs : List LV) (k : Nat) (el : Nat → Nat → DV) (hc : S.cn i = some (.blk bt cs)) (h : cs[k]? = some (.v (.slice none 0 0))) (hs : 0 < size) (hf : S.fresh id = true) (hne : Nat.beq i id = false) : Ent S (S.mem [(id, some (.vec ty size 0 el)), (i, some (.blk bt (cs.set k (.ls id))))]) := fun E a w ⟨ν, sup, g⟩ => by
 have hsem := St.fresh_sem hf
 have hne' : i ≠ id := fun e => by subst e; simp at hne
 let ν' := upd ν id (.slice none 0 0)
 let sup' := upd sup id (fun _ => False)
 refine ⟨ν', sup', ?_⟩
 have hlook : ∀ {x c}, look x [(id, some (Cn.vec ty size 0 el)), (i, some (Cn.blk bt (cs.set k (.ls id))))] = some (some c) → (x = id ∧ c = .vec ty size 0 el) ∨ (x = i ∧ c = .blk bt (cs.set k (.ls id)) ∧ x ≠ id) := fun hl => by
  rcases look_two hl with ⟨h1, h2⟩ | ⟨h1, h2, h3⟩
  ·cases h2; exact .inl ⟨h1, rfl⟩
  ·cases h2; exact .inr ⟨h1, rfl, h3⟩
 have hmap : (cs.set k (.ls id)).map (LV.val ν') = cs.map (LV.val ν) := by
  have hco : cs.map (LV.val ν') = cs.map (LV.val ν) := LV.map_congr fun j hj => upd_ne _ _ fun e => by
   have := hsem.cn i _ hc
   subst e
   simp only [Cn.noId] at this
   rw [this] at hj; cases hj
  rw [List.map_set, hco]
  have hv : LV.val ν' (.ls id) = .slice none 0 0 := upd_self _ _ _
  rw [hv]
  apply List.ext_getElem?
  intro z
  rw [List.getElem?_set]
  by_cases hz : k = z
  ·subst hz
   have hlt : k < cs.length := (List.getElem?_eq_some_iff.1 h).1
   rw [if_pos rfl, if_pos (by simpa using hlt), List.getElem?_map, h]
   rfl
  ·rw [if_neg hz]
 refine GW.mem g (fun j => ?_) (fun j hj => ?_) (fun j hj => ?_) (Fr.refl _ _) (fun j c hl => ?_) (fun j c hl b hb => ?_) (fun j c hl ho b hb => ?_) (fun j c hl ho j' c' hl' ho' hne2 b hb hb' => ?_)
 ·simp only [ν', upd]
  split
  ·rfl
  ·exact g.one j
 ·have h1 : j ≠ id := fun e => hj (by simp [e])
  exact ⟨upd_ne _ _ h1, upd_ne _ _ h1⟩
 ·by_cases he : j = id
  ·exact .inr (he ▸ hsem)
  ·exact .inl (upd_ne _ _ he)
 ·rcases hlook hl with ⟨rfl, rfl⟩ | ⟨rfl, rfl, h3⟩
  ·simp only [ν', sup', upd_self]
   exact ⟨[], hs, World.ownsRow_nil w 0 ty size, fun i hi => by omega⟩
  ·obtain ⟨b, e1, e2⟩ := g.cont j _ hc
   refine ⟨b, by rw [← e1]; exact upd_ne _ _ h3, ?_⟩
   rw [hmap]; exact e2
 ·rcases hlook hl with ⟨rfl, rfl⟩ | ⟨rfl, rfl, h3⟩
  ·simp only [sup', upd_self] at hb
  ·have hb2 : sup j b := by simp only [sup', upd_ne _ _ h3] at hb; exact hb
   refine ⟨g.supLt j _ hc b hb2, .inr (.inl ⟨j, _, hc, hb2⟩), fun j2 c2 hl2 ho2 hb3 => ?_⟩
   rcases hlook hl2 with ⟨rfl, rfl⟩ | ⟨rfl, rfl, h4⟩
   ·simp only [ν', upd_self] at hb3; cases hb3
   ·simp only [ν', upd_ne _ _ h4] at hb3
    exact g.ownSup _ _ hc rfl _ _ hc b hb3 hb2
 ·rcases hlook hl with ⟨rfl, rfl⟩ | ⟨rfl, rfl, h3⟩
  ·simp only [ν', upd_self] at hb; cases hb
  ·simp only [ν', upd_ne _ _ h3] at hb
   exact .inr ⟨j, _, by simp, hc, rfl, hb⟩
 ·rcases hlook hl with ⟨rfl, rfl⟩ | ⟨rfl, rfl, h3⟩
  ·simp only [ν', upd_self] at hb; cases hb
  ·rcases hlook hl' with ⟨rfl, rfl⟩ | ⟨rfl, rfl, h4⟩
   ·simp only [ν', upd_self] at hb'; cases hb'
   ·exact absurd rfl hne2
theorem CallFr.to {P : Program} {f : FuncId} {xs xs' : List SV} {ids ids' : List Nat} {cs' : List (Option Cn)} {res res' : SV} {wr wr' : List (Nat × Option Cn)} (h : CallFr P f xs ids cs' res wr) (ρ : List (Nat × Nat)) {cs : List (Option Cn)} (hB : atB ρ ids cs' res wr = true) (hx : xs.map (SV.ren ρ) = xs') (hi : ids.map (renId ρ) = ids') (hr : res.ren ρ = res') (hw : wrRen ρ wr = wr') (hd : DemF ρ (cnOf ids' cs) wr ids cs') :
  CallOK P f xs' ids' cs res' wr' := by
 subst hx hi hr hw; exact h.at_ ρ hB hd
end Go.Proofs.Ytbpblhmigijkaaa
