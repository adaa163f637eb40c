/- An abstract walk: ranges over functions; calls of function values. No program is in sight here. -/
import Derived.Test.YtbpblhmigijkaaaA26
import Derived.Shelf.Abstract
namespace Go.Proofs.Ytbpblhmigijkaaa
open Go.RowKit Go.Shelf
set_option linter.unusedVariables false
def LpIs (r : Loop) (st : LoopState) (pe : Option Code) : Obj → Prop := fun o => o = .loop { r with state := st, pending := pe }
def LV.ids : LV → List Nat
 | .v _ => []
 | .ref i _ => [i]
 | .el i _ _ _ => [i]
 | .ls i => [i]
 | .fnc _ c => c
 | .mth _ i => [i]
def lvIds : List LV → List Nat
 | [] => []
 | l :: r => l.ids ++ lvIds r
def PV.ids : PV → List Nat
 | .one l => l.ids
 | .agg ls => lvIds ls
def pvIds : List PV → List Nat
 | [] => []
 | l :: r => l.ids ++ pvIds r
def SV.ids : SV → List Nat
 | .p x => x.ids
 | .tup xs => pvIds xs
def frIds : List (Nat × SV) → List Nat
 | [] => []
 | p :: r => p.2.ids ++ frIds r
theorem LV.ids_val {ν ν' : Nat → Value} {l : LV} (h : ∀ i, i ∈ l.ids → ν' i = ν i) : l.val ν' = l.val ν := by
 cases l with
 | v x => rfl
 | ref i o => simp only [LV.val, h i (by simp [LV.ids])]
 | el i k s j => simp only [LV.val, h i (by simp [LV.ids])]
 | ls i => exact h i (by simp [LV.ids])
 | fnc f c =>
  have e : c.map ν' = c.map ν := List.map_congr_left fun i hi => h i hi
  simp only [LV.val, e]
 | mth f i => simp only [LV.val, h i (by simp [LV.ids])]
theorem lvIds_val {ν ν' : Nat → Value} : ∀ {ls : List LV}, (∀ i, i ∈ lvIds ls → ν' i = ν i) → ls.map (LV.val ν') = ls.map (LV.val ν) := by
 intro ls
 induction ls with
 | nil => intro _; rfl
 | cons l r ih =>
  intro h
  rw [List.map_cons, List.map_cons, LV.ids_val (fun i hi => h i (by simp [lvIds, hi])), ih (fun i hi => h i (by simp [lvIds, hi]))]
theorem PV.ids_val {ν ν' : Nat → Value} {x : PV} (h : ∀ i, i ∈ x.ids → ν' i = ν i) : x.val ν' = x.val ν := by
 cases x with
 | one l => exact LV.ids_val h
 | agg ls => simp only [PV.val, lvIds_val h]
theorem pvIds_val {ν ν' : Nat → Value} : ∀ {ls : List PV}, (∀ i, i ∈ pvIds ls → ν' i = ν i) → ls.map (PV.val ν') = ls.map (PV.val ν) := by
 intro ls
 induction ls with
 | nil => intro _; rfl
 | cons l r ih =>
  intro h
  rw [List.map_cons, List.map_cons, PV.ids_val (fun i hi => h i (by simp [pvIds, hi])), ih (fun i hi => h i (by simp [pvIds, hi]))]
theorem SV.ids_val {ν ν' : Nat → Value} {x : SV} (h : ∀ i, i ∈ x.ids → ν' i = ν i) : x.val ν' = x.val ν := by
 cases x with
 | p x => exact PV.ids_val h
 | tup xs => simp only [SV.val, pvIds_val h]
theorem frIds_at {t : Nat} {x : SV} : ∀ {fr : List (Nat × SV)}, look t fr = some x → ∀ i, i ∈ x.ids → i ∈ frIds fr := by
 intro fr
 induction fr with
 | nil => intro h; cases h
 | cons p r ih =>
  intro h i hi
  obtain ⟨q, y⟩ := p
  unfold look at h
  simp only [frIds, List.mem_append]
  split at h
  ·cases h; exact .inl hi
  ·exact .inr (ih h i hi)
def inclB (l m : List Nat) : Bool := l.all fun i => memB' i m
theorem inclB_at {l m : List Nat} (h : inclB l m = true) {i : Nat} (hi : i ∈ l) : i ∈ m := memB'_iff.1 (List.all_eq_true.1 h i hi)
def SlotsAt (tm : Array Value) (ν : Nat → Value) (S : St) : Prop := tm.size = S.nt ∧ ∀ t x, S.sl t = some x → tm[t]? = some (x.val ν)
def mksOf (ds : List Deferred) : List Nat := ds.filterMap fun d => match d.target with | .collected k => some k | _ => none
theorem mksOf_iff {k : Nat} {ds : List Deferred} (h : ∀ d, d ∈ ds → ∃ j, d = { target := .collected j, args := #[] }) : k ∈ mksOf ds ↔ ∃ d, d ∈ ds ∧ d = { target := .collected k, args := #[] } := by
 unfold mksOf
 rw [List.mem_filterMap]
 constructor
 ·rintro ⟨d, hd, e⟩
  obtain ⟨j, rfl⟩ := h d hd
  simp only [Option.some.injEq] at e
  subst e
  exact ⟨_, hd, rfl⟩
 ·rintro ⟨d, hd, rfl⟩
  exact ⟨_, hd, rfl⟩
theorem mkB_mks {E : Env} {S : St} {ν : Nat → Value} {sup : Nat → Nat → Prop} {a : Act} {w : World} (g : GW E S ν sup a w) {k : Nat} : k ∈ mksOf a.defers ++ E.mks ↔ mkB E a k := by
 rw [List.mem_append, mksOf_iff (fun d hd => by obtain ⟨j, e, _⟩ := g.mks.form d hd; exact ⟨j, e⟩)]
 unfold mkB
 constructor
 ·rintro (h | h)
  ·exact .inr h
  ·exact .inl h
 ·rintro (h | h)
  ·exact .inr h
  ·exact .inl h
theorem mkB_lt {E : Env} {S : St} {ν : Nat → Value} {sup : Nat → Nat → Prop} {a : Act} {w : World} (g : GW E S ν sup a w) {k : Nat} (h : mkB E a k) : k < w.heap.size := (Array.getElem?_eq_some_iff.1 (g.mks.at_ k h)).1
structure RangeAt (E : Env) (l : Nat) (r : Loop) (idL : Nat) (S : St) (ps : Array Tmp) (assign body : Code) : Prop where
 rnd : E.rnd = none
 at_ : E.ν0 idL = .map (some l)
 ps : r.params = ps
 assign : r.assign = assign
 body : r.body = body
 slots : SlotsAt r.tmps E.ν0 S
def backS (S T : St) (idL : Nat) : St := ⟨S.nt, S.keep, S.fr, (idL, none) :: T.hp⟩
def RangeEnd (P : Program) (fN : Func) (r : Loop) (idL : Nat) (S : St) (ks : List Nat) (Q : Exit → St → Prop) (e : Exit) (T : St) : Prop :=
  (e = .normal ∨ e = .ret) ∧ T.keep = ks ∧ (resS P fN T).isSome = true ∧
    ((T.cn idL = some (.mp (LpIs r .ready none)) ∧ Q .normal (backS S T idL)) ∨
     ∃ c, T.cn idL = some (.mp (LpIs r .done (some c))) ∧ ((c = .ret ∧ Q .ret (backS S T idL)) ∨ ∃ id, c = .exit id ∧ Q (.exit id) (backS S T idL)))
theorem backS_cn {S T : St} {idL id : Nat} {c : Cn} (h : (backS S T idL).cn id = some c) : id ≠ idL ∧ T.cn id = some c := by
 unfold backS St.cn at h
 simp only [look] at h
 cases hb : Nat.beq idL id with
 | true => rw [hb] at h; cases h
 | false =>
  rw [hb] at h
  exact ⟨fun e => by subst e; simp at hb, h⟩
theorem range_out {E E1 : Env} {S T : St} {ν ν2 : Nat → Value} {sup sup2 : Nat → Nat → Prop} {a : Act} {tm : Array Value} {w w3 : World} {idL l : Nat} {o o' : Obj} {good : Obj → Prop} {km : List Nat} {ks : List Nat}
  (g : GW E S ν sup a w) (g3 : GW E1 T ν2 sup2 { tmps := tm, defers := [] } w3) (hf : SemFresh S idL)
  (hw0 : E1.w0 = E.w0) (hmd : E1.md = E.md) (hrd : E1.rd = E.rd) (hν : ∀ id, id ≠ idL → E1.ν0 id = ν id) (hmk : E1.mks = km ++ (mksOf a.defers ++ E.mks))
  (hkm : ∀ k, k ∈ km → w.heap.size ≤ k) (hkn : km.Nodup) (hks : T.keep = ks) (hk1 : idL ∈ ks) (hk2 : inclB (frIds S.fr) ks = true) (hk3 : inclB S.keep ks = true)
  (hL : T.cn idL = some (.mp good)) (hl : ν2 idL = .map (some l)) (hlw : E.w0.heap.size ≤ l) (ho : w3.heap[l]? = some o) (hod : ∀ d, o ≠ .deferred d) :
  GW E (backS S T idL) ν2 sup2 { a with defers := km.map (fun k => { target := .collected k, args := #[] }) ++ a.defers } (w3.putObj l o') := by
 have hlt : l < w3.heap.size := (Array.getElem?_eq_some_iff.1 ho).1
 have hsame : ∀ b, b ≠ l → (w3.putObj l o').heap[b]? = w3.heap[b]? := fun b hb => World.putObj_heap_other hb
 have hsz : (w3.putObj l o').heap.size = w3.heap.size := by simp [World.putObj]
 have hLo : blkOf (ν2 idL) = some l := by rw [hl]; rfl
 have hkeep : ∀ id, id ∈ ks → id ≠ idL → ν2 id = ν id := fun id hi hne => by
  rw [g3.keep id (by rw [hks]; exact hi), hν id hne]
 have hfr : ∀ t x, S.sl t = some x → x.val ν2 = x.val ν := fun t x hx => SV.ids_val fun i hi => by
  refine hkeep i (inclB_at hk2 (frIds_at hx i hi)) fun e => ?_
  subst e
  have h1 := hf.sl t x hx
  have : ∀ y : SV, y.noId i = true → i ∉ y.ids := by
   have hl : ∀ q : LV, q.noId i = true → i ∉ q.ids := by
    intro q hq hm
    cases q with
    | v z => cases hm
    | ref j off => simp [LV.ids] at hm; subst hm; simp [LV.noId] at hq
    | el j k s q => simp [LV.ids] at hm; subst hm; simp [LV.noId] at hq
    | ls j => simp [LV.ids] at hm; subst hm; simp [LV.noId] at hq
    | fnc f c =>
     simp only [LV.ids] at hm
     have := List.all_eq_true.1 hq i hm
     simp at this
    | mth f j => simp [LV.ids] at hm; subst hm; simp [LV.noId] at hq
   have hls : ∀ ls : List LV, ls.all (LV.noId i) = true → i ∉ lvIds ls := by
    intro ls
    induction ls with
    | nil => intro _ hm; cases hm
    | cons q r ih =>
     intro h hm
     rw [List.all_cons, Bool.and_eq_true] at h
     simp only [lvIds, List.mem_append] at hm
     rcases hm with hm | hm
     ·exact hl q h.1 hm
     ·exact ih h.2 hm
   have hp : ∀ q : PV, q.noId i = true → i ∉ q.ids := by
    intro q hq
    cases q with
    | one q => exact hl q hq
    | agg ls => exact hls ls hq
   intro y hy
   cases y with
   | p q => exact hp q hy
   | tup xs =>
    have : ∀ xs : List PV, xs.all (PV.noId i) = true → i ∉ pvIds xs := by
     intro xs
     induction xs with
     | nil => intro _ hm; cases hm
     | cons q r ih =>
      intro h hm
      rw [List.all_cons, Bool.and_eq_true] at h
      simp only [pvIds, List.mem_append] at hm
      rcases hm with hm | hm
      ·exact hp q h.1 hm
      ·exact ih h.2 hm
    exact this xs hy
  exact this x h1 hi
 have hmkB : ∀ j, mkB E { a with defers := km.map (fun k => { target := .collected k, args := #[] }) ++ a.defers } j → mkB E1 { tmps := tm, defers := [] } j := fun j hj => by
  refine .inl ?_
  rw [hmk, List.mem_append]
  rcases hj with h | ⟨d, h1, h2⟩
  ·exact .inr ((mkB_mks g).2 (.inl h))
  ·rcases List.mem_append.1 h1 with h3 | h3
   ·obtain ⟨k, hk, e⟩ := List.mem_map.1 h3
    rw [h2] at e
    cases e
    exact .inl hk
   ·exact .inr ((mkB_mks g).2 (.inr ⟨d, h3, h2⟩))
 have hne : ∀ j, mkB E1 { tmps := tm, defers := [] } j → j ≠ l := fun j hj e => by
  subst e
  have := g3.mks.at_ j hj
  rw [ho] at this
  exact hod _ (Option.some.inj this)
 exact
  {mks :=
    {nodup := by
      refine List.nodup_append.2 ⟨?_, g.mks.nodup, ?_⟩
      ·exact List.Pairwise.map _ (fun x y hxy e => hxy (by cases e; rfl)) hkn
      ·intro x hx y hy e
       subst e
       obtain ⟨k, hk, rfl⟩ := List.mem_map.1 hx
       have h1 := mkB_lt g (k := k) (.inr ⟨_, hy, rfl⟩)
       have h2 := hkm k hk
       omega
     form := fun d hd => by
      rcases List.mem_append.1 hd with h3 | h3
      ·obtain ⟨k, hk, rfl⟩ := List.mem_map.1 h3
       have h2 := hkm k hk
       have h4 := g.frame.size
       exact ⟨k, rfl, by omega, fun h5 => by have := mkB_lt g (k := k) (.inl h5); omega⟩
      ·exact g.mks.form d h3
     at_ := fun j hj => by rw [hsame j (hne j (hmkB j hj))]; exact g3.mks.at_ j (hmkB j hj) }
   mkOwn := fun id c hc ho2 b hb hk => g3.mkOwn id c (backS_cn hc).2 ho2 b hb (hmkB b hk)
   mkSup := fun id c hc b hb hk => g3.mkSup id c (backS_cn hc).2 b hb (hmkB b hk)
   size := g.size, one := g3.one
   slot := fun t x hx => by
    have hx' : S.sl t = some x := hx
    rw [hfr t x hx']
    exact g.slot t x hx'
   cont := fun id c hc => by
    obtain ⟨h1, h2⟩ := backS_cn hc
    exact Cn.keep (g3.cont id c h2) (fun _ _ => rfl) (fun b hb => hsame b (fun e => g3.ownSup idL _ hL rfl id c h2 l hLo (e ▸ hb))) (fun _ x => x)
     (fun ho2 b hb => hsame b (fun e => g3.ownOwn id c h2 ho2 idL _ hL rfl h1 b hb (e ▸ hLo)))
   supLt := fun id c hc b hb => by rw [hsz]; exact g3.supLt id c (backS_cn hc).2 b hb
   ownSup := fun id c hc ho2 id' c' hc' => g3.ownSup id c (backS_cn hc).2 ho2 id' c' (backS_cn hc').2
   ownOwn := fun id c hc ho2 id' c' hc' => g3.ownOwn id c (backS_cn hc).2 ho2 id' c' (backS_cn hc').2
   ownMd := fun id c hc ho2 b hb => by have := g3.ownMd id c (backS_cn hc).2 ho2 b hb; rw [hw0, hmd] at this; exact this
   supMd := fun id c hc b hb => by have := g3.supMd id c (backS_cn hc).2 b hb; rw [hw0, hmd, hrd] at this; exact this
   keep := fun id hid => by
    have hid' : id ∈ S.keep := hid
    rw [hkeep id (inclB_at hk3 hid') (fun e => hf.keep (e ▸ hid'))]
    exact g.keep id hid'
   frame := by
    have hfr3 := g3.frame
    rw [hw0, hmd] at hfr3
    exact ⟨hfr3.os, hfr3.tape, hfr3.output, by rw [hsz]; exact hfr3.size, fun j hj hn => by rw [hsame j (by omega)]; exact hfr3.block j hj hn⟩ }
structure Entry (w w1 : World) (l : Nat) (km : List Nat) (o : Obj) : Prop where
 size : w.heap.size ≤ w1.heap.size
 same : ∀ b, b < w.heap.size → w1.heap[b]? = w.heap[b]?
 le : w.heap.size ≤ l
 at_ : w1.heap[l]? = some o
 kms : ∀ k, k ∈ km → w.heap.size ≤ k ∧ k ≠ l ∧ w1.heap[k]? = some (.deferred (some []))
 nd : km.Nodup
 os : w1.os = w.os
 tape : w1.tape = w.tape
 output : w1.output = w.output
def envIn (E : Env) (ν : Nat → Value) (idL l : Nat) (km : List Nat) (a : Act) : Env := ⟨E.w0, E.md, E.rd, upd ν idL (.map (some l)), km ++ (mksOf a.defers ++ E.mks), none⟩
theorem range_in {E : Env} {S : St} {ν : Nat → Value} {sup : Nat → Nat → Prop} {a : Act} {w w1 : World} {idL l : Nat} {km ks : List Nat} {o : Obj} {good : Obj → Prop} {nt : Nat} {fr1 : List (Nat × SV)} {tm : Array Value}
  (g : GW E S ν sup a w) (en : Entry w w1 l km o) (hf : SemFresh S idL) (hgo : good o) (hsz : tm.size = nt) (hsl : ∀ t x, look t fr1 = some x → tm[t]? = some (x.val (upd ν idL (.map (some l))))) :
  GW (envIn E ν idL l km a) ⟨nt, ks, fr1, (idL, some (.mp good)) :: S.hp⟩ (upd ν idL (.map (some l))) (upd sup idL fun _ => False) { tmps := tm, defers := [] } w1 := by
 have hcn : ∀ {id c}, (⟨nt, ks, fr1, (idL, some (.mp good)) :: S.hp⟩ : St).cn id = some c → (id = idL ∧ c = .mp good) ∨ (id ≠ idL ∧ S.cn id = some c) := fun {id c} h => by
  unfold St.cn at h
  simp only [look] at h
  cases hb : Nat.beq idL id with
  | true =>
   rw [hb] at h
   cases h
   exact .inl ⟨(Nat.eq_of_beq_eq_true hb).symm, rfl⟩
  | false =>
   rw [hb] at h
   exact .inr ⟨fun e => by subst e; simp at hb, h⟩
 have hmk : ∀ {k}, mkB (envIn E ν idL l km a) { tmps := tm, defers := [] } k → k ∈ km ∨ mkB E a k := fun {k} h => by
  rcases h with h | ⟨d, h, _⟩
  ·rcases List.mem_append.1 h with h | h
   ·exact .inl h
   ·exact .inr ((mkB_mks g).1 h)
  ·cases h
 have hbl : ∀ {b}, blkOf (upd ν idL (Value.map (some l)) idL) = some b → b = l := fun {b} h => by
  rw [upd_self] at h
  cases h; rfl
 exact
  {mks := ⟨List.nodup_nil, fun d h => (by cases h), fun k hk => by
    rcases hmk hk with h | h
    ·exact (en.kms k h).2.2
    ·rw [en.same k (mkB_lt g h)]; exact g.mks.at_ k h⟩
   mkOwn := fun id c hc ho b hb hk => by
    rcases hcn hc with ⟨rfl, rfl⟩ | ⟨hne, hcS⟩
    ·have := hbl hb
     subst this
     rcases hmk hk with h | h
     ·exact (en.kms b h).2.1 rfl
     ·have := mkB_lt g h; have := en.le; omega
    ·rw [upd_ne _ _ hne] at hb
     rcases hmk hk with h | h
     ·have h1 := g.own_lt hcS ho hb; have h2 := (en.kms b h).1; omega
     ·exact g.mkOwn id c hcS ho b hb h
   mkSup := fun id c hc b hb hk => by
    rcases hcn hc with ⟨rfl, rfl⟩ | ⟨hne, hcS⟩
    ·rw [upd_self] at hb; exact hb
    ·rw [upd_ne _ _ hne] at hb
     rcases hmk hk with h | h
     ·have h1 := g.supLt id c hcS b hb; have h2 := (en.kms b h).1; omega
     ·exact g.mkSup id c hcS b hb h
   size := hsz
   one := fun id => by
    by_cases h : id = idL
    ·subst h; rw [upd_self]; rfl
    ·rw [upd_ne _ _ h]; exact g.one id
   slot := hsl
   cont := fun id c hc => by
    rcases hcn hc with ⟨rfl, rfl⟩ | ⟨hne, hcS⟩
    ·exact ⟨l, o, upd_self _ _ _, en.at_, hgo⟩
    ·rw [upd_ne _ _ hne, upd_ne _ _ hne]
     refine Cn.keep (g.cont id c hcS) (fun j hj => upd_ne _ _ fun e => ?_) (fun b hb => en.same b (g.supLt id c hcS b hb)) (fun _ x => x) (fun ho b hb => en.same b (g.own_lt hcS ho hb))
     subst e
     rw [hf.cn id c hcS] at hj; cases hj
   supLt := fun id c hc b hb => by
    rcases hcn hc with ⟨rfl, rfl⟩ | ⟨hne, hcS⟩
    ·rw [upd_self] at hb; exact hb.elim
    ·rw [upd_ne _ _ hne] at hb
     exact Nat.lt_of_lt_of_le (g.supLt id c hcS b hb) en.size
   ownSup := fun id c hc ho id' c' hc' b hb hs => by
    rcases hcn hc' with ⟨rfl, rfl⟩ | ⟨hne', hcS'⟩
    ·rw [upd_self] at hs; exact hs
    ·rw [upd_ne _ _ hne'] at hs
     rcases hcn hc with ⟨rfl, rfl⟩ | ⟨hne, hcS⟩
     ·have := hbl hb
      subst this
      have h1 := g.supLt id' c' hcS' b hs; have h2 := en.le; omega
     ·rw [upd_ne _ _ hne] at hb
      exact g.ownSup id c hcS ho id' c' hcS' b hb hs
   ownOwn := fun id c hc ho id' c' hc' ho' hn b hb hb' => by
    rcases hcn hc with ⟨rfl, rfl⟩ | ⟨hne, hcS⟩
    ·have := hbl hb
     subst this
     rcases hcn hc' with ⟨rfl, rfl⟩ | ⟨hne', hcS'⟩
     ·exact hn rfl
     ·rw [upd_ne _ _ hne'] at hb'
      have h1 := g.own_lt hcS' ho' hb'; have h2 := en.le; omega
    ·rw [upd_ne _ _ hne] at hb
     rcases hcn hc' with ⟨rfl, rfl⟩ | ⟨hne', hcS'⟩
     ·have := hbl hb'
      subst this
      have h1 := g.own_lt hcS ho hb; have h2 := en.le; omega
     ·rw [upd_ne _ _ hne'] at hb'
      exact g.ownOwn id c hcS ho id' c' hcS' ho' hn b hb hb'
   ownMd := fun id c hc ho b hb => by
    rcases hcn hc with ⟨rfl, rfl⟩ | ⟨hne, hcS⟩
    ·have := hbl hb
     subst this
     exact .inl (Nat.le_trans g.frame.size en.le)
    ·rw [upd_ne _ _ hne] at hb
     exact g.ownMd id c hcS ho b hb
   supMd := fun id c hc b hb => by
    rcases hcn hc with ⟨rfl, rfl⟩ | ⟨hne, hcS⟩
    ·rw [upd_self] at hb; exact hb.elim
    ·rw [upd_ne _ _ hne] at hb
     exact g.supMd id c hcS b hb
   keep := fun _ _ => rfl
   frame := g.frame.trans (md' := fun _ => False) ⟨en.os, en.tape, en.output, en.size, fun k hk _ => en.same k hk⟩ (fun _ _ h => h.elim) }
def iterFn : LV → Option Nat
 | .fnc (.func f) _ => some f
 | .mth (.func f) _ => some f
 | _ => none
def capsOf : LV → List Nat
 | .fnc _ caps => caps
 | .mth _ id => [id]
 | _ => []
def iterXs (l : Nat) : LV → List SV
 | .fnc _ caps => .v (.func (.yield l) #[] #[]) :: caps.map fun i => .l (.ref i 0)
 | .mth _ id => [.l (.ref id 0), .v (.func (.yield l) #[] #[])]
 | _ => []
def ptrB (S : St) (id : Nat) : Bool := match S.cn id with | some (.blk _ _) => true | some (.rblk _) => true | _ => false
def iterSt (fN : Func) (ks : List Nat) (idL : Nat) (xs : List SV) (c : Cn) (S : St) : St := ⟨fN.ntmps, ks, initFr 0 xs, (idL, some c) :: S.hp⟩
theorem ptrB_val {E : Env} {S : St} {ν : Nat → Value} {sup : Nat → Nat → Prop} {a : Act} {w : World} (g : GW E S ν sup a w) {id : Nat} (h : ptrB S id = true) : LV.val ν (.ref id 0) = ν id := by
 unfold ptrB at h
 split at h
 ·rename_i t cs hc
  obtain ⟨b, e, _⟩ := g.cont id _ hc
  simp [LV.val, e]
 ·rename_i cs hc
  obtain ⟨b, off, e, _⟩ := g.cont id _ hc
  simp [LV.val, e]
 ·cases h
theorem enter_any {P : Program} {E : Env} {S : St} {ν : Nat → Value} {sup : Nat → Nat → Prop} {a : Act} {w : World} (g : GW E S ν sup a w) {ps : Array Tmp} {assign body : Code}
  (hrnd : E.rnd = none ∨ ∃ idO rO st pe l0, E.rnd = some idO ∧ S.cn idO = some (.mp (LpIs rO st pe)) ∧ idO ∈ S.keep ∧ E.ν0 idO = .map (some l0)) (fn : FuncId) :
  ∃ (l : Nat) (km : List Nat) (w1 : World) (dd : Nat), (Instr.enterLoop fn a.tmps ps assign body E.fence.round).run P w = .ok (l, km.map fun k => { target := .collected k, args := #[] }) w1 ∧ Entry w w1 l km (.loop ⟨.ready, none, fn, a.tmps, ps, assign, body, dd⟩) := by
 rcases hrnd with h | ⟨idO, rO, st, pe, l0, h, hc, hk, hν⟩
 ·have e : E.fence.round = none := by unfold Env.fence Env.at_; rw [h]; rfl
  rw [e]
  refine ⟨_, [w.heap.size], _, w.heap.size, run_enterLoop_outer fn a.tmps ps assign body, ?_⟩
  exact
   {size := by simp; omega
    same := fun b hb => by rw [Below.heap_alloc _ _ _ (by simp; omega), Below.heap_alloc _ _ _ hb]
    le := by omega
    at_ := by have := World.alloc_heap_new (w.alloc (.deferred (some []))) (.loop ⟨.ready, none, fn, a.tmps, ps, assign, body, w.heap.size⟩); rwa [World.size_alloc] at this
    kms := fun k hk => by
     rcases List.mem_singleton.1 hk with rfl
     exact ⟨Nat.le_refl _, by omega, (Below.heap_alloc _ _ _ (by simp)).trans (World.alloc_heap_new w _)⟩
    nd := by simp
    os := rfl, tape := rfl, output := rfl }
 ·have e : E.fence.round = some l0 := by unfold Env.fence Env.at_; rw [h]; simp only [hν]; rfl
  rw [e]
  obtain ⟨b, o, e1, hb, ho⟩ := g.cont idO _ hc
  rw [g.keep idO hk, hν] at e1
  cases e1
  unfold LpIs at ho
  subst ho
  refine ⟨_, [], _, rO.defers, run_enterLoop_inner hb fn a.tmps ps assign body, ?_⟩
  exact
   {size := by simp
    same := fun b hb => Below.heap_alloc _ _ _ hb
    le := Nat.le_refl _
    at_ := World.alloc_heap_new _ _
    kms := fun k hk => by cases hk
    nd := by simp
    os := rfl, tape := rfl, output := rfl }
theorem iter_val {E : Env} {S : St} {ν : Nat → Value} {sup : Nat → Nat → Prop} {a : Act} {w : World} (g : GW E S ν sup a w) {gv : LV} {gf idL l : Nat} (hi : iterFn gv = some gf) (hp : (capsOf gv).all (ptrB S) = true) (hne : memB' idL (capsOf gv) = false) {u : Value} :
  ∃ first captured : Array Value, gv.val ν = .func (.func gf) first captured ∧ (first ++ #[.func (.yield l) #[] #[]] ++ captured) = ((iterXs l gv).map (SV.val (upd ν idL u))).toArray := by
 have hnm : idL ∉ capsOf gv := fun h => by rw [memB'_iff.2 h] at hne; cases hne
 have hv : ∀ i, i ∈ capsOf gv → LV.val (upd ν idL u) (.ref i 0) = ν i := fun i hi => by
  have h1 : i ≠ idL := fun e => hnm (e ▸ hi)
  have h2 := ptrB_val g (List.all_eq_true.1 hp i hi)
  rw [← h2]
  simp only [LV.val, upd_ne _ _ h1]
 cases gv with
 | fnc f caps =>
  cases f <;> simp only [iterFn, Option.some.injEq, reduceCtorEq] at hi
  subst hi
  refine ⟨#[], (caps.map ν).toArray, rfl, ?_⟩
  have : caps.map (SV.val (upd ν idL u) ∘ fun i => SV.l (.ref i 0)) = caps.map ν := List.map_congr_left fun i hi => hv i hi
  simp only [iterXs, List.map_cons, List.map_map, this]
  simp [SV.val, PV.val, LV.val]
 | mth f id =>
  cases f <;> simp only [iterFn, Option.some.injEq, reduceCtorEq] at hi
  subst hi
  refine ⟨#[ν id], #[], rfl, ?_⟩
  have h1 := hv id (by simp [capsOf])
  simp only [iterXs, List.map_cons, List.map_nil, SV.val, PV.val, h1]
  simp [LV.val]
 | v x => cases hi
 | ref i o => cases hi
 | el i k s j => cases hi
 | ls i => cases hi
theorem aw_range {P : Program} {E : Env} {Q : Exit → St → Prop} {S : St} {g : Operand} {ps : Array Tmp} {assign body c : Code} {gf : Nat} {fN : Func} (gv : LV) (ks : List Nat) (idL : Nat)
  (hrnd : E.rnd = none ∨ ∃ idO rO st pe l0, E.rnd = some idO ∧ S.cn idO = some (.mp (LpIs rO st pe)) ∧ idO ∈ S.keep ∧ E.ν0 idO = .map (some l0))
  (hg : evO S.sl g = some (.l gv)) (hi : iterFn gv = some gf) (hfn : P.funcs[gf]? = some fN) (hb : fN.body = some c) (he : enterB P gf = true)
  (hk : ((capsOf gv).all (ptrB S) && (!(memB' idL (capsOf gv)) && (Nat.ble (iterXs 0 gv).length fN.ntmps && (S.fresh idL && (memB' idL ks && (inclB (frIds S.fr) ks && inclB S.keep ks)))))) = true)
  (h : ∀ E1 l r, RangeAt E1 l r idL S ps assign body → AW P E1 c (RangeEnd P fN r idL S ks Q) (iterSt fN ks idL (iterXs l gv) (.mp (LpIs r .ready none)) S)) : AW P E (.rangeFunc g ps assign body) Q S := fun a w ⟨ν, sup, g0⟩ n => by
 simp only [Bool.and_eq_true] at hk
 obtain ⟨hp, hne, hl, hfr, hk1, hk2, hk3⟩ := hk
 have hne : memB' idL (capsOf gv) = false := by simpa using hne
 have hf := St.fresh_sem hfr
 refine wpIn_rangeFunc fun fn hF => ?_
 obtain ⟨l, km, w1, dd, hen, en⟩ := enter_any (P := P) g0 (ps := ps) (assign := assign) (body := body) hrnd fn
 obtain ⟨first, captured, hgv, hargs⟩ := iter_val g0 (l := l) (u := .map (some l)) hi hp hne
 have hev : a.eval g = .func (.func gf) first captured := (evO_sound g0 hg).trans hgv
 have hlen : (iterXs l gv).length = (iterXs 0 gv).length := by cases gv <;> rfl
 have hl := Nat.le_of_ble_eq_true hl
 let r : Loop := ⟨.ready, none, fn, a.tmps, ps, assign, body, dd⟩
 let E1 : Env := envIn E ν idL l km a
 have hR : RangeAt E1 l r idL S ps assign body :=
  {rnd := rfl, at_ := upd_self _ _ _, ps := rfl, assign := rfl, body := rfl
   slots := ⟨g0.size, fun t x hx => by
    rw [g0.slot t x hx]
    congr 1
    refine (SV.val_congr fun id hid => upd_ne _ _ fun e => ?_).symm
    subst e
    rw [hf.sl t x hx] at hid; cases hid⟩ }
 have g1 : GW E1 (iterSt fN ks idL (iterXs l gv) (.mp (LpIs r .ready none)) S) (upd ν idL (.map (some l))) (upd sup idL fun _ => False) { tmps := ((iterXs l gv).map (SV.val (upd ν idL (.map (some l))))).toArray ++ Array.replicate (fN.ntmps - ((iterXs l gv).map (SV.val (upd ν idL (.map (some l))))).toArray.size) undef, defers := [] } w1 := by
  refine range_in g0 en hf rfl ?_ ?_
  ·simp
   omega
  ·intro t x hx
   obtain ⟨i, h1, h2⟩ := initFr_look (k := 0) hx
   rw [Nat.zero_add] at h1
   subst h1
   have hlt : t < (iterXs l gv).length := (List.getElem?_eq_some_iff.1 h2).1
   rw [Array.getElem?_append_left (by simpa using hlt)]
   simp [h2]
 refine ⟨l, km.map fun k => { target := .collected k, args := #[] }, w1, { target := .fn (.func gf) captured, args := first ++ #[.func (.yield l) #[] #[]] }, w1, gf, first ++ #[.func (.yield l) #[] #[]] ++ captured, w1, hen, ?_, fun f' _ => FenceOf.fn _ _, ?_, (fun h => by rw [show E.fence = FenceOf E.at_ from rfl, FenceOf.depth] at h; cases h), ?_⟩
 ·simp only [resolve, hev]
  simp [go_sem]
 ·simp [invoke, go_sem, callFunc_run he]
 rw [hargs]
 refine callsIn_fence.2 (callsIn_wide.1 (callsIn_of_wp_marks (n := 0) hfn hb trivial ?_))
 refine wpIn_mono (h E1 l r hR _ w1 ⟨_, _, g1⟩ 0) ?_
 rintro e a' w3 ⟨T, ⟨hex, hks, hres, hend⟩, ν2, sup2, g3⟩
 suffices key : LeavesInM Fence.wide 0 P fN a'.tmps (rangePost E.fence n P l (fun e a' w' => ∃ S', Q e S' ∧ G E S' a' w') { a with defers := (km.map fun k => { target := .collected k, args := #[] }) ++ a.defers }) a'.defers .returning w3 by rcases hex with rfl | rfl <;> exact key
 refine leaves_marks (E := E1) (S := T) (ν := ν2) (sup := sup2) (fun w4 g4 => ?_) a'.defers w3 g3
 obtain ⟨rs, hrs⟩ := Option.isSome_iff_exists.1 hres
 refine ⟨_, resS_run g4 hrs, ?_⟩
 have hlv : ν2 idL = .map (some l) := (g4.keep idL (by rw [hks]; exact memB'_iff.1 hk1)).trans (upd_self _ _ _)
 have out : ∀ {st : LoopState} {pe : Option Code} {o' : Obj}, T.cn idL = some (.mp (LpIs r st pe)) → w4.heap[l]? = some (.loop { r with state := st, pending := pe }) ∧ GW E (backS S T idL) ν2 sup2 { a with defers := (km.map fun k => { target := .collected k, args := #[] }) ++ a.defers } (w4.putObj l o') := fun {st pe o'} hT => by
  obtain ⟨b, o, e1, hb2, ho⟩ := g4.cont idL _ hT
  rw [hlv] at e1
  cases e1
  unfold LpIs at ho
  subst ho
  exact ⟨hb2, range_out g0 g4 hf rfl rfl rfl (fun id hid => upd_ne _ _ hid) rfl (fun k hk => (en.kms k hk).1) en.nd hks (memB'_iff.1 hk1) hk2 hk3 hT hlv (Nat.le_trans g0.frame.size en.le) hb2 (fun d e => by cases e)⟩
 rcases hend with ⟨hT, hQ⟩ | ⟨c', hT, hQ⟩
 ·obtain ⟨h1, h2⟩ := out (o' := .loop { r with state := .exhausted, pending := none }) hT
  exact ⟨none, _, run_endLoop h1 (by simp), ⟨_, hQ, _, _, h2⟩⟩
 ·obtain ⟨h1, h2⟩ := out (o' := .loop { r with state := .exhausted, pending := some c' }) hT
  refine ⟨some c', _, run_endLoop h1 (by simp), ?_⟩
  rcases hQ with ⟨rfl, hQ⟩ | ⟨id, rfl, hQ⟩
  ·exact wpIn_ret ⟨_, hQ, _, _, h2⟩
  ·exact wpIn_exit ⟨_, hQ, _, _, h2⟩
def yldAt (l : List Oper) (k : Nat) (T : St) : Option (Value × List SV × Option Nat) :=
 match l[k]? with
 | some o => match o.op with
  | .call c => match c.callee with
   | .value f => match evO T.sl f, evAll T.sl c.args.toList, guardOk l.toArray T o, dstOk T o with
    | some (.p (.one (.v u))), some xs, some true, true => some (u, xs, o.dst)
    | _, _, _, _ => none
   | _ => none
  | _ => none
 | none => none
def parFr : List Tmp → List SV → List (Nat × SV) → List (Nat × SV)
 | t :: ts, x :: xs, fr => parFr ts xs ((t, x) :: fr)
 | _, _, fr => fr
def runC (P : Program) (l : List Oper) (k : Nat) (orcs : List (Nat × Orc)) (S : St) (ks ids : List Nat) : Option (St × List Prop) :=
 match runI P l.toArray orcs 0 (l.take k) S with
 | some (S', vc) => some (S'.cut ks ids, vc)
 | none => none
def runT2 (P : Program) (l : List Oper) (k : Nat) (orcs : List (Nat × Orc)) (S : St) (ks ids : List Nat) : Option (St × List Prop) :=
 match runI P l.toArray orcs k (l.drop k) S with
 | some (S', vc) => some (S'.cut ks ids, vc)
 | none => none
def yBack (T T3 : St) (idL : Nat) (c : Cn) (dst : Option Nat) (b : Bool) : St := (⟨T.nt, T.keep, T.fr, (idL, some c) :: T3.hp⟩ : St).put dst (.b b)
def Cont (P : Program) (l : List Oper) (k : Nat) (Q : Exit → St → Prop) (S : St) : Prop :=
 ∃ orcs ks ids T vc, runT2 P l (k + 1) orcs S ks ids = some (T, vc) ∧ AllP vc ∧ Q .normal T
def RoundEnd (P : Program) (l : List Oper) (k : Nat) (T1 : St) (idL : Nat) (r : Loop) (dst : Option Nat) (ks2 : List Nat) (Q : Exit → St → Prop) (e : Exit) (T3 : St) : Prop :=
 T3.keep = ks2 ∧ T3.cn idL = some (.mp (LpIs r .busy none)) ∧
  match e with
  | .normal => Cont P l k Q (yBack T1 T3 idL (.mp (LpIs r .ready none)) dst true)
  | .ret => Cont P l k Q (yBack T1 T3 idL (.mp (LpIs r .done (some .ret))) dst false)
  | .exit id => Cont P l k Q (yBack T1 T3 idL (.mp (LpIs r .done (some (.exit id)))) dst false)
  | _ => False
theorem opsIn_run {r : Option Nat} {n : Nat} {P : Program} {ops : Array Oper} {Q : Exit → Act → World → Prop} {E : Env} {orcs : List (Nat × Orc)} {rest : List Nat} (hnd : noDefer ops = true) (hQ : ¬ LetsOut Q) :
  ∀ {l : List Oper} {i : Nat} {S S' : St} {vc : List Prop} {a : Act} {w : World}, (∀ j, j < l.length → ops[i + j]? = l[j]?) → runI P ops orcs i l S = some (S', vc) → AllP vc → G E S a w → (∀ a' w', G E S' a' w' → wpOpsIn (FenceOf r) n P ops Q rest a' w') →
   wpOpsIn (FenceOf r) n P ops Q (List.range' i l.length ++ rest) a w := by
 intro l
 induction l with
 | nil =>
  intro i S S' vc a w _ h _ g hK
  cases h
  exact hK a w g
 | cons o l ih =>
  intro i S S' vc a w hl h hvc g hK
  unfold runI at h
  split at h
  ·rename_i S1 v1 h1
   split at h
   ·rename_i S2 v2 h2
    cases h
    obtain ⟨hv1, hv2⟩ := AllP_append.1 hvc
    have ho : ops[i]? = some o := by have := hl 0 (by simp); simpa using this
    have hst := step_sound (K := wpOpsIn (FenceOf r) n P ops Q (List.range' (i + 1) l.length ++ rest)) (Q := Q) h1 hv1 g fun a' w' g' => ih (fun j hj => by
     have := hl (j + 1) (by simp; omega)
     rw [show i + 1 + j = i + (j + 1) by omega, this]
     simp) h2 hv2 g' hK
    rw [List.length_cons, List.range'_succ, List.cons_append]
    simp only [wpOpsIn, ho]
    unfold StepWp at hst
    split
    ·rename_i hw
     rw [if_pos hw] at hst
     rcases hst with hst | ⟨_, hst⟩
     ·refine opIn_of (fun c hc => ?_) hQ hst
      unfold noDefer at hnd
      rw [Array.all_eq_true_iff_forall_mem] at hnd
      have := hnd o (Array.mem_of_getElem? ho)
      rw [hc] at this; cases this
     ·exact absurd hst hQ
    ·rename_i hw
     rw [if_neg hw] at hst
     exact ⟨fun _ _ => FenceOf.fn r _, hst⟩
   ·cases h
  ·cases h
theorem SlotsAt.put {tm : Array Value} {ν : Nat → Value} {S : St} (h : SlotsAt tm ν S) {t : Nat} (x : SV) (ht : t < S.nt) : SlotsAt (tm.setIfInBounds t (x.val ν)) ν ⟨S.nt, S.keep, (t, x) :: S.fr, S.hp⟩ := by
 refine ⟨by simp [h.1], fun q y hy => ?_⟩
 have hq : (if t = q then some x else S.sl q) = some y := (St.sl_put (S := S) (d := t) (t := q) (x := x)).symm.trans hy
 split at hq
 ·rename_i e
  subst e
  cases hq
  rw [Array.getElem?_setIfInBounds_self_of_lt (by rw [h.1]; exact ht)]
 ·rename_i e
  rw [Array.getElem?_setIfInBounds_ne (by omega)]
  exact h.2 q y hq
theorem slots_par {ν : Nat → Value} : ∀ {ts : List Tmp} {xs : List SV} {tm : Array Value} {S : St}, SlotsAt tm ν S → (∀ t, t ∈ ts → t < S.nt) → SlotsAt ((ts.zip (xs.map (SV.val ν))).foldl (fun tm (t, v) => tm.setIfInBounds t v) tm) ν ⟨S.nt, S.keep, parFr ts xs S.fr, S.hp⟩ := by
 intro ts
 induction ts with
 | nil => intro xs tm S h _; cases xs <;> exact h
 | cons t ts ih =>
  intro xs tm S h ht
  cases xs with
  | nil => exact h
  | cons x xs => exact ih (S := ⟨S.nt, S.keep, (t, x) :: S.fr, S.hp⟩) (h.put x (ht t List.mem_cons_self)) fun q hq => ht q (List.mem_cons_of_mem _ hq)
theorem GW.record {E : Env} {S : St} {ν : Nat → Value} {sup : Nat → Nat → Prop} {a : Act} {w : World} (g : GW E S ν sup a w) {idL l : Nat} {good good' : Obj → Prop} {o' : Obj} (hc : S.cn idL = some (.mp good)) (hl : ν idL = .map (some l)) (ho : good' o') : GW E (S.mem [(idL, some (.mp good'))]) ν sup a (w.putObj l o') := by
 obtain ⟨b, o, e1, hb, _⟩ := g.cont idL _ hc
 rw [hl] at e1
 cases e1
 have hlt : l < w.heap.size := (Array.getElem?_eq_some_iff.1 hb).1
 have hmw : MW (cnOf [idL] [some (.mp good)]) ν sup w :=
  {one := g.one
   cont := fun id c h => by
    have h := (cnOf_map (f := S.cn) (ids := [idL]) (by simpa [hc] using h)).1
    exact g.cont id c h
   supLt := fun id c h => g.supLt id c (cnOf_map (f := S.cn) (ids := [idL]) (by simpa [hc] using h)).1
   ownSup := fun id c h ho id' c' h' => g.ownSup id c (cnOf_map (f := S.cn) (ids := [idL]) (by simpa [hc] using h)).1 ho id' c' (cnOf_map (f := S.cn) (ids := [idL]) (by simpa [hc] using h')).1
   ownOwn := fun id c h ho id' c' h' => g.ownOwn id c (cnOf_map (f := S.cn) (ids := [idL]) (by simpa [hc] using h)).1 ho id' c' (cnOf_map (f := S.cn) (ids := [idL]) (by simpa [hc] using h')).1 }
 have hcn : ∀ {id c}, cnOf [idL] [some (Cn.mp good)] id = some c → S.cn id = some c := fun {id c} h => (cnOf_map (f := S.cn) (ids := [idL]) (by simpa [hc] using h)).1
 have c := Chg.mod1 (w' := w.putObj l o') hmw (i := idL) (c := .mp good) (c' := .mp good') cnOf_one rfl ⟨rfl, rfl, rfl, by simp [World.putObj], fun k _ hn => World.putObj_heap_other fun e => hn (by rw [hl, e]; rfl)⟩ ⟨l, o', hl, World.putObj_heap_same hlt, ho⟩
 refine GW.mem g c.one c.rest (fun id hm => .inl rfl) (c.fr.mono fun k _ ⟨id, c0, hm, h, ho, hb⟩ => ⟨id, c0, hm, hcn h, ho, hb⟩) c.cont (fun id c0 hl b hb => ?_) (fun id c0 hl ho b hb => ?_) c.apart
 ·obtain ⟨h1, h2, h3⟩ := c.sup id c0 hl b hb
  refine ⟨h1, ?_, h3⟩
  rcases h2 with h2 | ⟨id0, c1, h4, h5⟩ | ⟨id0, c1, h6, h4, h7, h8⟩
  ·exact .inl h2
  ·exact .inr (.inl ⟨id0, c1, hcn h4, h5⟩)
  ·exact .inr (.inr ⟨id0, c1, h6, hcn h4, h7, h8⟩)
 ·rcases c.own id c0 hl ho b hb with h2 | ⟨id0, c1, h6, h4, h7, h8⟩
  ·exact .inl h2
  ·exact .inr ⟨id0, c1, h6, hcn h4, h7, h8⟩
def envRd (E : Env) (ν : Nat → Value) (idL : Nat) (a : Act) : Env := ⟨E.w0, E.md, E.rd, ν, mksOf a.defers ++ E.mks, some idL⟩
theorem yield_in {E : Env} {T1 : St} {ν : Nat → Value} {sup : Nat → Nat → Prop} {a : Act} {w : World} (g : GW E T1 ν sup a w) {idL nt : Nat} {ks2 : List Nat} {fr : List (Nat × SV)} {tm : Array Value} (hs : SlotsAt tm ν ⟨nt, ks2, fr, T1.hp⟩) :
  GW (envRd E ν idL a) ⟨nt, ks2, fr, T1.hp⟩ ν sup { tmps := tm, defers := [] } w :=
 have hmk : ∀ {k}, mkB (envRd E ν idL a) { tmps := tm, defers := [] } k → mkB E a k := fun {k} h => by
  rcases h with h | ⟨d, h, _⟩
  ·exact (mkB_mks g).1 h
  ·cases h
 {mks := ⟨List.nodup_nil, fun d h => (by cases h), fun k hk => g.mks.at_ k (hmk hk)⟩
  mkOwn := fun id c hc ho b hb hk => g.mkOwn id c hc ho b hb (hmk hk)
  mkSup := fun id c hc b hb hk => g.mkSup id c hc b hb (hmk hk)
  size := hs.1, one := g.one, slot := hs.2, cont := g.cont, supLt := g.supLt, ownSup := g.ownSup, ownOwn := g.ownOwn, ownMd := g.ownMd, supMd := g.supMd
  keep := fun _ _ => rfl
  frame := g.frame }
theorem yield_out {E : Env} {T1 T3 : St} {ν ν3 : Nat → Value} {sup sup3 : Nat → Nat → Prop} {a a3 : Act} {w w3 : World} {idL : Nat} (g : GW E T1 ν sup a w) (g3 : GW (envRd E ν idL a) T3 ν3 sup3 a3 w3) {ks2 : List Nat} (hk : T3.keep = ks2) (hk1 : inclB (frIds T1.fr) ks2 = true) (hk2 : inclB T1.keep ks2 = true) :
  GW E ⟨T1.nt, T1.keep, T1.fr, T3.hp⟩ ν3 sup3 a w3 :=
 have hmk : ∀ {k}, mkB E a k → mkB (envRd E ν idL a) a3 k := fun {k} h => .inl ((mkB_mks g).2 h)
 have hν : ∀ {i}, i ∈ ks2 → ν3 i = ν i := fun {i} hi => g3.keep i (by rw [hk]; exact hi)
 {mks := ⟨g.mks.nodup, g.mks.form, fun k hk => g3.mks.at_ k (hmk hk)⟩
  mkOwn := fun id c hc ho b hb hk => g3.mkOwn id c hc ho b hb (hmk hk)
  mkSup := fun id c hc b hb hk => g3.mkSup id c hc b hb (hmk hk)
  size := g.size, one := g3.one
  slot := fun t x hx => by
   rw [show x.val ν3 = x.val ν from SV.ids_val fun i hi => hν (inclB_at hk1 (frIds_at hx i hi))]
   exact g.slot t x hx
  cont := g3.cont, supLt := g3.supLt, ownSup := g3.ownSup, ownOwn := g3.ownOwn, ownMd := g3.ownMd, supMd := g3.supMd
  keep := fun id hid => (hν (inclB_at hk2 hid)).trans (g.keep id hid)
  frame := g3.frame }
theorem aw_yield {P : Program} {E : Env} {Q : Exit → St → Prop} {lp : Nat} {r : Loop} {idL : Nat} {S : St} {ps : Array Tmp} {assign body : Code} (hR : RangeAt E lp r idL S ps assign body) {id : Nat} {l : List Oper} {T : St} (k : Nat) (orcs : List (Nat × Orc)) (T1 : St) (vc : List Prop) (xs : List SV) (dst : Option Nat) (ks2 : List Nat)
  (h1 : runC P l k orcs T (T1.fr.map (·.1)) (T1.hp.map (·.1)) = some (T1, vc)) (hvc : AllP vc) (hy : yldAt l k T1 = some (.func (.yield lp) #[] #[], xs, dst)) (hrec : T1.cn idL = some (.mp (LpIs r .ready none)))
  (hB : (noDefer l.toArray && (Nat.beq xs.length ps.size && (ps.toList.all (fun t => Nat.blt t S.nt) && (memB' idL T1.keep && (inclB (frIds S.fr) T1.keep && (memB' idL ks2 && (inclB (frIds T1.fr) ks2 && inclB T1.keep ks2))))))) = true)
  (hround : ∀ E2, E2.rnd = some idL → E2.ν0 idL = .map (some lp) → AW P E2 assign (thenS (fun T2 => T2.keep = ks2 ∧ T2.cn idL = some (.mp (LpIs r .ready none)) ∧ AW P E2 body (RoundEnd P l k T1 idL r dst ks2 Q) (T2.mem [(idL, some (.mp (LpIs r .busy none)))])) (fun _ _ => False)) ⟨S.nt, ks2, parFr ps.toList xs S.fr, T1.hp⟩) :
  AW P E (.region id l.toArray false) Q T := fun a w g0 n => by
 simp only [Bool.and_eq_true] at hB
 obtain ⟨hnd, hlen, hps, hi1, hi2, hi3, hi4, hi5⟩ := hB
 have hlen := Nat.eq_of_beq_eq_true hlen
 obtain ⟨S1, h1, hT1⟩ : ∃ S1, runI P l.toArray orcs 0 (l.take k) T = some (S1, vc) ∧ Ent S1 T1 := by
  generalize T1.fr.map (·.1) = ks at h1
  generalize T1.hp.map (·.1) = is at h1
  unfold runC at h1
  split at h1
  ·rename_i S1 vc1 h
   cases h1
   exact ⟨S1, h, S1.cut_ent ks is⟩
  ·cases h1
 unfold yldAt at hy
 split at hy
 ·rename_i o hk
  split at hy
  ·rename_i c hop
   split at hy
   ·rename_i f hcal
    split at hy
    ·rename_i u xs' hf hxs hgd hds
     simp only [Option.some.injEq, Prod.mk.injEq] at hy
     obtain ⟨rfl, rfl, rfl⟩ := hy
     have hkl : k < l.length := (List.getElem?_eq_some_iff.1 hk).1
     have hdst : ∀ t, o.dst = some t → t < T1.nt := fun t ht => by
      unfold dstOk at hds
      rw [ht] at hds
      exact Nat.le_of_ble_eq_true hds
     have hfe : E.fence = FenceOf none := by unfold Env.fence Env.at_; rw [hR.rnd]
     rw [hfe]
     refine wpIn_mono (Q := onlyN fun e a' w' => ∃ S', Q e S' ∧ G E S' a' w') ?_ onlyN_mono
     refine wpIn_region ?_
     have hrange : List.range l.toArray.size = List.range' 0 (l.take k).length ++ (k :: (List.range' (k + 1) (l.drop (k + 1)).length ++ [])) := by
      rw [List.size_toArray, List.range_eq_range', List.append_nil, List.length_take, List.length_drop, Nat.min_eq_left (by omega)]
      have h2 : k :: List.range' (k + 1) (l.length - (k + 1)) = List.range' k (l.length - k) := by
       rw [show l.length - k = (l.length - (k + 1)) + 1 by omega, List.range'_succ]
      rw [h2]
      have := List.range'_append (s := 0) (m := k) (n := l.length - k) (step := 1)
      rw [Nat.one_mul, Nat.zero_add] at this
      rw [this]
      congr 1
      omega
     rw [hrange]
     refine opsIn_run hnd onlyN_out (fun j hj => ?_) h1 hvc g0 fun a1 w1 g1 => ?_
     ·rw [List.length_take, Nat.min_eq_left (by omega)] at hj
      simp [hj]
     obtain ⟨ν, sup, g⟩ := hT1 E a1 w1 g1
     have hok : l.toArray[k]? = some o := by simpa using hk
     simp only [wpOpsIn, hok]
     rw [guardOk_spec g hgd, if_pos rfl]
     refine ⟨fun _ _ => FenceOf.fn _ _, ?_⟩
     have hargs : c.args.map a1.eval = (xs'.map (SV.val ν)).toArray := by
      have := evAll_sound g hxs
      rw [← this, ← Array.toList_map, Array.toArray_toList]
     have hlv : ν idL = .map (some lp) := (g.keep idL (memB'_iff.1 hi1)).trans hR.at_
     obtain ⟨b, ob, e1, hb, hob⟩ := g.cont idL _ hrec
     rw [hlv] at e1
     cases e1
     unfold LpIs at hob
     subst hob
     have hyr := run_yield (P := P) (args := (xs'.map (SV.val ν)).toArray) hb (by simp only [hR.ps]; simpa using hlen)
     have hsem : (o.semAt (FenceOf none).round a1.eval).run P w1 = .ok (.round lp r.fn ((r.params.zip (xs'.map (SV.val ν)).toArray).foldl (fun tmps (t, a) => tmps.setIfInBounds t a) r.tmps) r.assign r.body) w1 := by
      rw [Oper.semAt_eq _ _ _ (fun c2 h => by rw [hop] at h; cases h)]
      unfold execOp
      rw [hop]
      have hfv : a1.eval f = .func (.yield lp) #[] #[] := evO_sound g hf
      simp only [resolve, hcal, hargs, hfv]
      simp only [Deferred.ofValue, Sem.run_bind, Sem.run_pure, Result.andThen, invoke]
      simpa using hyr
     rw [hsem]
     simp only [Oper.uponIn]
     refine ⟨(fun h => by rw [FenceOf.depth] at h; cases h), ?_⟩
     have hslots : SlotsAt ((r.params.zip (xs'.map (SV.val ν)).toArray).foldl (fun tmps (t, a) => tmps.setIfInBounds t a) r.tmps) ν ⟨S.nt, ks2, parFr ps.toList xs' S.fr, T1.hp⟩ := by
      have h0 : SlotsAt r.tmps ν S := ⟨hR.slots.1, fun t x hx => by
       rw [hR.slots.2 t x hx]
       congr 1
       exact (SV.ids_val fun i hi => g.keep i (inclB_at hi2 (frIds_at hx i hi))).symm⟩
      have h2 := slots_par (ts := ps.toList) (xs := xs') h0 fun t ht => Nat.le_of_ble_eq_true (List.all_eq_true.1 hps t ht)
      have h3 : (r.params.zip (xs'.map (SV.val ν)).toArray).foldl (fun tmps (t, a) => tmps.setIfInBounds t a) r.tmps = (ps.toList.zip (xs'.map (SV.val ν))).foldl (fun tm (t, v) => tm.setIfInBounds t v) r.tmps := by
       rw [← Array.foldl_toList, hR.ps, Array.toList_zip]
      rw [h3]
      exact h2
     have g2 := yield_in (idL := idL) g hslots
     have hE2 : (envRd E ν idL a1).fence = (FenceOf none).inRound lp := by
      show FenceOf (envRd E ν idL a1).at_ = _
      unfold Env.at_ envRd
      simp only [hlv]
      rfl
     refine roundIn_of_wpIn trivial ?_
     rw [hR.assign, hR.body]
     rw [← hE2]
     refine wpIn_mono (hround (envRd E ν idL a1) rfl hlv _ _ ⟨_, _, g2⟩ (n - 1)) ?_
     rintro e a2 w2 ⟨T2, hT2, ν2, sup2, g2'⟩
     cases e with
     | normal =>
      obtain ⟨hks2, hrec2, hbody⟩ := hT2
      have hl2 : ν2 idL = .map (some lp) := (g2'.keep idL (by rw [hks2]; exact memB'_iff.1 hi3)).trans hlv
      obtain ⟨b, ob, e1, hb2, hob⟩ := g2'.cont idL _ hrec2
      rw [hl2] at e1
      cases e1
      unfold LpIs at hob
      subst hob
      refine ⟨_, run_beginRound hb2 rfl, ?_⟩
      have g2b := GW.record (good' := LpIs r .busy none) (o' := .loop { r with state := .busy, pending := none }) g2' hrec2 hl2 rfl
      refine wpIn_mono (hbody _ _ ⟨_, _, g2b⟩ (n - 1)) ?_
      rintro e a3 w3 ⟨T3, ⟨hks3, hrec3, hend⟩, ν3, sup3, g3⟩
      have hl3 : ν3 idL = .map (some lp) := (g3.keep idL (by rw [hks3]; exact memB'_iff.1 hi3)).trans hlv
      obtain ⟨b, ob, e1, hb3, hob⟩ := g3.cont idL _ hrec3
      rw [hl3] at e1
      cases e1
      unfold LpIs at hob
      subst hob
      have fin : ∀ {st : LoopState} {pe : Option Code} {bv : Bool}, Cont P l k Q (yBack T1 T3 idL (.mp (LpIs r st pe)) o.dst bv) →
        wpOpsIn (FenceOf none) n P l.toArray (onlyN fun e a' w' => ∃ S', Q e S' ∧ G E S' a' w') (List.range' (k + 1) (l.drop (k + 1)).length ++ []) (a1.put o.dst (.bool bv)) (w3.putObj lp (.loop { r with state := st, pending := pe })) := fun {st pe bv} hC => by
       obtain ⟨orcs2, ks, ids, T', vc2, hrun, hvc2, hQ⟩ := hC
       have g4 := yield_out g g3 hks3 hi4 hi5
       have hrec4 : (⟨T1.nt, T1.keep, T1.fr, T3.hp⟩ : St).cn idL = some (.mp (LpIs r .busy none)) := hrec3
       have g5 := GW.record (good' := LpIs r st pe) (o' := .loop { r with state := st, pending := pe }) g4 hrec4 hl3 rfl
       have g6 := GW.put (d := o.dst) (x := .b bv) g5 hdst
       unfold runT2 at hrun
       split at hrun
       ·rename_i S' vc3 hrun2
        cases hrun
        refine opsIn_run hnd onlyN_out (fun j hj => ?_) hrun2 hvc2 ⟨_, _, g6⟩ fun a' w' g' => ?_
        ·simp
        ·exact ⟨rfl, _, hQ, S'.cut_ent ks ids E a' w' g'⟩
       ·cases hrun
      cases e with
      | normal => exact ⟨_, _, run_endRound none hb3, fin hend⟩
      | ret => exact ⟨_, _, run_endRound (some .ret) hb3, fin hend⟩
      | exit id => exact ⟨_, _, run_endRound (some (.exit id)) hb3, fin hend⟩
      | goto t => exact hend.elim
      | panic ch => exact hend.elim
      | outgrown => exact hend.elim
     | exit id => exact hT2.elim
     | goto t => exact hT2.elim
     | ret => exact hT2.elim
     | panic ch => exact hT2.elim
     | outgrown => exact hT2.elim
    ·cases hy
   ·cases hy
  ·cases hy
 ·cases hy
theorem cont_mk {P : Program} {l : List Oper} {k : Nat} {Q : Exit → St → Prop} {S : St} (orcs : List (Nat × Orc)) (T : St) (vc : List Prop) (h : runT2 P l (k + 1) orcs S (T.fr.map (·.1)) (T.hp.map (·.1)) = some (T, vc)) (hvc : AllP vc) (hQ : Q .normal T) : Cont P l k Q S := ⟨orcs, _, _, T, vc, h, hvc, hQ⟩
theorem act_of_eff {P : Program} {op : Op} {ty : TypeId} (r : Orc) {xs : List SV} {ids : List Nat} {cs : List (Option Cn)} {res : SV} {wr : List (Nat × Option Cn)} (vc : List Prop) (hids : need0 op r xs = ids) (h : ∀ o : Oper, o.op = op → o.type = ty → eff0 P o r xs cs = some ⟨res, wr, vc⟩) (hvc : AllP vc) (hl : cs.length = ids.length) (hd : (wr.map (·.1)).Nodup) (hn : ∀ i, i ∈ r.news → i ∉ ids) (hw : ∀ i, i ∈ wr.map (·.1) → i ∉ ids → i ∈ r.news ∧ ∀ y, y ∈ xs → y.noId i = true) : ActOK P op ty xs ids cs res wr := fun o a ν sup w ho hty hm hx K Q hK => by
 subst ho hty hids
 exact eff0_wp (h o rfl rfl) hx hl hm hd hn hw hvc hK
theorem act_makeM {P : Program} {f : Fn} {x : Operand} {ty : TypeId} {id : Nat} {c : Cn} (hc : (match c with | .blk _ _ => true | .rblk _ => true | _ => false) = true) : ActOK P (.makeFunc f #[x] #[]) ty [.l (.ref id 0)] [id] [some c] (.l (.mth f id)) [] := fun o a ν sup w ho hty hm hx K Q hK => by
 have hv : LV.val ν (.ref id 0) = ν id := by
  have h := hm.cont id _ cnOf_one
  cases c with
  | blk t cs => obtain ⟨b, e, _⟩ := h; simp [LV.val, e]
  | rblk cs => obtain ⟨b, off, e, _⟩ := h; simp [LV.val, e]
  | _ => cases hc
 have hx' : a.eval x = ν id := (List.cons.inj hx).1.trans hv
 refine wp_of_value (v := .func f #[ν id] #[]) (w' := w) ?_ (hK ν sup w (Chg.nil hm.one))
 unfold execOp
 rw [ho]
 simp [Instr.makeFunc, hx', Sem.run_bind, Result.andThen]
theorem act_callv {P : Program} {f : Operand} {args : Array Operand} {ats : Array TypeId} {ty : TypeId} {N : Nat} {caps : List Nat} {xs : List SV} {ids : List Nat} {cs : List (Option Cn)} {res : SV} {wr : List (Nat × Option Cn)} (he : enterB P N = true)
  (hp : (caps.all fun i => match cnOf ids cs i with | some (.blk _ _) => true | some (.rblk _) => true | _ => false) = true) (h : CallOK P N (xs ++ caps.map fun i => .l (.ref i 0)) ids cs res wr) : ActOK P (.call ⟨.value f, args, ats⟩) ty (.l (.fnc (.func N) caps) :: xs) ids cs res wr := fun o a ν sup w ho hty hm hx K Q hK => by
 have hv : ∀ i, i ∈ caps → LV.val ν (.ref i 0) = ν i := fun i hi => by
  have h2 := List.all_eq_true.1 hp i hi
  split at h2
  ·rename_i t cs2 hc
   obtain ⟨b, e, _⟩ := hm.cont i _ hc
   simp [LV.val, e]
  ·rename_i cs2 hc
   obtain ⟨b, off, e, _⟩ := hm.cont i _ hc
   simp [LV.val, e]
  ·cases h2
 have hx1 : a.eval f = .func (.func N) #[] (caps.map ν).toArray ∧ args.toList.map a.eval = xs.map (SV.val ν) := by
  have : (#[f] ++ args).toList.map a.eval = (SV.l (.fnc (.func N) caps) :: xs).map (SV.val ν) := hx
  simp only [Array.toList_append, List.cons_append, List.nil_append, List.map_cons, List.cons.injEq] at this
  exact this
 have hargs : args.map a.eval = (xs.map (SV.val ν)).toArray := by
  rw [← hx1.2, ← Array.toList_map, Array.toArray_toList]
 have hall : ((xs ++ caps.map fun i => SV.l (.ref i 0)).map (SV.val ν)).toArray = (xs.map (SV.val ν)).toArray ++ (caps.map ν).toArray := by
  have : caps.map (SV.val ν ∘ fun i => SV.l (.ref i 0)) = caps.map ν := List.map_congr_left fun i hi => hv i hi
  simp [this]
 have hrun : (execOp a.eval o).run P w = .ok (.enter N ((xs.map (SV.val ν)).toArray ++ (caps.map ν).toArray)) w := by
  unfold execOp
  rw [ho]
  simp only [resolve, hx1.1, hargs, Deferred.ofValue, Sem.run_bind, Sem.run_pure, Result.andThen_ok, invoke]
  simp [callFunc_run he]
 unfold Oper.wp
 rw [hrun, Oper.upon_enter, ← hall]
 refine (h ν sup w hm).mono fun e w' h => ?_
 obtain ⟨ν', sup', hchg, rfl⟩ := h
 exact hK _ _ _ hchg
section
variable {P : Program} {t e : TypeId} {n : Nat} {x y : Operand} {ty : TypeId} {id off : Nat}
theorem act_loadAt (ha : isAggT P t = some false) {c : Cn} {ls : List LV} (hc : c.row = some ls) {l : LV} (hl : ls[off]? = some l) : ActOK P (.load t x) ty [.l (.ref id off)] [id] [some c] (.l l) [] :=
 act_of_eff .none [] rfl (fun o ho hty => by
  unfold eff0
  rw [ho]
  simp only [effLoad, hc, ha, hl]) trivial rfl (by simp) (fun i hi => by cases hi) (fun i hi => by cases hi)
theorem act_storeAt (hs : sizeT P t = some 1) {ls : List LV} {ty2 : TypeId} {l : LV} (hok : lvOk l = true) (hl : off < ls.length) : ActOK P (.store t x y) ty [.l (.ref id off), .l l] [id] [some (.blk ty2 ls)] (.v undef) [(id, some (.blk ty2 (ls.set off l)))] :=
 act_of_eff .none [] rfl (fun o ho hty => by
  unfold eff0
  rw [ho]
  have h1 : Nat.beq (PV.one l).cells.length 1 = true := rfl
  have h2 : Nat.ble (off + 1) ls.length = true := Nat.ble_eq_true_of_le hl
  have h3 : (PV.one l).cells.all lvOk = true := by simp [PV.cells, hok]
  simp only [effStore, hs, h1, h2, h3]
  congr 5
  rw [List.set_eq_take_append_cons_drop, if_pos hl]
  rfl) trivial rfl (by simp) (fun i hi => by cases hi) (fun i hi hn => by simp at hi; subst hi; exact absurd List.mem_cons_self hn)
theorem act_idxAt (hu : P.underlying t = some (.array n e)) {m : Nat} (hs : sizeT P e = some m) {c : Cn} {ls : List LV} (hc : c.row = some ls) {k : Nat} {kd : IntKind} {z : Int} (hz : z = (k : Int)) (hk : k < n) : ActOK P (.indexAddr t x y) ty [.l (.ref id off), .v (.int kd z)] [id] [some c] (.l (.ref id (off + k * m))) [] :=
 act_of_eff (.idx k) [z = (k : Int)] rfl (fun o ho hty => by
  unfold eff0
  rw [ho]
  have h1 : Nat.blt k n = true := Nat.ble_eq_true_of_le hk
  simp only [effIndexAddr, hu, hs, h1, hc]) hz rfl (by simp) (fun i hi => by cases hi) (fun i hi => by cases hi)
theorem act_idxAt2 (hu : P.underlying t = some (.array n e)) {m : Nat} (hs : sizeT P e = some m) {c : Cn} {ls : List LV} (hc : c.row = some ls) {k : Nat} {kd : IntKind} {z : Int} (hz : z = (k : Int)) (hk : k < n) {off' : Nat} (ho : off' = off + k * m) : ActOK P (.indexAddr t x y) ty [.l (.ref id off), .v (.int kd z)] [id] [some c] (.l (.ref id off')) [] := by
 subst ho
 exact act_idxAt hu hs hc hz hk
theorem act_storeAt2 (hs : sizeT P t = some 1) {ls ls' : List LV} {ty2 : TypeId} {l : LV} (hok : lvOk l = true) (hl : off < ls.length) (he : ls' = ls.set off l) : ActOK P (.store t x y) ty [.l (.ref id off), .l l] [id] [some (.blk ty2 ls)] (.v undef) [(id, some (.blk ty2 ls'))] := by
 subst he
 exact act_storeAt hs hok hl
end
theorem act_callf {P : Program} {f : Operand} {args : Array Operand} {ats : Array TypeId} {ty : TypeId} {N : Nat} {xs : List SV} {ids : List Nat} {cs : List (Option Cn)} {res : SV} {wr : List (Nat × Option Cn)} (he : enterB P N = true) (h : CallOK P N xs ids cs res wr) : ActOK P (.call ⟨.value f, args, ats⟩) ty (.v (.func (.func N) #[] #[]) :: xs) ids cs res wr := fun o a ν sup w ho hty hm hx K Q hK => by
 refine act_callv (caps := []) he rfl (xs := xs) ?_ o a ν sup w ho hty hm hx K Q hK
 simpa using h
theorem act_slArr {P : Program} {t e : TypeId} {n : Nat} {x : Operand} {ty ty2 : TypeId} {id off i : Nat} {cs : List LV} (ds : List Value) (hu : P.underlying t = some (.array n e)) (hs : sizeT P e = some 1) (hn : Nat.blt 0 n = true) (hds : Nat.beq ds.length n = true) (hc : (cs.drop off).take n = ds.map LV.v) (hone : ds.all Value.oneCell' = true) (hi : (!(Nat.beq i id) && cs.all (LV.noId i)) = true) :
  ActOK P (.slice t x none none none) ty [.l (.ref id off)] [id] [some (.blk ty2 cs)] (.ls i) [(id, some (.rblk cs)), (i, some (.ro 1 n (exEl 1 (ds.map DV.v))))] := fun o a ν sup w ho hty hm hx K Q hK => by
 obtain ⟨b, e1, hb⟩ := hm.cont id _ cnOf_one
 have hn0 : 0 < n := Nat.le_of_ble_eq_true hn
 have hlen := Nat.eq_of_beq_eq_true hds
 rw [Bool.and_eq_true] at hi
 have hne : i ≠ id := fun h => by have := hi.1; subst h; simp at this
 have hidne : id ≠ i := fun h => hne h.symm
 have hev : a.eval x = .pointer (some ⟨b, off, none⟩) := by
  have h1 : a.eval x = LV.val ν (.ref id off) := (List.cons.inj hx).1
  rw [h1]
  simp [LV.val, e1]
 have hcell : ∀ j l, cs[j]? = some l → w.cell? ⟨b, 0 + j, none⟩ = some (l.val ν) := fun j l hl => by
  have h1 := CnLe.holds (ρ := []) (c := .blk ty2 cs) (d := .rblk cs) (le_blk_r (by
   have : ∀ l : List LV, l = l.map (LV.ren []) := fun l => by
    have hr : ∀ q : LV, q.ren [] = q := fun q => by
     cases q with
     | fnc f c => simp only [LV.ren]; congr 1; exact (List.map_congr_left fun _ _ => rfl).trans (List.map_id _)
     | _ => rfl
    exact ((List.map_congr_left fun q _ => hr q).trans (List.map_id _)).symm
   exact this cs)) (hm.cont id _ cnOf_one)
  obtain ⟨b2, off2, h2, _, h3⟩ := h1
  rw [e1] at h2
  cases h2
  exact h3 j l hl
 have hval : (execOp a.eval o).run P w = .ok (.value (.slice (some ⟨b, off, none⟩) n n)) w := by
  unfold execOp
  rw [ho]
  simp only [hev, Option.map_none]
  have h1 : (Instr.sliceAt t (.pointer (some ⟨b, off, none⟩)) none none none).run P w = .ok (.slice (some ⟨b, off, none⟩) n n) w := by
   simp only [Instr.sliceAt, Sem.run_bind, run_underlying hu, Result.andThen_ok, sizeT_run hs, Sem.run_pure]
   simp [Instr.sureAddr, Instr.sliceBounds, Sem.run_bind, sizeT_run hs, Result.andThen, Addr.add]
  exact exec_v h1
 refine wp_of_value hval ?_
 have hbl : b < w.heap.size := (Array.getElem?_eq_some_iff.1 hb).1
 have hat : ∀ j, j < n → cs[off + j]? = some (.v (ds.getD j undef)) := fun j hj => by
  have h1 : ((cs.drop off).take n)[j]? = (ds.map LV.v)[j]? := by rw [hc]
  rw [List.getElem?_take, if_pos hj, List.getElem?_drop, List.getElem?_map] at h1
  rw [h1, List.getD_eq_getElem?_getD]
  have : j < ds.length := by omega
  rw [List.getElem?_eq_getElem this]
  rfl
 have h := hK (upd ν i (.slice (some ⟨b, off, none⟩) n n)) (upd (upd sup id fun k => sup id k ∨ k = b) i fun k => k = b) w
  {one := fun x => by
    unfold upd; split
    ·rfl
    ·exact hm.one x
   rest := fun x hm2 => by
    have h1 : x ≠ id := fun e => hm2 (by simp [e])
    have h2 : x ≠ i := fun e => hm2 (by simp [e])
    exact ⟨upd_ne _ _ h2, by rw [upd_ne _ _ h2, upd_ne _ _ h1]⟩
   same := fun x hm2 c hc2 => by
    have : x ≠ i := fun e => by
     rw [e, cnOf_none (by simpa using hne)] at hc2
     cases hc2
    exact upd_ne _ _ this
   fr := Fr.refl _ _
   cont := fun x c' hl2 => by
    rcases look_two hl2 with ⟨rfl, e⟩ | ⟨rfl, e, _⟩
    ·cases e
     rw [upd_ne _ _ hidne, upd_ne _ _ hidne, upd_self]
     refine ⟨b, 0, e1, .inr rfl, fun j l hl => ?_⟩
     rw [hcell j l hl]
     congr 1
     refine (LV.val_congr fun q hq => upd_ne _ _ fun h => ?_).symm
     subst h
     have := List.all_eq_true.1 hi.2 l (List.mem_of_getElem? hl)
     rw [this] at hq; cases hq
    ·cases e
     rw [upd_self, upd_self]
     refine ⟨_, n, rfl, Nat.le_refl _, fun _ => ⟨b, off, rfl, rfl, fun j hj q hq => ?_⟩⟩
     have hq0 : q = 0 := by omega
     subst hq0
     have h2 := hcell _ _ (hat j hj)
     rw [Nat.zero_add] at h2
     refine ⟨_, by rw [Nat.mul_one, Nat.add_zero]; exact h2, ?_⟩
     have h3 : exEl 1 (ds.map DV.v) j 0 = .v (ds.getD j undef) := by
      unfold exEl
      have : j < ds.length := by omega
      rw [Nat.mul_one, Nat.add_zero, List.getD_eq_getElem?_getD, List.getElem?_map, List.getD_eq_getElem?_getD, List.getElem?_eq_getElem this]
      rfl
     rw [h3]
     refine ⟨rfl, List.all_eq_true.1 hone _ ?_⟩
     have : j < ds.length := by omega
     rw [List.getD_eq_getElem?_getD, List.getElem?_eq_getElem this]
     exact List.getElem_mem this
   sup := fun x c' hl2 k hk => by
    have hb' : sup id k ∨ k = b := by
     rcases look_two hl2 with ⟨rfl, e⟩ | ⟨rfl, e, _⟩
     ·rw [upd_ne _ _ hidne, upd_self] at hk; exact hk
     ·rw [upd_self] at hk; exact .inr hk
    refine ⟨?_, ?_, fun id2 c2 hl3 ho2 => ?_⟩
    ·rcases hb' with h | rfl
     ·exact hm.supLt id _ cnOf_one k h
     ·exact hbl
    ·rcases hb' with h | rfl
     ·exact .inr (.inl ⟨id, _, cnOf_one, h⟩)
     ·exact .inr (.inr ⟨id, _, by simp, cnOf_one, rfl, by rw [e1]; rfl⟩)
    ·rcases look_two hl3 with ⟨rfl, e⟩ | ⟨rfl, e, _⟩ <;> cases e <;> cases ho2
   own := fun x c' hl2 ho' => by
    rcases look_two hl2 with ⟨rfl, e⟩ | ⟨rfl, e, _⟩ <;> cases e <;> cases ho'
   apart := fun x c' hl2 ho' => by
    rcases look_two hl2 with ⟨rfl, e⟩ | ⟨rfl, e, _⟩ <;> cases e <;> cases ho' }
 simpa [SV.val, PV.val, LV.val, upd_self] using h
end Go.Proofs.Ytbpblhmigijkaaa
