/- An abstract walk: contracts whose results are made of what they were given: lists of lists; all that they are given is one's own, and is used up. No program is in sight here. -/
import Derived.Test.YtbpblhmigijkaaaA31
import Derived.Test.YtbpblhmigijkaaaA32
namespace Go.Proofs.Ytbpblhmigijkaaa
open Go.RowKit
set_option linter.unusedVariables false
def GoodC : Cn → Prop
 | .blk _ _ => True
 | .vec _ _ _ _ => True
 | .mp _ => True
 | _ => False
def WrOkS (T : St) : List (Nat × Option Cn) → Prop
 | [] => True
 | (id, some c) :: r => (T.cn id = some c ∧ GoodC c) ∧ WrOkS T r
 | (_, none) :: r => WrOkS T r
def EndOkS (P : Program) (fn : Func) (ids : List Nat) (res : SV) (wr : List (Nat × Option Cn)) (S : St) : Prop :=
 ∃ T, Ent S T ∧ T.keep = ids ∧ resS P fn T = some res ∧ WrOkS T wr ∧ endB res wr ids = true
theorem WrOkS.at_ {T : St} {id : Nat} {c : Cn} : ∀ {wr : List (Nat × Option Cn)}, WrOkS T wr → (id, some c) ∈ wr → T.cn id = some c ∧ GoodC c := by
 intro wr
 induction wr with
 | nil => intro _ h; cases h
 | cons p r ih =>
  intro h hm
  obtain ⟨i, o⟩ := p
  cases o with
  | none =>
   rcases List.mem_cons.1 hm with e | hm
   ·cases e
   ·exact ih h hm
  | some d =>
   obtain ⟨h1, h2⟩ := h
   rcases List.mem_cons.1 hm with e | hm
   ·cases e; exact h1
   ·exact ih h2 hm
def ownOr (a b : Option Cn) : Bool :=
 match a, b with
 | some c', some c => c'.owned || !c.owned
 | _, _ => true
def roOk (ρ : List (Nat × Nat)) (ids : List Nat) (cs' cs : List (Option Cn)) : Bool := ids.all fun id => ownOr (cnOf ids cs' id) (cnOf (ids.map (renId ρ)) cs (renId ρ id))
theorem roOk_at {ρ : List (Nat × Nat)} {ids : List Nat} {cs' cs : List (Option Cn)} (h : roOk ρ ids cs' cs = true) {id : Nat} {c c' : Cn} (h1 : cnOf (ids.map (renId ρ)) cs (renId ρ id) = some c) (h2 : cnOf ids cs' id = some c') (h3 : c'.owned = false) (h4 : c.owned = true) : False := by
 have h5 := List.all_eq_true.1 h id (cnOf_in h2)
 simp only [h1, h2, ownOr, h3, h4] at h5
 cases h5
theorem callFs_of {P : Program} {f : FuncId} {fn : Func} {c : Code} {xs : List SV} {ids : List Nat} {cs : List (Option Cn)} {res : SV} {wr : List (Nat × Option Cn)} (hf : P.funcs[f]? = some fn) (hb : fn.body = some c) (hl : Nat.ble xs.length fn.ntmps = true) (ho : ownedOk wr (ids.zip cs) = true)
  (h : ∀ E, AW P E c (fun e S => (e = .normal ∨ e = .ret) ∧ EndOkS P fn ids res wr S) (initSt fn xs ids cs)) : CallOK P f xs ids cs res wr := fun ν sup w m => by
 let E : Env := ⟨w, fun k => ∃ id c, id ∈ wr.map (·.1) ∧ cnOf ids cs id = some c ∧ c.owned = true ∧ blkOf (ν id) = some k, fun b => ∃ id c, cnOf ids cs id = some c ∧ sup id b, ν, [], none⟩
 have hl := Nat.le_of_ble_eq_true hl
 have hcn : ∀ id, (initSt fn xs ids cs).cn id = cnOf ids cs id := fun id => rfl
 have g0 : GW E (initSt fn xs ids cs) ν sup ⟨(xs.map (SV.val ν)).toArray ++ Array.replicate (fn.ntmps - (xs.map (SV.val ν)).toArray.size) undef, []⟩ w :=
  {mks := ⟨List.nodup_nil, fun d h => (by cases h), fun k hk => (by rcases hk with h | ⟨d, h, _⟩ <;> cases h)⟩
   mkOwn := fun _ _ _ _ b _ hk => (by rcases hk with h | ⟨d, h, _⟩ <;> cases h)
   mkSup := fun _ _ _ b _ hk => (by rcases hk with h | ⟨d, h, _⟩ <;> cases h)
   size := by simp [initSt]; omega
   one := m.one
   slot := fun t x hx => by
    obtain ⟨i, h1, h2⟩ := initFr_look (k := 0) hx
    rw [Nat.zero_add] at h1
    subst h1
    have hlt : t < xs.length := (List.getElem?_eq_some_iff.1 h2).1
    rw [Array.getElem?_append_left (by simpa using hlt)]
    simp [h2]
   cont := m.cont, supLt := m.supLt, ownSup := m.ownSup, ownOwn := m.ownOwn
   ownMd := fun id c e ho2 b hb => .inr ⟨id, c, ownedOk_spec ho (look_mem (St.cn_look e)) ho2, e, ho2, hb⟩
   supMd := fun id c e b hb => .inr (.inl ⟨id, c, e, hb⟩)
   keep := fun _ _ => rfl
   frame := Fr.refl _ _ }
 refine callsIn_wide.1 (callsIn_of_wp_marks (n := 0) hf hb trivial (wpIn_mono (h E _ w ⟨ν, sup, g0⟩ 0) (fun e a' w' ⟨S', ⟨he, hend⟩, g'⟩ => ?_)))
 obtain ⟨T, hent, hkeep, hres, hwr, hendB⟩ := hend
 subst hkeep
 obtain ⟨ν2, sup2, gM⟩ := hent E a' w' g'
 suffices key0 : LeavesInM Fence.wide 0 P fn a'.tmps _ a'.defers .returning w' by rcases he with rfl | rfl <;> exact key0
 refine leaves_marks (E := E) (S := T) (ν := ν2) (sup := sup2) ?_ a'.defers w' gM
 clear gM
 clear g'
 intro w' g
 have hkT : ∀ id, id ∈ T.keep → ν2 id = ν id := g.keep
 have key : ∃ v, (results fn a'.tmps).run P w' = .ok v w' ∧ ∃ ν' sup', Chg (cnOf T.keep cs) wr ν sup w ν' sup' w' ∧ Ending.returned v = .returned (res.val ν') := by
  refine ⟨_, resS_run g hres, fun id => if id ∈ wr.map (·.1) then ν2 id else ν id, fun id => if id ∈ wr.map (·.1) then sup2 id else sup id, ?_, ?_⟩
  ·have hin : ∀ {id c}, look id wr = some c → id ∈ wr.map (·.1) := fun {id c0} hl => by
    cases hm : decide (id ∈ wr.map (·.1)) with
    | true => exact of_decide_eq_true hm
    | false => rw [look_none.2 (of_decide_eq_false hm)] at hl; cases hl
   unfold endB at hendB
   rw [Bool.and_eq_true] at hendB
   have hν : ∀ id, id ∈ wr.map (·.1) ++ T.keep → (if id ∈ wr.map (·.1) then ν2 id else ν id) = ν2 id := fun id hm => by
    split
    ·rfl
    ·rename_i hn
     rcases List.mem_append.1 hm with h1 | h1
     ·exact absurd h1 hn
     ·exact (hkT id h1).symm
   exact
    {one := fun id => by
      split
      ·exact g.one id
      ·exact m.one id
     rest := fun id hm => ⟨if_neg hm, if_neg hm⟩
     same := fun id hm c0 e => by
      rw [if_pos hm]
      exact hkT id (by
       cases hq : decide (id ∈ T.keep) with
       | true => exact of_decide_eq_true hq
       | false => rw [cnOf_none (of_decide_eq_false hq)] at e; cases e)
     fr := g.frame
     cont := fun id c0 hl => by
      have hm := hin hl
      simp only [if_pos hm]
      obtain ⟨h1, h2⟩ := hwr.at_ (look_mem hl)
      have hh := g.cont id c0 h1
      have hB := List.all_eq_true.1 hendB.2 _ (look_mem hl)
      cases c0 with
      | blk t ls =>
       obtain ⟨b, e1, e2⟩ := hh
       refine ⟨b, e1, ?_⟩
       rw [e2, LV.inS_map hB hν]
      | vec t s n el => exact hh
      | rblk cs => cases h2
      | ro s n el => cases h2
      | mp g => exact hh
     sup := fun id c0 hl b hb => by
      have hm := hin hl
      simp only [if_pos hm] at hb
      have e := (hwr.at_ (look_mem hl)).1
      refine ⟨g.supLt id c0 e b hb, ?_, fun id2 c2 hl2 ho2 hb2 => ?_⟩
      ·rcases g.supMd id c0 e b hb with h1 | ⟨id0, c1, h1, h2⟩ | ⟨id0, c1, h1, h2, h3, h4⟩
       ·exact .inl h1
       ·exact .inr (.inl ⟨id0, c1, h1, h2⟩)
       ·exact .inr (.inr ⟨id0, c1, h1, h2, h3, h4⟩)
      ·simp only [if_pos (hin hl2)] at hb2
       exact g.ownSup id2 c2 (hwr.at_ (look_mem hl2)).1 ho2 id c0 e b hb2 hb
     own := fun id c0 hl ho2 b hb => by
      have hm := hin hl
      simp only [if_pos hm] at hb
      exact g.ownMd id c0 (hwr.at_ (look_mem hl)).1 ho2 b hb
     apart := fun id c0 hl ho2 id' c1 hl' ho' hne b hb => by
      simp only [if_pos (hin hl)] at hb
      simp only [if_pos (hin hl')]
      exact g.ownOwn id c0 (hwr.at_ (look_mem hl)).1 ho2 id' c1 (hwr.at_ (look_mem hl')).1 ho' hne b hb }
  ·unfold endB at hendB
   rw [Bool.and_eq_true] at hendB
   congr 1
   refine (SV.inS_val hendB.1 fun id hm => ?_).symm
   split
   ·rfl
   ·rename_i hn
    rcases List.mem_append.1 hm with h1 | h1
    ·exact absurd h1 hn
    ·exact (hkT id h1).symm
 exact key
theorem CallOK.at_ {P : Program} {f : FuncId} {xs : List SV} {ids : List Nat} {cs' : List (Option Cn)} {res : SV} {wr : List (Nat × Option Cn)} (h : CallOK P f xs ids cs' res wr) (ρ : List (Nat × Nat)) {cs : List (Option Cn)} (hB : atB ρ ids cs' res wr = true) (hd : DemF ρ (cnOf (ids.map (renId ρ)) cs) wr ids cs') (hO : roOk ρ ids cs' cs = true) :
  CallOK P f (xs.map (SV.ren ρ)) (ids.map (renId ρ)) cs (res.ren ρ) (wrRen ρ wr) := fun ν sup w m => by
 unfold atB at hB
 simp only [Bool.and_eq_true] at hB
 obtain ⟨hB0, hBw, hB1, hB2, hB3, hB4, hB5⟩ := hB
 have hto : ∀ {id c'}, cnOf ids cs' id = some c' → ∃ c, cnOf (ids.map (renId ρ)) cs (renId ρ id) = some c ∧ CnLe ρ c c' := fun e => hd.at_ e
 let ν1 : Nat → Value := fun id => ν (renId ρ id)
 let sup1 : Nat → Nat → Prop := fun id b => sup (renId ρ id) b ∨ ∃ c c', cnOf (ids.map (renId ρ)) cs (renId ρ id) = some c ∧ cnOf ids cs' id = some c' ∧ c'.owned = false ∧ c.owned = true ∧ blkOf (ν (renId ρ id)) = some b
 have m1 : MW (cnOf ids cs') ν1 sup1 w :=
  {one := fun id => m.one _
   cont := fun id c' e => by
    obtain ⟨c, h1, h2⟩ := hto e
    refine Cn.keep (h2.holds (m.cont _ c h1)) (fun _ _ => rfl) (fun _ _ => rfl) (fun b hb => ?_) (fun _ _ _ => rfl)
    rcases hb with hb | ⟨h4, h5, h6⟩
    ·exact .inl hb
    ·exact .inr ⟨c, c', h1, e, h4, h5, h6⟩
   supLt := fun id c' e b hb => by
    obtain ⟨c, h1, h2⟩ := hto e
    rcases hb with hb | ⟨c2, c3, h4, h5, h6, h7, h8⟩
    ·exact m.supLt _ c h1 b hb
    ·exact Cn.own_lt (m.cont _ c2 h4) h7 h8
   ownSup := fun id c' e ho id' d' e' b hb hs => by
    obtain ⟨c, h1, h2⟩ := hto e
    obtain ⟨d, k1, k2⟩ := hto e'
    rcases hs with hs | ⟨c2, c3, h4, h5, h6, h7, h8⟩
    ·exact m.ownSup _ c h1 (h2.own ho) _ d k1 b hb hs
    ·by_cases hne : renId ρ id = renId ρ id'
     ·have := injB_spec hB2 (ownIds_mem e ho) (cnOf_in e') hne.symm
      subst this
      rw [e] at h5
      cases h5
      rw [ho] at h6
      cases h6
     ·exact m.ownOwn _ c h1 (h2.own ho) _ c2 h4 h7 hne b hb h8
   ownOwn := fun id c' e ho id' d' e' ho' hne => by
    obtain ⟨c, h1, h2⟩ := hto e
    obtain ⟨d, k1, k2⟩ := hto e'
    exact m.ownOwn _ c h1 (h2.own ho) _ d k1 (k2.own ho') fun he => hne (injB_spec hB2 (ownIds_mem e ho) (cnOf_in e') he.symm).symm }
 have hargs : (xs.map (SV.ren ρ)).map (SV.val ν) = xs.map (SV.val ν1) := by
  rw [List.map_map]
  exact List.map_congr_left fun x _ => SV.ren_val x
 rw [hargs]
 refine (h ν1 sup1 w m1).mono fun e w' h => ?_
 obtain ⟨ν1', sup1', c, rfl⟩ := h
 classical
 let back : Nat → Option Nat := fun i => if h : ∃ j, j ∈ wr.map (·.1) ∧ renId ρ j = i then some (Classical.choose h) else none
 have hback : ∀ j, j ∈ wr.map (·.1) → back (renId ρ j) = some j := fun j hj => by
  have hex : ∃ k, k ∈ wr.map (·.1) ∧ renId ρ k = renId ρ j := ⟨j, hj, rfl⟩
  simp only [back]
  rw [dif_pos hex]
  obtain ⟨h1, h2⟩ := Classical.choose_spec hex
  exact congrArg some (injB_spec hB1 hj (List.mem_append_right _ h1) h2)
 have hnone : ∀ i, i ∉ (wrRen ρ wr).map (·.1) → back i = none := fun i hi => by
  simp only [back]
  rw [dif_neg]
  rintro ⟨j, hj, rfl⟩
  rw [wrRen_ids] at hi
  exact hi (List.mem_map_of_mem hj)
 let ν' : Nat → Value := fun i => match back i with | some j => ν1' j | none => ν i
 let sup' : Nat → Nat → Prop := fun i => match back i with | some j => sup1' j | none => sup i
 have hνw : ∀ j, j ∈ wr.map (·.1) → ν' (renId ρ j) = ν1' j := fun j hj => by simp only [ν', hback j hj]
 have hsw : ∀ j, j ∈ wr.map (·.1) → sup' (renId ρ j) = sup1' j := fun j hj => by simp only [sup', hback j hj]
 have hνall : ∀ id, id ∈ ids ++ wr.map (·.1) → ν' (renId ρ id) = ν1' id := fun id hm => by
  by_cases hw : id ∈ wr.map (·.1)
  ·exact hνw id hw
  ·have hb : back (renId ρ id) = none := by
    simp only [back]
    rw [dif_neg]
    rintro ⟨j, hj, he⟩
    have := injB_spec hB1 hj hm he.symm
    exact hw (this ▸ hj)
   simp only [ν', hb]
   exact ((c.rest id hw).1).symm
 have hin : ∀ {id} {o : Option Cn}, look id wr = some o → id ∈ wr.map (·.1) := fun {id o} hl => by
  cases hm : decide (id ∈ wr.map (·.1)) with
  | true => exact of_decide_eq_true hm
  | false => rw [look_none.2 (of_decide_eq_false hm)] at hl; cases hl
 have hlook : ∀ {id} {d : Cn}, (id, some d) ∈ wr → look id wr = some (some d) := fun {id d} hm => by
  have hnd := nodupB'_nodup hBw
  clear hBw hB1 hB2 hB3 hB4 hB5 hback hnone hνw hsw hνall hin c hd hto m1 h
  induction wr with
  | nil => cases hm
  | cons p r ih =>
   obtain ⟨i, o⟩ := p
   rw [List.map_cons, List.nodup_cons] at hnd
   unfold look
   cases hb : Nat.beq i id with
   | true =>
    have := Nat.eq_of_beq_eq_true hb
    subst this
    rcases List.mem_cons.1 hm with e | hm
    ·cases e; rfl
    ·exact absurd (List.mem_map_of_mem (f := (·.1)) hm) hnd.1
   | false =>
    rcases List.mem_cons.1 hm with e | hm
    ·cases e; simp at hb
    ·exact ih hm hnd.2
 have hwr2 : ∀ {i} {d2 : Cn}, look i (wrRen ρ wr) = some (some d2) → ∃ id d, look id wr = some (some d) ∧ i = renId ρ id ∧ d2 = d.ren ρ := fun {i d2} hl => by
  obtain ⟨id, d, h1, h2, h3⟩ := wrRen_mem (look_mem hl)
  exact ⟨id, d, hlook h1, h2, h3⟩
 refine ⟨ν', sup', ?_, ?_⟩
 ·exact
   {one := fun i => by
     simp only [ν']
     cases back i with
     | some j => exact c.one j
     | none => exact m.one i
    rest := fun i hi => by simp only [ν', sup', hnone i hi]; exact ⟨trivial, trivial⟩
    same := fun i hi d e => by
     rw [wrRen_ids] at hi
     obtain ⟨j, hj, rfl⟩ := List.mem_map.1 hi
     rw [hνw j hj]
     obtain ⟨k, hk, hkj⟩ := List.mem_map.1 (cnOf_in e)
     have := injB_spec hB1 hj (List.mem_append_left _ hk) hkj
     subst this
     cases hq : cnOf ids cs' k with
     | some c' => exact c.same k hj c' hq
     | none =>
      obtain ⟨c', h9⟩ := hd.some_ hk
      rw [hq] at h9; cases h9
    fr := c.fr.mono fun k _ ⟨id, c0, hm, e, ho, hb⟩ => by
     obtain ⟨c1, h1, h2⟩ := hto e
     exact ⟨renId ρ id, c1, by rw [wrRen_ids]; exact List.mem_map_of_mem hm, h1, h2.own ho, hb⟩
    cont := fun i d2 hl => by
     obtain ⟨id, d, h1, rfl, rfl⟩ := hwr2 hl
     have hm := hin h1
     rw [hνw id hm, hsw id hm]
     have hh := c.cont id d h1
     have hI := List.all_eq_true.1 hB4 _ (look_mem h1)
     cases d with
     | blk t ls => exact Cn.ren_holds hI (.inl rfl) hνall hh
     | vec t s n el => exact Cn.ren_holds hI (.inl rfl) hνall hh
     | ro s n el => exact Cn.ren_holds hI (.inr ⟨_, _, _, rfl⟩) hνall hh
     | rblk ls => cases hI
     | mp g => exact Cn.ren_holds hI (.inl rfl) hνall hh
    sup := fun i d2 hl b hb => by
     obtain ⟨id, d, h1, rfl, rfl⟩ := hwr2 hl
     rw [hsw id (hin h1)] at hb
     refine ⟨(c.sup id d h1 b hb).1, ?_, fun i2 d3 hl2 ho2 => ?_⟩
     ·rcases (c.sup id d h1 b hb).2.1 with h2 | ⟨id0, c0, e, hs⟩ | ⟨id0, c0, hm, e, ho, hb0⟩
      ·exact .inl h2
      ·obtain ⟨c1, h3, h4⟩ := hto e
       rcases hs with hs | ⟨c2, c3, h5', h5, h6, h7, _⟩
       ·exact .inr (.inl ⟨renId ρ id0, c1, h3, hs⟩)
       ·exact (roOk_at hO h5' h5 h6 h7).elim
      ·obtain ⟨c1, h3, h4⟩ := hto e
       exact .inr (.inr ⟨renId ρ id0, c1, by rw [wrRen_ids]; exact List.mem_map_of_mem hm, h3, h4.own ho, hb0⟩)
     obtain ⟨id2, d4, h3, rfl, rfl⟩ := hwr2 hl2
     rw [hνw id2 (hin h3)]
     exact (c.sup id d h1 b hb).2.2 id2 d4 h3 (by rw [← Cn.ren_owned]; exact ho2)
    own := fun i d2 hl ho b hb => by
     obtain ⟨id, d, h1, rfl, rfl⟩ := hwr2 hl
     rw [hνw id (hin h1)] at hb
     rcases c.own id d h1 (by rw [← Cn.ren_owned]; exact ho) b hb with h2 | ⟨id0, c1, hm, e, ho1, hb1⟩
     ·exact .inl h2
     ·obtain ⟨c2, h4, h5⟩ := hto e
      exact .inr ⟨renId ρ id0, c2, by rw [wrRen_ids]; exact List.mem_map_of_mem hm, h4, h5.own ho1, hb1⟩
    apart := fun i d2 hl ho i' d2' hl' ho' hne b hb => by
     obtain ⟨id, d, h1, rfl, rfl⟩ := hwr2 hl
     obtain ⟨id', d', h1', rfl, rfl⟩ := hwr2 hl'
     rw [hνw id (hin h1)] at hb
     rw [hνw id' (hin h1')]
     exact c.apart id d h1 (by rw [← Cn.ren_owned]; exact ho) id' d' h1' (by rw [← Cn.ren_owned]; exact ho') (fun e => hne (e ▸ rfl)) b hb }
 ·congr 1
  rw [SV.ren_val]
  exact (SV.inS_val hB3 hνall).symm
theorem wrs_nil {S : St} : WrOkS S [] := trivial
theorem wrs_cons {S : St} {i : Nat} {c : Cn} {r : List (Nat × Option Cn)} (h : S.cn i = some c) (p : GoodC c) (k : WrOkS S r) : WrOkS S ((i, some c) :: r) := ⟨⟨h, p⟩, k⟩
theorem wrs_none {S : St} {i : Nat} {r : List (Nat × Option Cn)} (k : WrOkS S r) : WrOkS S ((i, none) :: r) := k
theorem eoks {P : Program} {fn : Func} {S : St} {ids : List Nat} {res : SV} {wr : List (Nat × Option Cn)} (T : St) (h1 : Ent S T) (h4 : WrOkS T wr) (h2 : T.keep = ids := by rfl) (h3 : resS P fn T = some res := by kernel_rfl) (h5 : endB res wr ids = true := by kernel_rfl) : EndOkS P fn ids res wr S := ⟨T, h1, h2, h3, h4, h5⟩
theorem cfs {P : Program} {f : FuncId} {xs xs' : List SV} {ids ids' : List Nat} {cs' : List (Option Cn)} {res res' : SV} {wr wr' : List (Nat × Option Cn)} (h : CallOK P f xs ids cs' res wr) (ρ : List (Nat × Nat)) {cs : List (Option Cn)} (hd : DemF ρ (cnOf ids' cs) wr ids cs') (hB : atB ρ ids cs' res wr = true := by kernel_rfl) (hO : roOk ρ ids cs' cs = true := by kernel_rfl) (hx : xs.map (SV.ren ρ) = xs' := by kernel_rfl) (hi : ids.map (renId ρ) = ids' := by kernel_rfl) (hr : res.ren ρ = res' := by kernel_rfl) (hw : wrRen ρ wr = wr' := by kernel_rfl) : CallOK P f xs' ids' cs res' wr' := by
 subst hx hi hr hw; exact h.at_ ρ hB hd hO
end Go.Proofs.Ytbpblhmigijkaaa
