/- An abstract walk: maps of which it is known that all entries are good; what is known of memory, opened. No program is in sight here. -/
import Derived.Test.YtepibjfmeibgcaaM1
import Derived.Test.YtepibjfmeibgcaaA26
namespace Go.Proofs.Ytepibjfmeibgcaa
open Go.RowKit
open Go.Maps (Keyed)
set_option linter.unusedVariables false
/-- A map's block has these entries. -/
def MapE (P : Program) (k : TypeId) (es : List (Lit × DataW Value)) (o : Obj) : Prop := ∀ (w : World) (b : Nat), w.heap[b]? = some o → w.ownsMap P k rV b es.length (.map es)
def GoodEs (P : Program) (k : TypeId) (Good : Value → Value → Prop) (es : List (Lit × DataW Value)) : Prop := ∀ p ∈ es, ∃ key u, keyOf P k key = some p.1 ∧ Good key u ∧ p.2 = .held u
/-- A map's block, all of whose entries are good. -/
def MapG (P : Program) (k : TypeId) (Good : Value → Value → Prop) (o : Obj) : Prop := ∃ es : { es // GoodEs P k Good es }, MapE P k es.1 o
theorem MapE.tab {P : Program} {k : TypeId} {Good : Value → Value → Prop} {es : List (Lit × DataW Value)} {o : Obj} (h : MapE P k es o) (hg : GoodEs P k Good es) {w : World} {b : Nat} (hb : w.heap[b]? = some o) : TabP P k Good w b := ⟨es, h w b hb, hg⟩
theorem TabP.mapG {P : Program} {k : TypeId} {Good : Value → Value → Prop} {w : World} {b : Nat} (h : TabP P k Good w b) : ∃ o, w.heap[b]? = some o ∧ MapG P k Good o := by
  obtain ⟨es, ⟨ms, clock, hb, r⟩, hg⟩ := h
  exact ⟨_, hb, ⟨es, hg⟩, fun w2 b2 h2 => ⟨ms, clock, h2, r⟩⟩
/-- What a look-up comes to. -/
def foundV (es : List (Lit × DataW Value)) (kl : Lit) (z : Value) : Value := match (DataW.map es).atKey kl (.held z) with | .held v => v | _ => z
section
variable {P : Program} {k t e : TypeId} {Good : Value → Value → Prop}
/-- v, ok := m[k]. -/
theorem act_lookG (K : Keyed P k) (ht : P.underlying t = some (.map k e)) {z : Value} (hz : ∀ W : World, (zeroValue e).run P W = .ok z W) {key : PV} {kv : Value} (hkv : ∀ ν, key.val ν = kv) {kl : Lit} (hkey : keyOf P k kv = some kl)
    {m x : Operand} {ty : TypeId} {id : Nat} (es : { es // GoodEs P k Good es }) :
    ∃ (v : Value) (is : Bool), (is = true → Good kv v) ∧ (is = false → v = z) ∧ (v.oneCell' = true → ActOK P (.lookup t m x true) ty [.ls id, .p key] [id] [some (.mp (MapE P k es.1))] (.tup [.one (.v v), .one (.v (.bool is))]) []) := by
  by_cases hw : ∃ (w : World) (b : Nat) (o : Obj), w.heap[b]? = some o ∧ MapE P k es.1 o
  · obtain ⟨w0, b0, o0, hb0, ho0⟩ := hw
    obtain ⟨v, is, hrun, h1, h2⟩ := (ho0.tab es.2 hb0).look_all K ht hz hkey
    refine ⟨v, is, h1, h2, fun hone o a ν sup w ho hty hm hx K' Q hK => ?_⟩
    obtain ⟨b, ob, e1, hb, hD⟩ := hm.cont id _ cnOf_one
    have hx' : a.eval m = ν id ∧ a.eval x = kv := by
      have h3 : [a.eval m, a.eval x] = [ν id, key.val ν] := hx
      simp only [List.cons.injEq, and_true] at h3
      exact ⟨h3.1, h3.2.trans (hkv ν)⟩
    rw [e1] at hx'
    obtain ⟨v2, is2, hrun2, h3, h4⟩ := (hD.tab es.2 hb).look_all K ht hz hkey
    have hr2 := hrun2 w rfl
    have hsame : (Value.tuple #[v2, .bool is2]) = .tuple #[v, .bool is] := by
      -- both come from the same entries
      have q1 := (hD w b hb).look_ok K ht (hz w) (show rV z = some (.held z, []) from rfl) hkey
      have q2 := (ho0 w0 b0 hb0).look_ok K ht (hz w0) (show rV z = some (.held z, []) from rfl) hkey
      obtain ⟨a1, ps1, r1, s1⟩ := q1
      obtain ⟨a2, ps2, r2, s2⟩ := q2
      have hr0 := hrun w0 rfl
      rw [r1] at hr2
      rw [r2] at hr0
      simp only [rV, Option.some.injEq, Prod.mk.injEq] at s1 s2
      have hs : DataW.held a1 = DataW.held a2 := s1.1.trans s2.1.symm
      cases hs
      simp only [Result.ok.injEq, and_true] at hr2 hr0
      rw [← hr2, ← hr0]
    rw [hsame] at hr2
    refine wp_of_value (v := .tuple #[v, .bool is]) (w' := w) ?_ (hK ν sup w (Chg.nil hm.one))
    unfold execOp
    rw [ho]
    simp [hx'.1, hx'.2, hr2, Result.andThen]
  · refine ⟨z, false, (fun h => Bool.noConfusion h), (fun _ => rfl), fun hone o a ν sup w ho hty hm hx K' Q hK => ?_⟩
    obtain ⟨b, ob, e1, hb, hD⟩ := hm.cont id _ cnOf_one
    exact absurd ⟨w, b, ob, hb, hD⟩ hw
/-- m[k] = v. -/
theorem act_putG (K : Keyed P k) (ht : P.underlying t = some (.map k e)) (cap : List Value) (hc : ∀ x u, Good x u → x ∈ cap) (hcap : cap.length < maxLen) {key : PV} {kv : Value} (hkv : ∀ ν, key.val ν = kv) {kl : Lit} (hkey : keyOf P k kv = some kl) {val : PV} {u : Value} (hval : ∀ ν, val.val ν = u) (hg : Good kv u)
    {m x y : Operand} {ty : TypeId} {id : Nat} : ActOK P (.mapUpdate t m x y) ty [.ls id, .p key, .p val] [id] [some (.mp (MapG P k Good))] (.v undef) [(id, some (.mp (MapG P k Good)))] := by
  intro o a ν sup w ho hty hm hx K' Q hK
  obtain ⟨b, ob, e1, hb, es, hD⟩ := hm.cont id _ cnOf_one
  have hx' : a.eval m = ν id ∧ a.eval x = kv ∧ a.eval y = u := by
    have h3 : [a.eval m, a.eval x, a.eval y] = [ν id, key.val ν, val.val ν] := hx
    simp only [List.cons.injEq, and_true] at h3
    exact ⟨h3.1, h3.2.1.trans (hkv ν), h3.2.2.trans (hval ν)⟩
  rw [e1] at hx'
  obtain ⟨w', hrun, hT, hgr⟩ := (hD.tab es.2 hb).store K ht cap hc hcap hkey hg
  obtain ⟨o', ho', hG⟩ := hT.mapG
  refine wp_of_skip (w' := w') ?_ (hK ν sup w' (Chg.mod1 hm cnOf_one rfl ((Fr.grown hgr).mono fun q _ hq => by rw [e1]; exact hq) ⟨b, o', e1, ho', hG⟩))
  unfold execOp
  rw [ho]
  simp [hx'.1, hx'.2.1, hx'.2.2, hrun, Result.andThen]
theorem act_makeG {ty : TypeId} {id : Nat} : ActOK P (.makeMap t none) ty [] [] [] (.ls id) [(id, some (.mp (MapG P k Good)))] := by
  intro o a ν sup w ho hty hm hx K Q hK
  refine wp_of_value (v := .map (some w.heap.size)) (w' := w.alloc (.map #[] 0)) ?_ ?_
  · unfold execOp
    rw [ho]
    simp [run_makeMap, Result.andThen]
  · have hT := TabP.new w P k Good
    obtain ⟨ob, hb, hG⟩ := hT.mapG
    have h := hK (upd ν id (.map (some w.heap.size))) (upd sup id fun _ => False) (w.alloc (.map #[] 0)) (Chg.new1 hm rfl rfl (Fr.alloc w _ _) ⟨w.heap.size, ob, rfl, hb, hG⟩ (fun b h => h.elim) (fun _ b hb => by cases hb; exact Nat.le_refl _))
    simpa [SV.val, PV.val, LV.val, upd_self] using h
end
/-- What is known of a map's block by something that is, is taken by that. -/
theorem aw_open {P : Program} {E : Env} {Q : Exit → St → Prop} {S : St} {c : Code} {α : Type} {p : α → Obj → Prop} (id : Nat) (hc : S.cn id = some (.mp fun o => ∃ x, p x o)) (h : ∀ x, AW P E c Q (S.mem [(id, some (.mp (p x)))])) : AW P E c Q S := fun a w ⟨ν, sup, g⟩ => by
  obtain ⟨b, o, e, hb, x, hx⟩ := g.cont id _ hc
  refine h x a w ⟨ν, sup, ?_⟩
  have key : ∀ i d, (S.mem [(id, some (Cn.mp (p x)))]).cn i = some d → (i = id ∧ d = .mp (p x)) ∨ S.cn i = some d := fun i d hd => by
    unfold St.cn St.mem at hd
    simp only [List.cons_append, List.nil_append, look] at hd
    cases hbq : Nat.beq id i with
    | true =>
      rw [hbq] at hd
      simp only at hd
      cases hd
      exact .inl ⟨(Nat.eq_of_beq_eq_true hbq).symm, rfl⟩
    | false =>
      rw [hbq] at hd
      exact .inr hd
  have own : ∀ i d, (S.mem [(id, some (Cn.mp (p x)))]).cn i = some d → ∃ d', S.cn i = some d' ∧ d'.owned = d.owned := fun i d hd => by
    rcases key i d hd with ⟨rfl, rfl⟩ | h
    · exact ⟨_, hc, rfl⟩
    · exact ⟨d, h, rfl⟩
  exact
    { defers := g.defers, size := g.size, one := g.one, slot := g.slot
      cont := fun i d hd => by
        rcases key i d hd with ⟨rfl, rfl⟩ | h
        · exact ⟨b, o, e, hb, hx⟩
        · exact g.cont i d h
      supLt := fun i d hd => by obtain ⟨d', h, _⟩ := own i d hd; exact g.supLt i d' h
      ownSup := fun i d hd ho i' d' hd' => by
        obtain ⟨f, h, hf⟩ := own i d hd
        obtain ⟨f', h', _⟩ := own i' d' hd'
        exact g.ownSup i f h (hf.trans ho) i' f' h'
      ownOwn := fun i d hd ho i' d' hd' ho' => by
        obtain ⟨f, h, hf⟩ := own i d hd
        obtain ⟨f', h', hf'⟩ := own i' d' hd'
        exact g.ownOwn i f h (hf.trans ho) i' f' h' (hf'.trans ho')
      ownMd := fun i d hd ho => by obtain ⟨f, h, hf⟩ := own i d hd; exact g.ownMd i f h (hf.trans ho)
      supMd := fun i d hd => by obtain ⟨f, h, _⟩ := own i d hd; exact g.supMd i f h
      keep := g.keep
      frame := g.frame }
end Go.Proofs.Ytepibjfmeibgcaa
