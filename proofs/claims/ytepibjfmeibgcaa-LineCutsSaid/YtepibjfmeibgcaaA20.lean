/- An abstract walk: regions in the text's order; the rules of the code. No program is in sight here. -/
import Derived.Test.YtepibjfmeibgcaaA15
namespace Go.Proofs.Ytepibjfmeibgcaa
open Go.RowKit
set_option linter.unusedVariables false
def orcAt (i : Nat) (orcs : List (Nat × Orc)) : Orc := match look i orcs with | some r => r | none => .none
def runI (P : Program) (ops : Array Oper) (orcs : List (Nat × Orc)) : Nat → List Oper → St → Option (St × List Prop)
  | _, [], S => some (S, [])
  | i, o :: rest, S => match step P ops S o (orcAt i orcs) with
    | some (S1, v1) => match runI P ops orcs (i + 1) rest S1 with
      | some (S2, v2) => some (S2, v1 ++ v2)
      | none => none
    | none => none
theorem AllP_cons {p : Prop} {ps : List Prop} : AllP (p :: ps) ↔ p ∧ AllP ps := by
  cases ps with
  | nil => simp [AllP]
  | cons q r => exact Iff.rfl
theorem AllP_append {ps qs : List Prop} : AllP (ps ++ qs) ↔ AllP ps ∧ AllP qs := by
  induction ps with
  | nil => simp [AllP]
  | cons p ps ih => rw [List.cons_append, AllP_cons, AllP_cons, ih, and_assoc]
/-- Only what is asked for is kept. -/
def pickS {α : Type} (f : Nat → Option α) : List Nat → List (Nat × α)
  | [] => []
  | k :: ks => match f k with | some x => (k, x) :: pickS f ks | none => pickS f ks
def St.cut (S : St) (ks ids : List Nat) : St := ⟨S.nt, S.keep, pickS S.sl ks, (pickS S.cn ids).map fun p => (p.1, some p.2)⟩
theorem pickS_spec {α : Type} {f : Nat → Option α} {k : Nat} {x : α} : ∀ {ks : List Nat}, look k (pickS f ks) = some x → f k = some x := by
  intro ks
  induction ks with
  | nil => intro h; cases h
  | cons j ks ih =>
    intro h
    unfold pickS at h
    split at h
    · rename_i y hy
      unfold look at h
      split at h
      · rename_i hb
        cases h
        rw [← Nat.eq_of_beq_eq_true hb]; exact hy
      · exact ih h
    · exact ih h
theorem look_map {α β : Type} {f : α → β} {k : Nat} {y : β} : ∀ {l : List (Nat × α)}, look k (l.map fun p => (p.1, f p.2)) = some y → ∃ x, look k l = some x ∧ y = f x := by
  intro l
  induction l with
  | nil => intro h; cases h
  | cons p l ih =>
    intro h
    obtain ⟨i, x⟩ := p
    simp only [List.map_cons, look] at h ⊢
    split at h
    · rename_i hb; cases h; exact ⟨x, by simp [hb], rfl⟩
    · rename_i hb
      obtain ⟨x2, h2, h3⟩ := ih h
      exact ⟨x2, by simp [hb, h2], h3⟩
/-- Less is known. -/
def Ent (S T : St) : Prop := ∀ E a w, G E S a w → G E T a w
theorem Ent.refl (S : St) : Ent S S := fun _ _ _ h => h
theorem Ent.trans {S T U : St} (h : Ent S T) (k : Ent T U) : Ent S U := fun E a w g => k E a w (h E a w g)
theorem Ent.of_le {S T : St} (hn : T.nt = S.nt) (hk : T.keep = S.keep) (hs : ∀ t x, T.sl t = some x → S.sl t = some x) (hc : ∀ id c, T.cn id = some c → S.cn id = some c) : Ent S T := fun E a w ⟨ν, sup, g⟩ => ⟨ν, sup,
  { defers := g.defers, size := by rw [hn]; exact g.size, one := g.one
    slot := fun t x h => g.slot t x (hs t x h)
    cont := fun id c h => g.cont id c (hc id c h)
    supLt := fun id c h => g.supLt id c (hc id c h)
    ownSup := fun id c h ho id' c' h' => g.ownSup id c (hc id c h) ho id' c' (hc id' c' h')
    ownOwn := fun id c h ho id' c' h' => g.ownOwn id c (hc id c h) ho id' c' (hc id' c' h')
    ownMd := fun id c h => g.ownMd id c (hc id c h)
    supMd := fun id c h => g.supMd id c (hc id c h)
    keep := fun id h => g.keep id (by rw [← hk]; exact h)
    frame := g.frame }⟩
theorem St.cut_ent (S : St) (ks ids : List Nat) : Ent S (S.cut ks ids) := by
  refine Ent.of_le rfl rfl (fun t x h => pickS_spec h) fun id c h => ?_
  have h2 := St.cn_look h
  have h3 : look id ((pickS S.cn ids).map fun p => (p.1, some p.2)) = some (some c) := h2
  obtain ⟨x, h4, h5⟩ := look_map (f := fun c : Cn => some c) h3
  cases h5
  exact pickS_spec h4
/-- A region; then only what is asked for is kept. -/
def runR (P : Program) (l : List Oper) (orcs : List (Nat × Orc)) (S : St) (ks ids : List Nat) : Option (St × List Prop) :=
  match runI P l.toArray orcs 0 l S with
  | some (S', vc) => some (S'.cut ks ids, vc)
  | none => none
theorem wpList_run {P : Program} {ops : Array Oper} {orcs : List (Nat × Orc)} {E : Env} {Q : Exit → Act → World → Prop} : ∀ {l : List Oper} {i : Nat} {S S' : St} {vc : List Prop} {a : Act} {w : World}, runI P ops orcs i l S = some (S', vc) → AllP vc → G E S a w → (∀ a' w', G E S' a' w' → Q .normal a' w') → wpList P ops Q l a w := by
  intro l
  induction l with
  | nil =>
    intro i S S' vc a w h _ g hQ
    cases h
    exact hQ a w g
  | cons o l ih =>
    intro i S S' vc a w h hvc g hQ
    unfold runI at h
    split at h
    · rename_i S1 v1 h1
      split at h
      · rename_i S2 v2 h2
        cases h
        obtain ⟨hv1, hv2⟩ := AllP_append.1 hvc
        unfold wpList
        exact step_sound h1 hv1 g fun a' w' g' => ih h2 hv2 g' hQ
      · cases h
    · cases h
theorem least_ex {M : Nat → Prop} (h : ∃ n, M n) : ∃ n, M n ∧ ∀ m, M m → n ≤ m := by
  obtain ⟨n, hn⟩ := h
  induction n using Nat.strongRecOn with
  | _ n ih =>
    by_cases hm : ∃ m, m < n ∧ M m
    · obtain ⟨m, h1, h2⟩ := hm
      exact ih m h1 h2
    · exact ⟨n, hn, fun m hM => Nat.le_of_not_lt fun hlt => hm ⟨m, hlt, hM⟩⟩
/-- A piece of code, from a state. -/
def AW (P : Program) (E : Env) (c : Code) (Q : Exit → St → Prop) (S : St) : Prop := ∀ a w, G E S a w → c.wp P (fun e a' w' => ∃ S', Q e S' ∧ G E S' a' w') a w
def thenS (N : St → Prop) (Q : Exit → St → Prop) : Exit → St → Prop
  | .normal, S => N S
  | e, S => Q e S
def inBlockS (id : Nat) (Q : Exit → St → Prop) : Exit → St → Prop
  | .exit id', S => if id' = id then Q .normal S else Q (.exit id') S
  | e, S => Q e S
section
variable {P : Program} {E : Env} {Q : Exit → St → Prop} {S : St}
theorem aw_ent {c : Code} {T : St} (h : Ent S T) (k : AW P E c Q T) : AW P E c Q S := fun a w g => k a w (h E a w g)
theorem aw_region {id : Nat} {l : List Oper} (orcs : List (Nat × Orc)) (ks ids : List Nat) (T : St) (vc : List Prop) (h : runR P l orcs S ks ids = some (T, vc)) (hvc : AllP vc) (hQ : Q .normal T) : AW P E (.region id l.toArray false) Q S := fun a w g => by
  unfold runR at h
  split at h
  · rename_i S' vc' h'
    cases h
    exact wp_region_lit (wpList_run h' hvc g fun a' w' g' => ⟨_, hQ, S'.cut_ent ks ids E a' w' g'⟩)
  · cases h
theorem aw_seq {x y : Code} (h : AW P E x (thenS (fun T => AW P E y Q T) Q) S) : AW P E (.seq x y) Q S := fun a w g =>
  wp_seq (Code.wp_mono (fun e a' w' ⟨S', hq, g'⟩ => by
    cases e with
    | normal => exact hq a' w' g'
    | exit id => exact ⟨S', hq, g'⟩
    | goto l => exact ⟨S', hq, g'⟩
    | ret => exact ⟨S', hq, g'⟩
    | panic ch => exact ⟨S', hq, g'⟩
    | outgrown => exact ⟨S', hq, g'⟩) (h a w g))
theorem aw_cond {c : Operand} {x y : Code} {b : Bool} (hc : evO S.sl c = some (.p (.one (.v (.bool b))))) (ht : b = true → AW P E x Q S) (hf : b = false → AW P E y Q S) : AW P E (.cond c x y) Q S := fun a w g => by
  obtain ⟨ν, sup, g'⟩ := g
  exact wp_cond_split (t := b) (evO_sound g' hc) (fun e => ht e a w ⟨ν, sup, g'⟩) (fun e => hf e a w ⟨ν, sup, g'⟩)
theorem aw_true {c : Operand} {x y : Code} (hc : evO S.sl c = some (.p (.one (.v (.bool true))))) (ht : AW P E x Q S) : AW P E (.cond c x y) Q S := aw_cond hc (fun _ => ht) (fun e => by cases e)
theorem aw_false {c : Operand} {x y : Code} (hc : evO S.sl c = some (.p (.one (.v (.bool false))))) (hf : AW P E y Q S) : AW P E (.cond c x y) Q S := aw_cond hc (fun e => by cases e) (fun _ => hf)
theorem aw_skip (h : Q .normal S) : AW P E .skip Q S := fun a w g => wp_skip ⟨S, h, g⟩
theorem aw_exit {id : Nat} (h : Q (.exit id) S) : AW P E (.exit id) Q S := fun a w g => wp_exit ⟨S, h, g⟩
theorem aw_ret (h : Q .ret S) : AW P E .ret Q S := fun a w g => wp_ret ⟨S, h, g⟩
theorem aw_block {id : Nat} {c : Code} (h : AW P E c (inBlockS id Q) S) : AW P E (.block id c) Q S := fun a w g =>
  wp_block (Code.wp_mono (fun e a' w' ⟨S', hq, g'⟩ => by
    cases e with
    | normal => exact ⟨S', hq, g'⟩
    | exit id' =>
      simp only [inBlockS, Exit.inBlock] at hq ⊢
      split
      · rename_i e; rw [if_pos e] at hq; exact ⟨S', hq, g'⟩
      · rename_i e; rw [if_neg e] at hq; exact ⟨S', hq, g'⟩
    | goto l => exact ⟨S', hq, g'⟩
    | ret => exact ⟨S', hq, g'⟩
    | panic ch => exact ⟨S', hq, g'⟩
    | outgrown => exact ⟨S', hq, g'⟩) (h a w g))
theorem aw_mono {c : Code} {Q' : Exit → St → Prop} (h : AW P E c Q S) (hq : ∀ e T, Q e T → Q' e T) : AW P E c Q' S := fun a w g =>
  Code.wp_mono (fun e a' w' ⟨S', h1, g'⟩ => ⟨S', hq e S' h1, g'⟩) (h a w g)
theorem aw_loop {c : Code} {ι : Type} (I : ι → St) (p : ι → Prop) (μ : ι → Nat) (i0 : ι) (h0 : p i0) (hent : Ent S (I i0)) (round : ∀ i, p i → AW P E c (thenS (fun T => ∃ i', p i' ∧ μ i' < μ i ∧ Ent T (I i')) Q) (I i)) : AW P E (.loop c) Q S := fun a w g => by
  classical
  -- the least measure among the indices that fit
  let M : Act → World → Nat → Prop := fun a w n => ∃ i, p i ∧ G E (I i) a w ∧ μ i = n
  let least : Act → World → Nat := fun a w => if h : ∃ n, M a w n then Classical.choose (least_ex h) else 0
  refine wp_loop (fun a w => ∃ n, M a w n) least ⟨_, i0, h0, hent E a w g, rfl⟩ fun a w hI => ?_
  obtain ⟨i, hp, hg, hμ⟩ := (Classical.choose_spec (least_ex hI)).1
  have hl : least a w = μ i := by simp only [least]; rw [dif_pos hI, hμ]
  refine Code.wp_mono (fun e a' w' ⟨S', hq, g'⟩ => ?_) (round i hp a w hg)
  cases e with
  | normal =>
    obtain ⟨i', hp', hlt, hent'⟩ := hq
    have hM : M a' w' (μ i') := ⟨i', hp', hent' E a' w' g', rfl⟩
    refine ⟨⟨_, hM⟩, ?_⟩
    have : least a' w' ≤ μ i' := by
      simp only [least]
      rw [dif_pos ⟨_, hM⟩]
      exact (Classical.choose_spec (least_ex ⟨_, hM⟩)).2 _ hM
    omega
  | exit id => exact ⟨S', hq, g'⟩
  | goto l => exact ⟨S', hq, g'⟩
  | ret => exact ⟨S', hq, g'⟩
  | panic ch => exact ⟨S', hq, g'⟩
  | outgrown => exact ⟨S', hq, g'⟩
end
end Go.Proofs.Ytepibjfmeibgcaa
/- An abstract walk: less is known under other names; entering and leaving a function. No program is in sight here. -/
namespace Go.Proofs.Ytepibjfmeibgcaa
open Go.RowKit
set_option linter.unusedVariables false
def renId (ρ : List (Nat × Nat)) (i : Nat) : Nat := match look i ρ with | some j => j | none => i
def LV.ren (ρ : List (Nat × Nat)) : LV → LV
  | .v x => .v x
  | .ref id off => .ref (renId ρ id) off
  | .el id k size j => .el (renId ρ id) k size j
  | .ls id => .ls (renId ρ id)
  | .fnc f caps => .fnc f (caps.map (renId ρ))
def PV.ren (ρ : List (Nat × Nat)) : PV → PV
  | .one l => .one (l.ren ρ)
  | .agg ls => .agg (ls.map (LV.ren ρ))
def SV.ren (ρ : List (Nat × Nat)) : SV → SV
  | .p x => .p (x.ren ρ)
  | .tup xs => .tup (xs.map (PV.ren ρ))
theorem LV.ren_val {ρ : List (Nat × Nat)} {ν : Nat → Value} (l : LV) : (l.ren ρ).val ν = l.val fun id => ν (renId ρ id) := by
  cases l with
  | v x => rfl
  | ref id off => rfl
  | el id k size j => rfl
  | ls id => rfl
  | fnc f caps => simp only [LV.ren, LV.val, List.map_map, Function.comp_def]
theorem LV.map_ren {ρ : List (Nat × Nat)} {ν : Nat → Value} (ls : List LV) : (ls.map (LV.ren ρ)).map (LV.val ν) = ls.map (LV.val fun id => ν (renId ρ id)) := by
  rw [List.map_map]
  exact List.map_congr_left fun l _ => LV.ren_val l
theorem PV.ren_val {ρ : List (Nat × Nat)} {ν : Nat → Value} (x : PV) : (x.ren ρ).val ν = x.val fun id => ν (renId ρ id) := by
  cases x with
  | one l => exact LV.ren_val l
  | agg ls => simp only [PV.ren, PV.val, LV.map_ren]
theorem SV.ren_val {ρ : List (Nat × Nat)} {ν : Nat → Value} (x : SV) : (x.ren ρ).val ν = x.val fun id => ν (renId ρ id) := by
  cases x with
  | p x => exact PV.ren_val x
  | tup xs =>
    simp only [SV.ren, SV.val, List.map_map]
    congr 2
    exact List.map_congr_left fun l _ => PV.ren_val l
/-- A piece of memory is known at least so well. -/
def CnLe (ρ : List (Nat × Nat)) : Cn → Cn → Prop
  | .vec t s n el, .vec t2 s2 n2 el2 => t = t2 ∧ s = s2 ∧ n = n2 ∧ ∀ i, i < n → ∀ j, j < s → el i j = el2 i j
  | .vec _ s n el, .ro s2 n2 el2 => s = s2 ∧ n = n2 ∧ ∀ i, i < n → ∀ j, j < s → el i j = el2 i j
  | .ro s n el, .ro s2 n2 el2 => s = s2 ∧ n = n2 ∧ ∀ i, i < n → ∀ j, j < s → el i j = el2 i j
  | .blk t cs, .blk t2 cs2 => t = t2 ∧ cs = cs2.map (LV.ren ρ)
  | .blk _ cs, .rblk cs2 => cs = cs2.map (LV.ren ρ)
  | .rblk cs, .rblk cs2 => cs = cs2.map (LV.ren ρ)
  | .mp g, .mp g2 => ∀ o, g o → g2 o
  | _, _ => False
theorem DV.ls_congr {w : World} {s : Nat → Prop} {size n : Nat} {el el2 : Nat → Nat → DV} {u : Value} (h : ∀ i, i < n → ∀ j, j < size → el i j = el2 i j) (hr : (DV.ls size n el).rep w s u) : (DV.ls size n el2).rep w s u := by
  obtain ⟨A, c, h1, h2, h3⟩ := hr
  refine ⟨A, c, h1, h2, fun hn => ?_⟩
  obtain ⟨b, off, e, hb, hc⟩ := h3 hn
  exact ⟨b, off, e, hb, fun i hi j hj => by rw [← h i hi j hj]; exact hc i hi j hj⟩
theorem vec_ro {ν : Nat → Value} {w : World} {s : Nat → Prop} {u : Value} {t size n : Nat} {el : Nat → Nat → DV} (h : (Cn.vec t size n el).holds ν w s u) : (DV.ls size n el).rep w (fun b => s b ∨ blkOf u = some b) u := by
  obtain ⟨A, cap, e1, hcap, hcell⟩ := Cn.lst_cells (c := .vec t size n el) h rfl
  subst e1
  refine ⟨A, cap, rfl, hcap, fun hn0 => ?_⟩
  obtain ⟨b, off, rfl, hcl⟩ := hcell hn0
  refine ⟨b, off, rfl, .inr rfl, fun i hi j hj => ?_⟩
  obtain ⟨u, hu, hr⟩ := hcl i hi j hj
  exact ⟨u, hu, DV.rep_keep (fun _ _ => rfl) (fun b hb => .inl hb) hr⟩
theorem CnLe.holds {ρ : List (Nat × Nat)} {c d : Cn} (h : CnLe ρ c d) {ν : Nat → Value} {w : World} {s : Nat → Prop} {u : Value} (hc : c.holds ν w s u) :
    d.holds (fun id => ν (renId ρ id)) w (fun b => s b ∨ (d.owned = false ∧ c.owned = true ∧ blkOf u = some b)) u := by
  cases c with
  | vec t size n el =>
    cases d with
    | vec t2 s2 n2 el2 =>
      obtain ⟨rfl, rfl, rfl, he⟩ := h
      obtain ⟨flat, h0, hr, hcell⟩ := hc
      refine ⟨flat, h0, hr, fun i hi j hj => ?_⟩
      obtain ⟨x, hx, hd⟩ := hcell i hi j hj
      exact ⟨x, hx, by rw [← he i hi j hj]; exact DV.rep_keep (fun _ _ => rfl) (fun b hb => .inl hb) hd⟩
    | ro s2 n2 el2 =>
      obtain ⟨rfl, rfl, he⟩ := h
      exact DV.ls_congr he (DV.rep_keep (fun _ _ => rfl) (fun b hb => hb.imp id fun e => ⟨rfl, rfl, e⟩) (vec_ro hc))
    | blk t cs => cases h
    | rblk cs => cases h
    | mp g => cases h
  | ro size n el =>
    cases d with
    | ro s2 n2 el2 =>
      obtain ⟨rfl, rfl, he⟩ := h
      exact DV.ls_congr he (DV.rep_keep (fun _ _ => rfl) (fun b hb => .inl hb) hc)
    | vec t2 s2 n2 el2 => cases h
    | blk t cs => cases h
    | rblk cs => cases h
    | mp g => cases h
  | blk t cs =>
    cases d with
    | blk t2 cs2 =>
      obtain ⟨rfl, rfl⟩ := h
      obtain ⟨b, rfl, hb⟩ := hc
      exact ⟨b, rfl, by rw [hb, LV.map_ren]⟩
    | rblk cs2 =>
      have h : cs = cs2.map (LV.ren ρ) := h
      subst h
      obtain ⟨b, rfl, hb⟩ := hc
      refine ⟨b, 0, rfl, .inr ⟨rfl, rfl, rfl⟩, fun i l hl => ?_⟩
      rw [Nat.zero_add, cell_of_row w b i _ t (0, 0) hb]
      simp [hl, LV.ren_val]
    | vec t2 s2 n2 el2 => cases h
    | ro s2 n2 el2 => cases h
    | mp g => cases h
  | rblk cs =>
    cases d with
    | rblk cs2 =>
      have h : cs = cs2.map (LV.ren ρ) := h
      subst h
      obtain ⟨b, off, rfl, hb, hcell⟩ := hc
      refine ⟨b, off, rfl, .inl hb, fun i l hl => ?_⟩
      rw [hcell i (l.ren ρ) (by rw [List.getElem?_map, hl]; rfl), LV.ren_val]
    | blk t2 cs2 => cases h
    | vec t2 s2 n2 el2 => cases h
    | ro s2 n2 el2 => cases h
    | mp g => cases h
  | mp g =>
    cases d with
    | mp g2 =>
      obtain ⟨b, o, e, hb, hg⟩ := hc
      exact ⟨b, o, e, hb, h o hg⟩
    | vec t2 s2 n2 el2 => cases h
    | ro s2 n2 el2 => cases h
    | blk t2 cs2 => cases h
    | rblk cs2 => cases h
theorem CnLe.own {ρ : List (Nat × Nat)} {c d : Cn} (h : CnLe ρ c d) (hd : d.owned = true) : c.owned = true := by
  cases c <;> cases d <;> first | rfl | exact False.elim h | cases hd
def SlotsLe (ρ : List (Nat × Nat)) (S : St) : List (Nat × SV) → Prop
  | [] => True
  | (t, x) :: r => S.sl t = some (x.ren ρ) ∧ SlotsLe ρ S r
def ContsLe (ρ : List (Nat × Nat)) (S : St) : List (Nat × Option Cn) → Prop
  | [] => True
  | (id, some d) :: r => (match S.cn (renId ρ id) with | some c => CnLe ρ c d | none => False) ∧ ContsLe ρ S r
  | (_, none) :: r => ContsLe ρ S r
theorem SlotsLe.at_ {ρ : List (Nat × Nat)} {S : St} {t : Nat} {x : SV} : ∀ {l : List (Nat × SV)}, SlotsLe ρ S l → (t, x) ∈ l → S.sl t = some (x.ren ρ) := by
  intro l
  induction l with
  | nil => intro _ h; cases h
  | cons p r ih =>
    intro h hm
    obtain ⟨h1, h2⟩ := h
    rcases List.mem_cons.1 hm with rfl | hm
    · exact h1
    · exact ih h2 hm
theorem ContsLe.at_ {ρ : List (Nat × Nat)} {S : St} {id : Nat} {d : Cn} : ∀ {l : List (Nat × Option Cn)}, ContsLe ρ S l → (id, some d) ∈ l → ∃ c, S.cn (renId ρ id) = some c ∧ CnLe ρ c d := by
  intro l
  induction l with
  | nil => intro _ h; cases h
  | cons p r ih =>
    intro h hm
    obtain ⟨i, o⟩ := p
    cases o with
    | none =>
      rcases List.mem_cons.1 hm with e | hm
      · cases e
      · exact ih h hm
    | some d' =>
      obtain ⟨h1, h2⟩ := h
      rcases List.mem_cons.1 hm with e | hm
      · cases e
        split at h1
        · rename_i c hc; exact ⟨c, hc, h1⟩
        · cases h1
      · exact ih h2 hm
def keepB (ρ : List (Nat × Nat)) (l : List Nat) : Bool := l.all fun id => Nat.beq (renId ρ id) id
theorem nodup_inj {ρ : List (Nat × Nat)} : ∀ {l : List (Nat × Option Cn)}, nodupB' (l.map fun p => renId ρ p.1) = true → ∀ {id id' : Nat} {c c' : Option Cn}, (id, c) ∈ l → (id', c') ∈ l → renId ρ id = renId ρ id' → id = id' := by
  intro l
  induction l with
  | nil => intro _ id id' c c' h; cases h
  | cons p r ih =>
    intro h id id' c c' hm hm' he
    unfold List.map nodupB' at h
    rw [Bool.and_eq_true, Bool.not_eq_true'] at h
    have hno : ∀ {i : Nat} {o : Option Cn}, (i, o) ∈ r → renId ρ p.1 ≠ renId ρ i := fun hi e => by
      have : memB' (renId ρ p.1) (r.map fun p => renId ρ p.1) = true := memB'_iff.2 (by rw [e]; exact List.mem_map_of_mem (f := fun p : Nat × Option Cn => renId ρ p.1) hi)
      rw [this] at h
      cases h.1
    rcases List.mem_cons.1 hm with e1 | hm1
    · rcases List.mem_cons.1 hm' with e2 | hm2
      · exact congrArg Prod.fst (e1.trans e2.symm)
      · subst e1; exact absurd he (hno hm2)
    · rcases List.mem_cons.1 hm' with e2 | hm2
      · subst e2; exact absurd he.symm (hno hm1)
      · exact ih h.2 hm1 hm2 he
theorem Ent.ren (ρ : List (Nat × Nat)) {S T : St} (hn : T.nt = S.nt) (hk : T.keep = S.keep) (hkeep : keepB ρ T.keep = true) (hs : SlotsLe ρ S T.fr) (hc : ContsLe ρ S T.hp) (hinj : nodupB' (T.hp.map fun p => renId ρ p.1) = true) : Ent S T := fun E a w ⟨ν, sup, g⟩ => by
  have hcn : ∀ {id d}, T.cn id = some d → ∃ c, S.cn (renId ρ id) = some c ∧ CnLe ρ c d := fun h => hc.at_ (look_mem (St.cn_look h))
  have hin : ∀ {id d id' d'}, T.cn id = some d → T.cn id' = some d' → renId ρ id = renId ρ id' → id = id' := fun h h' e => nodup_inj hinj (look_mem (St.cn_look h)) (look_mem (St.cn_look h')) e
  refine ⟨fun id => ν (renId ρ id), fun id b => sup (renId ρ id) b ∨ ∃ c d, S.cn (renId ρ id) = some c ∧ T.cn id = some d ∧ d.owned = false ∧ c.owned = true ∧ blkOf (ν (renId ρ id)) = some b, ?_⟩
  exact
    { defers := g.defers
      size := by rw [hn]; exact g.size
      one := fun id => g.one _
      slot := fun t x h => by
        rw [g.slot t _ (hs.at_ (look_mem h)), SV.ren_val]
      cont := fun id d h => by
        obtain ⟨c, h1, h2⟩ := hcn h
        refine Cn.keep (h2.holds (g.cont _ c h1)) (fun _ _ => rfl) (fun _ _ => rfl) (fun b hb => ?_) (fun _ _ _ => rfl)
        rcases hb with hb | ⟨h3, h4, h5⟩
        · exact .inl hb
        · exact .inr ⟨c, d, h1, h, h3, h4, h5⟩
      supLt := fun id d h b hb => by
        obtain ⟨c, h1, h2⟩ := hcn h
        rcases hb with hb | ⟨c', d', h3, h4, h5, h6, h7⟩
        · exact g.supLt _ c h1 b hb
        · exact g.own_lt h3 h6 h7
      ownSup := fun id d h ho id' d' h' b hb hs' => by
        obtain ⟨c, h1, h2⟩ := hcn h
        obtain ⟨c', h1', h2'⟩ := hcn h'
        rcases hs' with hs' | ⟨c2, d2, h3, h4, h5, h6, h7⟩
        · exact g.ownSup _ c h1 (h2.own ho) _ c' h1' b hb hs'
        · by_cases he : renId ρ id = renId ρ id'
          · have := hin h h' he
            subst this
            rw [h] at h4
            cases h4
            rw [ho] at h5
            cases h5
          · exact g.ownOwn _ c h1 (h2.own ho) _ c2 h3 h6 he b hb h7
      ownOwn := fun id d h ho id' d' h' ho' hne b hb => by
        obtain ⟨c, h1, h2⟩ := hcn h
        obtain ⟨c', h1', h2'⟩ := hcn h'
        exact g.ownOwn _ c h1 (h2.own ho) _ c' h1' (h2'.own ho') (fun e => hne (hin h h' e)) b hb
      ownMd := fun id d h ho b hb => by
        obtain ⟨c, h1, h2⟩ := hcn h
        exact g.ownMd _ c h1 (h2.own ho) b hb
      supMd := fun id d h b hb => by
        obtain ⟨c, h1, h2⟩ := hcn h
        rcases hb with hb | ⟨c', d', h3, h4, h5, h6, h7⟩
        · exact g.supMd _ c h1 b hb
        · rcases g.ownMd _ c' h3 h6 b h7 with h8 | h8
          · exact .inl h8
          · exact .inr (.inr h8)
      keep := fun id h => by
        have := List.all_eq_true.1 hkeep id h
        rw [Nat.eq_of_beq_eq_true this]
        exact g.keep id (by rw [← hk]; exact h)
      frame := g.frame }
end Go.Proofs.Ytepibjfmeibgcaa
/- An abstract walk: entering and leaving a function. No program is in sight here. -/
namespace Go.Proofs.Ytepibjfmeibgcaa
open Go.RowKit
set_option linter.unusedVariables false
def LV.inS (l : List Nat) : LV → Bool
  | .v _ => true
  | .ref id _ => memB' id l
  | .el id _ _ _ => memB' id l
  | .ls id => memB' id l
  | .fnc _ caps => caps.all fun id => memB' id l
def PV.inS (l : List Nat) : PV → Bool
  | .one x => x.inS l
  | .agg ls => ls.all (LV.inS l)
def SV.inS (l : List Nat) : SV → Bool
  | .p x => x.inS l
  | .tup xs => xs.all (PV.inS l)
theorem LV.inS_val {l : List Nat} {x : LV} (h : x.inS l = true) {ν ν' : Nat → Value} (hν : ∀ id, id ∈ l → ν' id = ν id) : x.val ν' = x.val ν := by
  refine LV.val_congr fun id hid => hν id ?_
  cases x with
  | v x => cases hid
  | ref i off => rw [← beq_ne hid]; exact memB'_iff.1 h
  | el i k size j => rw [← beq_ne hid]; exact memB'_iff.1 h
  | ls i => rw [← beq_ne hid]; exact memB'_iff.1 h
  | fnc f caps =>
    simp only [LV.noId, List.all_eq_false] at hid
    obtain ⟨i, hi, hb⟩ := hid
    have hb : (!Nat.beq i id) = false := by simpa using hb
    rw [← beq_ne hb]
    exact memB'_iff.1 (List.all_eq_true.1 h i hi)
theorem LV.inS_map {l : List Nat} {xs : List LV} (h : xs.all (LV.inS l) = true) {ν ν' : Nat → Value} (hν : ∀ id, id ∈ l → ν' id = ν id) : xs.map (LV.val ν') = xs.map (LV.val ν) :=
  List.map_congr_left fun x hx => LV.inS_val (List.all_eq_true.1 h x hx) hν
theorem PV.inS_val {l : List Nat} {x : PV} (h : x.inS l = true) {ν ν' : Nat → Value} (hν : ∀ id, id ∈ l → ν' id = ν id) : x.val ν' = x.val ν := by
  cases x with
  | one x => exact LV.inS_val h hν
  | agg ls => simp only [PV.val, LV.inS_map h hν]
theorem SV.inS_val {l : List Nat} {x : SV} (h : x.inS l = true) {ν ν' : Nat → Value} (hν : ∀ id, id ∈ l → ν' id = ν id) : x.val ν' = x.val ν := by
  cases x with
  | p x => exact PV.inS_val h hν
  | tup xs =>
    simp only [SV.val]
    congr 2
    exact List.map_congr_left fun x hx => PV.inS_val (List.all_eq_true.1 h x hx) hν
/-- A call that gives new memory alone. -/
def CallFr (P : Program) (f : FuncId) (xs : List SV) (ids : List Nat) (cs : List (Option Cn)) (res : SV) (wr : List (Nat × Option Cn)) : Prop :=
  ∀ ν sup w, MW (cnOf ids cs) ν sup w → Calls P f (xs.map (SV.val ν)).toArray w fun e w' => ∃ ν' sup', Chg (cnOf ids cs) wr ν sup w ν' sup' w' ∧ (∀ id c, look id wr = some (some c) → ∀ b, sup' id b → w.heap.size ≤ b) ∧ e = .returned (res.val ν')
/-- What is known is enough for what is asked. -/
def DemL (wr : List (Nat × Option Cn)) : List Nat → List (Option Cn) → List (Option Cn) → Prop
  | id :: ids, some c :: cs, some c' :: cs' => (CnLe [] c c' ∧ (c'.owned = true ∨ id ∉ wr.map (·.1))) ∧ DemL wr ids cs cs'
  | [], [], [] => True
  | _, _, _ => False
theorem DemL.at_ {wr : List (Nat × Option Cn)} {id : Nat} : ∀ {ids : List Nat} {cs cs' : List (Option Cn)}, DemL wr ids cs cs' → (cnOf ids cs id = none ∧ cnOf ids cs' id = none) ∨ ∃ c c', cnOf ids cs id = some c ∧ cnOf ids cs' id = some c' ∧ CnLe [] c c' ∧ (c'.owned = true ∨ id ∉ wr.map (·.1)) := by
  intro ids
  induction ids with
  | nil => intro cs cs' _; exact .inl ⟨rfl, rfl⟩
  | cons i ids ih =>
    intro cs cs' h
    unfold DemL at h
    split at h
    · rename_i id' ids' c cs1 c' cs1' e
      cases e
      obtain ⟨⟨h1, h2⟩, h3⟩ := h
      unfold cnOf
      simp only [List.zip_cons_cons, look]
      cases hb : Nat.beq i id with
      | true =>
        have := Nat.eq_of_beq_eq_true hb
        subst this
        exact .inr ⟨c, c', rfl, rfl, h1, h2⟩
      | false => exact ih h3
    · rename_i e; cases e
    · cases h
theorem CallFr.ok {P : Program} {f : FuncId} {xs : List SV} {ids : List Nat} {cs cs' : List (Option Cn)} {res : SV} {wr : List (Nat × Option Cn)} (h : CallFr P f xs ids cs' res wr) (hd : DemL wr ids cs cs') : CallOK P f xs ids cs res wr := fun ν sup w m => by
  have hto : ∀ {id c'}, cnOf ids cs' id = some c' → ∃ c, cnOf ids cs id = some c ∧ CnLe [] c c' ∧ (c'.owned = true ∨ id ∉ wr.map (·.1)) := fun {id c'} e => by
    rcases hd.at_ (id := id) with ⟨_, h2⟩ | ⟨c, c2, h1, h2, h3, h4⟩
    · rw [h2] at e; cases e
    · rw [h2] at e; cases e; exact ⟨c, h1, h3, h4⟩
  have hfrom : ∀ {id c}, cnOf ids cs id = some c → ∃ c', cnOf ids cs' id = some c' ∧ CnLe [] c c' ∧ (c'.owned = true ∨ id ∉ wr.map (·.1)) := fun {id c} e => by
    rcases hd.at_ (id := id) with ⟨h1, _⟩ | ⟨c1, c2, h1, h2, h3, h4⟩
    · rw [h1] at e; cases e
    · rw [h1] at e; cases e; exact ⟨c2, h2, h3, h4⟩
  let sup2 : Nat → Nat → Prop := fun id b => sup id b ∨ ∃ c c', cnOf ids cs id = some c ∧ cnOf ids cs' id = some c' ∧ c'.owned = false ∧ c.owned = true ∧ blkOf (ν id) = some b
  have m2 : MW (cnOf ids cs') ν sup2 w :=
    { one := m.one
      cont := fun id c' e => by
        obtain ⟨c, h1, h2, h3⟩ := hto e
        refine Cn.keep (h2.holds (m.cont id c h1)) (fun _ _ => rfl) (fun _ _ => rfl) (fun b hb => ?_) (fun _ _ _ => rfl)
        rcases hb with hb | ⟨h4, h5, h6⟩
        · exact .inl hb
        · exact .inr ⟨c, c', h1, e, h4, h5, h6⟩
      supLt := fun id c' e b hb => by
        obtain ⟨c, h1, h2, h3⟩ := hto e
        rcases hb with hb | ⟨c2, c3, h4, h5, h6, h7, h8⟩
        · exact m.supLt id c h1 b hb
        · exact Cn.own_lt (m.cont id c2 h4) h7 h8
      ownSup := fun id c' e ho id' d' e' b hb hs => by
        obtain ⟨c, h1, h2, h3⟩ := hto e
        obtain ⟨d, k1, k2, k3⟩ := hto e'
        rcases hs with hs | ⟨c2, c3, h4, h5, h6, h7, h8⟩
        · exact m.ownSup id c h1 (h2.own ho) id' d k1 b hb hs
        · by_cases hne : id = id'
          · subst hne
            rw [e] at h5
            cases h5
            rw [ho] at h6
            cases h6
          · exact m.ownOwn id c h1 (h2.own ho) id' c2 h4 h7 hne b hb h8
      ownOwn := fun id c' e ho id' d' e' ho' hne => by
        obtain ⟨c, h1, h2, h3⟩ := hto e
        obtain ⟨d, k1, k2, k3⟩ := hto e'
        exact m.ownOwn id c h1 (h2.own ho) id' d k1 (k2.own ho') hne }
  refine (h ν sup2 w m2).mono fun e w' h => ?_
  obtain ⟨ν', sup', c, hfr, rfl⟩ := h
  refine ⟨ν', fun id => if id ∈ wr.map (·.1) then sup' id else sup id, ?_, rfl⟩
  have hin : ∀ {id c}, look id wr = some c → id ∈ wr.map (·.1) := fun {id c0} hl => by
    cases hm : decide (id ∈ wr.map (·.1)) with
    | true => exact of_decide_eq_true hm
    | false => rw [look_none.2 (of_decide_eq_false hm)] at hl; cases hl
  exact
    { one := c.one
      rest := fun id hm => ⟨(c.rest id hm).1, if_neg hm⟩
      same := fun id hm c0 e => by
        obtain ⟨c', h1, _⟩ := hfrom e
        exact c.same id hm c' h1
      fr := c.fr.mono fun k _ ⟨id, c0, hm, e, ho, hb⟩ => by
        obtain ⟨c1, h1, h2, _⟩ := hto e
        exact ⟨id, c1, hm, h1, h2.own ho, hb⟩
      cont := fun id c0 hl => by
        simp only [if_pos (hin hl)]
        exact c.cont id c0 hl
      sup := fun id c0 hl b hb => by
        simp only [if_pos (hin hl)] at hb
        exact ⟨(c.sup id c0 hl b hb).1, .inl (hfr id c0 hl b hb), (c.sup id c0 hl b hb).2.2⟩
      own := fun id c0 hl ho b hb => by
        rcases c.own id c0 hl ho b hb with h1 | ⟨id0, c1, hm, e, ho1, hb1⟩
        · exact .inl h1
        · obtain ⟨c2, h1, h2, _⟩ := hto e
          exact .inr ⟨id0, c2, hm, h1, h2.own ho1, hb1⟩
      apart := c.apart }
def resV (P : Program) (S : St) : ResultVar → Option PV
  | .tmp t => match S.sl t with | some (.p x) => some x | _ => none
  | .cell t ty => match S.sl t with
    | some (.p (.one (.ref id off))) => match S.cn id with
      | some c => match effLoad P ty .none [.p (.one (.ref id off))] [some c] with
        | some ⟨.p x, _, _⟩ => some x
        | _ => none
      | none => none
    | _ => none
def resL (P : Program) (S : St) : List ResultVar → Option (List PV)
  | [] => some []
  | r :: rs => match resV P S r, resL P S rs with | some x, some xs => some (x :: xs) | _, _ => none
def resS (P : Program) (fn : Func) (S : St) : Option SV :=
  match resL P S fn.results.toList with
  | some [x] => some (.p x)
  | some xs => some (.tup xs)
  | none => none
section
variable {P : Program} {E : Env} {S : St} {ν : Nat → Value} {sup : Nat → Nat → Prop} {a : Act} {w : World}
theorem load_row_run {t : TypeId} {id off : Nat} {c : Cn} {x : PV} {wr : List (Nat × Option Cn)} {vc : List Prop} (h : effLoad P t .none [.p (.one (.ref id off))] [some c] = some ⟨.p x, wr, vc⟩) (hh : c.holds ν w (sup id) (ν id)) : ∃ ad, LV.val ν (.ref id off) = .pointer (some ad) ∧ (loadVar t ad).run P w = .ok (x.val ν) w := by
  unfold effLoad at h
  simp only [] at h
  split at h
  · rename_i ls h1 h2
    split at h
    · rename_i l hl
      cases h
      obtain ⟨b, o2, e, hc⟩ := Cn.row_cells hh h1
      exact ⟨⟨b, o2 + off, none⟩, by simp only [LV.val, e], loadVar_one h2 (hc off l hl)⟩
    · cases h
  · rename_i ls h1 h2
    split at h
    · rename_i n hs
      split at h
      · rename_i hle
        cases h
        have hle := Nat.le_of_ble_eq_true hle
        obtain ⟨b, o2, e, hc⟩ := Cn.row_cells hh h1
        refine ⟨⟨b, o2 + off, none⟩, by simp only [LV.val, e], ?_⟩
        exact loadVar_agg (vs := ((ls.drop off).take n).map (LV.val ν)) h2 hs (by simp; omega) (fun j v hv => by
          rw [addr_add, Nat.add_assoc]
          rw [List.getElem?_map] at hv
          rw [List.getElem?_take] at hv
          split at hv
          · rw [List.getElem?_drop] at hv
            cases hg : ls[off + j]? with
            | none => rw [hg] at hv; cases hv
            | some l => rw [hg] at hv; cases hv; exact hc _ _ hg
          · cases hv)
      · cases h
    · cases h
  · cases h
def resRun (tm : Array Value) : ResultVar → Sem Value
  | .tmp t => pure (tm.getD t undef)
  | .cell ad t => do loadVar t (← asAddr (tm.getD ad undef))
theorem results_eq (fn : Func) (tm : Array Value) : results fn tm = (do let vs ← fn.results.mapM (resRun tm); pure (if h : vs.size = 1 then vs[0] else .tuple vs)) := by
  unfold results
  congr 1
theorem resL_run (g : GW E S ν sup a w) : ∀ {rs : List ResultVar} {xs : List PV}, resL P S rs = some xs → (rs.mapM (resRun a.tmps)).run P w = .ok (xs.map (PV.val ν)) w := by
  intro rs
  induction rs with
  | nil => intro xs h; cases h; rfl
  | cons r rs ih =>
    intro xs h
    unfold resL at h
    split at h
    · rename_i x xs' h1 h2
      cases h
      rw [List.mapM_cons, Sem.run_bind]
      have hr : (resRun a.tmps r).run P w = .ok (x.val ν) w := by
        cases r with
        | tmp t =>
          unfold resV at h1
          simp only [] at h1
          split at h1
          · rename_i x' hx
            cases h1
            have := g.slot t _ hx
            simp [resRun, this, SV.val]
          · cases h1
        | cell t ty =>
          unfold resV at h1
          simp only [] at h1
          split at h1
          · rename_i id off hx
            split at h1
            · rename_i c hc
              split at h1
              · rename_i x' wr vc hl
                cases h1
                obtain ⟨ad, e1, e2⟩ := load_row_run hl (g.cont id c hc)
                have := g.slot t _ hx
                have e3 : a.tmps.getD t undef = .pointer (some ad) := by
                  rw [Array.getD_eq_getD_getElem?, this]
                  exact e1
                simp only [resRun, e3, asAddr, Sem.run_bind, Sem.run_pure, Result.andThen_ok, e2]
              · cases h1
            · cases h1
          · cases h1
      rw [hr]
      simp only [Result.andThen_ok, Sem.run_bind, ih h2, Sem.run_pure, List.map_cons]
    · cases h
theorem resS_run (g : GW E S ν sup a w) {fn : Func} {res : SV} (h : resS P fn S = some res) : (results fn a.tmps).run P w = .ok (res.val ν) w := by
  unfold resS at h
  rw [results_eq, Array.mapM_eq_mapM_toList, map_eq_pure_bind]
  split at h
  · rename_i x hx
    cases h
    simp only [Sem.run_bind, resL_run g hx, Result.andThen_ok, Sem.run_pure]
    simp [SV.val]
  · rename_i xs hne hx
    cases h
    simp only [Sem.run_bind, resL_run g hx, Result.andThen_ok, Sem.run_pure]
    have : ¬ ((xs.map (PV.val ν)).toArray).size = 1 := by
      simp only [List.size_toArray, List.length_map]
      intro h1
      match xs, h1, hne with
      | [x], _, hne => exact hne x rfl
    simp [SV.val]
    intro h1
    exact absurd (by simpa using h1) this
  · cases h
end
end Go.Proofs.Ytepibjfmeibgcaa
/- An abstract walk: a function, from its body. No program is in sight here. -/
namespace Go.Proofs.Ytepibjfmeibgcaa
open Go.RowKit
set_option linter.unusedVariables false
def PlainC : Cn → Prop
  | .blk _ _ => True
  | .vec _ s n el => ∀ i, i < n → ∀ j, j < s → ∃ x, el i j = .v x
  | .mp _ => True
  | _ => False
def Cn.inS (l : List Nat) : Cn → Bool
  | .blk _ cs => cs.all (LV.inS l)
  | _ => true
/-- What is left at the end: the results, and what is new. -/
def WrOk (T : St) : List (Nat × Option Cn) → Prop
  | [] => True
  | (id, some c) :: r => (T.cn id = some c ∧ PlainC c) ∧ WrOk T r
  | (_, none) :: r => WrOk T r
def endB (res : SV) (wr : List (Nat × Option Cn)) (keep : List Nat) : Bool :=
  res.inS (wr.map (·.1) ++ keep) && wr.all fun p => match p.2 with | some c => c.inS (wr.map (·.1) ++ keep) | none => true
def EndOk (P : Program) (fn : Func) (ids : List Nat) (res : SV) (wr : List (Nat × Option Cn)) (S : St) : Prop :=
  ∃ T, Ent S T ∧ T.keep = ids ∧ resS P fn T = some res ∧ WrOk T wr ∧ endB res wr ids = true
def initFr : Nat → List SV → List (Nat × SV)
  | _, [] => []
  | k, x :: xs => (k, x) :: initFr (k + 1) xs
def initSt (fn : Func) (xs : List SV) (ids : List Nat) (cs : List (Option Cn)) : St := ⟨fn.ntmps, ids, initFr 0 xs, ids.zip cs⟩
theorem initFr_look {t : Nat} {x : SV} : ∀ {xs : List SV} {k : Nat}, look t (initFr k xs) = some x → ∃ i, t = k + i ∧ xs[i]? = some x := by
  intro xs
  induction xs with
  | nil => intro k h; cases h
  | cons y ys ih =>
    intro k h
    unfold initFr look at h
    split at h
    · rename_i hb
      cases h
      exact ⟨0, (Nat.eq_of_beq_eq_true hb).symm, rfl⟩
    · obtain ⟨i, h1, h2⟩ := ih h
      exact ⟨i + 1, by omega, h2⟩
/-- Whatever is one's own may turn. -/
def ownedOk (wr : List (Nat × Option Cn)) : List (Nat × Option Cn) → Bool
  | [] => true
  | (id, some c) :: r => (!c.owned || memB' id (wr.map (·.1))) && ownedOk wr r
  | (_, none) :: r => ownedOk wr r
theorem ownedOk_spec {wr : List (Nat × Option Cn)} {id : Nat} {c : Cn} : ∀ {l : List (Nat × Option Cn)}, ownedOk wr l = true → (id, some c) ∈ l → c.owned = true → id ∈ wr.map (·.1) := by
  intro l
  induction l with
  | nil => intro _ h; cases h
  | cons p r ih =>
    intro h hm ho
    obtain ⟨i, o⟩ := p
    cases o with
    | none =>
      rcases List.mem_cons.1 hm with e | hm
      · cases e
      · exact ih h hm ho
    | some d =>
      unfold ownedOk at h
      rw [Bool.and_eq_true, Bool.or_eq_true] at h
      rcases List.mem_cons.1 hm with e | hm
      · cases e
        rcases h.1 with h1 | h1
        · rw [ho] at h1; cases h1
        · exact memB'_iff.1 h1
      · exact ih h.2 hm ho
theorem WrOk.at_ {T : St} {id : Nat} {c : Cn} : ∀ {wr : List (Nat × Option Cn)}, WrOk T wr → (id, some c) ∈ wr → T.cn id = some c ∧ PlainC c := by
  intro wr
  induction wr with
  | nil => intro _ h; cases h
  | cons p r ih =>
    intro h hm
    obtain ⟨i, o⟩ := p
    cases o with
    | none =>
      rcases List.mem_cons.1 hm with e | hm
      · cases e
      · exact ih h hm
    | some d =>
      obtain ⟨h1, h2⟩ := h
      rcases List.mem_cons.1 hm with e | hm
      · cases e; exact h1
      · exact ih h2 hm
theorem callFr_of {P : Program} {f : FuncId} {fn : Func} {c : Code} {xs : List SV} {ids : List Nat} {cs : List (Option Cn)} {res : SV} {wr : List (Nat × Option Cn)} (hf : P.funcs[f]? = some fn) (hb : fn.body = some c) (hl : Nat.ble xs.length fn.ntmps = true) (ho : ownedOk wr (ids.zip cs) = true)
    (h : ∀ E, AW P E c (fun e S => (e = .normal ∨ e = .ret) ∧ EndOk P fn ids res wr S) (initSt fn xs ids cs)) : CallFr P f xs ids cs res wr := fun ν sup w m => by
  let E : Env := ⟨w, fun k => ∃ id c, id ∈ wr.map (·.1) ∧ cnOf ids cs id = some c ∧ c.owned = true ∧ blkOf (ν id) = some k, fun b => ∃ id c, cnOf ids cs id = some c ∧ sup id b, ν⟩
  have hl := Nat.le_of_ble_eq_true hl
  have hcn : ∀ id, (initSt fn xs ids cs).cn id = cnOf ids cs id := fun id => rfl
  have g0 : GW E (initSt fn xs ids cs) ν sup ⟨(xs.map (SV.val ν)).toArray ++ Array.replicate (fn.ntmps - (xs.map (SV.val ν)).toArray.size) undef, []⟩ w :=
    { defers := rfl
      size := by simp [initSt]; omega
      one := m.one
      slot := fun t x hx => by
        obtain ⟨i, h1, h2⟩ := initFr_look (k := 0) hx
        rw [Nat.zero_add] at h1
        subst h1
        have hlt : t < xs.length := (List.getElem?_eq_some_iff.1 h2).1
        rw [Array.getElem?_append_left (by simpa using hlt)]
        simp [h2]
      cont := m.cont, supLt := m.supLt, ownSup := m.ownSup, ownOwn := m.ownOwn
      ownMd := fun id c e ho2 b hb => .inr ⟨id, c, ownedOk_spec ho (look_mem (St.cn_look e)) ho2, e, ho2, hb⟩
      supMd := fun id c e b hb => .inr (.inl ⟨id, c, e, hb⟩)
      keep := fun _ _ => rfl
      frame := Fr.refl _ _ }
  refine calls_of_wp hf hb (Code.wp_mono (fun e a' w' ⟨S', ⟨he, hend⟩, g'⟩ => ?_) (h E _ w ⟨ν, sup, g0⟩))
  obtain ⟨T, hent, hkeep, hres, hwr, hendB⟩ := hend
  subst hkeep
  obtain ⟨ν2, sup2, g⟩ := hent E a' w' g'
  have hkT : ∀ id, id ∈ T.keep → ν2 id = ν id := g.keep
  have key : a'.defers = [] ∧ ∃ v, (results fn a'.tmps).run P w' = .ok v w' ∧ ∃ ν' sup', Chg (cnOf T.keep cs) wr ν sup w ν' sup' w' ∧ (∀ id c, look id wr = some (some c) → ∀ b, sup' id b → w.heap.size ≤ b) ∧ Ending.returned v = .returned (res.val ν') := by
    refine ⟨g.defers, _, resS_run g hres, fun id => if id ∈ wr.map (·.1) then ν2 id else ν id, fun id => if id ∈ wr.map (·.1) then (fun _ => False) else sup id, ?_, ?_, ?_⟩
    · have hin : ∀ {id c}, look id wr = some c → id ∈ wr.map (·.1) := fun {id c0} hl => by
        cases hm : decide (id ∈ wr.map (·.1)) with
        | true => exact of_decide_eq_true hm
        | false => rw [look_none.2 (of_decide_eq_false hm)] at hl; cases hl
      unfold endB at hendB
      rw [Bool.and_eq_true] at hendB
      have hν : ∀ id, id ∈ wr.map (·.1) ++ T.keep → (if id ∈ wr.map (·.1) then ν2 id else ν id) = ν2 id := fun id hm => by
        split
        · rfl
        · rename_i hn
          rcases List.mem_append.1 hm with h1 | h1
          · exact absurd h1 hn
          · exact (hkT id h1).symm
      exact
        { one := fun id => by
            split
            · exact g.one id
            · exact m.one id
          rest := fun id hm => ⟨if_neg hm, if_neg hm⟩
          same := fun id hm c0 e => by
            rw [if_pos hm]
            exact hkT id (by
              cases hq : decide (id ∈ T.keep) with
              | true => exact of_decide_eq_true hq
              | false => rw [cnOf_none (of_decide_eq_false hq)] at e; cases e)
          fr := g.frame
          cont := fun id c0 hl => by
            have hm := hin hl
            simp only [if_pos hm]
            obtain ⟨h1, h2⟩ := hwr.at_ (look_mem hl)
            have hh := g.cont id c0 h1
            have hB := List.all_eq_true.1 hendB.2 _ (look_mem hl)
            cases c0 with
            | blk t ls =>
              obtain ⟨b, e1, e2⟩ := hh
              refine ⟨b, e1, ?_⟩
              rw [e2, LV.inS_map hB hν]
            | vec t s n el =>
              obtain ⟨flat, h0, hr, hcell⟩ := hh
              refine ⟨flat, h0, hr, fun i hi j hj => ?_⟩
              obtain ⟨x, hx, hd⟩ := hcell i hi j hj
              obtain ⟨y, hy⟩ := h2 i hi j hj
              refine ⟨x, hx, ?_⟩
              rw [hy] at hd ⊢
              exact hd
            | rblk cs => cases h2
            | ro s n el => cases h2
            | mp g => exact hh
          sup := fun id c0 hl b hb => by
            simp only [if_pos (hin hl)] at hb
          own := fun id c0 hl ho2 b hb => by
            have hm := hin hl
            simp only [if_pos hm] at hb
            exact g.ownMd id c0 (hwr.at_ (look_mem hl)).1 ho2 b hb
          apart := fun id c0 hl ho2 id' c1 hl' ho' hne b hb => by
            simp only [if_pos (hin hl)] at hb
            simp only [if_pos (hin hl')]
            exact g.ownOwn id c0 (hwr.at_ (look_mem hl)).1 ho2 id' c1 (hwr.at_ (look_mem hl')).1 ho' hne b hb }
    · intro id c0 hl b hb
      have hm : id ∈ wr.map (·.1) := by
        cases hm : decide (id ∈ wr.map (·.1)) with
        | true => exact of_decide_eq_true hm
        | false => rw [look_none.2 (of_decide_eq_false hm)] at hl; cases hl
      simp only [if_pos hm] at hb
    · unfold endB at hendB
      rw [Bool.and_eq_true] at hendB
      congr 1
      refine (SV.inS_val hendB.1 fun id hm => ?_).symm
      split
      · rfl
      · rename_i hn
        rcases List.mem_append.1 hm with h1 | h1
        · exact absurd h1 hn
        · exact (hkT id h1).symm
  rcases he with rfl | rfl <;> exact key
end Go.Proofs.Ytepibjfmeibgcaa
/- An abstract walk: a contract, at a call, under the caller's names. No program is in sight here. -/
namespace Go.Proofs.Ytepibjfmeibgcaa
open Go.RowKit
set_option linter.unusedVariables false
def Cn.ren (ρ : List (Nat × Nat)) : Cn → Cn
  | .blk t cs => .blk t (cs.map (LV.ren ρ))
  | .rblk cs => .rblk (cs.map (LV.ren ρ))
  | .vec t s n el => .vec t s n el
  | .ro s n el => .ro s n el
  | .mp g => .mp g
def wrRen (ρ : List (Nat × Nat)) : List (Nat × Option Cn) → List (Nat × Option Cn)
  | [] => []
  | (id, some c) :: r => (renId ρ id, some (c.ren ρ)) :: wrRen ρ r
  | (id, none) :: r => (renId ρ id, none) :: wrRen ρ r
theorem Cn.ren_owned {ρ : List (Nat × Nat)} (c : Cn) : (c.ren ρ).owned = c.owned := by cases c <;> rfl
theorem wrRen_ids {ρ : List (Nat × Nat)} : ∀ (wr : List (Nat × Option Cn)), (wrRen ρ wr).map (·.1) = (wr.map (·.1)).map (renId ρ) := by
  intro wr
  induction wr with
  | nil => rfl
  | cons p r ih =>
    obtain ⟨id, o⟩ := p
    cases o with
    | none => simp only [wrRen, List.map_cons, ih]
    | some c => simp only [wrRen, List.map_cons, ih]
theorem wrRen_mem {ρ : List (Nat × Nat)} {i : Nat} {c : Cn} : ∀ {wr : List (Nat × Option Cn)}, (i, some c) ∈ wrRen ρ wr → ∃ id d, (id, some d) ∈ wr ∧ i = renId ρ id ∧ c = d.ren ρ := by
  intro wr
  induction wr with
  | nil => intro h; cases h
  | cons p r ih =>
    intro h
    obtain ⟨id, o⟩ := p
    cases o with
    | none =>
      rcases List.mem_cons.1 h with e | h
      · cases e
      · obtain ⟨id2, d, h1, h2⟩ := ih h
        exact ⟨id2, d, List.mem_cons_of_mem _ h1, h2⟩
    | some d =>
      rcases List.mem_cons.1 h with e | h
      · cases e; exact ⟨id, d, List.mem_cons_self, rfl, rfl⟩
      · obtain ⟨id2, d2, h1, h2⟩ := ih h
        exact ⟨id2, d2, List.mem_cons_of_mem _ h1, h2⟩
/-- Two names fall together only if they are one. -/
def injB (ρ : List (Nat × Nat)) (js ks : List Nat) : Bool := js.all fun j => ks.all fun k => Nat.beq k j || !(Nat.beq (renId ρ k) (renId ρ j))
theorem injB_spec {ρ : List (Nat × Nat)} {js ks : List Nat} (h : injB ρ js ks = true) {j k : Nat} (hj : j ∈ js) (hk : k ∈ ks) (e : renId ρ k = renId ρ j) : k = j := by
  have := List.all_eq_true.1 (List.all_eq_true.1 h j hj) k hk
  rw [Bool.or_eq_true] at this
  rcases this with h1 | h1
  · exact Nat.eq_of_beq_eq_true h1
  · rw [e] at h1; simp at h1
def ownIds : List Nat → List (Option Cn) → List Nat
  | id :: ids, some c :: cs => match c.owned with | true => id :: ownIds ids cs | false => ownIds ids cs
  | _ :: ids, none :: cs => ownIds ids cs
  | _, _ => []
def DemF (ρ : List (Nat × Nat)) (F : Nat → Option Cn) (wr : List (Nat × Option Cn)) : List Nat → List (Option Cn) → Prop
  | id :: ids, some c' :: cs' => (match F (renId ρ id) with | some c => CnLe ρ c c' | none => False) ∧ DemF ρ F wr ids cs'
  | [], [] => True
  | _, _ => False
def atB (ρ : List (Nat × Nat)) (ids : List Nat) (cs : List (Option Cn)) (res : SV) (wr : List (Nat × Option Cn)) : Bool :=
  nodupB' ids && (nodupB' (wr.map (·.1)) && (injB ρ (wr.map (·.1)) (ids ++ wr.map (·.1)) && (injB ρ (ownIds ids cs) ids && (res.inS (ids ++ wr.map (·.1)) && ((wr.all fun p => match p.2 with | some (.rblk _) => false | some c => c.inS (ids ++ wr.map (·.1)) | none => true) && (wr.all fun p => !(memB' p.1 ids) || memB' p.1 (ownIds ids cs)))))))
theorem DemF.at_ {ρ : List (Nat × Nat)} {F : Nat → Option Cn} {wr : List (Nat × Option Cn)} {id : Nat} {c' : Cn} : ∀ {ids : List Nat} {cs' : List (Option Cn)}, DemF ρ F wr ids cs' → cnOf ids cs' id = some c' → ∃ c, F (renId ρ id) = some c ∧ CnLe ρ c c' := by
  intro ids
  induction ids with
  | nil => intro cs' _ h; cases h
  | cons i ids ih =>
    intro cs' h e
    unfold DemF at h
    split at h
    · rename_i id2 ids2 c2 cs2 e1
      cases e1
      obtain ⟨h1, h2⟩ := h
      unfold cnOf at e
      simp only [List.zip_cons_cons, look] at e
      cases hb : Nat.beq i id with
      | true =>
        have := Nat.eq_of_beq_eq_true hb
        subst this
        rw [hb] at e
        cases e
        split at h1
        · rename_i c hc; exact ⟨c, hc, h1⟩
        · cases h1
      | false =>
        rw [hb] at e
        exact ih h2 e
    · rename_i e1; cases e1
    · cases h
theorem DemF.some_ {ρ : List (Nat × Nat)} {F : Nat → Option Cn} {wr : List (Nat × Option Cn)} {id : Nat} : ∀ {ids : List Nat} {cs' : List (Option Cn)}, DemF ρ F wr ids cs' → id ∈ ids → ∃ c', cnOf ids cs' id = some c' := by
  intro ids
  induction ids with
  | nil => intro cs' _ h; cases h
  | cons i ids ih =>
    intro cs' h hm
    unfold DemF at h
    split at h
    · rename_i id2 ids2 c2 cs2 e1
      cases e1
      unfold cnOf
      simp only [List.zip_cons_cons, look]
      cases hb : Nat.beq i id with
      | true => exact ⟨c2, rfl⟩
      | false =>
        rcases List.mem_cons.1 hm with e | hm
        · subst e; simp at hb
        · exact ih h.2 hm
    · rename_i e1; cases e1
    · cases h
theorem ownIds_mem {id : Nat} {c : Cn} : ∀ {ids : List Nat} {cs : List (Option Cn)}, cnOf ids cs id = some c → c.owned = true → id ∈ ownIds ids cs := by
  intro ids
  induction ids with
  | nil => intro cs h; cases h
  | cons i ids ih =>
    intro cs h ho
    cases cs with
    | nil => cases h
    | cons o cs =>
      unfold cnOf at h
      simp only [List.zip_cons_cons, look] at h
      cases hb : Nat.beq i id with
      | true =>
        have := Nat.eq_of_beq_eq_true hb
        subst this
        rw [hb] at h
        simp only at h
        subst h
        unfold ownIds
        rw [ho]
        exact List.mem_cons_self
      | false =>
        rw [hb] at h
        have := ih h ho
        cases o with
        | none => exact this
        | some d =>
          unfold ownIds
          cases d.owned with
          | true => exact List.mem_cons_of_mem _ this
          | false => exact this
theorem cnOf_in {ids : List Nat} {cs : List (Option Cn)} {id : Nat} {c : Cn} (h : cnOf ids cs id = some c) : id ∈ ids := by
  cases hq : decide (id ∈ ids) with
  | true => exact of_decide_eq_true hq
  | false => rw [cnOf_none (of_decide_eq_false hq)] at h; cases h
theorem Cn.ren_holds {ρ : List (Nat × Nat)} {ν1 ν2 : Nat → Value} {l : List Nat} {c : Cn} (hin : c.inS l = true) (hr : c.owned = true ∨ ∃ s n el, c = .ro s n el) (hν : ∀ id, id ∈ l → ν2 (renId ρ id) = ν1 id) {w : World} {s : Nat → Prop} {u : Value} (h : c.holds ν1 w s u) : (c.ren ρ).holds ν2 w s u := by
  cases c with
  | blk t cs =>
    obtain ⟨b, e, hb⟩ := h
    refine ⟨b, e, ?_⟩
    rw [hb, LV.map_ren, LV.inS_map hin (fun id hm => hν id hm)]
  | vec t s n el => exact h
  | ro s n el => exact h
  | mp g => exact h
  | rblk cs =>
    rcases hr with hr | ⟨s, n, el, hr⟩
    · cases hr
    · cases hr
/-- A contract at a call. -/
theorem CallFr.at_ {P : Program} {f : FuncId} {xs : List SV} {ids : List Nat} {cs' : List (Option Cn)} {res : SV} {wr : List (Nat × Option Cn)} (h : CallFr P f xs ids cs' res wr) (ρ : List (Nat × Nat)) {cs : List (Option Cn)} (hB : atB ρ ids cs' res wr = true) (hd : DemF ρ (cnOf (ids.map (renId ρ)) cs) wr ids cs') :
    CallOK P f (xs.map (SV.ren ρ)) (ids.map (renId ρ)) cs (res.ren ρ) (wrRen ρ wr) := fun ν sup w m => by
  unfold atB at hB
  simp only [Bool.and_eq_true] at hB
  obtain ⟨hB0, hBw, hB1, hB2, hB3, hB4, hB5⟩ := hB
  have hto : ∀ {id c'}, cnOf ids cs' id = some c' → ∃ c, cnOf (ids.map (renId ρ)) cs (renId ρ id) = some c ∧ CnLe ρ c c' := fun e => hd.at_ e
  let ν1 : Nat → Value := fun id => ν (renId ρ id)
  let sup1 : Nat → Nat → Prop := fun id b => sup (renId ρ id) b ∨ ∃ c c', cnOf (ids.map (renId ρ)) cs (renId ρ id) = some c ∧ cnOf ids cs' id = some c' ∧ c'.owned = false ∧ c.owned = true ∧ blkOf (ν (renId ρ id)) = some b
  have m1 : MW (cnOf ids cs') ν1 sup1 w :=
    { one := fun id => m.one _
      cont := fun id c' e => by
        obtain ⟨c, h1, h2⟩ := hto e
        refine Cn.keep (h2.holds (m.cont _ c h1)) (fun _ _ => rfl) (fun _ _ => rfl) (fun b hb => ?_) (fun _ _ _ => rfl)
        rcases hb with hb | ⟨h4, h5, h6⟩
        · exact .inl hb
        · exact .inr ⟨c, c', h1, e, h4, h5, h6⟩
      supLt := fun id c' e b hb => by
        obtain ⟨c, h1, h2⟩ := hto e
        rcases hb with hb | ⟨c2, c3, h4, h5, h6, h7, h8⟩
        · exact m.supLt _ c h1 b hb
        · exact Cn.own_lt (m.cont _ c2 h4) h7 h8
      ownSup := fun id c' e ho id' d' e' b hb hs => by
        obtain ⟨c, h1, h2⟩ := hto e
        obtain ⟨d, k1, k2⟩ := hto e'
        rcases hs with hs | ⟨c2, c3, h4, h5, h6, h7, h8⟩
        · exact m.ownSup _ c h1 (h2.own ho) _ d k1 b hb hs
        · by_cases hne : renId ρ id = renId ρ id'
          · have := injB_spec hB2 (ownIds_mem e ho) (cnOf_in e') hne.symm
            subst this
            rw [e] at h5
            cases h5
            rw [ho] at h6
            cases h6
          · exact m.ownOwn _ c h1 (h2.own ho) _ c2 h4 h7 hne b hb h8
      ownOwn := fun id c' e ho id' d' e' ho' hne => by
        obtain ⟨c, h1, h2⟩ := hto e
        obtain ⟨d, k1, k2⟩ := hto e'
        exact m.ownOwn _ c h1 (h2.own ho) _ d k1 (k2.own ho') fun he => hne (injB_spec hB2 (ownIds_mem e ho) (cnOf_in e') he.symm).symm }
  have hargs : (xs.map (SV.ren ρ)).map (SV.val ν) = xs.map (SV.val ν1) := by
    rw [List.map_map]
    exact List.map_congr_left fun x _ => SV.ren_val x
  rw [hargs]
  refine (h ν1 sup1 w m1).mono fun e w' h => ?_
  obtain ⟨ν1', sup1', c, hfr, rfl⟩ := h
  -- the caller's valuation
  classical
  let back : Nat → Option Nat := fun i => if h : ∃ j, j ∈ wr.map (·.1) ∧ renId ρ j = i then some (Classical.choose h) else none
  have hback : ∀ j, j ∈ wr.map (·.1) → back (renId ρ j) = some j := fun j hj => by
    have hex : ∃ k, k ∈ wr.map (·.1) ∧ renId ρ k = renId ρ j := ⟨j, hj, rfl⟩
    simp only [back]
    rw [dif_pos hex]
    obtain ⟨h1, h2⟩ := Classical.choose_spec hex
    exact congrArg some (injB_spec hB1 hj (List.mem_append_right _ h1) h2)
  have hnone : ∀ i, i ∉ (wrRen ρ wr).map (·.1) → back i = none := fun i hi => by
    simp only [back]
    rw [dif_neg]
    rintro ⟨j, hj, rfl⟩
    rw [wrRen_ids] at hi
    exact hi (List.mem_map_of_mem hj)
  let ν' : Nat → Value := fun i => match back i with | some j => ν1' j | none => ν i
  let sup' : Nat → Nat → Prop := fun i => match back i with | some j => sup1' j | none => sup i
  have hνw : ∀ j, j ∈ wr.map (·.1) → ν' (renId ρ j) = ν1' j := fun j hj => by simp only [ν', hback j hj]
  have hsw : ∀ j, j ∈ wr.map (·.1) → sup' (renId ρ j) = sup1' j := fun j hj => by simp only [sup', hback j hj]
  have hνall : ∀ id, id ∈ ids ++ wr.map (·.1) → ν' (renId ρ id) = ν1' id := fun id hm => by
    by_cases hw : id ∈ wr.map (·.1)
    · exact hνw id hw
    · have hb : back (renId ρ id) = none := by
        simp only [back]
        rw [dif_neg]
        rintro ⟨j, hj, he⟩
        have := injB_spec hB1 hj hm he.symm
        exact hw (this ▸ hj)
      simp only [ν', hb]
      exact ((c.rest id hw).1).symm
  have hin : ∀ {id} {o : Option Cn}, look id wr = some o → id ∈ wr.map (·.1) := fun {id o} hl => by
    cases hm : decide (id ∈ wr.map (·.1)) with
    | true => exact of_decide_eq_true hm
    | false => rw [look_none.2 (of_decide_eq_false hm)] at hl; cases hl
  have hlook : ∀ {id} {d : Cn}, (id, some d) ∈ wr → look id wr = some (some d) := fun {id d} hm => by
    have hnd := nodupB'_nodup hBw
    clear hBw hB1 hB2 hB3 hB4 hB5 hback hnone hνw hsw hνall hin c hfr hd hto m1 h
    induction wr with
    | nil => cases hm
    | cons p r ih =>
      obtain ⟨i, o⟩ := p
      rw [List.map_cons, List.nodup_cons] at hnd
      unfold look
      cases hb : Nat.beq i id with
      | true =>
        have := Nat.eq_of_beq_eq_true hb
        subst this
        rcases List.mem_cons.1 hm with e | hm
        · cases e; rfl
        · exact absurd (List.mem_map_of_mem (f := (·.1)) hm) hnd.1
      | false =>
        rcases List.mem_cons.1 hm with e | hm
        · cases e; simp at hb
        · exact ih hm hnd.2
  have hwr2 : ∀ {i} {d2 : Cn}, look i (wrRen ρ wr) = some (some d2) → ∃ id d, look id wr = some (some d) ∧ i = renId ρ id ∧ d2 = d.ren ρ := fun {i d2} hl => by
    obtain ⟨id, d, h1, h2, h3⟩ := wrRen_mem (look_mem hl)
    exact ⟨id, d, hlook h1, h2, h3⟩
  refine ⟨ν', sup', ?_, ?_⟩
  · exact
      { one := fun i => by
          simp only [ν']
          cases back i with
          | some j => exact c.one j
          | none => exact m.one i
        rest := fun i hi => by simp only [ν', sup', hnone i hi]; exact ⟨trivial, trivial⟩
        same := fun i hi d e => by
          rw [wrRen_ids] at hi
          obtain ⟨j, hj, rfl⟩ := List.mem_map.1 hi
          rw [hνw j hj]
          obtain ⟨k, hk, hkj⟩ := List.mem_map.1 (cnOf_in e)
          have := injB_spec hB1 hj (List.mem_append_left _ hk) hkj
          subst this
          -- the name is one of the arguments'
          cases hq : cnOf ids cs' k with
          | some c' => exact c.same k hj c' hq
          | none =>
            obtain ⟨c', h9⟩ := hd.some_ hk
            rw [hq] at h9; cases h9
        fr := c.fr.mono fun k _ ⟨id, c0, hm, e, ho, hb⟩ => by
          obtain ⟨c1, h1, h2⟩ := hto e
          exact ⟨renId ρ id, c1, by rw [wrRen_ids]; exact List.mem_map_of_mem hm, h1, h2.own ho, hb⟩
        cont := fun i d2 hl => by
          obtain ⟨id, d, h1, rfl, rfl⟩ := hwr2 hl
          have hm := hin h1
          rw [hνw id hm, hsw id hm]
          have hh := c.cont id d h1
          have hI := List.all_eq_true.1 hB4 _ (look_mem h1)
          cases d with
          | blk t ls => exact Cn.ren_holds hI (.inl rfl) hνall hh
          | vec t s n el => exact Cn.ren_holds hI (.inl rfl) hνall hh
          | ro s n el => exact Cn.ren_holds hI (.inr ⟨_, _, _, rfl⟩) hνall hh
          | rblk ls => cases hI
          | mp g => exact Cn.ren_holds hI (.inl rfl) hνall hh
        sup := fun i d2 hl b hb => by
          obtain ⟨id, d, h1, rfl, rfl⟩ := hwr2 hl
          rw [hsw id (hin h1)] at hb
          refine ⟨(c.sup id d h1 b hb).1, .inl (hfr id d h1 b hb), fun i2 d3 hl2 ho2 => ?_⟩
          obtain ⟨id2, d4, h3, rfl, rfl⟩ := hwr2 hl2
          rw [hνw id2 (hin h3)]
          exact (c.sup id d h1 b hb).2.2 id2 d4 h3 (by rw [← Cn.ren_owned]; exact ho2)
        own := fun i d2 hl ho b hb => by
          obtain ⟨id, d, h1, rfl, rfl⟩ := hwr2 hl
          rw [hνw id (hin h1)] at hb
          rcases c.own id d h1 (by rw [← Cn.ren_owned]; exact ho) b hb with h2 | ⟨id0, c1, hm, e, ho1, hb1⟩
          · exact .inl h2
          · obtain ⟨c2, h4, h5⟩ := hto e
            exact .inr ⟨renId ρ id0, c2, by rw [wrRen_ids]; exact List.mem_map_of_mem hm, h4, h5.own ho1, hb1⟩
        apart := fun i d2 hl ho i' d2' hl' ho' hne b hb => by
          obtain ⟨id, d, h1, rfl, rfl⟩ := hwr2 hl
          obtain ⟨id', d', h1', rfl, rfl⟩ := hwr2 hl'
          rw [hνw id (hin h1)] at hb
          rw [hνw id' (hin h1')]
          exact c.apart id d h1 (by rw [← Cn.ren_owned]; exact ho) id' d' h1' (by rw [← Cn.ren_owned]; exact ho') (fun e => hne (e ▸ rfl)) b hb }
  · congr 1
    rw [SV.ren_val]
    exact (SV.inS_val hB3 hνall).symm
end Go.Proofs.Ytepibjfmeibgcaa
