/- An abstract walk: parts of lists, addresses, numbers. No program is in sight here. -/
import Derived.Test.YtepibjfmeibgcaaA10
import Derived.Tactics
namespace Go.Proofs.Ytepibjfmeibgcaa
open Go.RowKit
set_option linter.unusedVariables false
section
variable {P : Program} {o : Oper} {a : Act} {ν : Nat → Value} {sup : Nat → Nat → Prop} {w w' : World} {cn : Nat → Option Cn}
theorem exec_v {s : Sem Value} {v : Value} {w w' : World} (h : s.run P w = .ok v w') : ((do pure (.value (← s)) : Sem Next)).run P w = .ok (.value v) w' := by simp [h]
theorem does_indexAddr {t : TypeId} {x y : Operand} (ho : o.op = .indexAddr t x y) {r : Orc} {xs : List SV} {cs : List (Option Cn)} {ε : Eff} (h : effIndexAddr P t r xs cs = some ε) (hx : [x, y].map a.eval = xs.map (SV.val ν))
    (m : MW (cnOf (need0 o.op r xs) cs) ν sup w) (hvc : AllP ε.vc) : Does P o a ν sup w (cnOf (need0 o.op r xs) cs) ε := by
  unfold effIndexAddr at h
  rw [ho] at m ⊢
  split at h
  · rename_i e id ik z c hu
    have hcn : cnOf (need0 (.indexAddr t x y) r [.p (.one (.ls id)), .p (.one (.v (.int ik z)))]) [some c] id = some c := cnOf_one
    have hc := m.cont id _ hcn
    obtain ⟨hx1, hx2⟩ := map2 hx
    split at h
    · rename_i size n el mm k hl hs
      split at h
      · rename_i hb
        cases h
        obtain ⟨v1, v2⟩ : z = (k : Int) ∧ k < n := hvc
        subst v1
        obtain rfl := Nat.eq_of_beq_eq_true hb
        obtain ⟨A, cap, e1, _, hcell⟩ := Cn.lst_cells hc hl
        obtain ⟨b, off, rfl, _⟩ := hcell (by omega)
        refine Does.plain m.one ?_
        unfold OpVal execOp
        rw [ho]
        refine exec_v ?_
        have e3 : a.eval x = .slice (some ⟨b, off, none⟩) n cap := hx1.trans e1
        have e4 : a.eval y = .int ik (k : Int) := hx2
        rw [e3, e4]
        have hk : (0 : Int) ≤ (k : Int) ∧ (k : Int) < (n : Int) := by omega
        simp only [Instr.indexAt, asIntOf, Sem.run_bind, Sem.run_pure, Result.andThen_ok, run_underlying hu, if_pos hk, sizeT_run hs, SV.val, PV.val, LV.val, e1, addr_add, Int.toNat_natCast, Nat.add_zero]
      · cases h
    · cases h
  · rename_i len e id off ik z c hu
    have hcn : cnOf (need0 (.indexAddr t x y) r [.p (.one (.ref id off)), .p (.one (.v (.int ik z)))]) [some c] id = some c := cnOf_one
    have hc := m.cont id _ hcn
    obtain ⟨hx1, hx2⟩ := map2 hx
    split at h
    · rename_i mm k hs
      split at h
      · rename_i hb
        split at h
        · rename_i ls hrow
          cases h
          have v1 : z = (k : Int) := hvc
          subst v1
          have hk2 := Nat.le_of_ble_eq_true hb
          obtain ⟨b, o2, e1, _⟩ := Cn.row_cells hc hrow
          refine Does.plain m.one ?_
          unfold OpVal execOp
          rw [ho]
          refine exec_v ?_
          have e3 : a.eval x = .pointer (some ⟨b, o2 + off, none⟩) := by rw [hx1]; simp only [SV.val, PV.val, LV.val, e1]
          have e4 : a.eval y = .int ik (k : Int) := hx2
          rw [e3, e4]
          have hk : (0 : Int) ≤ (k : Int) ∧ (k : Int) < (len : Int) := by omega
          simp only [Instr.indexAt, asIntOf, Instr.sureAddr, Sem.run_bind, Sem.run_pure, Result.andThen_ok, run_underlying hu, if_pos hk, sizeT_run hs, SV.val, PV.val, LV.val, e1, addr_add, Int.toNat_natCast, Nat.add_assoc]
        · cases h
      · cases h
    · cases h
  · cases h
theorem does_fieldAddr {t : TypeId} {x : Operand} {f : Nat} (ho : o.op = .fieldAddr t x f) {r : Orc} {xs : List SV} {cs : List (Option Cn)} {ε : Eff} (h : effFieldAddr P t f xs cs = some ε) (hx : [x].map a.eval = xs.map (SV.val ν))
    (m : MW (cnOf (need0 o.op r xs) cs) ν sup w) (hvc : AllP ε.vc) : Does P o a ν sup w (cnOf (need0 o.op r xs) cs) ε := by
  unfold effFieldAddr at h
  rw [ho] at m ⊢
  split at h
  · rename_i fs hu
    split at h
    · rename_i fl hfl
      split at h
      · rename_i mm hs
        have hplace : ∀ ad : Addr, (fieldPlace ad fl).run P w = .ok (ad.add fl.offset) w := fun ad => by
          simp only [fieldPlace, Sem.run_bind, sizeT_run hs, Result.andThen_ok]
          rw [if_neg (by omega)]
          rfl
        have hat : ∀ ad : Addr, (Instr.fieldAt t (.pointer (some ad)) f).run P w = .ok (.pointer (some (ad.add fl.offset))) w := fun ad => by
          simp only [Instr.fieldAt, Instr.sureAddr, Sem.run_bind, run_underlying hu, Result.andThen_ok, hfl, Sem.run_pure, hplace]
        split at h
        · rename_i id off c
          have hcn : cnOf (need0 (.fieldAddr t x f) r [.p (.one (.ref id off))]) [some c] id = some c := cnOf_one
          have hc := m.cont id _ hcn
          split at h
          · rename_i ls hrow
            cases h
            obtain ⟨b, o2, e1, _⟩ := Cn.row_cells hc hrow
            refine Does.plain m.one ?_
            unfold OpVal execOp
            rw [ho]
            refine exec_v ?_
            have e3 : a.eval x = .pointer (some ⟨b, o2 + off, none⟩) := by rw [map1 hx]; simp only [SV.val, PV.val, LV.val, e1]
            rw [e3, hat]
            simp only [SV.val, PV.val, LV.val, e1, addr_add, Nat.add_assoc]
          · cases h
        · rename_i id k size j c
          have hcn : cnOf (need0 (.fieldAddr t x f) r [.p (.one (.el id k size j))]) [some c] id = some c := cnOf_one
          have hc := m.cont id _ hcn
          split at h
          · rename_i size2 n el hl
            cases h
            have v1 : k < n := hvc
            obtain ⟨A, cap, e1, _, hcell⟩ := Cn.lst_cells hc hl
            obtain ⟨b, off, rfl, _⟩ := hcell (by omega)
            refine Does.plain m.one ?_
            unfold OpVal execOp
            rw [ho]
            refine exec_v ?_
            have e3 : a.eval x = .pointer (some ⟨b, off + k * size + j, none⟩) := by rw [map1 hx]; simp only [SV.val, PV.val, LV.val, e1]
            rw [e3, hat]
            simp only [SV.val, PV.val, LV.val, e1, addr_add, Nat.add_assoc]
          · cases h
        · cases h
      · cases h
    · cases h
  · cases h
theorem partL_run {t : TypeId} {ls : List LV} {off : Nat} {y : SV} (h : partL P t ls off = some y) (w : World) : (part t (ls.map (LV.val ν)).toArray off).run P w = .ok (y.val ν) w := by
  unfold partL at h
  unfold part
  split at h
  · rename_i mm h1 h2
    split at h
    · rename_i hle
      cases h
      have hle := Nat.le_of_ble_eq_true hle
      simp only [Sem.run_bind, isAgg_run h1, Result.andThen_ok, if_true, sizeT_run h2, Sem.run_pure, SV.val, PV.val]
      congr 2
      apply Array.ext'
      simp [List.extract_eq_take_drop, Nat.add_sub_cancel_left]
    · cases h
  · rename_i h1
    split at h
    · rename_i l hl
      cases h
      simp only [Sem.run_bind, isAgg_run h1, Result.andThen_ok, Bool.false_eq_true, if_false]
      have : (ls.map (LV.val ν)).toArray[off]? = some (l.val ν) := by simp [hl]
      rw [this]
      rfl
    · cases h
  · cases h
theorem does_field {t : TypeId} {x : Operand} {f : Nat} (ho : o.op = .field t x f) {xs : List SV} {ε : Eff} (h : effField P t f xs = some ε) (hx : [x].map a.eval = xs.map (SV.val ν)) (h1 : ∀ id, (ν id).oneCell' = true) : Does P o a ν sup w cn ε := by
  unfold effField at h
  split at h
  · rename_i fs ls hu
    split at h
    · rename_i fl hfl
      split at h
      · rename_i y hy
        cases h
        refine Does.plain h1 ?_
        unfold OpVal execOp
        rw [ho]
        refine exec_v ?_
        have e3 : a.eval x = .agg (ls.map (LV.val ν)).toArray := map1 hx
        rw [e3]
        simp only [Instr.field, Sem.run_bind, run_underlying hu, Result.andThen_ok, hfl, asAgg, Sem.run_pure, partL_run hy]
      · cases h
    · cases h
  · cases h
theorem effNum_sound {k : IntKind} {z : Int} {r : Orc} {ε : Eff} (h : effNum k z r = some ε) (hvc : AllP ε.vc) : ε.wr = [] ∧ ε.val.val ν = .int k z ∧ IntOk k z := by
  unfold effNum at h
  split at h
  · cases h
    obtain ⟨rfl, h2⟩ : z = _ ∧ IntOk k _ := hvc
    exact ⟨rfl, rfl, h2⟩
  · cases h
    exact ⟨rfl, rfl, hvc⟩
theorem effBool_sound {p : Bool} {yes no : Prop} {r : Orc} {ε : Eff} (h : effBool p yes no r = some ε) (hvc : AllP ε.vc) (hy : yes → p = true) (hn : no → p = false) : ε.wr = [] ∧ ε.val.val ν = .bool p := by
  unfold effBool at h
  split at h
  · cases h; exact ⟨rfl, by rw [hy hvc]; rfl⟩
  · cases h; exact ⟨rfl, by rw [hn hvc]; rfl⟩
  · cases h; exact ⟨rfl, rfl⟩
theorem Does.plain' (h1 : ∀ id, (ν id).oneCell' = true) {ε : Eff} (hw : ε.wr = []) (h : OpVal P o a ν w ε.val) : Does P o a ν sup w cn ε := by
  obtain ⟨x, wr, vc⟩ := ε
  simp only at hw
  subst hw
  exact Does.plain h1 h
theorem plainL_val : ∀ {ls : List LV} {vs : List Value}, plainL ls = some vs → ls.map (LV.val ν) = vs := by
  intro ls
  induction ls with
  | nil => intro vs h; cases h; rfl
  | cons l ls ih =>
    intro vs h
    cases l with
    | v x =>
      unfold plainL at h
      split at h
      · rename_i xs h2; cases h; rw [List.map_cons, ih h2]; rfl
      · cases h
    | ref id off => cases h
    | el id k size j => cases h
    | ls id => cases h
    | fnc f caps => cases h
theorem plainS_val {x : SV} {v : Value} (h : plainS x = some v) : x.val ν = v := by
  unfold plainS at h
  split at h
  · cases h; rfl
  · split at h
    · rename_i xs h2
      cases h
      simp only [SV.val, PV.val, plainL_val h2]
    · cases h
  · cases h
theorem bin_int {op : BinOp} {t : TypeId} {k k' : IntKind} {x y : Int} (hk : k = k') (hs : op ≠ .shl ∧ op ≠ .shr) : binOp op t (.int k x) (.int k' y) = (match op with
    | .add | .sub | .mul => Op.intArith op k x y
    | .quo | .rem => Op.intDiv op k x y
    | .and | .or | .xor | .andNot => Op.intBits op k x y
    | _ => Op.intCmp op x y) := by
  subst hk
  obtain ⟨h1, h2⟩ := hs
  cases op <;> first | exact absurd rfl h1 | exact absurd rfl h2 | (unfold binOp; simp)
theorem eqGuard_int {op : BinOp} {t : TypeId} {xo yo : Operand} {k k' : IntKind} {x y : Int} {w : World} : (eqGuard op t xo yo (.int k x) (.int k' y)).run P w = .ok () w := by
  unfold eqGuard
  cases op <;> simp
theorem exec_bin {op : BinOp} {t t' : TypeId} {x y : Operand} (ho : o.op = .binOp op t x y t') {v : Value} (h : (do eqGuard op t x y (a.eval x) (a.eval y); binOp op t (a.eval x) (a.eval y) : Sem Value).run P w = .ok v w) : (execOp a.eval o).run P w = .ok (.value v) w := by
  unfold execOp
  rw [ho]
  exact exec_v h
end
end Go.Proofs.Ytepibjfmeibgcaa
/- An abstract walk: numbers, tests, parts of lists, lengths. No program is in sight here. -/
namespace Go.Proofs.Ytepibjfmeibgcaa
open Go.RowKit
set_option linter.unusedVariables false
section
variable {P : Program} {o : Oper} {a : Act} {ν : Nat → Value} {sup : Nat → Nat → Prop} {w w' : World} {cn : Nat → Option Cn}
theorem num_does {op : BinOp} {t t' : TypeId} {x y : Operand} (ho : o.op = .binOp op t x y t') {k : IntKind} {u v z : Int} (hx : a.eval x = .int k u) (hy : a.eval y = .int k v) {r : Orc} {ε : Eff} (h : effNum k z r = some ε) (hvc : AllP ε.vc) (h1 : ∀ id, (ν id).oneCell' = true)
    (hs : op ≠ .shl ∧ op ≠ .shr) (hrun : IntOk k z → (binOp op t (.int k u) (.int k v)).run P w = .ok (.int k z) w) : Does P o a ν sup w cn ε := by
  obtain ⟨h2, h3, h4⟩ := effNum_sound (ν := ν) h hvc
  refine Does.plain' h1 h2 ?_
  unfold OpVal
  rw [h3]
  refine exec_bin ho ?_
  rw [hx, hy]
  simp only [Sem.run_bind, eqGuard_int, Result.andThen_ok, hrun h4]
theorem cmp_does {op : BinOp} {t t' : TypeId} {x y : Operand} (ho : o.op = .binOp op t x y t') {k : IntKind} {u v : Int} (hx : a.eval x = .int k u) (hy : a.eval y = .int k v) {p : Bool} {yes no : Prop} {r : Orc} {ε : Eff} (h : effBool p yes no r = some ε) (hvc : AllP ε.vc) (h1 : ∀ id, (ν id).oneCell' = true)
    (hyes : yes → p = true) (hno : no → p = false) (hrun : (binOp op t (.int k u) (.int k v)).run P w = .ok (.bool p) w) : Does P o a ν sup w cn ε := by
  obtain ⟨h2, h3⟩ := effBool_sound (ν := ν) h hvc hyes hno
  refine Does.plain' h1 h2 ?_
  unfold OpVal
  rw [h3]
  refine exec_bin ho ?_
  rw [hx, hy]
  simp only [Sem.run_bind, eqGuard_int, Result.andThen_ok, hrun]
theorem does_bin {op : BinOp} {t t' : TypeId} {x y : Operand} (ho : o.op = .binOp op t x y t') {r : Orc} {xs : List SV} {ε : Eff} (h : effBin P op t x y r xs = some ε) (hx : [x, y].map a.eval = xs.map (SV.val ν)) (h1 : ∀ id, (ν id).oneCell' = true) (hvc : AllP ε.vc) : Does P o a ν sup w cn ε := by
  unfold effBin at h
  have hdec : ∀ {k k' : IntKind}, decide (k = k') = true → k' = k := fun h => (of_decide_eq_true h).symm
  split at h
  case h_1 k u k' v =>
    split at h
    · rename_i hk
      obtain rfl := hdec hk
      obtain ⟨hx1, hx2⟩ := map2 hx
      exact num_does ho hx1 hx2 h hvc h1 ⟨by decide, by decide⟩ fun ok => by rw [bin_int rfl ⟨by decide, by decide⟩]; simp [Op.intArith, ok.wrap]
    · cases h
  case h_2 k u k' v =>
    split at h
    · rename_i hk
      obtain rfl := hdec hk
      obtain ⟨hx1, hx2⟩ := map2 hx
      exact num_does ho hx1 hx2 h hvc h1 ⟨by decide, by decide⟩ fun ok => by rw [bin_int rfl ⟨by decide, by decide⟩]; simp [Op.intArith, ok.wrap]
    · cases h
  case h_3 k u k' v =>
    split at h
    · rename_i hk
      obtain rfl := hdec hk
      obtain ⟨hx1, hx2⟩ := map2 hx
      exact num_does ho hx1 hx2 h hvc h1 ⟨by decide, by decide⟩ fun ok => by rw [bin_int rfl ⟨by decide, by decide⟩]; simp [Op.intArith, ok.wrap]
    · cases h
  case h_4 k u k' v =>
    split at h
    · rename_i hk
      obtain rfl := hdec hk
      obtain ⟨hx1, hx2⟩ := map2 hx
      split at h
      · rename_i e he
        cases h
        have hv2 : 0 ≤ u ∧ 0 < v ∧ AllP e.vc := by
          cases hq : e.vc with
          | nil => rw [hq] at hvc; exact ⟨hvc.1, hvc.2, trivial⟩
          | cons p ps => rw [hq] at hvc; exact hvc
        refine num_does (ε := ⟨e.val, e.wr, e.vc⟩) ho hx1 hx2 he hv2.2.2 h1 ⟨by decide, by decide⟩ fun ok => ?_
        rw [bin_int rfl ⟨by decide, by decide⟩]
        have e1 : u.tdiv v = u / v := Int.tdiv_eq_ediv_of_nonneg hv2.1
        simp [Op.intDiv, show ¬ v = 0 by omega, e1, ok.wrap]
      · cases h
    · cases h
  case h_5 k u k' v =>
    split at h
    · rename_i hk
      obtain rfl := hdec hk
      obtain ⟨hx1, hx2⟩ := map2 hx
      split at h
      · rename_i e he
        cases h
        have hv2 : 0 ≤ u ∧ 0 < v ∧ AllP e.vc := by
          cases hq : e.vc with
          | nil => rw [hq] at hvc; exact ⟨hvc.1, hvc.2, trivial⟩
          | cons p ps => rw [hq] at hvc; exact hvc
        refine num_does (ε := ⟨e.val, e.wr, e.vc⟩) ho hx1 hx2 he hv2.2.2 h1 ⟨by decide, by decide⟩ fun ok => ?_
        rw [bin_int rfl ⟨by decide, by decide⟩]
        have e1 : u.tmod v = u % v := Int.tmod_eq_emod_of_nonneg hv2.1
        simp [Op.intDiv, show ¬ v = 0 by omega, e1]
      · cases h
    · cases h
  case h_6 k u k' v =>
    split at h
    · rename_i hk
      obtain rfl := hdec hk
      obtain ⟨hx1, hx2⟩ := map2 hx
      exact cmp_does ho hx1 hx2 h hvc h1 (fun h => decide_eq_true h) (fun h => decide_eq_false (by omega)) (by rw [bin_int rfl ⟨by decide, by decide⟩]; simp [Op.intCmp])
    · cases h
  case h_7 k u k' v =>
    split at h
    · rename_i hk
      obtain rfl := hdec hk
      obtain ⟨hx1, hx2⟩ := map2 hx
      exact cmp_does ho hx1 hx2 h hvc h1 (fun h => decide_eq_true h) (fun h => decide_eq_false (by omega)) (by rw [bin_int rfl ⟨by decide, by decide⟩]; simp [Op.intCmp])
    · cases h
  case h_8 k u k' v =>
    split at h
    · rename_i hk
      obtain rfl := hdec hk
      obtain ⟨hx1, hx2⟩ := map2 hx
      exact cmp_does ho hx1 hx2 h hvc h1 (fun h => decide_eq_true h) (fun h => decide_eq_false (by omega)) (by rw [bin_int rfl ⟨by decide, by decide⟩]; simp [Op.intCmp])
    · cases h
  case h_9 k u k' v =>
    split at h
    · rename_i hk
      obtain rfl := hdec hk
      obtain ⟨hx1, hx2⟩ := map2 hx
      exact cmp_does ho hx1 hx2 h hvc h1 (fun h => decide_eq_true h) (fun h => decide_eq_false (by omega)) (by rw [bin_int rfl ⟨by decide, by decide⟩]; simp [Op.intCmp])
    · cases h
  case h_10 k u k' v =>
    split at h
    · rename_i hk
      obtain rfl := hdec hk
      obtain ⟨hx1, hx2⟩ := map2 hx
      exact cmp_does ho hx1 hx2 h hvc h1 (fun h => decide_eq_true h) (fun h => decide_eq_false h) (by rw [bin_int rfl ⟨by decide, by decide⟩]; simp [Op.intCmp]; rfl)
    · cases h
  case h_11 k u k' v =>
    split at h
    · rename_i hk
      obtain rfl := hdec hk
      obtain ⟨hx1, hx2⟩ := map2 hx
      exact cmp_does ho hx1 hx2 h hvc h1 (fun h => decide_eq_true h) (fun h => decide_eq_false (fun hn => hn h)) (by rw [bin_int rfl ⟨by decide, by decide⟩]; simp [Op.intCmp, bne]; rfl)
    · cases h
  case h_12 =>
    split at h
    · rename_i u v b hu hv
      cases h
      obtain ⟨hx1, hx2⟩ := map2 hx
      refine Does.plain h1 ?_
      unfold OpVal
      refine exec_bin ho ?_
      rw [hx1, hx2, plainS_val hu, plainS_val hv]
      have : BinRun P op t x y u v (.bool b) := hvc
      exact this w
    · cases h
  case h_13 => cases h
theorem does_un {op : UnOp} {t : TypeId} {x : Operand} (ho : o.op = .unOp op t x) {r : Orc} {xs : List SV} {ε : Eff} (h : effUn op r xs = some ε) (hx : [x].map a.eval = xs.map (SV.val ν)) (h1 : ∀ id, (ν id).oneCell' = true) (hvc : AllP ε.vc) : Does P o a ν sup w cn ε := by
  unfold effUn at h
  split at h
  · rename_i k u
    obtain ⟨h2, h3, h4⟩ := effNum_sound (ν := ν) h hvc
    refine Does.plain' h1 h2 ?_
    unfold OpVal execOp
    rw [h3, ho]
    refine exec_v ?_
    have e : a.eval x = .int k u := map1 hx
    rw [e]
    simp [Op.unary, Op.intArith, h4.wrap]
    rw [show -u = 0 - u by omega, h4.wrap]
  · rename_i b
    cases h
    refine Does.plain h1 ?_
    unfold OpVal execOp
    rw [ho]
    refine exec_v ?_
    have e : a.eval x = .bool b := map1 hx
    rw [e]
    rfl
  · cases h
theorem does_convert {s t : TypeId} {x : Operand} (ho : o.op = .convert s t x) {xs : List SV} {ε : Eff} (h : effConvert P s t xs = some ε) (hx : [x].map a.eval = xs.map (SV.val ν)) (h1 : ∀ id, (ν id).oneCell' = true) (hvc : AllP ε.vc) : Does P o a ν sup w cn ε := by
  unfold effConvert at h
  split at h
  · rename_i ks k k2 u hu1 hu2
    cases h
    have ok : IntOk k u := hvc
    refine Does.plain h1 ?_
    unfold OpVal execOp
    rw [ho]
    refine exec_v ?_
    have e : a.eval x = .int k2 u := map1 hx
    rw [e]
    simp only [convert, Sem.run_bind, run_underlying hu1, run_underlying hu2, Result.andThen_ok, Conv.intToInt, Sem.run_pure, ok.wrap]
    rfl
  · cases h
theorem does_pick {c x y : Operand} (ho : o.op = .pick c x y) {xs : List SV} {ε : Eff} (h : effPick xs = some ε) (hx : [c, x, y].map a.eval = xs.map (SV.val ν)) (h1 : ∀ id, (ν id).oneCell' = true) : Does P o a ν sup w cn ε := by
  unfold effPick at h
  split at h
  · cases h
    simp only [List.map_cons, List.map_nil, List.cons.injEq, and_true] at hx
    refine Does.plain h1 ?_
    unfold OpVal execOp
    rw [ho]
    have e : a.eval c = .bool true := hx.1
    simp [e, asBool, hx.2.1]
  · cases h
    simp only [List.map_cons, List.map_nil, List.cons.injEq, and_true] at hx
    refine Does.plain h1 ?_
    unfold OpVal execOp
    rw [ho]
    have e : a.eval c = .bool false := hx.1
    simp [e, asBool, hx.2.2]
  · cases h
theorem does_extract {x : Operand} {i : Nat} (ho : o.op = .extract x i) {xs : List SV} {ε : Eff} (h : effExtract i xs = some ε) (hx : [x].map a.eval = xs.map (SV.val ν)) (h1 : ∀ id, (ν id).oneCell' = true) : Does P o a ν sup w cn ε := by
  unfold effExtract at h
  split at h
  · rename_i ys
    split at h
    · rename_i y hy
      cases h
      refine Does.plain h1 ?_
      unfold OpVal execOp
      rw [ho]
      refine exec_v ?_
      have e : a.eval x = .tuple (ys.map (PV.val ν)).toArray := map1 hx
      rw [e]
      simp [Instr.extract, hy, SV.val]
    · cases h
  · cases h
theorem does_move {x : Operand} (ho : o.op = .move x ∨ o.op = .assign x) {y : SV} (hx : a.eval x = y.val ν) (h1 : ∀ id, (ν id).oneCell' = true) : Does P o a ν sup w cn ⟨y, [], []⟩ := by
  refine Does.plain h1 ?_
  unfold OpVal execOp
  rcases ho with ho | ho <;> rw [ho, ← hx] <;> rfl
theorem does_nil {x : Operand} (ho : o.op = .nilCheck x) {r : Orc} {xs : List SV} {cs : List (Option Cn)} {ε : Eff} (h : effNil xs cs = some ε) (hx : [x].map a.eval = xs.map (SV.val ν)) (m : MW (cnOf (need0 o.op r xs) cs) ν sup w) : Does P o a ν sup w (cnOf (need0 o.op r xs) cs) ε := by
  unfold effNil at h
  rw [ho] at m ⊢
  split at h
  · rename_i id off c
    have hcn : cnOf (need0 (.nilCheck x) r [.p (.one (.ref id off))]) [some c] id = some c := cnOf_one
    have hc := m.cont id _ hcn
    split at h
    · rename_i ls hrow
      cases h
      obtain ⟨b, o2, e1, _⟩ := Cn.row_cells hc hrow
      refine Does.plain m.one ?_
      unfold OpVal execOp
      have e3 : a.eval x = .pointer (some ⟨b, o2 + off, none⟩) := by rw [map1 hx]; simp only [SV.val, PV.val, LV.val, e1]
      rw [ho]
      simp only [e3, SV.val, PV.val, LV.val, e1, Sem.run_pure]
    · cases h
  · rename_i f caps
    split at h
    · cases h
      refine Does.plain m.one ?_
      unfold OpVal execOp
      have e3 := map1 hx
      rw [ho]
      simp only [e3, SV.val, PV.val, LV.val, Sem.run_pure]
    · cases h
  · cases h
theorem refIds_val : ∀ {xs : List SV} {ids : List Nat}, refIds xs = some ids → (∀ id ∈ ids, ∃ b, ν id = .pointer (some ⟨b, 0, none⟩)) → xs.map (SV.val ν) = ids.map ν := by
  intro xs
  induction xs with
  | nil => intro ids h _; cases h; rfl
  | cons x xs ih =>
    intro ids h hp
    unfold refIds at h
    split at h
    · rename_i heq; cases heq
    · rename_i id r heq
      cases heq
      split at h
      · rename_i ids' h2
        cases h
        obtain ⟨b, hb⟩ := hp id (by simp)
        rw [List.map_cons, List.map_cons, ih h2 (fun i hi => hp i (by simp [hi]))]
        simp only [SV.val, PV.val, LV.val, hb, Nat.zero_add]
      · cases h
    · cases h
theorem does_len {c : Call} {x : Operand} (ho : o.op = .call c) (hc : c.callee = .builtin .len) (hargs : c.args = #[x]) {t e : TypeId} (hat : c.argTypes = #[t]) (hu : P.underlying t = some (.slice e)) {r : Orc} {xs : List SV} {cs : List (Option Cn)} {ε : Eff} (h : effLen xs cs = some ε) (hx : [x].map a.eval = xs.map (SV.val ν)) (m : MW (cnOf (need0 o.op r xs) cs) ν sup w) : Does P o a ν sup w (cnOf (need0 o.op r xs) cs) ε := by
  unfold effLen at h
  have hlen : ∀ A n cap, a.eval x = .slice A n cap → (execOp a.eval o).run P w = .ok (.value (.int .i64 (n : Int))) w := fun A n cap e => by
    rw [exec_builtin ho hc, BigFrame.builtin_len, hargs, hat]
    simp [Builtin.len_, run_underlying hu, e, goInt]
  split at h
  · rename_i id c2
    have hneed : need0 o.op r [.p (.one (.ls id))] = [id] := by rw [ho]; simp only [need0, hc]
    rw [hneed] at m ⊢
    have hc2 := m.cont id _ cnOf_one
    split at h
    · rename_i size n el hl
      cases h
      obtain ⟨A, cap, e1⟩ := Cn.lst_own hc2 hl
      exact Does.plain m.one (hlen A n cap ((map1 hx).trans e1))
    · cases h
  · rename_i A n cap
    cases h
    exact Does.plain m.one (hlen A n cap (map1 hx))
  · cases h
end
end Go.Proofs.Ytepibjfmeibgcaa
/- An abstract walk: parts of lists, greatest and least, functions, calls; every operation. No program is in sight here. -/
namespace Go.Proofs.Ytepibjfmeibgcaa
open Go.RowKit
set_option linter.unusedVariables false
section
variable {P : Program} {o : Oper} {a : Act} {ν : Nat → Value} {sup : Nat → Nat → Prop} {w w' : World} {cn : Nat → Option Cn}
theorem boundP_some {x : SV} {b d : Nat} {p : Prop} (h : boundP (some x) b d = some p) (hp : p) : ∃ k, x.val ν = .int k (b : Int) := by
  unfold boundP at h
  split at h
  · rename_i k z e
    cases e
    cases h
    subst hp
    exact ⟨k, rfl⟩
  · cases h
  · rename_i e; cases e
theorem boundP_none {b d : Nat} {p : Prop} (h : boundP none b d = some p) (hp : p) : b = d := by
  unfold boundP at h
  cases h
  exact hp
theorem sliceBound_run {v : Value} {k : IntKind} {i y : Nat} {code : BoundsCode} (hv : v = .int k (i : Int)) (h : i ≤ y) (w : World) : (Instr.sliceBound v y code).run P w = .ok i w := by
  subst hv
  simp only [Instr.sliceBound, asIntOf, Sem.run_bind, Sem.run_pure, Result.andThen_ok]
  rw [if_pos (by omega)]
  rfl
theorem sliceAt_run {t e : TypeId} {size : Nat} (hu : P.underlying t = some (.slice e)) (hs : sizeT P e = some size) {A : Option Addr} {n cap lo hi : Nat} {l h : Option Value} (hl : (l = none ∧ lo = 0) ∨ ∃ v k, l = some v ∧ v = .int k (lo : Int)) (hh : (h = none ∧ hi = n) ∨ ∃ v k, h = some v ∧ v = .int k (hi : Int)) (h1 : lo ≤ hi) (h2 : hi ≤ n) (h3 : n ≤ cap) (w : World) :
    (Instr.sliceAt t (.slice A n cap) l h none).run P w = .ok (.slice (if cap = lo then A else A.map (·.add (lo * size))) (hi - lo) (cap - lo)) w := by
  have hb : (Instr.sliceBounds true n cap l h none).run P w = .ok (lo, hi, cap) w := by
    unfold Instr.sliceBounds
    rcases hh with ⟨rfl, rfl⟩ | ⟨v, k, rfl, hv⟩
    · rcases hl with ⟨rfl, rfl⟩ | ⟨v, k, rfl, hv⟩
      · simp
      · simp [sliceBound_run hv h1]
    · have hv' := fun code w => sliceBound_run (P := P) (code := code) hv (show hi ≤ cap by omega) w
      rcases hl with ⟨rfl, rfl⟩ | ⟨v2, k2, rfl, hv2⟩
      · simp [hv']
      · simp [hv', sliceBound_run hv2 h1]
  simp only [Instr.sliceAt, Sem.run_bind, run_underlying hu, Result.andThen_ok, Instr.slice, hb, sizeT_run hs, Sem.run_pure]
theorem rep_sub {s : Nat → Prop} {A : Option Addr} {size n cap lo hi : Nat} {el : Nat → Nat → DV} (h : (DV.ls size n el).rep w s (.slice A n cap)) (h1 : lo ≤ hi) (h2 : hi ≤ n) (h3 : n ≤ cap) :
    (DV.ls size (hi - lo) (fun i j => el (lo + i) j)).rep w s (.slice (if cap = lo then A else A.map (·.add (lo * size))) (hi - lo) (cap - lo)) := by
  obtain ⟨A', c', e, h4, h5⟩ := h
  cases e
  refine ⟨_, _, rfl, by omega, fun hn => ?_⟩
  obtain ⟨b, off, rfl, hb, hc⟩ := h5 (by omega)
  rw [if_neg (by omega)]
  refine ⟨b, off + lo * size, by simp only [Option.map_some, addr_add], hb, fun i hi' j hj => ?_⟩
  obtain ⟨u, hu, hr⟩ := hc (lo + i) (by omega) j hj
  refine ⟨u, ?_, hr⟩
  rw [← hu, Nat.add_mul]
  congr 2; omega
theorem does_slice {t : TypeId} {x : Operand} {lo hi mx : Option Operand} (ho : o.op = .slice t x lo hi mx) {r : Orc} {xs : List SV} {cs : List (Option Cn)} {ε : Eff} (h : effSlice P t lo hi mx r xs cs = some ε) (hx : (x :: (lo.toList ++ hi.toList ++ mx.toList)).map a.eval = xs.map (SV.val ν))
    (m : MW (cnOf (need0 o.op r xs) cs) ν sup w) (hn : ∀ i, i ∈ r.news → i ∉ need0 o.op r xs) (hvc : AllP ε.vc) : Does P o a ν sup w (cnOf (need0 o.op r xs) cs) ε := by
  unfold effSlice at h
  rw [ho] at m hn ⊢
  split at h
  · rename_i e id ys c i lo' hi' hu
    have hneed : need0 (.slice t x lo hi none) (.cut i lo' hi') (.p (.one (.ls id)) :: ys) = [id] := rfl
    rw [hneed] at m hn ⊢
    have hc := m.cont id _ cnOf_one
    split at h
    · rename_i size n el mm hl hs
      split at h
      · rename_i hb
        obtain rfl := Nat.eq_of_beq_eq_true hb
        split at h
        · rename_i p q hp hq
          cases h
          obtain ⟨v1, v2, v3, v4⟩ : p ∧ q ∧ lo' ≤ hi' ∧ hi' ≤ n := hvc
          obtain ⟨A, cap, e1, hcap, hcell⟩ := Cn.lst_cells hc hl
          rw [List.map_cons, List.map_cons, List.cons.injEq] at hx
          obtain ⟨hx1, hx2⟩ := hx
          have hlo : ((lo.map a.eval) = none ∧ lo' = 0) ∨ ∃ v k, (lo.map a.eval) = some v ∧ v = .int k (lo' : Int) := by
            cases lo with
            | none => exact .inl ⟨rfl, boundP_none hp v1⟩
            | some l =>
              cases ys with
              | nil => simp at hx2
              | cons y ys =>
                simp only [loX, List.getElem?_cons_zero] at hp
                obtain ⟨k, hk⟩ := boundP_some (ν := ν) hp v1
                simp only [Option.toList_some, List.cons_append, List.nil_append, List.map_cons, List.cons.injEq] at hx2
                exact .inr ⟨_, k, rfl, hx2.1.trans hk⟩
          have hhi : ((hi.map a.eval) = none ∧ hi' = n) ∨ ∃ v k, (hi.map a.eval) = some v ∧ v = .int k (hi' : Int) := by
            cases hi with
            | none => exact .inl ⟨rfl, boundP_none hq v2⟩
            | some l =>
              cases lo with
              | none =>
                cases ys with
                | nil => simp at hx2
                | cons y ys =>
                  simp only [hiX, List.getElem?_cons_zero] at hq
                  obtain ⟨k, hk⟩ := boundP_some (ν := ν) hq v2
                  simp only [Option.toList_some, Option.toList_none, List.cons_append, List.nil_append, List.map_cons, List.cons.injEq] at hx2
                  exact .inr ⟨_, k, rfl, hx2.1.trans hk⟩
              | some l2 =>
                match ys, hx2, hq with
                | [], hx2, hq => simp at hx2
                | [y], hx2, hq => simp at hx2
                | y :: y2 :: ys, hx2, hq =>
                  simp only [hiX, List.getElem?_cons_succ, List.getElem?_cons_zero] at hq
                  obtain ⟨k, hk⟩ := boundP_some (ν := ν) hq v2
                  simp only [Option.toList_some, List.cons_append, List.nil_append, List.map_cons, List.cons.injEq] at hx2
                  exact .inr ⟨_, k, rfl, hx2.2.1.trans hk⟩
          have hrun := sliceAt_run (P := P) (A := A) hu hs hlo hhi v3 v4 hcap w
          have hval : (execOp a.eval o).run P w = .ok (.value (.slice (if cap = lo' then A else A.map (·.add (lo' * size))) (hi' - lo') (cap - lo'))) w := by
            unfold execOp
            rw [ho]
            refine exec_v ?_
            have e3 : a.eval x = .slice A n cap := hx1.trans e1
            rw [e3]
            exact hrun
          have hin : i ∉ [id] := hn i (by simp [Orc.news])
          have hne : i ≠ id := by simpa using hin
          -- what the new list is read by: the list's own block, too
          obtain ⟨s0, hs0, hrep⟩ : ∃ s0 : Nat → Prop, (∀ b, s0 b → b < w.heap.size ∧ (sup id b ∨ (c.owned = true ∧ blkOf (ν id) = some b))) ∧ (DV.ls size n el).rep w s0 (ν id) := by
            cases c with
            | blk t cs => cases hl
            | rblk cs => cases hl
            | mp good => cases hl
            | ro size n el =>
              cases hl
              exact ⟨sup id, fun b hb => ⟨m.supLt id _ cnOf_one b hb, .inl hb⟩, hc⟩
            | vec t size n el =>
              cases hl
              refine ⟨fun b => sup id b ∨ blkOf (ν id) = some b, fun b hb => ?_, ?_⟩
              · rcases hb with hb | hb
                · exact ⟨m.supLt id _ cnOf_one b hb, .inl hb⟩
                · exact ⟨Cn.own_lt hc rfl hb, .inr ⟨rfl, hb⟩⟩
              · rw [e1]
                refine ⟨A, cap, rfl, hcap, fun hn0 => ?_⟩
                obtain ⟨b, off, rfl, hcl⟩ := hcell hn0
                refine ⟨b, off, rfl, .inr rfl, fun i hi j hj => ?_⟩
                obtain ⟨u, hu, hr⟩ := hcl i hi j hj
                exact ⟨u, hu, DV.rep_keep (fun _ _ => rfl) (fun b hb => .inl hb) hr⟩
          refine ⟨upd ν i (.slice (if cap = lo' then A else A.map (·.add (lo' * size))) (hi' - lo') (cap - lo')), upd (upd sup id s0) i s0, w, ?_, .inl (by rw [hval]; simp only [SV.val, PV.val, LV.val, upd_self])⟩
          have hidne : id ≠ i := fun e => hne e.symm
          exact
            { one := fun x => by
                unfold upd; split
                · rfl
                · exact m.one x
              rest := fun x hm => by
                have h1 : x ≠ id := fun e => hm (by simp [e])
                have h2 : x ≠ i := fun e => hm (by simp [e])
                exact ⟨upd_ne _ _ h2, by rw [upd_ne _ _ h2, upd_ne _ _ h1]⟩
              same := fun x hm c hc => by
                have : x ≠ i := fun e => by rw [e, cnOf_none hin] at hc; cases hc
                exact upd_ne _ _ this
              fr := Fr.refl _ _
              cont := fun x c' hl2 => by
                rcases look_two hl2 with ⟨rfl, e⟩ | ⟨rfl, e, _⟩
                · cases e
                  rw [upd_ne _ _ hidne, upd_ne _ _ hidne, upd_self]
                  exact hrep
                · cases e
                  rw [upd_self, upd_self]
                  rw [e1] at hrep
                  exact rep_sub hrep v3 v4 hcap
              sup := fun x c' hl2 b hb => by
                have hb' : s0 b := by
                  rcases look_two hl2 with ⟨rfl, e⟩ | ⟨rfl, e, _⟩
                  · rw [upd_ne _ _ hidne, upd_self] at hb; exact hb
                  · rw [upd_self] at hb; exact hb
                obtain ⟨h1, h2⟩ := hs0 b hb'
                refine ⟨h1, ?_, fun id2 c2 hl3 ho2 => ?_⟩
                · rcases h2 with h2 | h2
                  · exact .inr (.inl ⟨id, c, cnOf_one, h2⟩)
                  · exact .inr (.inr ⟨id, c, by simp, cnOf_one, h2.1, h2.2⟩)
                · rcases look_two hl3 with ⟨rfl, e⟩ | ⟨rfl, e, _⟩ <;> cases e <;> cases ho2
              own := fun x c' hl2 ho' => by
                rcases look_two hl2 with ⟨rfl, e⟩ | ⟨rfl, e, _⟩ <;> cases e <;> cases ho'
              apart := fun x c' hl2 ho' => by
                rcases look_two hl2 with ⟨rfl, e⟩ | ⟨rfl, e, _⟩ <;> cases e <;> cases ho' }
        · cases h
      · cases h
    · cases h
  · cases h
end
end Go.Proofs.Ytepibjfmeibgcaa
/- An abstract walk: every operation. No program is in sight here. -/
namespace Go.Proofs.Ytepibjfmeibgcaa
open Go.RowKit
set_option linter.unusedVariables false
section
variable {P : Program} {o : Oper} {a : Act} {ν : Nat → Value} {sup : Nat → Nat → Prop} {w w' : World} {cn : Nat → Option Cn}
theorem maxL_run : ∀ {xs : List SV} {x z : Int}, maxL x xs = some z → ((xs.map (SV.val ν)).foldlM Builtin.max2 (.int .i64 x)).run P w = .ok (.int .i64 z) w := by
  intro xs
  induction xs with
  | nil => intro x z h; cases h; rfl
  | cons y ys ih =>
    intro x z h
    unfold maxL at h
    split at h
    · rename_i heq; cases heq
    · rename_i x' y' r' heq
      cases heq
      have e : ∀ q : Int, (if y' > q then y' else q) = max q y' := fun q => by omega
      simp only [List.map_cons, List.foldlM_cons, SV.val, PV.val, LV.val, Sem.run_bind, Builtin.max2, Sem.run_pure, Result.andThen_ok, e]
      exact ih h
    · cases h
theorem minL_run : ∀ {xs : List SV} {x z : Int}, minL x xs = some z → ((xs.map (SV.val ν)).foldlM Builtin.min2 (.int .i64 x)).run P w = .ok (.int .i64 z) w := by
  intro xs
  induction xs with
  | nil => intro x z h; cases h; rfl
  | cons y ys ih =>
    intro x z h
    unfold minL at h
    split at h
    · rename_i heq; cases heq
    · rename_i x' y' r' heq
      cases heq
      have e : ∀ q : Int, (if y' < q then y' else q) = min q y' := fun q => by omega
      simp only [List.map_cons, List.foldlM_cons, SV.val, PV.val, LV.val, Sem.run_bind, Builtin.min2, Sem.run_pure, Result.andThen_ok, e]
      exact ih h
    · cases h
theorem args_eval {c : Call} {xs : List SV} (hc : ∃ b, c.callee = .builtin b) (hx : c.operands.toList.map a.eval = xs.map (SV.val ν)) : (c.args.map a.eval).toList = xs.map (SV.val ν) := by
  obtain ⟨b, hc⟩ := hc
  simp only [Call.operands, hc, Array.empty_append] at hx
  simpa using hx
theorem does_max {c : Call} (ho : o.op = .call c) (hc : c.callee = .builtin .max) {xs : List SV} {ε : Eff} (h : effMax xs = some ε) (hx : c.operands.toList.map a.eval = xs.map (SV.val ν)) (h1 : ∀ id, (ν id).oneCell' = true) : Does P o a ν sup w cn ε := by
  have hargs := args_eval ⟨_, hc⟩ hx
  unfold effMax at h
  split at h
  · rename_i x r
    split at h
    · rename_i z hz
      cases h
      refine Does.plain h1 ?_
      unfold OpVal
      rw [exec_builtin ho hc, BigFrame.builtin_max]
      refine exec_v ?_
      unfold Builtin.max_
      rw [hargs]
      exact maxL_run hz
    · cases h
  · cases h
theorem does_min {c : Call} (ho : o.op = .call c) (hc : c.callee = .builtin .min) {xs : List SV} {ε : Eff} (h : effMin xs = some ε) (hx : c.operands.toList.map a.eval = xs.map (SV.val ν)) (h1 : ∀ id, (ν id).oneCell' = true) : Does P o a ν sup w cn ε := by
  have hargs := args_eval ⟨_, hc⟩ hx
  unfold effMin at h
  split at h
  · rename_i x r
    split at h
    · rename_i z hz
      cases h
      refine Does.plain h1 ?_
      unfold OpVal
      rw [exec_builtin ho hc, BigFrame.builtin_min]
      refine exec_v ?_
      unfold Builtin.min_
      rw [hargs]
      exact minL_run hz
    · cases h
  · cases h
theorem allBlk_spec : ∀ {ids : List Nat} {cs : List (Option Cn)}, allBlk cs = true → cs.length = ids.length → ∀ id ∈ ids, ∃ t ls, cnOf ids cs id = some (.blk t ls) := by
  intro ids
  induction ids with
  | nil => intro cs _ _ id h; cases h
  | cons i ids ih =>
    intro cs h hl id hid
    unfold allBlk at h
    split at h
    · simp at hl
    · rename_i t ls r
      by_cases he : i = id
      · subst he
        exact ⟨t, ls, by unfold cnOf; simp [look]⟩
      · rcases List.mem_cons.1 hid with e | hid'
        · exact absurd e.symm he
        · obtain ⟨t2, ls2, h2⟩ := ih h (by simpa using hl) id hid'
          refine ⟨t2, ls2, ?_⟩
          unfold cnOf at h2 ⊢
          have hb : Nat.beq i id = false := by
            cases hq : Nat.beq i id with
            | true => exact absurd (Nat.eq_of_beq_eq_true hq) he
            | false => rfl
          simp only [List.zip_cons_cons, look, hb]
          exact h2
    · cases h
theorem does_makeFunc {f : Fn} {first captured : Array Operand} (ho : o.op = .makeFunc f first captured) {r : Orc} {xs : List SV} {cs : List (Option Cn)} {ids : List Nat} (hf : first.toList = []) (hi : refIds xs = some ids) (hb : allBlk cs = true) (hl : cs.length = ids.length) (hx : (first ++ captured).toList.map a.eval = xs.map (SV.val ν))
    (m : MW (cnOf (need0 o.op r xs) cs) ν sup w) : Does P o a ν sup w (cnOf (need0 o.op r xs) cs) ⟨.p (.one (.fnc f ids)), [], []⟩ := by
  have hneed : need0 o.op r xs = ids := by rw [ho]; simp only [need0, hi]
  rw [hneed] at m ⊢
  refine Does.plain m.one ?_
  have hf' : first = #[] := by rw [← Array.toArray_toList (xs := first), hf]
  subst hf'
  have hp : ∀ id ∈ ids, ∃ b, ν id = .pointer (some ⟨b, 0, none⟩) := fun id hid => by
    obtain ⟨t, ls, hc⟩ := allBlk_spec hb hl id hid
    obtain ⟨b, e, _⟩ := m.cont id _ hc
    exact ⟨b, e⟩
  have hv := refIds_val (ν := ν) hi hp
  unfold OpVal execOp
  rw [ho]
  refine exec_v ?_
  have e : (captured.map a.eval).toList = ids.map ν := by
    rw [← hv]
    simpa using hx
  simp only [Instr.makeFunc, Sem.run_pure, SV.val, PV.val, LV.val]
  congr 1
  rw [← e]
  have e2 : (#[] : Array Operand).map a.eval = #[] := by simp
  rw [e2, Array.toArray_toList]
/-- A call of a function. -/
theorem callFunc_run {f : FuncId} (h : enterB P f = true) (args : Array Value) (w : World) : (callFunc f args).run P w = .ok (.enter f args) w := by
  unfold enterB at h
  split at h
  · rename_i fn hf
    simp only [Bool.and_eq_true, Bool.not_eq_true'] at h
    have h1 : ¬ fn.name = "runtime.NumGoroutine" := by simpa using h.1
    have h2 : fn.body.isNone = false := h.2
    have hp : (program : Sem Program).run P w = .ok P w := rfl
    unfold callFunc
    rw [Sem.run_bind, hp]
    simp only [Result.andThen_ok, hf]
    rw [if_neg (by simpa using h1), if_neg (by simp [h2])]
    rfl
  · cases h
theorem wp_call {c : Call} {f : FuncId} (ho : o.op = .call c) (hc : c.callee = .value (.func f)) (he : enterB P f = true) {xs : List SV} {ids : List Nat} {cs : List (Option Cn)} {res : SV} {wr : List (Nat × Option Cn)} (hx : c.args.toList.map a.eval = xs.map (SV.val ν))
    (m : MW (cnOf ids cs) ν sup w) (hok : CallOK P f xs ids cs res wr) {K : Act → World → Prop} {Q : Exit → Act → World → Prop} (hK : ∀ ν' sup' w', Chg (cnOf ids cs) wr ν sup w ν' sup' w' → K (a.put o.dst (res.val ν')) w') : o.wp P a w K Q := by
  have hargs : c.args.map a.eval = (xs.map (SV.val ν)).toArray := by
    rw [← hx]
    apply Array.ext'
    simp
  have hrun : (execOp a.eval o).run P w = .ok (.enter f (xs.map (SV.val ν)).toArray) w := by
    unfold execOp
    rw [ho]
    have hev : a.eval (.func f) = .func (.func f) #[] #[] := rfl
    simp only [resolve, hc, hev, Deferred.ofValue, Sem.run_bind, Sem.run_pure, Result.andThen_ok, invoke, hargs]
    simp [callFunc_run he]
  unfold Oper.wp
  rw [hrun, Oper.upon_enter]
  refine (hok ν sup w m).mono fun e w' h => ?_
  obtain ⟨ν', sup', hchg, rfl⟩ := h
  exact hK _ _ _ hchg
theorem leaves_ids : ∀ {ds : List DV} {ids : List Nat} {ls : List LV} {wr : List (Nat × Option Cn)}, leaves ds ids = some (ls, wr) → ∀ i, i ∈ wr.map (·.1) → i ∈ ids := by
  intro ds
  induction ds with
  | nil =>
    intro ids ls wr h i hi
    simp only [leaves, Option.some.injEq, Prod.mk.injEq] at h
    obtain ⟨rfl, rfl⟩ := h
    cases hi
  | cons d ds ih =>
    intro ids ls wr h i hi
    cases d with
    | v x =>
      unfold leaves at h
      split at h
      · rename_i e; cases h; exact ih e i hi
      · cases h
    | ls s n el =>
      cases ids with
      | nil => cases h
      | cons k ids =>
        unfold leaves at h
        split at h
        · rename_i e
          cases h
          rcases List.mem_cons.1 hi with e2 | h2
          · exact e2 ▸ List.mem_cons_self
          · exact List.mem_cons_of_mem _ (ih e i h2)
        · cases h
theorem ids_news {r : Orc} {i : Nat} (h : i ∈ r.ids) : i ∈ r.news := by
  cases r <;> first | exact h | cases h
theorem load_news {t : TypeId} {r : Orc} {xs : List SV} {cs : List (Option Cn)} {ε : Eff} (h : effLoad P t r xs cs = some ε) : ∀ i, i ∈ ε.wr.map (·.1) → i ∈ r.news := by
  intro i hi
  unfold effLoad at h
  split at h
  · split at h
    · split at h
      · cases h; cases hi
      · cases h
    · split at h
      · split at h
        · cases h; cases hi
        · cases h
      · cases h
    · cases h
  · split at h
    · split at h
      · split at h
        · rename_i hl
          cases h
          exact ids_news (leaves_ids hl i hi)
        · cases h
      · cases h
    · split at h
      · split at h
        · split at h
          · rename_i hl
            cases h
            exact ids_news (leaves_ids hl i hi)
          · cases h
        · cases h
      · cases h
    · cases h
  · cases h
/-- Every operation does what is told of it. -/
theorem eff0_wp {r : Orc} {xs : List SV} {cs : List (Option Cn)} {ε : Eff} (h : eff0 P o r xs cs = some ε) (hx : o.op.operands.toList.map a.eval = xs.map (SV.val ν)) (hl : cs.length = (need0 o.op r xs).length)
    (m : MW (cnOf (need0 o.op r xs) cs) ν sup w) (hd : (ε.wr.map (·.1)).Nodup) (hn : ∀ i, i ∈ r.news → i ∉ need0 o.op r xs) (hw : ∀ i, i ∈ ε.wr.map (·.1) → i ∉ need0 o.op r xs → i ∈ r.news ∧ ∀ y, y ∈ xs → y.noId i = true) (hvc : AllP ε.vc)
    {K : Act → World → Prop} {Q : Exit → Act → World → Prop} (hK : ∀ ν' sup' w', Chg (cnOf (need0 o.op r xs) cs) ε.wr ν sup w ν' sup' w' → K (a.put o.dst (ε.val.val ν')) w') : o.wp P a w K Q := by
  unfold eff0 at h
  split at h
  case h_1 x ho =>
    split at h
    · rename_i b y
      cases h
      rw [ho] at hx
      have e : y = b := hvc
      subst e
      exact (does_move (y := .b y) (.inl ho) (map1 hx) m.one).wp hK
    · cases h
      rw [ho] at hx
      exact (does_move (.inl ho) (map1 hx) m.one).wp hK
    · cases h
  case h_2 x ho =>
    split at h
    · rename_i b y
      cases h
      rw [ho] at hx
      have e : y = b := hvc
      subst e
      exact (does_move (y := .b y) (.inr ho) (map1 hx) m.one).wp hK
    · cases h
      rw [ho] at hx
      exact (does_move (.inr ho) (map1 hx) m.one).wp hK
    · cases h
  case h_3 c x y ho =>
    rw [ho] at hx
    exact (does_pick ho h hx m.one).wp hK
  case h_4 t ho =>
    refine (does_alloc ho h m fun i hi => cnOf_none ?_).wp hK
    rw [ho]; simp [need0]
  case h_5 t x ho =>
    rw [ho] at hx
    have h0 : need0 o.op r xs = [] := by rw [ho]; rfl
    exact (does_box ho h hx m fun i hi => ⟨cnOf_none (by rw [h0]; simp), (hw i hi (by rw [h0]; simp)).2⟩).wp hK
  case h_6 t ps ho =>
    rw [ho] at hx
    exact (does_build ho h (by simpa [Op.operands, Function.comp_def] using hx) m.one).wp hK
  case h_7 t n ps ho =>
    rw [ho] at hx
    have h0 : need0 o.op r xs = [] := by rw [ho]; rfl
    exact (does_buildSlice ho h (by simpa [Op.operands, Function.comp_def] using hx) m fun i hi => cnOf_none (by rw [h0]; simp)).wp hK
  case h_8 t x ho =>
    rw [ho] at hx
    exact (does_load ho h hx m hd (fun i hi => hn i (load_news h i hi)) hvc).wp hK
  case h_9 t x y ho =>
    rw [ho] at hx
    exact (does_store ho h hx m hvc).wp hK
  case h_10 x ho =>
    rw [ho] at hx
    exact (does_nil ho h hx m).wp hK
  case h_11 op t x y t' ho =>
    rw [ho] at hx
    exact (does_bin ho h hx m.one hvc).wp hK
  case h_12 op t x ho =>
    rw [ho] at hx
    exact (does_un ho h hx m.one hvc).wp hK
  case h_13 s t x ho =>
    rw [ho] at hx
    exact (does_convert ho h hx m.one hvc).wp hK
  case h_14 f first captured ho =>
    rw [ho] at hx
    split at h
    · rename_i ids hf hi hb
      cases h
      have hneed : need0 o.op r xs = ids := by rw [ho]; simp only [need0, hi]
      exact (does_makeFunc ho hf hi hb (by rw [hl, hneed]) hx m).wp hK
    · cases h
  case h_15 t x y ho =>
    rw [ho] at hx
    have h0 : need0 o.op r xs = [] := by rw [ho]; rfl
    exact (does_makeSlice ho h hx m (fun i hi => cnOf_none (by rw [h0]; simp)) hvc).wp hK
  case h_16 t x lo hi mx ho =>
    rw [ho] at hx
    exact (does_slice ho h (by simpa [Op.operands] using hx) m hn hvc).wp hK
  case h_17 t x f ho =>
    rw [ho] at hx
    exact (does_fieldAddr ho h hx m hvc).wp hK
  case h_18 t x f ho =>
    rw [ho] at hx
    exact (does_field ho h hx m.one).wp hK
  case h_19 t x y ho =>
    rw [ho] at hx
    exact (does_indexAddr ho h hx m hvc).wp hK
  case h_20 x i ho =>
    rw [ho] at hx
    exact (does_extract ho h hx m.one).wp hK
  case h_21 c ho =>
    rw [ho] at hx
    unfold effCall at h
    split at h
    case h_1 hc =>
      split at h
      · rename_i x t hargs hats
        have hargs' : c.args = #[x] := by rw [← Array.toArray_toList (xs := c.args), hargs]
        have hats' : c.argTypes = #[t] := by rw [← Array.toArray_toList (xs := c.argTypes), hats]
        split at h
        · rename_i e hu
          exact (does_len ho hc hargs' hats' hu h (by simpa [Op.operands, Call.operands, hc, hargs'] using hx) m).wp hK
        · cases h
      · cases h
    case h_2 hc =>
      split at h
      · rename_i x y hargs
        have hargs' : c.args = #[x, y] := by rw [← Array.toArray_toList (xs := c.args), hargs]
        exact (does_append ho hc hargs' h (by simpa [Op.operands, Call.operands, hc, hargs'] using hx) m hn hvc).wp hK
      · cases h
    case h_3 hc => exact (does_max ho hc h hx m.one).wp hK
    case h_4 hc => exact (does_min ho hc h hx m.one).wp hK
    case h_5 f hc =>
      split at h
      · rename_i ids res wr x ys he
        cases h
        have hneed : need0 o.op (.call ids res wr) (x :: ys) = ids := by rw [ho]; simp only [need0, hc]
        rw [hneed] at m hK
        have hx' : c.args.toList.map a.eval = ys.map (SV.val ν) := by
          simp only [Op.operands, Call.operands, hc] at hx
          simp only [Array.toList_append, List.map_append, List.map_cons, List.map_nil, List.cons_append, List.nil_append, List.cons.injEq] at hx
          exact hx.2
        exact wp_call ho hc he hx' m hvc hK
      · cases h
    case h_6 => cases h
  case h_22 => cases h
theorem eff_wp {r : Orc} {xs : List SV} {cs : List (Option Cn)} {ε : Eff} (h : eff P o r xs cs = some ε) (hx : o.op.operands.toList.map a.eval = xs.map (SV.val ν)) (hl : cs.length = (need o.op r xs).length)
    (m : MW (cnOf (need o.op r xs) cs) ν sup w) (hd : (ε.wr.map (·.1)).Nodup) (hn : ∀ i, i ∈ r.news → i ∉ need o.op r xs) (hw : ∀ i, i ∈ ε.wr.map (·.1) → i ∉ need o.op r xs → i ∈ r.news ∧ ∀ y, y ∈ xs → y.noId i = true) (hvc : AllP ε.vc)
    {K : Act → World → Prop} {Q : Exit → Act → World → Prop} (hK : ∀ ν' sup' w', Chg (cnOf (need o.op r xs) cs) ε.wr ν sup w ν' sup' w' → K (a.put o.dst (ε.val.val ν')) w') : o.wp P a w K Q := by
  cases r with
  | act ids res wr =>
    cases h
    exact hvc o a ν sup w rfl rfl m hx K Q hK
  | none => exact eff0_wp (r := .none) h hx hl m hd hn hw hvc hK
  | dec b => exact eff0_wp (r := .dec b) h hx hl m hd hn hw hvc hK
  | num z => exact eff0_wp (r := .num z) h hx hl m hd hn hw hvc hK
  | new i => exact eff0_wp (r := .new i) h hx hl m hd hn hw hvc hK
  | many is => exact eff0_wp (r := .many is) h hx hl m hd hn hw hvc hK
  | idx k => exact eff0_wp (r := .idx k) h hx hl m hd hn hw hvc hK
  | lst i n el => exact eff0_wp (r := .lst i n el) h hx hl m hd hn hw hvc hK
  | cut i lo hi => exact eff0_wp (r := .cut i lo hi) h hx hl m hd hn hw hvc hK
  | call is res wr => exact eff0_wp (r := .call is res wr) h hx hl m hd hn hw hvc hK
end
end Go.Proofs.Ytepibjfmeibgcaa
/- An abstract walk: a step; a region in the text's order; the rules of the code. No program is in sight here. -/
namespace Go.Proofs.Ytepibjfmeibgcaa
open Go.RowKit
set_option linter.unusedVariables false
def litB (b : Bool) (want : Bool) : Option Bool :=
  match b, want with
  | true, true => some true
  | true, false => some false
  | false, true => some false
  | false, false => some true
def guardOk (ops : Array Oper) (S : St) (o : Oper) : Option Bool :=
  match o.guard with
  | none => some true
  | some (j, want) => match ops[j]? with
    | some oj => match oj.dst with
      | some t => match S.sl t with
        | some (.p (.one (.v (.bool b)))) => litB b want
        | some (.p (.one (.v (.tuple _)))) => some false
        | _ => none
      | none => none
    | none => none
def memB' (i : Nat) : List Nat → Bool
  | [] => false
  | j :: r => match Nat.beq j i with | true => true | false => memB' i r
theorem memB'_iff {i : Nat} : ∀ {l : List Nat}, memB' i l = true ↔ i ∈ l := by
  intro l
  induction l with
  | nil => simp [memB']
  | cons j r ih =>
    unfold memB'
    cases h : Nat.beq j i with
    | true =>
      have := Nat.eq_of_beq_eq_true h
      subst this
      simp
    | false =>
      have hne : j ≠ i := fun e => by subst e; simp at h
      simp only []
      rw [ih, List.mem_cons]
      exact ⟨fun h => .inr h, fun h => h.resolve_left fun e => hne e.symm⟩
def nodupB' : List Nat → Bool
  | [] => true
  | i :: r => !(memB' i r) && nodupB' r
theorem nodupB'_nodup : ∀ {l : List Nat}, nodupB' l = true → l.Nodup := by
  intro l
  induction l with
  | nil => intro _; exact List.nodup_nil
  | cons i r ih =>
    intro h
    unfold nodupB' at h
    rw [Bool.and_eq_true, Bool.not_eq_true'] at h
    refine List.nodup_cons.2 ⟨fun hm => ?_, ih h.2⟩
    rw [memB'_iff.2 hm] at h
    cases h.1
def dstOk (S : St) (o : Oper) : Bool := match o.dst with | some t => Nat.blt t S.nt | none => true
def okB (S : St) (r : Orc) (xs : List SV) (ids : List Nat) (wr : List (Nat × Option Cn)) : Bool :=
  nodupB' (wr.map (·.1)) && ((r.news.all fun i => !(memB' i ids)) && wr.all fun p => (memB' p.1 ids && (S.cn p.1).isSome) || (memB' p.1 r.news && (S.fresh p.1 && xs.all (SV.noId p.1))))
def step (P : Program) (ops : Array Oper) (S : St) (o : Oper) (r : Orc) : Option (St × List Prop) :=
  match guardOk ops S o, dstOk S o with
  | some true, true =>
    match evAll S.sl o.op.operands.toList with
    | some xs => match eff P o r xs ((need o.op r xs).map S.cn) with
      | some ε => match okB S r xs (need o.op r xs) ε.wr with
        | true => some ((S.mem ε.wr).put o.dst ε.val, ε.vc)
        | false => none
      | none => none
    | none => none
  | some false, true => some (S.put o.dst (.v undef), [])
  | _, _ => none
theorem litB_spec {b want c : Bool} (h : litB b want = some c) : (b == want) = c := by
  cases b <;> cases want <;> cases h <;> rfl
theorem cnOf_map {ids : List Nat} {f : Nat → Option Cn} {id : Nat} {c : Cn} : cnOf ids (ids.map f) id = some c → f id = some c ∧ id ∈ ids := by
  intro h
  unfold cnOf at h
  split at h
  · rename_i c' e
    subst h
    have := look_mem e
    induction ids with
    | nil => cases this
    | cons i ids ih =>
      rw [List.map_cons, List.zip_cons_cons] at e this
      unfold look at e
      split at e
      · rename_i hb
        have hi := Nat.eq_of_beq_eq_true hb
        subst hi
        exact ⟨Option.some.inj e, List.mem_cons_self⟩
      · have h2 := look_mem e
        obtain ⟨h3, h4⟩ := ih e h2
        exact ⟨h3, List.mem_cons_of_mem _ h4⟩
  · cases h
theorem cnOf_self {f : Nat → Option Cn} {id : Nat} {c : Cn} : ∀ {ids : List Nat}, id ∈ ids → f id = some c → cnOf ids (ids.map f) id = some c := by
  intro ids
  induction ids with
  | nil => intro h; cases h
  | cons i ids ih =>
    intro h hf
    unfold cnOf
    rw [List.map_cons, List.zip_cons_cons]
    unfold look
    cases hb : Nat.beq i id with
    | true =>
      have := Nat.eq_of_beq_eq_true hb
      subst this
      exact hf
    | false =>
      rcases List.mem_cons.1 h with e | h
      · subst e; simp at hb
      · exact ih h hf
section
variable {P : Program} {ops : Array Oper} {E : Env} {S S' : St} {ν : Nat → Value} {sup : Nat → Nat → Prop} {a : Act} {w : World}
theorem guardOk_spec (g : GW E S ν sup a w) {o : Oper} {b : Bool} (h : guardOk ops S o = some b) : Region.wanted o (yielded ops a.tmps) = b := by
  unfold guardOk at h
  unfold Region.wanted
  split at h
  · rename_i e; rw [e]; cases h; rfl
  · rename_i j want e
    rw [e]
    simp only []
    split at h
    · rename_i oj hj
      split at h
      · rename_i t ht
        have hy : ((ops[j]?).bind (·.dst)) = some t := by rw [hj]; exact ht
        split at h
        · rename_i x hx
          have := g.slot t _ hx
          unfold yielded
          rw [hy]
          simp only [Option.bind_some, this, SV.val, PV.val, LV.val]
          rw [← litB_spec h]
          cases x <;> cases want <;> rfl
        · rename_i x hx
          have := g.slot t _ hx
          unfold yielded
          rw [hy]
          simp only [Option.bind_some, this, SV.val, PV.val, LV.val]
          cases h
          cases want <;> rfl
        · cases h
      · cases h
    · cases h
/-- What a step asks of its operation, and what it gives. -/
def StepWp (P : Program) (ops : Array Oper) (o : Oper) (K : Act → World → Prop) (Q : Exit → Act → World → Prop) (a : Act) (w : World) : Prop :=
  if Region.wanted o (yielded ops a.tmps) then o.wp P a w K Q ∨ (o.asks P a w ∧ LetsOut Q) else K (a.put o.dst undef) w
/-- A step, by what is known alone. -/
def StepS (P : Program) (ops : Array Oper) (S : St) (o : Oper) (r : Orc) (x : SV) (wr : List (Nat × Option Cn)) (vc : List Prop) : Prop :=
  dstOk S o = true ∧ ((guardOk ops S o = some true ∧ ∃ xs, evAll S.sl o.op.operands.toList = some xs ∧ eff P o r xs ((need o.op r xs).map S.cn) = some ⟨x, wr, vc⟩ ∧ (wr.map (·.1)).Nodup ∧ (∀ i, i ∈ r.news → i ∉ need o.op r xs) ∧
      (∀ i, i ∈ wr.map (·.1) → (i ∈ need o.op r xs ∧ ∃ c, S.cn i = some c) ∨ (i ∉ need o.op r xs ∧ i ∈ r.news ∧ SemFresh S i ∧ ∀ y, y ∈ xs → y.noId i = true))) ∨
    (guardOk ops S o = some false ∧ x = .v undef ∧ wr = [] ∧ vc = []))
theorem step_S {o : Oper} {r : Orc} {vc : List Prop} (h : step P ops S o r = some (S', vc)) : ∃ x wr, StepS P ops S o r x wr vc ∧ S' = (S.mem wr).put o.dst x := by
  unfold step at h
  split at h
  · rename_i hgd hd
    split at h
    · rename_i xs hxs
      split at h
      · rename_i ε hε
        split at h
        · rename_i hok
          cases h
          unfold okB at hok
          rw [Bool.and_eq_true, Bool.and_eq_true] at hok
          obtain ⟨ok1, ok2, ok3⟩ := hok
          have hnews : ∀ i, i ∈ r.news → i ∉ need o.op r xs := fun i hi hm => by
            have := List.all_eq_true.1 ok2 i hi
            rw [memB'_iff.2 hm] at this
            cases this
          refine ⟨ε.val, ε.wr, ⟨hd, .inl ⟨hgd, xs, hxs, hε, nodupB'_nodup ok1, hnews, fun i hi => ?_⟩⟩, rfl⟩
          obtain ⟨p, hp, rfl⟩ := List.mem_map.1 hi
          have := List.all_eq_true.1 ok3 p hp
          rw [Bool.or_eq_true, Bool.and_eq_true, Bool.and_eq_true, Bool.and_eq_true] at this
          rcases this with h1 | ⟨h1, h2, h3⟩
          · exact .inl ⟨memB'_iff.1 h1.1, Option.isSome_iff_exists.1 h1.2⟩
          · exact .inr ⟨hnews _ (memB'_iff.1 h1), memB'_iff.1 h1, St.fresh_sem h2, fun y hy => List.all_eq_true.1 h3 y hy⟩
        · cases h
      · cases h
    · cases h
  · rename_i hgd hd
    cases h
    exact ⟨.v undef, [], ⟨hd, .inr ⟨hgd, rfl, rfl, rfl⟩⟩, rfl⟩
  · cases h
theorem StepS.sound {o : Oper} {r : Orc} {x : SV} {wr : List (Nat × Option Cn)} {vc : List Prop} (h : StepS P ops S o r x wr vc) (hvc : AllP vc) (hg : G E S a w) {K : Act → World → Prop} {Q : Exit → Act → World → Prop} (hK : ∀ a' w', G E ((S.mem wr).put o.dst x) a' w' → K a' w') : StepWp P ops o K Q a w := by
  obtain ⟨ν, sup, g⟩ := hg
  obtain ⟨hd, h⟩ := h
  have hdst : ∀ t, o.dst = some t → t < S.nt := fun t ht => by
    unfold dstOk at hd
    rw [ht] at hd
    exact Nat.le_of_ble_eq_true hd
  unfold StepWp
  rcases h with ⟨hgd, xs, hxs, hε, hnd, hnews, hwr⟩ | ⟨hgd, rfl, rfl, rfl⟩
  · rw [guardOk_spec g hgd, if_pos rfl]
    refine .inl ?_
    have hmw : MW (cnOf (need o.op r xs) ((need o.op r xs).map S.cn)) ν sup w :=
      { one := g.one
        cont := fun id c hc => g.cont id c (cnOf_map hc).1
        supLt := fun id c hc => g.supLt id c (cnOf_map hc).1
        ownSup := fun id c hc ho id' c' hc' => g.ownSup id c (cnOf_map hc).1 ho id' c' (cnOf_map hc').1
        ownOwn := fun id c hc ho id' c' hc' => g.ownOwn id c (cnOf_map hc).1 ho id' c' (cnOf_map hc').1 }
    refine eff_wp hε (evAll_sound g hxs) (by simp) hmw hnd hnews (fun i hi hm => ?_) hvc fun ν' sup' w' c => hK _ _ ⟨ν', sup', ?_⟩
    · rcases hwr i hi with ⟨h1, _⟩ | ⟨_, h2, _, h3⟩
      · exact absurd h1 hm
      · exact ⟨h2, h3⟩
    refine GW.put ?_ hdst
    refine GW.mem g c.one c.rest (fun id hm => ?_) (c.fr.mono fun k _ ⟨id, c0, hm, hc, ho, hb⟩ => ⟨id, c0, hm, (cnOf_map hc).1, ho, hb⟩) c.cont (fun id c0 hl b hb => ?_) (fun id c0 hl ho b hb => ?_) c.apart
    · rcases hwr id hm with ⟨h1, c1, h2⟩ | ⟨_, _, h2, _⟩
      · exact .inl (c.same id hm c1 (cnOf_self h1 h2))
      · exact .inr h2
    · obtain ⟨h1, h2, h3⟩ := c.sup id c0 hl b hb
      refine ⟨h1, ?_, h3⟩
      rcases h2 with h2 | ⟨id0, c1, h4, h5⟩ | ⟨id0, c1, h6, h4, h7, h8⟩
      · exact .inl h2
      · exact .inr (.inl ⟨id0, c1, (cnOf_map h4).1, h5⟩)
      · exact .inr (.inr ⟨id0, c1, h6, (cnOf_map h4).1, h7, h8⟩)
    · rcases c.own id c0 hl ho b hb with h2 | ⟨id0, c1, h6, h4, h7, h8⟩
      · exact .inl h2
      · exact .inr ⟨id0, c1, h6, (cnOf_map h4).1, h7, h8⟩
  · rw [guardOk_spec g hgd]
    simp only [Bool.false_eq_true, if_false]
    exact hK _ _ ⟨ν, sup, GW.put (x := .v undef) (by exact g) hdst⟩
theorem step_sound {o : Oper} {r : Orc} {vc : List Prop} (h : step P ops S o r = some (S', vc)) (hvc : AllP vc) (hg : G E S a w) {K : Act → World → Prop} {Q : Exit → Act → World → Prop} (hK : ∀ a' w', G E S' a' w' → K a' w') : StepWp P ops o K Q a w := by
  obtain ⟨x, wr, h1, rfl⟩ := step_S h
  exact h1.sound hvc hg hK
end
end Go.Proofs.Ytepibjfmeibgcaa
