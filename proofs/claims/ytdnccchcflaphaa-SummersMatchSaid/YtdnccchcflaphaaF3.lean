import Derived.Test.YtdnccchcflaphaaF2
namespace Go.Kw
set_option linter.unusedVariables false
variable {P : Program}

/-- Names that may be given away: those told by the caller, and a supply. -/
structure Fresh (ρ : Nat → Option Nat) (new : List Nat) (sup : Nat → Nat) : Prop where
  named : ∀ b ∈ new, ρ b = none
  free : ∀ i, ρ (sup i) = none
  inj : ∀ i j, sup i = sup j → i = j
  apart : ∀ i, sup i ∉ new
  nd : new.Nodup

def okOf (new : List Nat) (sup : Nat → Nat) : Nat → Prop := fun b => b ∈ new ∨ ∃ i, b = sup i

/-- A call of a Go function: arguments and heap, names for what is new, the result, the heap behind it. -/
def ACalls (P : Program) (f : FuncId) (args : List AVal) (h : AHeap) (new : List Nat) (v : AVal) (h' : AHeap) : Prop :=
  ∀ ρ Im w (args' : Array Value) sup, St P ρ Im h w → Fresh ρ new sup → VRels P ρ Im w args args'.toList →
    Calls P f args' w fun e w' => ∃ v' ρ' Im', e = .returned v' ∧ VRel P ρ' Im' w' v v' ∧ Ev P ρ Im h w (okOf new sup) ρ' Im' h' w'

/-- An operation of a region, by the abstract values of its operands. -/
def OpV (P : Program) (o : Oper) (vals : List AVal) (h : AHeap) (new : List Nat) (v : AVal) (h' : AHeap) : Prop :=
  ∀ ρ Im w (a : Act) sup, St P ρ Im h w → Fresh ρ new sup → VRels P ρ Im w vals ((o.op.operands.map a.eval).toList) →
    ∀ (K : Act → World → Prop) (Q : Exit → Act → World → Prop),
      (∀ v' w' ρ' Im', VRel P ρ' Im' w' v v' → Ev P ρ Im h w (okOf new sup) ρ' Im' h' w' → K (a.put o.dst v') w') → o.wp P a w K Q

/-- The plainest operations: the world stays, the value is told. -/
theorem OpV.pure {o : Oper} {vals : List AVal} {v : AVal}
    (h : ∀ ρ Im w (a : Act), VRels P ρ Im w vals ((o.op.operands.map a.eval).toList) →
      ∃ v', (execOp a.eval o).run P w = .ok (.value v') w ∧ VRel P ρ Im w v v') : OpV P o vals [] [] v [] := by
  intro ρ Im w a sup s fr hv K Q hK
  obtain ⟨v', hr, hv'⟩ := h ρ Im w a hv
  unfold Oper.wp
  rw [hr]
  exact hK v' w ρ Im hv' (Ev.refl s)

/-- An operation that gives a value and changes the world. -/
theorem OpV.value {o : Oper} {vals : List AVal} {h : AHeap} {new : List Nat} {v : AVal} {h' : AHeap}
    (hh : ∀ ρ Im w (a : Act) sup, St P ρ Im h w → Fresh ρ new sup → VRels P ρ Im w vals ((o.op.operands.map a.eval).toList) →
      ∃ v' w' ρ' Im', (execOp a.eval o).run P w = .ok (.value v') w' ∧ VRel P ρ' Im' w' v v' ∧ Ev P ρ Im h w (okOf new sup) ρ' Im' h' w') : OpV P o vals h new v h' := by
  intro ρ Im w a sup s fr hv K Q hK
  obtain ⟨v', w', ρ', Im', hr, hv', e⟩ := hh ρ Im w a sup s fr hv
  unfold Oper.wp
  rw [hr]
  exact hK v' w' ρ' Im' hv' e

/-- An operation that gives no value. -/
theorem OpV.skip {o : Oper} {vals : List AVal} {h : AHeap} {new : List Nat} {h' : AHeap}
    (hh : ∀ ρ Im w (a : Act) sup, St P ρ Im h w → Fresh ρ new sup → VRels P ρ Im w vals ((o.op.operands.map a.eval).toList) →
      ∃ w' ρ' Im', (execOp a.eval o).run P w = .ok .skip w' ∧ Ev P ρ Im h w (okOf new sup) ρ' Im' h' w') : OpV P o vals h new (.tup []) h' := by
  intro ρ Im w a sup s fr hv K Q hK
  obtain ⟨w', ρ', Im', hr, e⟩ := hh ρ Im w a sup s fr hv
  unfold Oper.wp
  rw [hr]
  exact hK undef w' ρ' Im' (by simp only [VRel]; exact ⟨#[], rfl, by simp [VRels]⟩) e

/-- A call of a function by its name. -/
def callable (P : Program) (f : FuncId) : Bool := (P.funcs[f]?).any fun fn => fn.name != "runtime.NumGoroutine" && fn.body.isSome

theorem OpV.enter {o : Oper} {f : FuncId} {args : List AVal} {h : AHeap} {new : List Nat} {v : AVal} {h' : AHeap} {vals : List AVal}
    (hx : ∀ ρ Im w (a : Act), VRels P ρ Im w vals ((o.op.operands.map a.eval).toList) →
      ∃ args' : Array Value, (execOp a.eval o).run P w = .ok (.enter f args') w ∧ VRels P ρ Im w args args'.toList)
    (hc : ACalls P f args h new v h') : OpV P o vals h new v h' := by
  intro ρ Im w a sup s fr hv K Q hK
  obtain ⟨args', hr, ha⟩ := hx ρ Im w a hv
  unfold Oper.wp
  rw [hr]
  refine (hc ρ Im w args' sup s fr ha).mono fun e w' he => ?_
  obtain ⟨v', ρ', Im', rfl, hv', e⟩ := he
  exact hK v' w' ρ' Im' hv' e

theorem OpV.frame {o : Oper} {vals : List AVal} {F : AHeap} {new : List Nat} {v : AVal} {F' : AHeap} (R : AHeap)
    (hh : OpV P o vals F new v F') : OpV P o vals (F ++ R) new v (F' ++ R) := by
  intro ρ Im w a sup s fr hv K Q hK
  exact hh ρ Im w a sup (s.sub (List.sublist_append_left _ _)) fr hv K Q fun v' w' ρ' Im' hv' e => hK v' w' ρ' Im' hv' (e.frame s)

theorem OpV.perm {o : Oper} {vals : List AVal} {h h0 : AHeap} {new : List Nat} {v : AVal} {h' h0' : AHeap}
    (hh : OpV P o vals h0 new v h0') (p : List.Perm h0 h) (p' : List.Perm h0' h') : OpV P o vals h new v h' := by
  intro ρ Im w a sup s fr hv K Q hK
  exact hh ρ Im w a sup (s.perm p.symm) fr hv K Q fun v' w' ρ' Im' hv' e => hK v' w' ρ' Im' hv' ((e.permL p).permR p')

theorem ACalls.frame {f : FuncId} {args : List AVal} {F : AHeap} {new : List Nat} {v : AVal} {F' : AHeap} (R : AHeap)
    (hh : ACalls P f args F new v F') : ACalls P f args (F ++ R) new v (F' ++ R) := by
  intro ρ Im w args' sup s fr hv
  refine (hh ρ Im w args' sup (s.sub (List.sublist_append_left _ _)) fr hv).mono fun e w' he => ?_
  obtain ⟨v', ρ', Im', he, hv', e⟩ := he
  exact ⟨v', ρ', Im', he, hv', e.frame s⟩

/-! ### The frame of a function -/

def Env.get : Env → Nat → Option AVal
  | [], _ => none
  | (k, v) :: e, x => bif Nat.beq k x then some v else Env.get e x

def absC : Value → Option AVal
  | .int k n => some (.int k n)
  | .bool b => some (.bool b)
  | .string s => some (.str s.data.toList)
  | .pointer none => some .nilp
  | .slice none 0 0 => some (.vs 0 true [])
  | .map none => some .nilm
  | .nilFunc => some .nilf
  | _ => none

def ev (e : Env) : Operand → Option AVal
  | .tmp t => e.get t
  | .const v => absC v
  | .func f => some (.fn f [] [])
  | .global _ => none

def evs (e : Env) : List Operand → Option (List AVal)
  | [] => some []
  | x :: xs => match ev e x with
    | none => none
    | some v => match evs e xs with
      | none => none
      | some vs => some (v :: vs)

def putE (e : Env) (dst : Option Tmp) (v : AVal) : Env :=
  match dst with
  | some d => (d, v) :: e
  | none => e

def EnvRel (P : Program) (ρ : Nat → Option Nat) (Im : Nat → Prop) (w : World) (e : Env) (tmps : Array Value) : Prop :=
  ∀ s v, e.get s = some v → VRel P ρ Im w v (tmps.getD s undef)

theorem EnvRel.mono {ρ Im w ρ' Im' w' e tmps} (m : Mono ρ Im w ρ' Im' w') (h : EnvRel P ρ Im w e tmps) : EnvRel P ρ' Im' w' e tmps :=
  fun s v hs => (h s v hs).mono m

theorem absC_rel {ρ Im w v a} (h : absC v = some a) : VRel P ρ Im w a v := by
  unfold absC at h
  split at h <;> simp only [Option.some.injEq, reduceCtorEq] at h <;> subst h <;> simp [VRel]

theorem ev_rel {ρ Im w e} {a : Act} {x : Operand} {v : AVal} (h : EnvRel P ρ Im w e a.tmps) (hx : ev e x = some v) : VRel P ρ Im w v (a.eval x) := by
  cases x with
  | tmp t => exact h t v hx
  | const c => exact absC_rel hx
  | global g => simp [ev] at hx
  | func f =>
    simp only [ev, Option.some.injEq] at hx
    subst hx
    simp only [VRel, Act.eval]
    exact ⟨#[], #[], rfl, by simp [VRels], by simp [VRels]⟩

theorem evs_rel {ρ Im w e} {a : Act} : ∀ {xs : List Operand} {vs : List AVal}, EnvRel P ρ Im w e a.tmps → evs e xs = some vs → VRels P ρ Im w vs (xs.map a.eval)
  | [], vs, h, hx => by simp only [evs, Option.some.injEq] at hx; subst hx; simp [VRels]
  | x :: xs, vs, h, hx => by
    simp only [evs] at hx
    split at hx
    · cases hx
    · rename_i v hv
      split at hx
      · cases hx
      · rename_i vs' hvs
        simp only [Option.some.injEq] at hx
        subst hx
        simp only [VRels, List.map_cons]
        exact ⟨_, _, rfl, ev_rel h hv, evs_rel h hvs⟩

theorem putE_rel {ρ Im w e} {a : Act} {dst : Option Tmp} {v : AVal} {v' : Value} {n : Nat} (h : EnvRel P ρ Im w e a.tmps) (hn : a.tmps.size = n)
    (hd : (dst.all fun d => Nat.blt d n) = true) (hv : VRel P ρ Im w v v') : EnvRel P ρ Im w (putE e dst v) (a.put dst v').tmps := by
  cases dst with
  | none => exact h
  | some d =>
    have hlt : d < a.tmps.size := by
      rw [hn]
      have : d + 1 ≤ n := by simpa [Nat.blt, Nat.ble_eq] using hd
      exact this
    intro s x hs
    simp only [putE, Env.get] at hs
    simp only [Act.put, Array.getD_eq_getD_getElem?, Array.getElem?_setIfInBounds]
    by_cases hds : d = s
    · subst hds
      simp only [Nat.beq_refl, cond_true, Option.some.injEq] at hs
      subst hs
      simpa [hlt] using hv
    · have hb : Nat.beq d s = false := by
        cases hbb : Nat.beq d s with
        | false => rfl
        | true => exact absurd (Nat.eq_of_beq_eq_true hbb) hds
      simp only [hb, cond_false] at hs
      have := h s x hs
      simpa [hds, Array.getD_eq_getD_getElem?] using this

theorem put_size (a : Act) (dst : Option Tmp) (v : Value) : (a.put dst v).tmps.size = a.tmps.size := by
  cases dst <;> simp [Act.put]
theorem put_defers (a : Act) (dst : Option Tmp) (v : Value) : (a.put dst v).defers = a.defers := by
  cases dst <;> simp [Act.put]

/-- From here on the function returns so. -/
def WP (P : Program) (fn : Func) (n : Nat) (new : List Nat) (R : AVal → AHeap → Prop) (todo : List Item) (env : Env) (h : AHeap) : Prop :=
  ∀ ρ Im w (a : Act) (b : Frame) (cs : List Frame) sup, St P ρ Im h w → Fresh ρ new sup → EnvRel P ρ Im w env a.tmps → a.tmps.size = n → a.defers = [] →
    ∃ a' w' todo', Steps P (lone (b.at a todo) cs w) (lone { b.at a' todo' with mode := .returning } cs w') ∧ a'.defers = [] ∧
      ∃ v' v h' ρ' Im', (results fn a'.tmps).run P w' = .ok v' w' ∧ R v h' ∧ VRel P ρ' Im' w' v v' ∧ Ev P ρ Im h w (okOf new sup) ρ' Im' h' w'

section
variable {fn : Func} {n : Nat} {new : List Nat} {R : AVal → AHeap → Prop} {env : Env} {h : AHeap} {k : List Item}

theorem WP.step {todo todo' : List Item} (hs : ∀ (b : Frame) (a : Act) cs w, step P (lone (b.at a todo) cs w) = .next (lone (b.at a todo') cs w))
    (hw : WP P fn n new R todo' env h) : WP P fn n new R todo env h := by
  intro ρ Im w a b cs sup s fr he hn hd
  obtain ⟨a', w', t', h1, h2⟩ := hw ρ Im w a b cs sup s fr he hn hd
  exact ⟨a', w', t', .head (hs b a cs w) h1, h2⟩

/-- Everything in a todo list that neither tests nor computes is gone through. -/
def nrm : Nat → List Item → List Item
  | 0, t => t
  | m + 1, t => match t with
    | .code .skip :: k => nrm m k
    | .code (.label _) :: k => nrm m k
    | .inBlock _ :: k => nrm m k
    | .inScope _ :: k => nrm m k
    | .code (.seq a b) :: k => nrm m (.code a :: .code b :: k)
    | .code (.block id c) :: k => nrm m (.code c :: .inBlock id :: k)
    | .code (.scope c) :: k => nrm m (.code c :: .inScope c :: k)
    | .code (.exit id) :: k => match exitTo id k with
      | some k' => nrm m k'
      | none => .code (.exit id) :: k
    | t => t

theorem WP.nrm (m : Nat) : ∀ {todo : List Item}, WP P fn n new R (nrm m todo) env h → WP P fn n new R todo env h := by
  induction m with
  | zero => exact fun h => h
  | succ m ih =>
    intro todo hw
    unfold Kw.nrm at hw
    split at hw
    · exact WP.step (fun b a cs w => step_skip) (ih hw)
    · exact WP.step (fun b a cs w => step_label) (ih hw)
    · exact WP.step (fun b a cs w => step_inBlock) (ih hw)
    · exact WP.step (fun b a cs w => step_lone_go (by simp [stepG, stepG.exec, Frame.at])) (ih hw)
    · exact WP.step (fun b a cs w => step_seq) (ih hw)
    · exact WP.step (fun b a cs w => step_block) (ih hw)
    · exact WP.step (fun b a cs w => step_lone_go (by simp [stepG, stepG.exec, Frame.at])) (ih hw)
    · split at hw
      · rename_i k' hk
        exact WP.step (fun b a cs w => step_exit hk) (ih hw)
      · exact hw
    · exact hw

theorem WP.loop {c : Code} (hw : WP P fn n new R (.code c :: .inLoop c :: k) env h) : WP P fn n new R (.code (.loop c) :: k) env h :=
  WP.step (fun b a cs w => step_loop) hw
theorem WP.inLoop {c : Code} (hw : WP P fn n new R (.code c :: .inLoop c :: k) env h) : WP P fn n new R (.inLoop c :: k) env h :=
  WP.step (fun b a cs w => step_inLoop) hw

theorem WP.cond {c : Operand} {x y : Code} {t : Bool} (hc : ev env c = some (.bool t)) (hw : WP P fn n new R (.code (if t then x else y) :: k) env h) :
    WP P fn n new R (.code (.cond c x y) :: k) env h := by
  intro ρ Im w a b cs sup s fr he hn hd
  obtain ⟨a', w', t', h1, h2⟩ := hw ρ Im w a b cs sup s fr he hn hd
  have := ev_rel he hc
  simp only [VRel] at this
  exact ⟨a', w', t', .head (step_cond this) h1, h2⟩

/-- What is known may be forgotten. -/
theorem WP.weaken {todo : List Item} {env' : Env} {h' : AHeap} (he : ∀ s v, Env.get env' s = some v → Env.get env s = some v) (hs : List.Sublist h' h)
    (hw : WP P fn n new R todo env' h') : WP P fn n new R todo env h := by
  intro ρ Im w a b cs sup s fr hen hn hd
  obtain ⟨a', w', t', h1, h2, v', v, h'', ρ', Im', h3, h4, h5, e⟩ := hw ρ Im w a b cs sup (s.sub hs) fr (fun s v hs => hen s v (he s v hs)) hn hd
  exact ⟨a', w', t', h1, h2, v', v, h'', ρ', Im', h3, h4, h5, e.subL hs⟩
end
end Go.Kw
