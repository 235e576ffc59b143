import Derived.Test.YtdnccchcflaphaaF21
namespace Go.Kw
set_option linter.unusedVariables false
set_option linter.unusedSimpArgs false
variable {P : Program}

theorem subE.nil {e : Env} : subE [] e := trivial
theorem subE.cons {e r : Env} {s : Nat} {v : AVal} (h : e.get s = some v) (hr : subE r e) : subE ((s, v) :: r) e := ⟨h, hr⟩

theorem OpV.boolT {o : Oper} {vs : List AVal} {F F' : AHeap} {new : List Nat} {p : Prop} {dp : Decidable p} (h : OpV P o vs F new (.bool (decide p)) F') (hp : p) : OpV P o vs F new (.bool true) F' := by
  rwa [decide_eq_true hp] at h
theorem OpV.boolF {o : Oper} {vs : List AVal} {F F' : AHeap} {new : List Nat} {p : Prop} {dp : Decidable p} (h : OpV P o vs F new (.bool (decide p)) F') (hp : ¬ p) : OpV P o vs F new (.bool false) F' := by
  rwa [decide_eq_false hp] at h
theorem OpV.boolE {o : Oper} {vs : List AVal} {F F' : AHeap} {new : List Nat} {t u : Bool} (h : OpV P o vs F new (.bool t) F') (ht : t = u) : OpV P o vs F new (.bool u) F' := ht ▸ h
theorem OpV.to {o : Oper} {vs : List AVal} {F F' : AHeap} {new : List Nat} {v u : AVal} (h : OpV P o vs F new v F') (ht : v = u) : OpV P o vs F new u F' := ht ▸ h
theorem OpV.toH {o : Oper} {vs : List AVal} {F F' F'' : AHeap} {new : List Nat} {v u : AVal} (h : OpV P o vs F new v F') (ht : v = u) (hF : F' = F'') : OpV P o vs F new u F'' := ht ▸ hF ▸ h

section
variable {fn : Func} {n : Nat} {new : List Nat} {R : AVal → AHeap → Prop} {env : Env} {h : AHeap} {k : List Item} {c : Code}
theorem WP.loopX {α : Type} (E : α → Env) (H : α → AHeap) (I : α → Prop) (m : α → Nat) (x0 : α) (he : subE (E x0) env) (hh : List.Sublist (H x0) h) (h0 : I x0)
    (step : ∀ x, I x → (∀ y, I y → m y < m x → WP P fn n new R (.inLoop c :: k) (E y) (H y)) → WP P fn n new R (.code c :: .inLoop c :: k) (E x) (H x)) :
    WP P fn n new R (.code (.loop c) :: k) env h := by
  refine WP.loop (WP.jump he hh ?_)
  have key : ∀ M x, m x ≤ M → I x → WP P fn n new R (.code c :: .inLoop c :: k) (E x) (H x) := by
    intro M
    induction M with
    | zero => intro x hm hI; exact step x hI fun y _ hlt => absurd hlt (by omega)
    | succ M ih => intro x hm hI; exact step x hI fun y hy hlt => WP.inLoop (ih y (by omega) hy)
  exact key _ x0 (Nat.le_refl _) h0
theorem WP.loop1 {A : Type} (E : A → Env) (H : A → AHeap) (I : A → Prop) (m : A → Nat) (a0 : A) (he : subE (E a0) env) (hh : List.Sublist (H a0) h) (h0 : I a0)
    (step : ∀ a, I a → (∀ a', I a' → m a' < m a → WP P fn n new R (.inLoop c :: k) (E a') (H a')) → WP P fn n new R (.code c :: .inLoop c :: k) (E a) (H a)) :
    WP P fn n new R (.code (.loop c) :: k) env h := WP.loopX E H I m a0 he hh h0 step
theorem WP.loop2 {A B : Type} (E : A → B → Env) (H : A → B → AHeap) (I : A → B → Prop) (m : A → B → Nat) (a0 : A) (b0 : B) (he : subE (E a0 b0) env) (hh : List.Sublist (H a0 b0) h) (h0 : I a0 b0)
    (step : ∀ a b, I a b → (∀ a' b', I a' b' → m a' b' < m a b → WP P fn n new R (.inLoop c :: k) (E a' b') (H a' b')) → WP P fn n new R (.code c :: .inLoop c :: k) (E a b) (H a b)) :
    WP P fn n new R (.code (.loop c) :: k) env h :=
  WP.loopX (fun x : A × B => E x.1 x.2) (fun x => H x.1 x.2) (fun x => I x.1 x.2) (fun x => m x.1 x.2) (a0, b0) he hh h0 fun x hI hn => step x.1 x.2 hI fun a' b' h1 h2 => hn (a', b') h1 h2
theorem WP.loop3 {A B C : Type} (E : A → B → C → Env) (H : A → B → C → AHeap) (I : A → B → C → Prop) (m : A → B → C → Nat) (a0 : A) (b0 : B) (c0 : C) (he : subE (E a0 b0 c0) env) (hh : List.Sublist (H a0 b0 c0) h) (h0 : I a0 b0 c0)
    (step : ∀ a b d, I a b d → (∀ a' b' d', I a' b' d' → m a' b' d' < m a b d → WP P fn n new R (.inLoop c :: k) (E a' b' d') (H a' b' d')) → WP P fn n new R (.code c :: .inLoop c :: k) (E a b d) (H a b d)) :
    WP P fn n new R (.code (.loop c) :: k) env h :=
  WP.loopX (fun x : A × B × C => E x.1 x.2.1 x.2.2) (fun x => H x.1 x.2.1 x.2.2) (fun x => I x.1 x.2.1 x.2.2) (fun x => m x.1 x.2.1 x.2.2) (a0, b0, c0) he hh h0
    fun x hI hn => step x.1 x.2.1 x.2.2 hI fun a' b' d' h1 h2 => hn (a', b', d') h1 h2
theorem WP.loop4 {A B C D : Type} (E : A → B → C → D → Env) (H : A → B → C → D → AHeap) (I : A → B → C → D → Prop) (m : A → B → C → D → Nat) (a0 : A) (b0 : B) (c0 : C) (d0 : D) (he : subE (E a0 b0 c0 d0) env) (hh : List.Sublist (H a0 b0 c0 d0) h) (h0 : I a0 b0 c0 d0)
    (step : ∀ a b d e, I a b d e → (∀ a' b' d' e', I a' b' d' e' → m a' b' d' e' < m a b d e → WP P fn n new R (.inLoop c :: k) (E a' b' d' e') (H a' b' d' e')) → WP P fn n new R (.code c :: .inLoop c :: k) (E a b d e) (H a b d e)) :
    WP P fn n new R (.code (.loop c) :: k) env h :=
  WP.loopX (fun x : A × B × C × D => E x.1 x.2.1 x.2.2.1 x.2.2.2) (fun x => H x.1 x.2.1 x.2.2.1 x.2.2.2) (fun x => I x.1 x.2.1 x.2.2.1 x.2.2.2) (fun x => m x.1 x.2.1 x.2.2.1 x.2.2.2) (a0, b0, c0, d0) he hh h0
    fun x hI hn => step x.1 x.2.1 x.2.2.1 x.2.2.2 hI fun a' b' d' e' h1 h2 => hn (a', b', d', e') h1 h2
end
end Go.Kw
