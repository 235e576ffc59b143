import Derived.Test.YtdnccchcflaphaaF4
namespace Go.Kw
set_option linter.unusedVariables false
variable {P : Program}

/-! ### Versions of a map whose entries are changed step by step -/
section ver
variable {X α : Type} (val : Nat → X → α) (upd : Nat → X → Bool)
def ver (S : Nat → Bool) : Nat → X → α
  | 0, x => val 0 x
  | i + 1, x => if (S i && upd i x) = true then val (i + 1) x else ver S i x

variable {val upd}
theorem ver_to {S : Nat → Bool} (fr : ∀ i x, upd i x = false → val (i + 1) x = val i x) {x : X} : ∀ (j : Nat),
    (∀ i, i < j → upd i x = true → S i = true) → ver val upd S j x = val j x
  | 0, _ => rfl
  | j + 1, h => by
    rw [ver]
    cases hu : upd j x with
    | true => rw [h j (by omega) hu]; rfl
    | false =>
      rw [Bool.and_false, if_neg (by simp), ver_to fr j (fun i hi => h i (by omega)), fr j x hu]
theorem ver_from {S : Nat → Bool} {x : X} (j : Nat) : ∀ (n : Nat), j ≤ n → (∀ i, j ≤ i → i < n → upd i x = true → S i = false) →
    ver val upd S n x = ver val upd S j x
  | 0, hj, _ => by
    have : j = 0 := by omega
    subst this; rfl
  | n + 1, hj, h => by
    by_cases e : j = n + 1
    · subst e; rfl
    · rw [ver]
      have h' : (S n && upd n x) = false := by
        cases hu : upd n x with
        | true => rw [h n (by omega) (by omega) hu]; rfl
        | false => simp
      rw [h', if_neg (by simp)]
      exact ver_from j n (by omega) fun i h1 h2 => h i h1 (by omega)
theorem ver_read {S : Nat → Bool} (fr : ∀ i x, upd i x = false → val (i + 1) x = val i x) {x : X} {j n : Nat} (hj : j ≤ n)
    (h1 : ∀ i, i < j → upd i x = true → S i = true) (h2 : ∀ i, j ≤ i → i < n → upd i x = true → S i = false) : ver val upd S n x = val j x := by
  rw [ver_from j n hj h2, ver_to fr j h1]
theorem ver_same {S S' : Nat → Bool} {x : X} {j : Nat} (hu : upd j x = false) (hS : ∀ i, i ≠ j → S' i = S i) : ∀ n, ver val upd S' n x = ver val upd S n x
  | 0 => rfl
  | n + 1 => by
    rw [ver, ver, ver_same hu hS n]
    by_cases e : n = j
    · subst e; simp [hu]
    · rw [hS n e]
theorem ver_write {S S' : Nat → Bool} {x : X} {j n : Nat} (hj : j < n) (hu : upd j x = true) (hS' : S' j = true) (hS : ∀ i, i ≠ j → S' i = S i)
    (h2 : ∀ i, j < i → i < n → upd i x = true → S i = false) : ver val upd S' n x = val (j + 1) x := by
  rw [ver_from (j + 1) n hj fun i h1 h3 hu' => by rw [hS i (by omega)]; exact h2 i (by omega) h3 hu']
  rw [ver, hS', hu]; rfl
end ver

/-- One step of a region. -/
inductive Step1 (P : Program) (n : Nat) (ops : Array Oper) (nm : Nat → Nat) (o : Oper) : Nat → Env → AHeap → Rec → Nat → Env → AHeap → Prop
  | skip {p env h} (hg : guardE ops env o = some false) (hd : dstOk n o = true) : Step1 P n ops nm o p env h ⟨[], false, 0⟩ p (putE env o.dst (.tup [])) h
  | op {p env h vs v ps F G N k wr} (hg : guardE ops env o = some true) (hd : dstOk n o = true) (hv : evs env o.op.operands.toList = some vs)
      (hs : sel h ps = some F) (hn : nodupB ps = true) (hG : G.length = ps.length) (hw : wr = true ∨ G = F)
      (ho : OpV P o vs F ((List.range' p k).map nm) v (G ++ N)) :
      Step1 P n ops nm o p env h ⟨ps, wr, N.length⟩ (p + k) (putE env o.dst v) (setAll h ps G ++ N)

theorem RegD.trace {n ops nm os p env h recs env' h' p'} (hd : RegD P n ops nm os p env h recs env' h' p') :
    ∃ (es : Nat → Env) (hs : Nat → AHeap) (pn : Nat → Nat), es 0 = env ∧ hs 0 = h ∧ pn 0 = p ∧ es os.length = env' ∧ hs os.length = h' ∧ recs.length = os.length ∧
      ∀ i o r, os[i]? = some o → recs[i]? = some r → Step1 P n ops nm o (pn i) (es i) (hs i) r (pn (i + 1)) (es (i + 1)) (hs (i + 1)) := by
  induction hd with
  | @done p env h => exact ⟨fun _ => env, fun _ => h, fun _ => p, rfl, rfl, rfl, rfl, rfl, rfl, fun i o r ho => by simp at ho⟩
  | @skip o os p env h cls env' h' p' hg hd rest ih =>
    obtain ⟨es, hs, pn, h1, h2, h3, h4, h5, h6, h7⟩ := ih
    refine ⟨fun | 0 => env | i + 1 => es i, fun | 0 => h | i + 1 => hs i, fun | 0 => p | i + 1 => pn i, rfl, rfl, rfl, h4, h5, by simp [h6], ?_⟩
    intro i o' r ho hr
    cases i with
    | zero =>
      simp only [List.getElem?_cons_zero, Option.some.injEq] at ho hr
      subst ho; subst hr
      simp only [h1, h2, h3]
      exact .skip hg hd
    | succ i =>
      simp only [List.getElem?_cons_succ] at ho hr
      exact h7 i o' r ho hr
  | @op o os p env h vs v ps F G N k wr cls env' h' p' hg hd hv hs hn hG hw ho rest ih =>
    obtain ⟨es, hss, pn, h1, h2, h3, h4, h5, h6, h7⟩ := ih
    refine ⟨fun | 0 => env | i + 1 => es i, fun | 0 => h | i + 1 => hss i, fun | 0 => p | i + 1 => pn i, rfl, rfl, rfl, h4, h5, by simp [h6], ?_⟩
    intro i o' r ho' hr
    cases i with
    | zero =>
      simp only [List.getElem?_cons_zero, Option.some.injEq] at ho' hr
      subst ho'; subst hr
      simp only [h1, h2, h3]
      exact .op hg hd hv hs hn hG hw ho
    | succ i =>
      simp only [List.getElem?_cons_succ] at ho' hr
      exact h7 i o' r ho' hr

/-! ### The look that allows every order -/

def direct (o : Oper) : List Nat := (o.after.toList.filter (Region.binds .any)).map (·.on)
def maskOf (acc : List Nat) (o : Oper) : Nat := (direct o).foldl (fun m j => m ||| (2 ^ j ||| acc.getD j 0)) 0
def masks : List Oper → List Nat → List Nat
  | [], acc => acc
  | o :: os, acc => masks os (acc ++ [maskOf acc o])

def disj (ps qs : List Nat) : Bool := ps.all fun p => !qs.elem p
def madeB (lo k : Nat) (ps : List Nat) : Bool := ps.any fun p => Nat.ble lo p && Nat.blt p (lo + k)

/-- May i and j (i ahead of j in the text) be done in either order? lo: the heap's length ahead of i. -/
def apartB (ops : Array Oper) (x y : Oper) (r s : Rec) (lo : Nat) : Bool :=
  x.apart ops y && !((r.wr || s.wr) && !disj r.ps s.ps) && !madeB lo r.cre s.ps

def pairsB (ops : Array Oper) (x : Oper) (r : Rec) (lo i : Nat) : List Oper → List Rec → List Nat → Bool
  | y :: os, s :: rs, m :: ms => (Nat.testBit m i || apartB ops x y r s lo) && pairsB ops x r lo i os rs ms
  | _, _, _ => true
def allPairsB (ops : Array Oper) : Nat → Nat → List Oper → List Rec → List Nat → Bool
  | lo, i, x :: os, r :: rs, _ :: ms => pairsB ops x r lo i os rs ms && allPairsB ops (lo + r.cre) (i + 1) os rs ms
  | _, _, _, _, _ => true
def dstsB : List Oper → Bool
  | [] => true
  | o :: os => (match o.dst with | none => true | some d => os.all fun y => match y.dst with | none => true | some e => !Nat.beq d e) && dstsB os
def edgesB : Nat → List Oper → Bool
  | _, [] => true
  | i, o :: os => ((direct o).all fun j => Nat.blt j i) && edgesB (i + 1) os

def orderOk (ops : Array Oper) (recs : List Rec) (lo : Nat) : Bool :=
  edgesB 0 ops.toList && dstsB ops.toList && allPairsB ops lo 0 ops.toList recs (masks ops.toList [])

theorem masks_length : ∀ (os : List Oper) (acc : List Nat), (masks os acc).length = acc.length + os.length
  | [], acc => by simp [masks]
  | o :: os, acc => by rw [masks, masks_length os]; simp; omega
theorem masks_prefix : ∀ (os : List Oper) (acc : List Nat), acc <+: masks os acc
  | [], acc => List.prefix_refl _
  | o :: os, acc => (List.prefix_append _ _).trans (masks_prefix os _)
theorem masks_at : ∀ (os : List Oper) (acc : List Nat) (j : Nat) (o : Oper), os[j]? = some o →
    ∃ acc', acc' <+: masks os acc ∧ acc'.length = acc.length + j ∧ (masks os acc)[acc.length + j]? = some (maskOf acc' o)
  | [], acc, j, o, h => by simp at h
  | x :: os, acc, 0, o, h => by
    simp only [List.getElem?_cons_zero, Option.some.injEq] at h
    subst h
    refine ⟨acc, masks_prefix _ _, by simp, ?_⟩
    rw [masks]
    have := masks_prefix os (acc ++ [maskOf acc x])
    obtain ⟨t, ht⟩ := this
    rw [← ht]
    simp
  | x :: os, acc, j + 1, o, h => by
    simp only [List.getElem?_cons_succ] at h
    obtain ⟨acc', h1, h2, h3⟩ := masks_at os (acc ++ [maskOf acc x]) j o h
    simp only [List.length_append, List.length_cons, List.length_nil] at h2 h3
    refine ⟨acc', by rw [masks]; exact h1, by omega, ?_⟩
    rw [masks, show acc.length + (j + 1) = acc.length + (0 + 1) + j from by omega]
    exact h3

theorem fold_bit (acc : List Nat) (i : Nat) : ∀ (ds : List Nat) (m : Nat), (ds.foldl (fun m j => m ||| (2 ^ j ||| acc.getD j 0)) m).testBit i = true →
    m.testBit i = true ∨ ∃ d ∈ ds, i = d ∨ (acc.getD d 0).testBit i = true
  | [], m, h => .inl h
  | d :: ds, m, h => by
    rw [List.foldl_cons] at h
    rcases fold_bit acc i ds _ h with h | ⟨e, he, h⟩
    · rw [Nat.testBit_or, Nat.testBit_or, Nat.testBit_two_pow] at h
      simp only [Bool.or_eq_true, decide_eq_true_eq] at h
      rcases h with h | h | h
      · exact .inl h
      · exact .inr ⟨d, by simp, .inl h.symm⟩
      · exact .inr ⟨d, by simp, .inr h⟩
    · exact .inr ⟨e, by simp [he], h⟩

theorem edgesB_spec : ∀ (os : List Oper) (i : Nat), edgesB i os = true → ∀ j o, os[j]? = some o → ∀ d ∈ direct o, d < i + j
  | [], i, _, j, o, h => by simp at h
  | x :: os, i, hb, 0, o, h => by
    simp only [List.getElem?_cons_zero, Option.some.injEq] at h
    subst h
    simp only [edgesB, Bool.and_eq_true, List.all_eq_true] at hb
    intro d hd
    have := hb.1 d hd
    have : d + 1 ≤ i := by simpa [Nat.blt, Nat.ble_eq] using this
    omega
  | x :: os, i, hb, j + 1, o, h => by
    simp only [List.getElem?_cons_succ] at h
    simp only [edgesB, Bool.and_eq_true] at hb
    intro d hd
    have := edgesB_spec os (i + 1) hb.2 j o h d hd
    omega

theorem masks_closed {os : List Oper} (he : edgesB 0 os = true) {S : Nat → Bool} (hc : ∀ j o, os[j]? = some o → S j = true → ∀ d ∈ direct o, S d = true) :
    ∀ (j : Nat) (o : Oper), os[j]? = some o → (∀ d ∈ direct o, S d = true) → ∀ m, (masks os [])[j]? = some m → ∀ i, m.testBit i = true → S i = true := by
  intro j
  induction j using Nat.strongRecOn with
  | ind j ih =>
    intro o ho hd m hm i hi
    obtain ⟨acc', h1, h2, h3⟩ := masks_at os [] j o ho
    simp only [List.length_nil, Nat.zero_add] at h2 h3
    rw [hm] at h3
    simp only [Option.some.injEq] at h3
    subst h3
    rcases fold_bit acc' i _ _ hi with h | ⟨d, hdd, h | h⟩
    · simp at h
    · subst h; exact hd i hdd
    · have hlt : d < j := by
        have := edgesB_spec os 0 he j o ho d hdd
        omega
      have hos : ∃ o', os[d]? = some o' := by
        have : j < os.length := (List.getElem?_eq_some_iff.1 ho).1
        exact ⟨os[d], List.getElem?_eq_getElem (by omega)⟩
      obtain ⟨o', ho'⟩ := hos
      refine ih d hlt o' ho' (hc d o' ho' (hd d hdd)) (acc'.getD d 0) ?_ i h
      obtain ⟨t, ht⟩ := h1
      rw [← ht, List.getElem?_append_left (by omega), List.getD_eq_getElem?_getD, List.getElem?_eq_getElem (by omega)]
      rfl

theorem pairsB_spec {ops : Array Oper} {x : Oper} {r : Rec} {lo i : Nat} : ∀ (os : List Oper) (rs : List Rec) (ms : List Nat), pairsB ops x r lo i os rs ms = true →
    ∀ (k : Nat) (y : Oper) (s : Rec) (m : Nat), os[k]? = some y → rs[k]? = some s → ms[k]? = some m → m.testBit i = true ∨ apartB ops x y r s lo = true
  | [], _, _, _, k, y, s, m, h1, _, _ => by simp at h1
  | _ :: _, [], _, _, k, y, s, m, _, h2, _ => by simp at h2
  | _ :: _, _ :: _, [], _, k, y, s, m, _, _, h3 => by simp at h3
  | o :: os, r' :: rs, m' :: ms, hb, 0, y, s, m, h1, h2, h3 => by
    simp only [List.getElem?_cons_zero, Option.some.injEq] at h1 h2 h3
    subst h1; subst h2; subst h3
    simp only [pairsB, Bool.and_eq_true, Bool.or_eq_true] at hb
    exact hb.1
  | o :: os, r' :: rs, m' :: ms, hb, k + 1, y, s, m, h1, h2, h3 => by
    simp only [List.getElem?_cons_succ] at h1 h2 h3
    simp only [pairsB, Bool.and_eq_true] at hb
    exact pairsB_spec os rs ms hb.2 k y s m h1 h2 h3

theorem allPairsB_spec {ops : Array Oper} (lens : Nat → Nat) : ∀ (os : List Oper) (rs : List Rec) (ms : List Nat) (lo i : Nat), allPairsB ops lo i os rs ms = true →
    lens i = lo → (∀ k r, rs[k]? = some r → lens (i + k + 1) = lens (i + k) + r.cre) →
    ∀ (a b : Nat) (x y : Oper) (r s : Rec) (m : Nat), a < b → os[a]? = some x → os[b]? = some y → rs[a]? = some r → rs[b]? = some s → ms[b]? = some m →
      m.testBit (i + a) = true ∨ apartB ops x y r s (lens (i + a)) = true
  | [], _, _, _, _, _, _, _, a, b, x, y, r, s, m, _, h1, _, _, _, _ => by simp at h1
  | _ :: _, [], _, _, _, _, _, _, a, b, x, y, r, s, m, _, _, _, h3, _, _ => by simp at h3
  | _ :: _, _ :: _, [], _, _, _, _, _, a, b, x, y, r, s, m, _, _, _, _, _, h5 => by simp at h5
  | o :: os, r' :: rs, m' :: ms, lo, i, hb, hl, hs, 0, b, x, y, r, s, m, hab, h1, h2, h3, h4, h5 => by
    simp only [List.getElem?_cons_zero, Option.some.injEq] at h1 h3
    subst h1; subst h3
    simp only [allPairsB, Bool.and_eq_true] at hb
    obtain ⟨b, rfl⟩ : ∃ c, b = c + 1 := ⟨b - 1, by omega⟩
    simp only [List.getElem?_cons_succ] at h2 h4 h5
    have := pairsB_spec os rs ms hb.1 b y s m h2 h4 h5
    rw [Nat.add_zero, hl]
    exact this
  | o :: os, r' :: rs, m' :: ms, lo, i, hb, hl, hs, a + 1, b, x, y, r, s, m, hab, h1, h2, h3, h4, h5 => by
    simp only [allPairsB, Bool.and_eq_true] at hb
    obtain ⟨b, rfl⟩ : ∃ c, b = c + 1 := ⟨b - 1, by omega⟩
    simp only [List.getElem?_cons_succ] at h1 h2 h3 h4 h5
    have h0 := hs 0 r' rfl
    have := allPairsB_spec lens os rs ms (lo + r'.cre) (i + 1) hb.2 (by rw [← hl]; exact h0)
      (fun k r hk => by
        have := hs (k + 1) r (by simpa using hk)
        rw [show i + 1 + k = i + (k + 1) from by omega]; exact this) a b x y r s m (by omega) h1 h2 h3 h4 h5
    rw [show i + 1 + a = i + (a + 1) from by omega] at this
    exact this

theorem dstsB_spec : ∀ (os : List Oper), dstsB os = true → ∀ (a b : Nat) x y d, os[a]? = some x → os[b]? = some y → x.dst = some d → y.dst = some d → a = b
  | [], _, a, b, x, y, d, h, _, _, _ => by simp at h
  | o :: os, hb, 0, 0, _, _, _, _, _, _, _ => rfl
  | o :: os, hb, 0, b + 1, x, y, d, h1, h2, h3, h4 => by
    simp only [List.getElem?_cons_zero, Option.some.injEq, List.getElem?_cons_succ] at h1 h2
    subst h1
    simp only [dstsB, Bool.and_eq_true, h3, List.all_eq_true] at hb
    have := hb.1 y (List.mem_of_getElem? h2)
    simp [h4] at this
  | o :: os, hb, a + 1, 0, x, y, d, h1, h2, h3, h4 => by
    simp only [List.getElem?_cons_zero, Option.some.injEq, List.getElem?_cons_succ] at h1 h2
    subst h2
    simp only [dstsB, Bool.and_eq_true, h4, List.all_eq_true] at hb
    have := hb.1 x (List.mem_of_getElem? h1)
    simp [h3] at this
  | o :: os, hb, a + 1, b + 1, x, y, d, h1, h2, h3, h4 => by
    simp only [List.getElem?_cons_succ] at h1 h2
    simp only [dstsB, Bool.and_eq_true] at hb
    rw [dstsB_spec os hb.2 a b x y d h1 h2 h3 h4]

end Go.Kw
