import Derived.Test.YtdnccchcflaphaaS6
namespace Go.Proofs.Try
set_option linter.unusedVariables false
set_option linter.unusedSimpArgs false
theorem eqT {a b : List UInt8} (h : a = b) : (a == b) = true := beq_iff_eq.2 h
theorem neF {a b : List UInt8} (h : a = b) : (!(a == b)) = false := by rw [beq_iff_eq.2 h]; rfl
theorem eat1_eq (b s : List UInt8) (hs : s.length = 64) : eat1 s b = eat s b := by
  unfold eat1 eat loopS
  have key : ∀ (l : List Nat) (s : List UInt8), s.length = 64 → l.foldl (eat1F b) s = l.foldl (eatF b) s := by
    intro l
    induction l with
    | nil => intro s _; simp only [List.foldl_nil]
    | cons i l ih =>
      intro s hs
      rw [List.foldl_cons, List.foldl_cons, show eat1F b s i = eatF b s i by unfold eat1F eatF absorb1 absorb; exact stir_eq _ (by simp [hs])]
      exact ih _ (by simp [eatF])
  exact key _ s hs
theorem xor32_take (s x y : List UInt8) (hx : 32 ≤ x.length) : xor32 s (x ++ y) = xor32 s x := by
  unfold xor32 loopS
  have key : ∀ (l : List Nat) (s : List UInt8), (∀ i ∈ l, i < 32) → l.foldl (xorF (x ++ y)) s = l.foldl (xorF x) s := by
    intro l
    induction l with
    | nil => intro s _; simp only [List.foldl_nil]
    | cons i l ih =>
      intro s hl
      have hi := hl i (by simp)
      rw [List.foldl_cons, List.foldl_cons, ih _ fun k hk => hl k (by simp [hk])]
      congr 1
      unfold xorF
      rw [getElem!_pos (x ++ y) i (by simp; omega), getElem!_pos x i (by omega), List.getElem_append_left (by omega)]
  exact key _ s fun i hi => by simp [List.mem_range'] at hi; omega
theorem absorb_take (s x y : List UInt8) (hx : 32 ≤ x.length) : absorb s (x ++ y) = absorb s x := by
  unfold absorb; rw [xor32_take s x y hx]
theorem eat_short (s x : List UInt8) (hx : x.length < 32) : eat s x = s := by
  unfold eat; rw [Nat.div_eq_of_lt hx]; exact loopS_end
theorem eat_long (s x : List UInt8) (hx : 32 ≤ x.length) : eat s x = eat (absorb s x) (x.drop 32) := by
  unfold eat
  have e : x.length / 32 = (x.drop 32).length / 32 + 1 := by rw [List.length_drop]; omega
  rw [e]
  generalize (x.drop 32).length / 32 = m
  unfold loopS
  rw [Nat.sub_zero, Nat.sub_zero, List.range'_succ, List.foldl_cons, show eatF x s 0 = absorb s x by simp [eatF]]
  generalize absorb s x = u
  have key : ∀ n k (u : List UInt8), (List.range' (k + 1) n).foldl (eatF x) u = (List.range' k n).foldl (eatF (x.drop 32)) u := by
    intro n
    induction n with
    | zero => intro k u; simp only [List.range'_zero, List.foldl_nil]
    | succ n ih =>
      intro k u
      have e2 : eatF x u (k + 1) = eatF (x.drop 32) u k := by
        simp only [eatF, List.drop_drop]
        rw [show 32 + 32 * k = 32 * (k + 1) by omega]
      rw [List.range'_succ, List.range'_succ, List.foldl_cons, List.foldl_cons, ih, e2]
  exact key m 0 u
theorem eat_append (q : Nat) : ∀ (s A B : List UInt8), A.length = 32 * q → eat s (A ++ B) = eat (eat s A) B := by
  induction q with
  | zero =>
    intro s A B h
    have : A = [] := List.eq_nil_of_length_eq_zero (by omega)
    subst this
    rw [eat_short s [] (by simp), List.nil_append]
  | succ q ih =>
    intro s A B h
    rw [eat_long s (A ++ B) (by simp; omega), eat_long s A (by omega), absorb_take s A B (by omega), List.drop_append_of_le_length (by omega)]
    exact ih _ _ _ (by rw [List.length_drop]; omega)
/-- The summer has taken this text. -/
structure Canon (d : Nat) (T : List UInt8) (z : Sm) : Prop where
  ok : z.ok
  s : z.s = eat (initS d) T
  h : z.h = T.length % 32
  r : z.r.take z.h = T.drop (32 * (T.length / 32))
theorem canon_init (d : Nat) : Canon d [] ⟨initS d, List.replicate 32 0, 0⟩ where
  ok := ⟨by simp, by simp, by simp⟩
  s := (eat_short _ [] (by simp)).symm
  h := rfl
  r := rfl
theorem split_rest (T x : List UInt8) : (T ++ x).drop (32 * ((T ++ x).length / 32)) = (T.drop (32 * (T.length / 32)) ++ x).drop (32 * ((T.drop (32 * (T.length / 32)) ++ x).length / 32)) := by
  have h1 : T.length = 32 * (T.length / 32) + T.length % 32 := by omega
  have h2 : (T.drop (32 * (T.length / 32)) ++ x).length = T.length % 32 + x.length := by rw [List.length_append, List.length_drop]; omega
  have h3 : (T ++ x).length / 32 = T.length / 32 + (T.length % 32 + x.length) / 32 := by rw [List.length_append]; omega
  rw [h2, h3, Nat.mul_add, ← List.drop_drop, List.drop_append_of_le_length (by omega)]
theorem eat_rest (s T x : List UInt8) : eat s (T ++ x) = eat (eat s T) (T.drop (32 * (T.length / 32)) ++ x) := by
  have h1 : (T.take (32 * (T.length / 32))).length = 32 * (T.length / 32) := by rw [List.length_take]; omega
  have e1 : eat s T = eat s (T.take (32 * (T.length / 32))) := by
    have := eat_append _ s (T.take (32 * (T.length / 32))) (T.drop (32 * (T.length / 32))) h1
    rw [List.take_append_drop] at this
    rw [this]
    exact eat_short _ _ (by rw [List.length_drop]; omega)
  rw [e1, ← eat_append _ _ _ _ h1, ← List.append_assoc, List.take_append_drop]
theorem canon_take {d : Nat} {T : List UInt8} {z : Sm} (c : Canon d T z) (x : List UInt8) : Canon d (T ++ x) (takeS z x) := by
  obtain ⟨s, r, h⟩ := z
  obtain ⟨hok, hs, hh, hr⟩ := c
  have hok' := takeS_ok x hok
  obtain ⟨k1, k2, k3⟩ := hok
  simp only at hs hh hr k1 k2 k3
  have hU : (T.drop (32 * (T.length / 32))).length = h := by rw [List.length_drop]; omega
  have hlen : (T ++ x).length % 32 = (h + x.length) % 32 := by rw [List.length_append]; omega
  generalize hU' : T.drop (32 * (T.length / 32)) = U at hU hr
  have hsp := split_rest T x
  have hea := eat_rest (initS d) T x
  rw [hU'] at hsp hea
  rw [← hs] at hea
  have key : (takeS ⟨s, r, h⟩ x).s = eat s (U ++ x) ∧ (takeS ⟨s, r, h⟩ x).h = (h + x.length) % 32 ∧
      (takeS ⟨s, r, h⟩ x).r.take (takeS ⟨s, r, h⟩ x).h = (U ++ x).drop (32 * ((U ++ x).length / 32)) := by
    rcases Nat.eq_zero_or_pos h with h0 | h0
    · subst h0
      have : U = [] := List.eq_nil_of_length_eq_zero hU
      subst this
      rw [takeS_A]
      refine ⟨rfl, by simp [takeB], ?_⟩
      simp only [takeB, List.nil_append]
      rw [List.take_append_of_le_length (by rw [List.length_drop]; omega), List.take_of_length_le (by rw [List.length_drop]; omega)]
    · by_cases hx : h + x.length < 32
      · rw [takeS_B s r x h h0 hx]
        have hl : (U ++ x).length < 32 := by rw [List.length_append]; omega
        refine ⟨(eat_short s _ hl).symm, by simp only; omega, ?_⟩
        simp only
        rw [Nat.div_eq_of_lt hl, Nat.mul_zero, List.drop_zero, hr, List.take_length, List.take_append_of_le_length (by rw [List.length_append]; omega), List.take_of_length_le (by rw [List.length_append]; omega)]
      · rw [takeS_C s r x h h0 k3 (by omega)]
        have hR : r.take h ++ x.take (32 - h) ++ r.drop (h + (32 - h)) = U ++ x.take (32 - h) := by
          rw [hr, List.drop_eq_nil_of_le (by omega), List.append_nil]
        rw [hR]
        have hxs : x = x.take (32 - h) ++ x.drop (32 - h) := (List.take_append_drop _ _).symm
        have hl32 : (U ++ x.take (32 - h)).length = 32 := by rw [List.length_append, List.length_take]; omega
        have e1 : U ++ x = (U ++ x.take (32 - h)) ++ x.drop (32 - h) := by rw [List.append_assoc, List.take_append_drop]
        have e2 : eat s (U ++ x) = eat (absorb s (U ++ x.take (32 - h))) (x.drop (32 - h)) := by
          rw [e1, eat_long _ _ (by rw [List.length_append]; omega), absorb_take _ _ _ (by omega), List.drop_append_of_le_length (by omega), List.drop_eq_nil_of_le (by omega), List.nil_append]
        have hxl : (x.drop (32 - h)).length = x.length - (32 - h) := List.length_drop
        refine ⟨by rw [e2]; rfl, by simp only [takeB, hxl]; omega, ?_⟩
        have e3 : (U ++ x).drop (32 * ((U ++ x).length / 32)) = (x.drop (32 - h)).drop (32 * ((x.drop (32 - h)).length / 32)) := by
          have : (U ++ x).length / 32 = 1 + (x.drop (32 - h)).length / 32 := by rw [List.length_append, hxl]; omega
          rw [this, Nat.mul_add, ← List.drop_drop, e1, List.drop_append_of_le_length (show 32 * 1 ≤ (U ++ x.take (32 - h)).length by omega), List.drop_eq_nil_of_le (show (U ++ x.take (32 - h)).length ≤ 32 * 1 by omega), List.nil_append]
        rw [e3]
        simp only [takeB]
        rw [List.take_append_of_le_length (by simp only [List.length_drop]; omega), List.take_of_length_le (by simp only [List.length_drop]; omega)]
  exact ⟨hok', by rw [key.1, hea], by rw [key.2.1, hlen], by rw [key.2.2, hsp]⟩
theorem sum_same {d : Nat} {T : List UInt8} {z : Sm} (c : Canon d T z) : endS z T.length = state1 d T := by
  have c1 := canon_take c [128]
  have c2 : Canon d (T ++ [128] ++ List.replicate (padN T.length) 0) (endZ z) := by
    have hh : (takeS z [128]).h = (T.length + 1) % 32 := by rw [c1.h]; simp
    unfold endZ
    dsimp only
    split
    · have := canon_take c1 (List.replicate (32 - (takeS z [128]).h) 0)
      rwa [show 32 - (takeS z [128]).h = padN T.length by unfold padN; omega] at this ⊢
    · have h0 : padN T.length = 0 := by unfold padN; omega
      rw [h0]; simpa using c1
  have hl : (T ++ [128] ++ List.replicate (padN T.length) 0).length = 32 * ((T.length + 1 + padN T.length) / 32) := by
    simp [padN]; omega
  unfold endS state1
  rw [eat1_eq _ _ (by simp), c2.s]
  have e : padded T = (T ++ [128] ++ List.replicate (padN T.length) 0) ++ lastB T.length := by
    unfold padded lastB; rw [long_eq]; simp
  rw [e, eat_append _ _ _ _ hl, eat_long _ (lastB _) (by simp), eat_short (absorb _ _) ((lastB _).drop 32) (by simp)]
theorem sums_same {d : Nat} {T : List UInt8} {z : Sm} (c : Canon d T z) : sumS z T.length = sum1 d T := by
  unfold sumS sum1; rw [sum_same c]
end Go.Proofs.Try
