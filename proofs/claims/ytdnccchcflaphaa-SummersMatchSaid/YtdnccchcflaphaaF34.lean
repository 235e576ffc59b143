import Derived.Test.YtdnccchcflaphaaF33
namespace Go.Kw
set_option linter.unusedVariables false
set_option linter.unusedSimpArgs false
variable {P : Program}
section
variable {fn : Func} {n : Nat} {new : List Nat} {R : AVal → AHeap → Prop} {env : Env} {h : AHeap} {todo : List Item}
/-- An empty slice: nil or not. -/
theorem WP.caseNil (t : Nat) (full : Bool) (ht : env.get t = some (.vs 0 full [])) (hw : ∀ nil, WP P fn n new R todo ((t, .ns nil) :: env) h) : WP P fn n new R todo env h := by
  intro ρ Im w a b cs sup s fr he hn hd
  have hv := he t _ ht
  simp only [VRel] at hv
  obtain ⟨ad, cap, h1, _⟩ := hv
  refine hw ad.isNone ρ Im w a b cs sup s fr ?_ hn hd
  intro x v hx
  simp only [Env.get] at hx
  cases hb : Nat.beq t x with
  | true =>
    have := Nat.eq_of_beq_eq_true hb
    subst this
    simp only [hb, cond_true, Option.some.injEq] at hx
    subst hx
    simp only [VRel]
    exact ⟨ad, cap, h1, rfl⟩
  | false =>
    simp only [hb, cond_false] at hx
    exact he _ _ hx
theorem WP.backNil (t : Nat) (nil : Bool) (ht : env.get t = some (.ns nil)) (hw : WP P fn n new R todo ((t, .vs 0 false []) :: env) h) : WP P fn n new R todo env h := by
  intro ρ Im w a b cs sup s fr he hn hd
  have hv := he t _ ht
  simp only [VRel] at hv
  obtain ⟨ad, cap, h1, _⟩ := hv
  refine hw ρ Im w a b cs sup s fr ?_ hn hd
  intro x v hx
  simp only [Env.get] at hx
  cases hb : Nat.beq t x with
  | true =>
    have := Nat.eq_of_beq_eq_true hb
    subst this
    simp only [hb, cond_true, Option.some.injEq] at hx
    subst hx
    simp only [VRel]
    exact ⟨ad, cap, h1, by omega, by simp, .inl trivial⟩
  | false =>
    simp only [hb, cond_false] at hx
    exact he _ _ hx
end
section
variable {o : Oper} {x y : Operand} {t t' : TypeId}
theorem run_eqSN {w : World} {e : TypeId} (ht : P.underlying t = some (.slice e)) (ad : Option Addr) (n c : Nat) : (Op.equal t (.slice ad n c) (.slice none 0 0)).run P w = .ok ad.isNone w := by
  have : ∀ d, (Op.equalIn (d + 1) t (.slice ad n c) (.slice none 0 0)).run P w = .ok ad.isNone w := by
    intro d
    cases ad <;> simp [Op.equalIn, run_underlying ht]
  exact this 9999
theorem op_eqNs {nil : Bool} {u : AVal} {e : TypeId} (ho : o.op = .binOp .eql t x (.const (.slice none 0 0)) t') (ht : P.underlying t = some (.slice e)) : OpV P o [.ns nil, u] [] [] (.bool nil) [] :=
  op2 (x := x) (y := .const (.slice none 0 0)) (by rw [ho]; rfl) fun ρ Im w ac hv hu => by
    simp only [VRel] at hv ⊢
    obtain ⟨ad, cap, h1, h2⟩ := hv
    have he : ac.eval (.const (.slice none 0 0)) = .slice none 0 0 := rfl
    exact ⟨.bool nil, by simp [execOp, ho, h1, he, eqGuard, binOp, run_eqSN ht, h2], rfl⟩
theorem op_eqVNil {u : AVal} {len : Nat} {full : Bool} {cells : List AVal} {e : TypeId} (ho : o.op = .binOp .eql t x (.const (.slice none 0 0)) t') (ht : P.underlying t = some (.slice e)) (hc : cells ≠ []) : OpV P o [.vs len full cells, u] [] [] (.bool false) [] :=
  op2 (x := x) (y := .const (.slice none 0 0)) (by rw [ho]; rfl) fun ρ Im w ac hv hu => by
    simp only [VRel] at hv ⊢
    obtain ⟨ad, cap, h1, _, _, h4⟩ := hv
    rcases h4 with h4 | ⟨c, base, vals, rfl, _⟩
    · exact absurd h4 hc
    · have he : ac.eval (.const (.slice none 0 0)) = .slice none 0 0 := rfl
      exact ⟨.bool false, by simp [execOp, ho, h1, he, eqGuard, binOp, run_eqSN ht], rfl⟩
end
section
variable {fn : Func} {n : Nat} {new : List Nat} {R : AVal → AHeap → Prop} {env : Env} {h : AHeap} {k : List Item} {c : Code}
/-- A loop with two phases: behind a round of the first one, one of the second may follow. -/
theorem WP.loopPh {α β : Type} (E : α → Env) (H : α → AHeap) (I : α → Prop) (m : α → Nat) (x0 : α) (he : subE (E x0) env) (hh : List.Sublist (H x0) h) (h0 : I x0)
    (E2 : β → Env) (H2 : β → AHeap) (I2 : β → Prop) (m2 : β → Nat)
    (step2 : ∀ x, I2 x → (∀ y, I2 y → m2 y < m2 x → WP P fn n new R (.inLoop c :: k) (E2 y) (H2 y)) → WP P fn n new R (.code c :: .inLoop c :: k) (E2 x) (H2 x))
    (step : ∀ x, I x → (∀ y, I2 y → WP P fn n new R (.inLoop c :: k) (E2 y) (H2 y)) → (∀ y, I y → m y < m x → WP P fn n new R (.inLoop c :: k) (E y) (H y)) → WP P fn n new R (.code c :: .inLoop c :: k) (E x) (H x)) :
    WP P fn n new R (.code (.loop c) :: k) env h := by
  have key2 : ∀ M x, m2 x ≤ M → I2 x → WP P fn n new R (.code c :: .inLoop c :: k) (E2 x) (H2 x) := by
    intro M
    induction M with
    | zero => intro x hm hI; exact step2 x hI fun y _ hlt => absurd hlt (by omega)
    | succ M ih => intro x hm hI; exact step2 x hI fun y hy hlt => WP.inLoop (ih y (by omega) hy)
  have all2 : ∀ y, I2 y → WP P fn n new R (.inLoop c :: k) (E2 y) (H2 y) := fun y hy => WP.inLoop (key2 _ y (Nat.le_refl _) hy)
  exact WP.loopX E H I m x0 he hh h0 fun x hI hn => step x hI all2 hn
end
/-! append of zeros -/
section
variable {o : Oper} {x y : Operand} {T : TypeId} {b b' len n m : Nat} {full : Bool} {cells : List AVal} {ts : Array TypeId} {l : List UInt8}
theorem zeroCells_8 (m : Nat) : Builtin.zeroCells #[Value.int .u8 0] m = ((List.replicate m (0 : UInt8)).map fun b => Value.int .u8 (b.toNat : Int)).toArray := by
  have : ((List.replicate m (0 : UInt8)).map fun b => Value.int .u8 (b.toNat : Int)) = List.replicate m (Value.int .u8 0) := by simp
  rw [this]
  apply Array.ext'
  simp only [Builtin.zeroCells, List.size_toArray, List.length_singleton, Nat.mul_one, Nat.mod_one, Array.toList_map, Array.toList_range]
  show (List.range m).map (fun _ => Value.int .u8 0) = _
  rw [List.map_const']; simp
theorem run_append_zeros {w : World} {cap n : Nat} {ad : Option Addr} {ty t0 tS tI : TypeId} {i : TypeInfo} {z : Value} (hT : AppT P #[t0, tS] T 1 1 t0 tS i z) (hS : P.underlying tS = some .string)
    (hI : P.underlying tI = some (.int .i64)) (hz : z.cells = #[Value.int .u8 0]) (hn : 0 < n) (hfit : (len + n) * 1 ≤ 140737488355328) :
    (Builtin.append_ #[t0, tI] ty #[.slice ad len cap, .int .i64 (n : Int)]).run P w = (Builtin.append_ #[t0, tS] ty #[.slice ad len cap, .string ⟨(List.replicate n (0 : UInt8)).toArray⟩]).run P w := by
  have hb := hT.hbytes
  have hs := hT.hsize
  have hw : IntKind.i64.wrap (n : Int) = n := wrap_i64 (by omega) (by omega)
  have hsz : (⟨(List.replicate n (0 : UInt8)).toArray⟩ : ByteArray).size = n := by simp [ByteArray.size]
  have hnew : ∀ w', (Builtin.firstCells 1 n (.string ⟨(List.replicate n (0 : UInt8)).toArray⟩)).run P w' = .ok (Builtin.zeroCells #[Value.int .u8 0] n) w' := by
    intro w'
    have := extract_all (List.replicate n (0 : UInt8))
    rw [List.length_replicate] at this
    simp only [Builtin.firstCells, this, zeroCells_8]
    simp
  generalize (⟨(List.replicate n (0 : UInt8)).toArray⟩ : ByteArray) = st at hsz hnew ⊢
  have hneg : ¬ ((n : Int) < 0) := by omega
  have h48 : ¬ (281474976710656 < (n : Int)) := by omega
  have h0 : ¬ n = 0 := by omega
  by_cases hroom : len + n ≤ cap
  · cases ad <;>
      simp [Builtin.append_, Builtin.lenOf, asInt, asIntOf, run_underlying hT.und, run_underlying hS, run_underlying hI, sizeOf, typeInfo, hT.info, hs, hb, hw, hsz, hneg, h48, hroom, hnew, h0, zeroValue, hT.zero, hz]
  · have hz0 : cap < len + n := by omega
    have g48 : ¬ (281474976710656 < Builtin.nextslicecap (len + n) cap) := by
      have := growslice_fits (old := cap) hz0 hfit
      omega
    have hmax : ¬ (9223372036854775807 < (len : Int) + (n : Int)) := by omega
    simp [Builtin.append_, Builtin.lenOf, asInt, asIntOf, run_underlying hT.und, run_underlying hS, run_underlying hI, sizeOf, typeInfo, hT.info, hs, hb, hw, hsz, hneg, h48, hroom, hnew, h0, zeroValue, hT.zero, hz, g48, hmax]
theorem op_appZ {t0 tS tI : TypeId} (n : Nat) (ho : o.op = .call { callee := .builtin .append, args := #[x, y], argTypes := #[t0, tI] }) (ht : appT P #[t0, tS] = some (T, 1, 1)) (hS : P.underlying tS = some .string)
    (hI : P.underlying tI = some (.int .i64)) (hz : (P.info? T).bind (·.zero) = some (Value.int .u8 0)) (hn : 0 < n) (hl : l.length = len) (hfit : (len + n) * 1 ≤ 140737488355328) :
    OpV P o [.os b 0 len 1 full, .i (n : Int)] [(b, .vec T (l.map AVal.u8))] [b'] (.os b' 0 (len + n) 1 false) [(b', .vec T ((l ++ List.replicate n 0).map AVal.u8))] := by
  obtain ⟨u0, u1, i, z, hT⟩ := appT_spec ht
  have e0 : u0 = t0 := by have := hT.h0; simpa using this.symm
  have e1 : u1 = tS := by have := hT.h1; simpa using this.symm
  subst e0 e1
  have hzz : z.cells = #[Value.int .u8 0] := by
    rw [hT.info] at hz
    simp only [Option.bind_some, hT.zero, Option.some.injEq] at hz
    rw [hz]; rfl
  refine opApp ho fun ρ Im w a sup s fr hv hu => ?_
  have hu2 : VRel P ρ Im w (.str (List.replicate n (0 : UInt8))) (.string ⟨(List.replicate n (0 : UInt8)).toArray⟩) := by simp only [VRel]
  simp only [VRel] at hu
  have hsrc := srcOf_str (P := P) hu2
  rw [List.length_replicate] at hsrc
  obtain ⟨v', w', ρ', h1, h2, h3⟩ := append_core (ty := o.type) hT s fr hv (by simpa using hl) hsrc (by simp [AVal.scalar]) hfit
  refine ⟨v', w', ρ', ?_, h2, by simpa using h3⟩
  obtain ⟨ad, cap, hvv⟩ : ∃ ad cap, a.eval x = .slice ad len cap := by
    simp only [VRel] at hv
    rcases hv with ⟨_, rfl, ad, h⟩ | ⟨c, cap, _, _, _, h, _⟩
    · exact ⟨ad, 0, h⟩
    · exact ⟨_, cap, h⟩
  rw [hu, hvv, run_append_zeros hT hS hI hzz hn hfit, ← hvv]
  exact h1
end
end Go.Kw
