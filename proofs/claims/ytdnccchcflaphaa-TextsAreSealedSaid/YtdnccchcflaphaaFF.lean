import Derived.Test.YtdnccchcflaphaaFE
set_option linter.unusedVariables false
set_option linter.unusedSimpArgs false
namespace Go.Kw
set_option linter.unusedVariables false
set_option linter.unusedSimpArgs false
variable {P : Program}
/-- An operation whose argument is a block that is given up. -/
theorem OpV.frz {o : Oper} {args args' : List AVal} {R R' : AHeap} {new : List Nat} {v : AVal} {b b' : Nat} {T : TypeId} {cells : List AVal}
    (hc : OpV P o args' R new v R') (hf : Frzs b cells args args') : OpV P o args ((b, .vec T cells) :: R) (b' :: new) v ((b', .vec T []) :: R') := by
  intro ρ Im w a sup s fr hv K Q hK
  obtain ⟨Im1, m, cold, s1, hI⟩ := s.freeze
  have hnd := fr.nd
  simp only [List.nodup_cons] at hnd
  have fr1 : Fresh ρ new sup := { named := fun x hx => fr.named x (List.mem_cons_of_mem _ hx), free := fr.free, inj := fr.inj, apart := fun i hi => fr.apart i (List.mem_cons_of_mem _ hi), nd := hnd.2 }
  have hb' : ρ b' = none := fr.named b' (List.mem_cons_self)
  refine hc ρ Im1 w a sup s1 fr1 (hf.rel m cold hv) K Q fun v' w' ρ' Im' h1 h2 => ?_
  have hb'' : ρ' b' = none := by
    cases hx : ρ' b' with
    | none => rfl
    | some c =>
      rcases h2.ok b' (by rw [hx]; simp) with h | h | ⟨i, h⟩
      · exact absurd hb' h
      · exact absurd h hnd.1
      · exact absurd (List.mem_cons_self) (h ▸ fr.apart i)
  let ρ'' : Nat → Option Nat := fun x => if x = b' then some 0 else ρ' x
  have hext : ∀ x c, ρ' x = some c → ρ'' x = some c := fun x c hx => by
    by_cases hxb : x = b'
    · subst hxb; rw [hb''] at hx; cases hx
    · simp [ρ'', hxb, hx]
  have m2 : Mono ρ' Im' w' ρ'' Im' w' := { rho := hext, im := fun _ h => h, same := fun _ _ => rfl, shape := fun _ _ _ h => h }
  have hne : ∀ x y, (x, y) ∈ R' → x ≠ b' := fun x y hxy hx => by
    subst hx
    obtain ⟨c, hc⟩ := h2.st.code hxy
    rw [hb''] at hc; cases hc
  refine hK v' w' ρ'' Im' (h1.mono m2) ?_
  refine { size := h2.size, os := h2.os, out := h2.out, keep := ?_, rho := fun x c hx => hext x c (h2.rho x c hx), im := fun c hc => h2.im c (m.im c hc), imNew := ?_, shape := h2.shape, own := ?_, names := ?_, ok := ?_, st := ?_ }
  · intro c hlt hn
    exact h2.keep c hlt fun x y hxy => hn x y (List.mem_cons_of_mem _ hxy)
  · intro c hcI
    rcases h2.imNew c hcI with h | ⟨x, y, hxy, hx⟩ | h
    · rcases hI c h with h | h
      · exact .inl h
      · exact .inr (.inl ⟨b, _, List.mem_cons_self, h⟩)
    · exact .inr (.inl ⟨x, y, List.mem_cons_of_mem _ hxy, hx⟩)
    · exact .inr (.inr h)
  · intro x y c hxy hx
    rcases List.mem_cons.1 hxy with h | hxy
    · simp only [Prod.mk.injEq] at h
      rw [h.1] at hx
      simp [ρ''] at hx
    · have hxb := hne x y hxy
      rcases h2.own x y c hxy (by simpa [ρ'', hxb] using hx) with ⟨x0, y0, h3, h4⟩ | h
      · exact .inl ⟨x0, y0, List.mem_cons_of_mem _ h3, h4⟩
      · exact .inr h
  · intro x y hxy
    rcases List.mem_cons.1 hxy with h | hxy
    · simp only [Prod.mk.injEq] at h
      rw [h.1]; exact .inr hb'
    · rcases h2.names x y hxy with ⟨y0, h⟩ | h
      · exact .inl ⟨y0, List.mem_cons_of_mem _ h⟩
      · exact .inr h
  · intro x hx
    by_cases hxb : x = b'
    · subst hxb; exact .inr (.inl (List.mem_cons_self))
    · rcases h2.ok x (by simpa [ρ'', hxb] using hx) with h | h | h
      · exact .inl h
      · exact .inr (.inl (List.mem_cons_of_mem _ h))
      · exact .inr (.inr h)
  · refine { obj := ?_, nd := ?_, inj := ?_, im := h2.st.im }
    · intro x y hxy
      rcases List.mem_cons.1 hxy with h | hxy
      · simp only [Prod.mk.injEq] at h
        rw [h.1, h.2]
        exact .inl ⟨by simp [ρ''], by simp [AObj.void]⟩
      · rcases h2.st.obj x y hxy with ⟨g1, g2⟩ | ⟨d, g1, g2, g3⟩
        · exact .inl ⟨hext x _ g1, g2⟩
        · exact .inr ⟨d, hext x _ g1, g2.mono m2 rfl, g3⟩
    · simp only [List.map_cons, List.nodup_cons]
      refine ⟨?_, h2.st.nd⟩
      intro hh
      obtain ⟨⟨x, y⟩, hx, rfl⟩ := List.mem_map.1 hh
      exact hne _ _ hx rfl
    · intro x x' y y' d hx hx' hd hd'
      rcases List.mem_cons.1 hx with h | hx
      · simp only [Prod.mk.injEq] at h
        rw [h.1] at hd; simp [ρ''] at hd
      · rcases List.mem_cons.1 hx' with h | hx'
        · simp only [Prod.mk.injEq] at h
          rw [h.1] at hd'; simp [ρ''] at hd'
        · exact h2.st.inj x x' y y' d hx hx' (by simpa [ρ'', hne x y hx] using hd) (by simpa [ρ'', hne x' y' hx'] using hd')

/-! words of 64 bits made of any whole number -/
def U6 (a : Int) : UInt64 := UInt64.ofNat (a % 18446744073709551616).toNat
theorem cv_i_64w {a : Int} : IntKind.u64.wrap a = ((U6 a).toNat : Nat) := by
  rw [wrap_u64]; unfold U6; simp only [UInt64.toNat_ofNat']; omega
theorem idx_lt (a : UInt64) (n : Nat) (h0 : 0 < n) (h : n ≤ 4611686018427387904) : (a % UInt64.ofNat n).toNat < n := by
  rw [UInt64.toNat_mod, UInt64.toNat_ofNat', Nat.mod_eq_of_lt (show n < 2 ^ 64 by omega)]
  exact Nat.mod_lt _ h0
section
variable {α : Type} {f : α → AVal} {o : Oper} {x y z : Operand} {t t' T e : TypeId} {k1 k2 : List UInt8} {by' : Nat}
theorem op_rem64 {a b : UInt64} (ho : o.op = .binOp .rem t x y t') (hb : 0 < b.toNat) : OpV P o [.u64 a, .u64 b] [] [] (.u64 (a % b)) [] := by
  have := op_rem (P := P) (k := .u64) (a := (a.toNat : Int)) (b := (b.toNat : Int)) ho (by omega)
  rw [Int.tmod_eq_emod_of_nonneg (by omega)] at this
  have e : ((a.toNat : Int) % (b.toNat : Int)) = ((a % b).toNat : Int) := by rw [UInt64.toNat_mod]; omega
  rwa [e] at this
theorem op_buildSl2 {parts : Array (Nat × Operand)} (ho : o.op = .buildSlice t 2 parts) (ht : slT P t = some (e, 32, by')) (hz : zeroT P e = some ((List.replicate 32 (0 : UInt8)).map AVal.u8)) (hi : parts.toList.map (·.1) = [0, 1])
    (h1 : k1.length = 32) (h2 : k2.length = 32) : OpV P o [.agg (k1.map AVal.u8), .agg (k2.map AVal.u8)] [] [] (.vs 2 true ((k1 ++ k2).map AVal.u8)) [] := by
  refine OpV.cool (R := []) (v := fun b => .os b 0 2 32 true) (T := e) (cells := (k1 ++ k2).map AVal.u8) (fun b => ?_) fun b => ?_
  · refine op_buildSlice ho ht hz (by simp) (by omega) ?_ (by simp) (by omega) (by simp; omega)
    rw [hi]
    have e1 : (AVal.agg (k1.map AVal.u8)).cellsA = k1.map AVal.u8 := by simp [AVal.cellsA]
    have e2 : (AVal.agg (k2.map AVal.u8)).cellsA = k2.map AVal.u8 := by simp [AVal.cellsA]
    have l1 : (k1.map AVal.u8).length = 32 := by simp [h1]
    have l2 : (k2.map AVal.u8).length = 32 := by simp [h2]
    have lz : (List.replicate 2 ((List.replicate 32 (0 : UInt8)).map AVal.u8)).flatten.length = 64 := by simp
    generalize (List.replicate 2 ((List.replicate 32 (0 : UInt8)).map AVal.u8)).flatten = Z at lz ⊢
    simp only [fillV, e1, e2, l1, l2]
    rw [if_pos ⟨trivial, by omega⟩, if_pos ⟨trivial, by simp; omega⟩]
    simp only [Nat.zero_mul, Nat.one_mul, Nat.zero_add, List.take_zero, List.nil_append, List.map_append]
    rw [List.take_left' l1, List.drop_eq_nil_of_le (by simp; omega), List.append_nil]
  · have := Frz.os (b := b) (cells := (k1 ++ k2).map AVal.u8) 0 2 32 true (by simp; omega)
    rwa [List.drop_zero, List.take_of_length_le (show ((k1 ++ k2).map AVal.u8).length ≤ 2 * 32 by simp; omega)] at this
end
end Go.Kw
